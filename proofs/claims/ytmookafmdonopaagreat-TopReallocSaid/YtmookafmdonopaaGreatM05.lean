/- hodmanplay: Size, Block walked. -/
import Derived.Test.YtmookafmdonopaaGreatM04
import Derived.Test.YtmookafmdonopaaGreatM03
/- hodmanplay: Size, Block walked. -/
namespace Go.Proofs.YtmookafmdonopaaGreat.Top
open Go Go.RowKit
set_option linter.unusedVariables false
set_option linter.unusedSimpArgs false
attribute [local go_sem] max2_int min2_int max_two min_two max_three

/-- a block of the plain one: where, how much is charged, how much was asked for -/
abbrev MB := Nat × Nat × Int
def mbV (l : List MB) : List Value := l.flatMap fun b => [.int .i64 (b.1 : Int), .int .i64 (b.2.1 : Int), .int .i64 b.2.2]
theorem mbV_len (l : List MB) : (mbV l).length = l.length * 3 := by
 induction l with
 | nil => rfl
 | cons a l ih => unfold mbV at ih ⊢; simp [ih]; omega
theorem mbV_at : ∀ (l : List MB) (i : Nat) (b : MB), l[i]? = some b → (mbV l)[i * 3]? = some (.int .i64 (b.1 : Int)) ∧ (mbV l)[i * 3 + 1]? = some (.int .i64 (b.2.1 : Int)) ∧ (mbV l)[i * 3 + 2]? = some (.int .i64 b.2.2)
 | [], i, b, h => by simp at h
 | a :: l, 0, b, h => by
  simp at h
  subst h
  exact ⟨rfl, rfl, rfl⟩
 | a :: l, i + 1, b, h => by
  obtain ⟨h1, h2, h3⟩ := mbV_at l i b (by simpa using h)
  have e : mbV (a :: l) = [.int .i64 (a.1 : Int), .int .i64 (a.2.1 : Int), .int .i64 a.2.2] ++ mbV l := rfl
  rw [e]
  refine ⟨?_, ?_, ?_⟩
  · rw [List.getElem?_append_right (by simp; omega)]; simp; rw [show (i + 1) * 3 - 3 = i * 3 by omega]; exact h1
  · rw [List.getElem?_append_right (by simp; omega)]; simp; rw [show (i + 1) * 3 - 2 = i * 3 + 1 by omega]; exact h2
  · rw [List.getElem?_append_right (by simp; omega)]; simp; rw [show (i + 1) * 3 - 1 = i * 3 + 2 by omega]; exact h3
set_option maxHeartbeats 4000000 in
theorem play_Size (L : List (Nat × (Obj → Prop))) (R : World → Prop) (w0 w : World) (p : Nat) (A : Option Addr) (n c j : Nat) (cf : Cf) (hg : Good cf) (bs : List Nat) (B : Bytes w0 A n c bs) (H : Own [] ((p, PK A n c j) :: L) R w0 w) (hj : j ≤ n) :
 Calls Tryz.prog 59 #[.pointer (some ⟨p, 0, none⟩), cf.v] w fun e w' => ∃ v : Int, e = .returned (.int .i64 v) ∧ -1 ≤ v ∧ v ≤ 70000 ∧ ∃ j' : Nat, j' ≤ n ∧ Own [] ((p, PK A n c j') :: L) R w0 w' := by
 have HN := As.mk (fun (L : List (Nat × (Obj → Prop))) (R : World → Prop) (W : World) (j m : Nat) (H : Own [] ((p, PK A n c j) :: L) R w0 W) (hj : j ≤ n) (hm : m ≤ 2 ^ 40) => play_Num L R w0 W p A n c j m bs B H hj hm)
 have HSZ := As.mk (fun (k : Nat) (hk : k ≤ cf.L) W => ref_Size cf hg k W hk)
 obtain ⟨b1, b2, b3, b4, b5, b6, b7⟩ := hg.bounds
 have hlev := hg.lev
 have hpw : ∀ k, k ≤ cf.L → cf.G * 2 ^ k ≤ 65536 := fun k hk => by
  obtain ⟨g, pg, kk, h1, h2, _⟩ := hg.pow
  have : cf.G * 2 ^ k ≤ cf.N := by rw [h1, h2, ← Nat.pow_add]; exact Nat.pow_le_pow_right (by decide) (by omega)
  omega
 have HPW := As.mk hpw
 clear hpw
 rw [Cf.v] at HSZ ⊢
 have ho := (H.box #[.int .i64 cf.G, .int .i64 cf.N, .int .i64 cf.M, .int .i64 cf.L, .int .i64 cf.Page, .int .i64 cf.P, .int .i64 cf.H, .int .i64 cf.Seed] 34).swap
 have HO := As.mk ho
 obtain ⟨w1, hw1⟩ : ∃ w1, w1 = w.alloc (.cells #[.int .i64 cf.G, .int .i64 cf.N, .int .i64 cf.M, .int .i64 cf.L, .int .i64 cf.Page, .int .i64 cf.P, .int .i64 cf.H, .int .i64 cf.Seed] 34) := ⟨_, rfl⟩
 rw [← hw1] at HO
 clear ho H B hg
 go_enter Tryz.func59, Tryz.ntmps59
 go_wp2_with fail
 rw [← hw1]
 clear hw1
 refine (HN.out _ _ _ j 12 HO.out hj (by decide)).mono ?_
 rintro e w2 ⟨v1, j1, rfl, hv1, -, hj1, ho⟩
 have HO1 := As.mk ho
 clear ho HO
 by_cases c0 : v1 = 0
 · subst c0
   go_wp2_with fail
   go_ret
   exact ⟨0, rfl, by decide, by decide, j1, hj1, HO1.out.drop2⟩
 · by_cases c1 : v1 = 1
   · subst c1
     go_wp2_with fail
     have z1 := HO1.out.get me1 1 (by simp)
     refine rgn [(0, 1), (1, 0), (2, 1), (3, 2), (4, 1), (5, 1)] [] (fun W => W.cell? ⟨w.heap.size, 1, none⟩ = some (.int .i64 cf.N)) (by kernel_rfl) (by kernel_rfl) (fun _ _ _ d _ h => by cases d <;> exact h) z1 ?_
     refine Run.pu (v := ?_) (a' := ?_) rfl rfl (Or.inl ⟨by rfl, ?_⟩) ?_ ?_; rotate_left 2; (focus (intro W; go_simp; with_reducible rfl)); (focus (simp only [Act.put, zq4, zq5, zq6]; rfl))
     refine Run.rd (v := ?_) (a' := ?_) rfl rfl (Or.inl ⟨by rfl, ?_⟩) ?_ ?_; rotate_left 2; (focus (intro W hW; go_simp; with_reducible rfl)); (focus (simp only [Act.put, zq4, zq5, zq6]; rfl))
     refine Run.pu (v := ?_) (a' := ?_) rfl rfl (Or.inl ⟨by rfl, ?_⟩) ?_ ?_; rotate_left 2; (focus (intro W; go_simp; with_reducible rfl)); (focus (simp only [Act.put, zq4, zq5, zq6]; rfl))
     refine Run.ef rfl (fun K hK => ?_)
     simp only [zq1, zq2, zq3]
     go_wp2_with fail
     refine (HN.out _ _ _ j1 3 HO1.out.drew hj1 (by decide)).mono ?_
     rintro e w3 ⟨v2, j2, rfl, hv2, -, hj2, ho⟩
     have HO2 := As.mk ho
     have hv2' : v2 ≤ 2 := by omega
     clear ho
     go_wp2
     refine hK.out _ _ (HO2.out.get me1 1 (by simp)) ?_
     clear hK K HO1 z1
     iterate 2 (refine Run.pu (v := ?_) (a' := ?_) rfl rfl (Or.inl ⟨by rfl, ?_⟩) ?_ ?_; rotate_left 2; (focus (intro W; go_simp; with_reducible rfl)); (focus (simp only [Act.put, zq4, zq5, zq6]; rfl)))
     refine Run.nil ?_
     simp only [zq1, zq2, zq3]
     go_wp2_with fail
     go_ret
     refine ⟨_, rfl, ?_, ?_, j2, hj2, HO2.out.drop2⟩
     · rw [IntKind.wrap_i64]; omega
     · rw [IntKind.wrap_i64]; omega
   · by_cases c2 : v1 = 2
     · subst c2
       go_wp2_with fail
       go_ret
       exact ⟨-1, rfl, by decide, by decide, j1, hj1, HO1.out.drop2⟩
     · have n0 := beqF (show ¬ (v1 : Int) = 0 by omega)
       have n1 := beqF (show ¬ (v1 : Int) = 1 by omega)
       have n2 := beqF (show ¬ (v1 : Int) = 2 by omega)
       go_wp2_with fail
       obtain ⟨l1, hl1⟩ : ∃ l1, l1 = cf.L + 1 := ⟨_, rfl⟩
       have E1 := As.mk (show IntKind.i64.wrap ((cf.L : Int) + 1) = (l1 : Int) by rw [IntKind.wrap_i64]; omega)
       have E2 := As.mk (show (cf.L : Int) + 1 = (l1 : Int) by omega)
       have hCS : ∀ (W : World) (j : Nat), Own [] ((p, PK A n c j) :: (w.heap.size, EC 34 [.int .i64 cf.G, .int .i64 cf.N, .int .i64 cf.M, .int .i64 cf.L, .int .i64 cf.Page, .int .i64 cf.P, .int .i64 cf.H, .int .i64 cf.Seed]) :: L) R w0 W → W.cell? ⟨w.heap.size, 0, none⟩ = some (.int .i64 cf.G) ∧ W.cell? ⟨w.heap.size, 1, none⟩ = some (.int .i64 cf.N) ∧ W.cell? ⟨w.heap.size, 2, none⟩ = some (.int .i64 cf.M) ∧ W.cell? ⟨w.heap.size, 3, none⟩ = some (.int .i64 cf.L) ∧ W.cell? ⟨w.heap.size, 4, none⟩ = some (.int .i64 cf.Page) ∧ W.cell? ⟨w.heap.size, 5, none⟩ = some (.int .i64 cf.P) ∧ W.cell? ⟨w.heap.size, 6, none⟩ = some (.int .i64 cf.H) ∧ W.cell? ⟨w.heap.size, 7, none⟩ = some (.int .i64 cf.Seed) :=
        fun W j k => ⟨k.get me1 0 (by simp), k.get me1 1 (by simp), k.get me1 2 (by simp), k.get me1 3 (by simp), k.get me1 4 (by simp), k.get me1 5 (by simp), k.get me1 6 (by simp), k.get me1 7 (by simp)⟩
       have HCS := As.mk hCS
       clear hCS
       refine rgn [(0, 0), (1, 1), (2, 1), (3, 0), (4, 1), (5, 2), (6, 2), (7, 1)] [] (fun W => W.cell? ⟨w.heap.size, 0, none⟩ = some (.int .i64 cf.G) ∧ W.cell? ⟨w.heap.size, 1, none⟩ = some (.int .i64 cf.N) ∧ W.cell? ⟨w.heap.size, 2, none⟩ = some (.int .i64 cf.M) ∧ W.cell? ⟨w.heap.size, 3, none⟩ = some (.int .i64 cf.L) ∧ W.cell? ⟨w.heap.size, 4, none⟩ = some (.int .i64 cf.Page) ∧ W.cell? ⟨w.heap.size, 5, none⟩ = some (.int .i64 cf.P) ∧ W.cell? ⟨w.heap.size, 6, none⟩ = some (.int .i64 cf.H) ∧ W.cell? ⟨w.heap.size, 7, none⟩ = some (.int .i64 cf.Seed)) (by kernel_rfl) (by kernel_rfl) (fun _ _ _ d _ h => by cases d <;> exact h) (HCS.out _ _ HO1.out.drew) ?_
       refine Run.rd (v := ?_) (a' := ?_) rfl rfl (Or.inl ⟨by rfl, ?_⟩) ?_ ?_; rotate_left 2; (focus (rintro W ⟨hW1, hW2, hW3, hW4, hW5, hW6, hW7, hW8⟩; go_simp; with_reducible rfl)); (focus (simp only [Act.put, zq4, zq5, zq6]; rfl))
       iterate 2 (refine Run.pu (v := ?_) (a' := ?_) rfl rfl (Or.inl ⟨by rfl, ?_⟩) ?_ ?_; rotate_left 2; (focus (intro W; go_simp; with_reducible rfl)); (focus (simp only [Act.put, zq4, zq5, zq6]; rfl)))
       refine Run.rd (v := ?_) (a' := ?_) rfl rfl (Or.inl ⟨by rfl, ?_⟩) ?_ ?_; rotate_left 2; (focus (rintro W ⟨hW1, hW2, hW3, hW4, hW5, hW6, hW7, hW8⟩; go_simp; with_reducible rfl)); (focus (simp only [Act.put, zq4, zq5, zq6]; rfl))
       refine Run.pu (v := ?_) (a' := ?_) rfl rfl (Or.inl ⟨by rfl, ?_⟩) ?_ ?_; rotate_left 2; (focus (intro W; go_simp; with_reducible rfl)); (focus (simp only [Act.put, zq4, zq5, zq6]; rfl))
       refine Run.ef rfl (fun K hK => ?_)
       simp only [zq1, zq2, zq3]
       go_wp2_with fail
       simp only [E1.out, E2.out]
       refine (HN.out _ _ _ j1 l1 HO1.out.drew hj1 (by omega)).mono ?_
       rintro e w3 ⟨v2, j2, rfl, hv2, -, hj2, ho⟩
       have HO2 := As.mk ho
       have hv2' : v2 ≤ cf.L := by omega
       clear ho hv2 HO1
       go_wp2
       refine hK.out _ _ (HCS.out _ _ HO2.out) ?_
       clear hK K
       refine Run.ef rfl (fun K hK => ?_)
       simp only [zq1, zq2, zq3]
       go_wp2_with fail
       refine (HSZ.out v2 hv2' _).mono ?_
       rintro e w4 ⟨rfl, hb⟩
       have HO3 := As.mk (HO2.out.below hb)
       have hsz := HPW.out v2 hv2'
       obtain ⟨sz, hszE⟩ : ∃ z, z = cf.G * 2 ^ v2 := ⟨_, rfl⟩
       rw [← hszE] at hsz ⊢
       clear hb HO2 hszE
       go_wp2
       refine hK.out _ _ (HCS.out _ _ HO3.out) ?_
       clear hK K
       refine Run.pu (v := ?_) (a' := ?_) rfl rfl (Or.inl ⟨by rfl, ?_⟩) ?_ ?_; rotate_left 2; (focus (intro W; go_simp; with_reducible rfl)); (focus (simp only [Act.put, zq4, zq5, zq6]; rfl))
       refine Run.nil ?_
       simp only [zq1, zq2, zq3]
       go_wp2_with fail
       refine (HN.out _ _ _ j2 3 HO3.out hj2 (by decide)).mono ?_
       rintro e w5 ⟨v3, j3, rfl, hv3, -, hj3, ho⟩
       have HO4 := As.mk ho
       have hv3' : v3 ≤ 2 := by omega
       clear ho hv3 HO3
       go_wp2_with fail
       go_ret
       refine ⟨_, rfl, ?_, ?_, j3, hj3, HO4.out.drop2⟩
       · omega
       · omega
set_option maxHeartbeats 2000000 in
theorem play_Block (L : List (Nat × (Obj → Prop))) (R : World → Prop) (w0 w : World) (p : Nat) (A : Option Addr) (n c j : Nat) (bs : List Nat) (B : Bytes w0 A n c bs) (H : Own [] ((p, PK A n c j) :: L) R w0 w) (hj : j ≤ n)
 (l : List MB) (A2 : Option Addr) (ln c2 : Nat) (hln : ln = l.length) (hrow : ∀ W, R W → Row W (.slice A2 ln c2) ln (mbV l)) (hll : ln ≤ 1000) (hat : ∀ b ∈ l, b.1 ≤ 65536) :
 Calls Tryz.prog 60 #[.pointer (some ⟨p, 0, none⟩), .slice A2 ln c2] w fun e w' => ∃ v : Int, e = .returned (.int .i64 v) ∧ -3 ≤ v ∧ v ≤ 70000 ∧ ∃ j' : Nat, j' ≤ n ∧ Own [] ((p, PK A n c j') :: L) R w0 w' := by
 have HN := As.mk (fun (L : List (Nat × (Obj → Prop))) (R : World → Prop) (W : World) (j m : Nat) (H : Own [] ((p, PK A n c j) :: L) R w0 W) (hj : j ≤ n) (hm : m ≤ 2 ^ 40) => play_Num L R w0 W p A n c j m bs B H hj hm)
 have HO := As.mk H
 have HR := As.mk hrow
 have HAT := As.mk hat
 have HLN := As.mk hln
 clear H B hrow hat hln
 by_cases h0 : ln = 0
 · subst h0
   go_enter Tryz.func60, Tryz.ntmps60
   go_wp2_with fail
   refine (HN.out _ _ _ j 200 HO.out hj (by decide)).mono ?_
   rintro e w2 ⟨v1, j1, rfl, hv1, -, hj1, ho⟩
   have HO1 := As.mk ho
   have hv1' : v1 ≤ 199 := by omega
   clear ho hv1
   go_wp2_with fail
   go_ret
   exact ⟨_, rfl, by omega, by omega, j1, hj1, HO1.out⟩
 · have n0 := beqF (show ¬ (ln : Int) = 0 by omega)
   go_enter Tryz.func60, Tryz.ntmps60
   go_wp2_with fail
   refine (HN.out _ _ _ j 12 HO.out hj (by decide)).mono ?_
   rintro e w2 ⟨v1, j1, rfl, hv1, -, hj1, ho⟩
   have HO1 := As.mk ho
   clear ho hv1 HO
   by_cases h1 : v1 = 0
   · subst h1
     go_wp2_with fail
     refine (HN.out _ _ _ j1 200 HO1.out hj1 (by decide)).mono ?_
     rintro e w3 ⟨v2, j2, rfl, hv2, -, hj2, ho⟩
     have HO2 := As.mk ho
     have hv2' : v2 ≤ 199 := by omega
     clear ho hv2
     go_wp2_with fail
     go_ret
     exact ⟨_, rfl, by omega, by omega, j2, hj2, HO2.out⟩
   · have n1 := beqF (show ¬ (v1 : Int) = 0 by omega)
     go_wp2_with fail
     refine (HN.out _ _ _ j1 ln HO1.out hj1 (by omega)).mono ?_
     rintro e w3 ⟨v2, j2, rfl, hv2, -, hj2, ho⟩
     have HO2 := As.mk ho
     have hv2' : v2 < ln := by omega
     clear ho hv2
     obtain ⟨b, hb⟩ : ∃ b, l[v2]? = some b := ⟨l[v2]'(by rw [← HLN.out]; exact hv2'), List.getElem?_eq_getElem _⟩
     have hbat := HAT.out b (List.mem_of_getElem? hb)
     obtain ⟨bb, oo, rfl, hnc, hcell⟩ := (HR.out _ HO2.out.now).cell' (by rw [mbV_len, ← HLN.out]; omega)
     have y := hcell _ _ (mbV_at l v2 b hb).1
     clear hcell hb
     go_wp2_with fail
     go_ret
     exact ⟨_, rfl, by omega, by omega, j2, hj2, HO2.out⟩
end Go.Proofs.YtmookafmdonopaaGreat.Top
/- commit.Trim, commit.Commit. -/
namespace Go.Proofs.YtmookafmdonopaaGreat.Top
open Go Go.RowKit
set_option linter.unusedVariables false
set_option linter.unusedSimpArgs false
attribute [local go_sem] max2_int min2_int max_two min_two max_three

def andL (a b : List Bool) : List Bool := List.zipWith (fun x y => x && y) a b
def lessL (a b : List Bool) : List Bool := List.zipWith (fun x y => x && !y) a b
theorem bools_one (l : List Bool) : ∀ u ∈ l.map Value.bool, u.oneCell' = true := by
 intro u hu
 obtain ⟨b, _, rfl⟩ := List.mem_map.1 hu
 rfl
/-- the first k are met, the others as they were -/
def trimTo (on met : List Bool) (k : Nat) : List Bool := (andL on met).take k ++ on.drop k
theorem trimTo_succ (on met : List Bool) (k : Nat) (h1 : k < on.length) (h2 : k < met.length) : trimTo on met (k + 1) = (trimTo on met k).set k (on[k] && met[k]) := by
 have hl : (andL on met).length = min on.length met.length := by simp [andL]
 have hk : ((andL on met).take k).length = k := by rw [List.length_take]; omega
 have hz : (andL on met)[k]'(by omega) = (on[k] && met[k]) := by simp [andL]
 unfold trimTo
 rw [List.set_append_right _ _ (by omega), hk, Nat.sub_self, List.take_succ_eq_append_getElem (by omega), hz, List.drop_eq_getElem_cons h1, List.append_assoc]
 rfl
theorem trimTo_at (on met : List Bool) (k : Nat) (h1 : k < on.length) (h2 : k < met.length) : (trimTo on met k)[k]? = some on[k] := by
 have hl : (andL on met).length = min on.length met.length := by simp [andL]
 have hk : ((andL on met).take k).length = k := by rw [List.length_take]; omega
 unfold trimTo
 rw [List.getElem?_append_right (by omega), hk, Nat.sub_self, List.getElem?_drop, Nat.add_zero, List.getElem?_eq_getElem h1]
theorem trimTo_same (on met : List Bool) (k : Nat) (h1 : k < on.length) (h2 : k < met.length) (h : (on[k] && met[k]) = on[k]) : trimTo on met (k + 1) = trimTo on met k := by
 rw [trimTo_succ on met k h1 h2, h]
 have h3 := trimTo_at on met k h1 h2
 apply List.ext_getElem?
 intro j
 rw [List.getElem?_set]
 split
 · subst_vars
   split
   · rw [h3]
   · rename_i h4
     exact absurd (List.getElem?_eq_some_iff.1 h3).1 h4
 · rfl
theorem lessL_take (on met : List Bool) (k : Nat) (h1 : k < on.length) (h2 : k < met.length) : cntT ((lessL on met).take (k + 1)) = cntT ((lessL on met).take k) + if on[k] && !met[k] then 1 else 0 := by
 rw [cntT_take _ _ (by simp [lessL]; omega)]
 simp [lessL]
theorem commit_Trim (A A2 : Option Addr) (c c2 : Nat) (on met : List Bool) (w : World) (h1 : Row w (.slice A on.length c) on.length (on.map Value.bool)) (h2 : Row w (.slice A2 met.length c2) met.length (met.map Value.bool)) (hl : on.length ≤ 1000000) (h0 : 0 < on.length) (he : met.length = on.length) :
 Calls Tryz.prog 42 #[.slice A on.length c, .slice A2 met.length c2] w fun e w' => ∃ v, e = .returned (.tuple #[v, .int .i64 (cntT (lessL on met) : Nat)]) ∧ Fr w.heap.size w' 4 v on.length ((andL on met).map Value.bool) ∧ Below w.heap.size w w' := by
 have H1 := As.mk h1
 have H2 := As.mk h2
 clear h1 h2
 go_enter Tryz.func42, Tryz.ntmps42
 go_wp2_with (first | (go_at_call 46; (with_reducible refine (clone_46 A c on.length (on.map Value.bool) _ H1.out (by simp) (bools_one on) hl).mono ?_); rintro e w1 ⟨v, rfl, ho, hb⟩; obtain ⟨g, cap, x, rfl, hc, hg, hx, hp⟩ := (Fr.own ho).form h0; have HO := As.mk ((Own.start (X := []) w).add hb hg hx hp); clear ho hb hg hx hp))
 go_loopw [5, 12] (fun s i wr => ∃ k : Nat, k ≤ on.length ∧ s = .int .i64 (cntT ((lessL on met).take k) : Nat) ∧ i = .int .i64 (k : Nat) ∧ Own [] [(g, EC 4 ((trimTo on met k).map Value.bool))] (fun _ => True) w wr) (fun _ i _ => on.length - (intOf i).toNat)
 case atStart => exact ⟨0, Nat.zero_le _, rfl, rfl, HO.out⟩
 case round =>
  clear HO
  obtain ⟨k, hk, rfl, rfl, ho⟩ := hrel
  have HO := As.mk ho
  clear ho
  have hle := cntT_le ((lessL on met).take k)
  have hcl : cntT ((lessL on met).take k) ≤ on.length := by
   have h5 : (lessL on met).length ≤ on.length := by simp only [lessL, List.length_zipWith]; omega
   rw [List.length_take] at hle
   omega
  clear hle
  by_cases hlt : k < on.length
  · have hlt2 : k < met.length := by omega
    obtain ⟨b, o, rfl, hx⟩ := (H1.out.below HO.out.toBelow).at_ k (by simpa using hlt)
    obtain ⟨b2, o2, rfl, hy⟩ := (H2.out.below HO.out.toBelow).at_ k (by simpa using hlt2)
    rw [List.getElem_map] at hx hy
    have hlen : k < ((trimTo on met k).map Value.bool).length := by simp [trimTo, andL]; omega
    have hz := HO.out.get List.mem_cons_self k hlen
    have hf := HO.out.frozen (o := k) List.mem_cons_self
    rw [List.getElem?_map, trimTo_at on met k hlt hlt2] at hz
    simp only [Option.map_some] at hz
    have S1 := As.mk (lessL_take on met k hlt hlt2)
    have S2 := As.mk (trimTo_succ on met k hlt hlt2)
    have S3 := As.mk (trimTo_same on met k hlt hlt2)
    have S4 := As.mk (HO.out.set 0 rfl k (.bool false) hlen)
    have hge : ¬ (k : Int) ≥ (met.length : Int) := by omega
    obtain ⟨x, hxx⟩ : ∃ x, x = on[k] := ⟨_, rfl⟩
    obtain ⟨y, hyy⟩ : ∃ y, y = met[k] := ⟨_, rfl⟩
    rw [← hxx] at hx hz S1 S2 S3
    rw [← hyy] at hy S1 S2 S3
    clear hxx hyy hlen
    cases x <;> cases y
    all_goals
     go_wp2
     go_roundw
     case rel => exact ⟨k + 1, hlt, by rw [S1.out]; go_num, by go_num, by first | (rw [S3.out rfl]; exact HO.out) | (rw [S2.out, List.map_set]; exact S4.out)⟩
     case measure => simp [intOf]; omega
  · have e : k = on.length := by omega
    subst e
    go_wp2
    go_ret2
    have e1 : (lessL on met).take on.length = lessL on met := List.take_of_length_le (by simp only [lessL, List.length_zipWith]; omega)
    have e2 : trimTo on met on.length = andL on met := by
     unfold trimTo
     rw [List.drop_length, List.append_nil, List.take_of_length_le (by simp only [andL, List.length_zipWith]; omega)]
    refine ⟨_, by rw [e1]; rfl, ?_, HO.out.toBelow⟩
    have h9 := HO.out.fr List.mem_cons_self hc
    rw [e2] at h9
    exact h9
theorem Own.row {X : List Nat} {L : List (Nat × (Obj → Prop))} {R : World → Prop} {w0 w : World} {g e n cap : Nat} {cs : List Value} (h : Own X L R w0 w) (hm : (g, EC e cs) ∈ L) (hc : n ≤ cap) : Row w (.slice (some ⟨g, 0, none⟩) n cap) n cs := by
 refine ⟨_, _, rfl, hc, Or.inr ⟨g, 0, rfl, fun i u hu => ?_⟩⟩
 rw [Nat.zero_add, h.get hm i (List.getElem?_eq_some_iff.1 hu).1, hu]
theorem pin_Count_n (A : Option Addr) (c n : Nat) (l : List Bool) (w : World) (hn : l.length = n) (h : Row w (.slice A n c) n (l.map Value.bool)) (hl : n ≤ 1000000) :
 Calls Tryz.prog 24 #[.slice A n c] w fun e w' => e = .returned (.int .i64 (cntT l)) ∧ w' = w := by
 subst hn
 exact pin_Count A c l w h hl
theorem commit_Trim_n (A A2 : Option Addr) (c c2 n m : Nat) (on met : List Bool) (w : World) (hn : on.length = n) (hm : met.length = m) (h1 : Row w (.slice A n c) n (on.map Value.bool)) (h2 : Row w (.slice A2 m c2) m (met.map Value.bool)) (hl : n ≤ 1000000) (h0 : 0 < n) (he : m = n) :
 Calls Tryz.prog 42 #[.slice A n c, .slice A2 m c2] w fun e w' => ∃ v, e = .returned (.tuple #[v, .int .i64 (cntT (lessL on met) : Nat)]) ∧ Fr w.heap.size w' 4 v n ((andL on met).map Value.bool) ∧ Below w.heap.size w w' := by
 subst hn; subst hm
 exact commit_Trim A A2 c c2 on met w h1 h2 hl h0 he
theorem OwnS.set {X : List Nat} {L : List (Nat × (Obj → Prop))} {R : World → Prop} {w0 w : World} {e size : Nat} {v : Value} {n : Nat} {xs : List Value} {g e2 : Nat} {cs : List Value} (h : OwnS X L R w0 w e size v n xs) (i : Nat) (hi : L[i]? = some (g, EC e2 cs)) (o : Nat) (u : Value) (ho : o < cs.length) : OwnS X (L.set i (g, EC e2 (cs.set o u))) R w0 (w.setCell ⟨g, o, none⟩ u) e size v n xs :=
 ⟨h.1, h.2.imp (fun h => ⟨h.1, h.2.1, h.2.2.set i hi o u ho⟩) (fun ⟨a, cap, h1, h2, h3⟩ => ⟨a, cap, h1, h2, h3.set (i + 1) hi o u ho⟩)⟩
theorem OwnS.ne {X : List Nat} {L : List (Nat × (Obj → Prop))} {R : World → Prop} {w0 w : World} {a b : Nat} {p q : Obj → Prop} (h : Own X ((a, p) :: (b, q) :: L) R w0 w) : a ≠ b := by
 have h1 := (List.nodup_cons.1 h.nd).1
 intro e
 exact h1 (by rw [e]; exact List.mem_cons_self)
theorem news {W : World} {T : TypeId} (cs : List Value) : ∀ j u, cs[j]? = some u → (W.alloc (.cells cs.toArray T)).cell? ((⟨W.heap.size, 0, none⟩ : Addr).add j) = some u := by
 intro j u hu
 have h2 : (⟨W.heap.size, 0, none⟩ : Addr).add j = ⟨W.heap.size, j, none⟩ := by unfold Addr.add; split <;> simp_all
 rw [h2]
 simpa using hu
/-- k of them from a on are set -/
def onTo (l : List Bool) (a : Nat) : Nat → List Bool
 | 0 => l
 | k + 1 => (onTo l a k).set (a + k) true
theorem onTo_len (l : List Bool) (a k : Nat) : (onTo l a k).length = l.length := by
 induction k with
 | zero => rfl
 | succ k ih => simp [onTo, ih]
def freshTo (on : List Bool) (a : Nat) : Nat → List Nat
 | 0 => []
 | k + 1 => if on.getD (a + k) true then freshTo on a k else freshTo on a k ++ [a + k]
theorem freshTo_len (on : List Bool) (a k : Nat) : (freshTo on a k).length ≤ k := by
 induction k with
 | zero => exact Nat.le_refl _
 | succ k ih =>
  unfold freshTo
  split
  · omega
  · rw [List.length_append]; exact Nat.succ_le_succ ih
def natsV (l : List Nat) : List Value := l.map fun (i : Nat) => Value.int .i64 (i : Int)
def commitP (on met : List Bool) (a b most : Nat) : Option (List Bool × List Nat) :=
 if cntT (onTo met a (b - a)) > most then none else some (if cntT (onTo on a (b - a)) > most then andL (onTo on a (b - a)) (onTo met a (b - a)) else onTo on a (b - a), freshTo on a (b - a))
set_option maxHeartbeats 1000000 in
theorem commit_Commit (A A2 : Option Addr) (c c2 a b most : Nat) (on met : List Bool) (w : World) (h1 : Row w (.slice A on.length c) on.length (on.map Value.bool)) (h2 : Row w (.slice A2 met.length c2) met.length (met.map Value.bool)) (hl : on.length ≤ 1000000) (h0 : 0 < on.length) (he : met.length = on.length) (hab : a ≤ b) (hb : b ≤ on.length) (hm : most ≤ 2 ^ 30) :
 Calls Tryz.prog 27 #[.slice A on.length c, .slice A2 met.length c2, .int .i64 a, .int .i64 b, .int .i64 most] w fun e w' => Below w.heap.size w w' ∧
  ((commitP on met a b most = none ∧ e = .returned (.tuple #[.slice none 0 0, .slice none 0 0, .bool false])) ∨
   ∃ x fr v1 v2, commitP on met a b most = some (x, fr) ∧ e = .returned (.tuple #[v1, v2, .bool true]) ∧ Fr w.heap.size w' 4 v1 on.length (x.map Value.bool) ∧ Fr w.heap.size w' 3 v2 fr.length (natsV fr)) := by
 have H1 := As.mk h1
 have H2 := As.mk h2
 have he2 := beqT (show (on.length : Int) = (met.length : Int) by omega)
 have he3 : ((on.length : Int) != (met.length : Int)) = false := by rw [bne, he2]; rfl
 have HE := As.mk he
 clear h1 h2 he
 go_enter Tryz.func27, Tryz.ntmps27
 go_wp2_with fail
 refine (clone_46 A c on.length (on.map Value.bool) _ H1.out (by simp) (bools_one on) hl).mono ?_
 rintro e w1 ⟨v, rfl, ho, hbb⟩
 obtain ⟨gx, capx, x, rfl, hcx, hg, hx, hp⟩ := (Fr.own ho).form h0
 have HO := As.mk ((Own.start (X := []) w).add hbb hg hx hp)
 have H2b := As.mk (H2.out.below hbb)
 clear ho hbb hg hx hp
 go_wp2_with fail
 refine (clone_46 A2 c2 met.length (met.map Value.bool) _ H2b.out (by simp) (bools_one met) (by have := HE.out; omega)).mono ?_
 rintro e w2 ⟨v, rfl, ho, hbb⟩
 obtain ⟨gn, capn, x, rfl, hcn, hg, hx, hp⟩ := (Fr.own ho).form (by have := HE.out; omega)
 have HO2 := As.mk ((HO.out.add hbb hg hx hp).swap)
 clear ho hbb hg hx hp H2b HO
 go_wp2
 go_loopw [11, 14] (fun s i wr => ∃ k : Nat, k ≤ b - a ∧ i = .int .i64 ((a + k : Nat) : Int) ∧ OwnS [] [(gx, EC 4 ((onTo on a k).map Value.bool)), (gn, EC 4 ((onTo met a k).map Value.bool))] (fun _ => True) w wr 3 1 s (freshTo on a k).length (natsV (freshTo on a k))) (fun _ i _ => b - (intOf i).toNat)
 case atStart => exact ⟨0, Nat.zero_le _, rfl, OwnS.nil HO2.out 3 1⟩
 case round =>
  clear HO2 H2
  obtain ⟨k, hk, rfl, ho⟩ := hrel
  have HO := As.mk ho
  clear ho
  have hfl := freshTo_len on a k
  by_cases hlt : a + k < b
  · have hlt1 : a + k < on.length := by omega
    obtain ⟨bb, o, rfl, hx⟩ := (H1.out.below HO.out.rest.toBelow).at_ (a + k) (by simpa using hlt1)
    rw [List.getElem_map] at hx
    have l1 : a + k < ((onTo on a k).map Value.bool).length := by rw [List.length_map, onTo_len]; exact hlt1
    have l2 : a + k < ((onTo met a k).map Value.bool).length := by rw [List.length_map, onTo_len]; have := HE.out; omega
    have hne := OwnS.ne HO.out.rest
    have S1 := As.mk (show onTo on a (k + 1) = (onTo on a k).set (a + k) true from rfl)
    have S2 := As.mk (show onTo met a (k + 1) = (onTo met a k).set (a + k) true from rfl)
    have S3 := As.mk (show freshTo on a (k + 1) = if on.getD (a + k) true then freshTo on a k else freshTo on a k ++ [a + k] from rfl)
    have hgd : on.getD (a + k) true = on[a + k] := by rw [List.getD_eq_getElem?_getD, List.getElem?_eq_getElem hlt1]; rfl
    rw [hgd] at S3
    clear hgd
    obtain ⟨x, hxx⟩ : ∃ x, x = on[a + k] := ⟨_, rfl⟩
    rw [← hxx] at hx S3
    clear hxx
    obtain ⟨p, hp⟩ : ∃ p, p = a + k := ⟨_, rfl⟩
    have HP := As.mk hp
    rw [← hp] at hx S1 S2 S3 l1 l2 hlt hlt1 ⊢
    clear hp
    have L1 := As.mk l1
    have L2 := As.mk l2
    have hpb : (p : Int) < (on.length : Int) := by omega
    have hpm : (p : Int) < (met.length : Int) := by have := HE.out; omega
    have hfin : ∀ (s : Value) (W : World), OwnS [] [(gx, EC 4 ((onTo on a k).map Value.bool)), (gn, EC 4 ((onTo met a k).map Value.bool))] (fun _ => True) w W 3 1 s (freshTo on a (k + 1)).length (natsV (freshTo on a (k + 1))) →
     OwnS [] [(gx, EC 4 ((onTo on a (k + 1)).map Value.bool)), (gn, EC 4 ((onTo met a (k + 1)).map Value.bool))] (fun _ => True) w ((W.setCell ⟨gx, p, none⟩ (.bool true)).setCell ⟨gn, p, none⟩ (.bool true)) 3 1 s (freshTo on a (k + 1)).length (natsV (freshTo on a (k + 1))) := by
     intro s W hW
     have h1 := (hW.set 0 rfl p (.bool true) L1.out).set 1 rfl p (.bool true) L2.out
     rw [S1.out, S2.out, List.map_set, List.map_set]
     exact h1
    have HF := As.mk hfin
    clear hfin l1 l2
    cases x with
    | true =>
     have z1 := HO.out.rest.get List.mem_cons_self p L1.out
     have z2 := HO.out.rest.get (List.mem_cons_of_mem _ List.mem_cons_self) p L2.out
     rw [List.getElem?_eq_getElem L1.out] at z1
     rw [List.getElem?_eq_getElem L2.out] at z2
     have z3 := HO.out.rest.frozen (o := p) List.mem_cons_self
     have z4 := HO.out.rest.frozen (o := p) (List.mem_cons_of_mem _ List.mem_cons_self)
     go_wp2
     go_roundw
     case rel => exact ⟨k + 1, by have := HP.out; omega, by rw [HP.out]; go_num, HF.out _ _ (by rw [S3.out, if_pos rfl]; exact HO.out)⟩
     case measure => simp [intOf]; omega
    | false =>
     go_wp2_with (at_builtin; refine go_app w rfl _ _ 63 3 _ 1 8 rfl Tryz.underlying63 info3 rfl (by decide) _ (freshTo on a k).length (natsV (freshTo on a k)) rfl ⟨wr.heap.size, 0, none⟩ 1 1 [.int .i64 (p : Int)] rfl (HO.out.alloc _) rfl (news _) (by intro u hu; rw [List.mem_singleton.1 hu]; rfl) (by simp [maxLen]; omega) (by omega) ?_; intro v1 w1 hw1; have HW := As.mk hw1; have z1 := hw1.rest.get List.mem_cons_self p L1.out; have z2 := hw1.rest.get (List.mem_cons_of_mem _ List.mem_cons_self) p L2.out; rw [List.getElem?_eq_getElem L1.out] at z1; rw [List.getElem?_eq_getElem L2.out] at z2; have z3 := hw1.rest.frozen (o := p) List.mem_cons_self; have z4 := hw1.rest.frozen (o := p) (List.mem_cons_of_mem _ List.mem_cons_self); clear hw1)
     go_roundw
     case rel => exact ⟨k + 1, by have := HP.out; omega, by rw [HP.out]; go_num, HF.out _ _ (by rw [S3.out, if_neg (by simp), List.length_append]; have h7 := HW.out; simpa [natsV] using h7)⟩
     case measure => simp [intOf]; omega
  · have e : k = b - a := by omega
    subst e
    obtain ⟨need, hneed⟩ : ∃ x, x = onTo met a (b - a) := ⟨_, rfl⟩
    obtain ⟨xx, hxx⟩ : ∃ x, x = onTo on a (b - a) := ⟨_, rfl⟩
    obtain ⟨fr, hfr⟩ : ∃ x, x = freshTo on a (b - a) := ⟨_, rfl⟩
    have l1 : xx.length = on.length := by rw [hxx, onTo_len]
    have l2 : need.length = met.length := by rw [hneed, onTo_len]
    have HC := As.mk (show commitP on met a b most = if cntT need > most then none else some (if cntT xx > most then andL xx need else xx, fr) by rw [hneed, hxx, hfr]; rfl)
    rw [← hneed, ← hxx, ← hfr] at HO
    have q1 := cntT_le need
    have q2 := cntT_le xx
    have q3 := HE.out
    have n1 : cntT need ≤ 1000000 := by omega
    have n2 : cntT xx ≤ 1000000 := by omega
    have ml : met.length ≤ 1000000 := by omega
    have L1 := As.mk l1
    have L2 := As.mk l2
    have R1 := As.mk (HO.out.rest.row (g := gx) List.mem_cons_self hcx)
    have R2 := As.mk (HO.out.rest.row (g := gn) (List.mem_cons_of_mem _ List.mem_cons_self) hcn)
    clear hneed hxx hfr l1 l2 q1 q2 q3 hfl hk hlt
    by_cases c1 : cntT need > most
    · go_wp2_with (first | (go_at_call 24; (with_reducible refine (pin_Count_n _ _ _ need _ L2.out R2.out ml).mono ?_); rintro e w3 ⟨rfl, rfl⟩))
      refine bodyPost_ret (v := .tuple #[.slice none 0 0, .slice none 0 0, .bool false]) (by simp [results, Tryz.results27, go_sem]) rfl ⟨HO.out.rest.toBelow, Or.inl ⟨by rw [HC.out, if_pos c1], rfl⟩⟩
    · by_cases c2 : cntT xx > most
      · go_wp2_with fail
        refine (pin_Count_n _ _ _ need _ L2.out R2.out ml).mono ?_
        rintro e w3 ⟨rfl, rfl⟩
        go_wp2_with fail
        refine (pin_Count_n _ _ _ xx _ L1.out R1.out hl).mono ?_
        rintro e w3 ⟨rfl, rfl⟩
        go_wp2_with fail
        refine (commit_Trim_n _ _ _ _ _ _ xx need _ L1.out L2.out R1.out R2.out hl h0 HE.out).mono ?_
        rintro e w3 ⟨v, rfl, hv, hb3⟩
        have HV := As.mk hv
        have HB := As.mk hb3
        clear hv hb3
        go_wp2_with fail
        refine bodyPost_ret (v := .tuple #[v, u11, .bool true]) (by simp [results, Tryz.results27, go_sem]) rfl ⟨(HO.out.rest.below HB.out).toBelow, Or.inr ⟨_, _, v, u11, by rw [HC.out, if_neg c1, if_pos c2], rfl, HV.out.lower HO.out.rest.size, (HO.out.below HB.out).fr⟩⟩
      · go_wp2_with fail
        refine (pin_Count_n _ _ _ need _ L2.out R2.out ml).mono ?_
        rintro e w3 ⟨rfl, rfl⟩
        go_wp2_with fail
        refine (pin_Count_n _ _ _ xx _ L1.out R1.out hl).mono ?_
        rintro e w3 ⟨rfl, rfl⟩
        go_wp2_with fail
        refine bodyPost_ret (v := .tuple #[.slice (some ⟨gx, 0, none⟩) on.length capx, u11, .bool true]) (by simp [results, Tryz.results27, go_sem]) rfl ⟨HO.out.rest.toBelow, Or.inr ⟨_, _, _, u11, by rw [HC.out, if_neg c1, if_neg c2], rfl, HO.out.rest.fr List.mem_cons_self hcx, HO.out.fr⟩⟩
end Go.Proofs.YtmookafmdonopaaGreat.Top
/- Words of 64 bits: told by their bits; word.Mask, LowOne, LowZero. -/
namespace Go.Proofs.YtmookafmdonopaaGreat.Top
open Go Go.RowKit
set_option linter.unusedVariables false
set_option linter.unusedSimpArgs false
attribute [local go_sem] max2_int min2_int max_two min_two max_three

def bitsN (f : Nat → Bool) : Nat → Nat
 | 0 => 0
 | k + 1 => bitsN f k ||| (if f k then 2 ^ k else 0)
theorem bitsN_lt (f : Nat → Bool) (k : Nat) : bitsN f k < 2 ^ k := by
 induction k with
 | zero => simp [bitsN]
 | succ k ih =>
  refine Nat.or_lt_two_pow (Nat.lt_of_lt_of_le ih (Nat.pow_le_pow_right (by decide) (by omega))) ?_
  split
  · exact Nat.pow_lt_pow_right (by decide) (by omega)
  · exact Nat.two_pow_pos _
theorem bitsN_bit (f : Nat → Bool) (k t : Nat) : (bitsN f k).testBit t = (decide (t < k) && f t) := by
 induction k with
 | zero => simp [bitsN]
 | succ k ih =>
  unfold bitsN
  rw [Nat.testBit_or, ih]
  by_cases h : f k
  · rw [if_pos h, Nat.testBit_two_pow]
    by_cases e : k = t
    · subst e; simp [h]
    · have h1 : (t < k + 1) ↔ (t < k) := by omega
      simp [e, h1]
  · rw [if_neg h]
    by_cases e : k = t
    · subst e; simp [h]
    · have h1 : (t < k + 1) ↔ (t < k) := by omega
      simp [h1]
/-- the word of these bits -/
def wb (f : Nat → Bool) : Nat := bitsN f 64
theorem wb_lt (f : Nat → Bool) : wb f < 18446744073709551616 := bitsN_lt f 64
theorem wb_bit (f : Nat → Bool) (t : Nat) (h : t < 64) : (wb f).testBit t = f t := by
 unfold wb; rw [bitsN_bit]; simp [h]
theorem wb_ext {u : Nat} {f : Nat → Bool} (hu : u < 18446744073709551616) (h : ∀ t, t < 64 → u.testBit t = f t) : u = wb f := by
 apply Nat.eq_of_testBit_eq
 intro t
 rcases Nat.lt_or_ge t 64 with ht | ht
 · rw [h t ht, wb_bit f t ht]
 · rw [Nat.testBit_lt_two_pow (Nat.lt_of_lt_of_le (show u < 2 ^ 64 from hu) (Nat.pow_le_pow_right (by decide) ht)), Nat.testBit_lt_two_pow (Nat.lt_of_lt_of_le (show wb f < 2 ^ 64 from wb_lt f) (Nat.pow_le_pow_right (by decide) ht))]
theorem wb_congr {f g : Nat → Bool} (h : ∀ t, t < 64 → f t = g t) : wb f = wb g := wb_ext (wb_lt f) fun t ht => by rw [wb_bit f t ht, h t ht]
theorem wb_inj {f g : Nat → Bool} (h : wb f = wb g) : ∀ t, t < 64 → f t = g t := fun t ht => by rw [← wb_bit f t ht, h, wb_bit g t ht]
theorem wb_full : wb (fun _ => true) = 18446744073709551615 := by
 symm
 refine wb_ext (by decide) fun t ht => ?_
 rw [show (18446744073709551615 : Nat) = 2 ^ 64 - 1 from rfl, Nat.testBit_two_pow_sub_one]
 simp [ht]
theorem wu64 (n : Nat) (h : n < 18446744073709551616) : IntKind.u64.wrap (n : Int) = n := by unfold IntKind.wrap; simp [IntKind.bits, IntKind.signed]; omega
theorem u64_nat (a b : Nat) (ha : a < 18446744073709551616) (hb : b < 18446744073709551616) : Go.bits .and .u64 (a : Int) (b : Int) = ((a &&& b : Nat) : Int) ∧ Go.bits .or .u64 (a : Int) (b : Int) = ((a ||| b : Nat) : Int) :=
 bits_nat .u64 64 (by decide) (fun n h0 h1 => by
  obtain ⟨m, rfl⟩ : ∃ m : Nat, n = (m : Int) := ⟨n.toNat, by omega⟩
  exact wu64 m (by have : (2 : Int) ^ 64 = 18446744073709551616 := (by decide); omega)) a b ha hb
theorem u64_and (f g : Nat → Bool) : Go.bits .and .u64 (wb f : Int) (wb g : Int) = (wb (fun t => f t && g t) : Int) := by
 rw [(u64_nat _ _ (wb_lt f) (wb_lt g)).1]
 congr 1
 exact wb_ext (Nat.and_lt_two_pow _ (n := 64) (wb_lt g)) fun t ht => by rw [Nat.testBit_and, wb_bit f t ht, wb_bit g t ht]
theorem u64_or (f g : Nat → Bool) : Go.bits .or .u64 (wb f : Int) (wb g : Int) = (wb (fun t => f t || g t) : Int) := by
 rw [(u64_nat _ _ (wb_lt f) (wb_lt g)).2]
 congr 1
 exact wb_ext (Nat.or_lt_two_pow (n := 64) (wb_lt f) (wb_lt g)) fun t ht => by rw [Nat.testBit_or, wb_bit f t ht, wb_bit g t ht]
theorem u64_andNot (f g : Nat → Bool) : Go.bits .andNot .u64 (wb f : Int) (wb g : Int) = (wb (fun t => f t && !g t) : Int) := by
 have ha := wb_lt f
 have hb := wb_lt g
 have h1 : wb f % 2 ^ 64 = wb f := Nat.mod_eq_of_lt ha
 have h2 : wb g % 2 ^ 64 = wb g := Nat.mod_eq_of_lt hb
 have h4 : (BitVec.ofNat 64 (wb f) &&& ~~~ BitVec.ofNat 64 (wb g)).toNat = wb f &&& (2 ^ 64 - 1 - wb g) := by rw [BitVec.toNat_and, BitVec.toNat_not, BitVec.toNat_ofNat, BitVec.toNat_ofNat, h1, h2]
 have h6 : wb f &&& (2 ^ 64 - 1 - wb g) = wb (fun t => f t && !g t) := by
  refine wb_ext (Nat.and_lt_two_pow _ (n := 64) (by omega)) fun t ht => ?_
  rw [Nat.testBit_and, wb_bit f t ht, show 2 ^ 64 - 1 - wb g = 2 ^ 64 - (wb g + 1) by omega, Nat.testBit_two_pow_sub_succ hb, wb_bit g t ht]
  simp [ht]
 have h5 := wu64 _ (wb_lt (fun t => f t && !g t))
 rw [← h6, ← h4] at h5 ⊢
 exact h5
theorem u64_not (f : Nat → Bool) : Go.bits .xor .u64 18446744073709551615 (wb f : Int) = (wb (fun t => !f t) : Int) := by
 have ha := wb_lt f
 have h1 : wb f % 2 ^ 64 = wb f := Nat.mod_eq_of_lt ha
 have h4 : (BitVec.ofNat 64 18446744073709551615 ^^^ BitVec.ofNat 64 (wb f)).toNat = 18446744073709551615 ^^^ wb f := by rw [BitVec.toNat_xor, BitVec.toNat_ofNat, BitVec.toNat_ofNat, h1]
 have h6 : 18446744073709551615 ^^^ wb f = wb (fun t => !f t) := by
  refine wb_ext (Nat.xor_lt_two_pow (n := 64) (by decide) ha) fun t ht => ?_
  rw [Nat.testBit_xor, wb_bit f t ht, show (18446744073709551615 : Nat) = 2 ^ 64 - 1 from rfl, Nat.testBit_two_pow_sub_one]
  simp [ht]
 have h5 := wu64 _ (wb_lt (fun t => !f t))
 rw [← h6, ← h4] at h5 ⊢
 exact h5
/-- bits from i on, n of them -/
def rng (i n : Nat) : Nat → Bool := fun t => decide (i ≤ t) && decide (t < i + n)
theorem mask_shl (i n : Nat) (h : i + n ≤ 64) : (2 ^ n - 1) * 2 ^ i = wb (rng i n) := by
 have h0 : (2 ^ n - 1) * 2 ^ i < 18446744073709551616 := by
  have h1 : (2 ^ n - 1) * 2 ^ i < 2 ^ n * 2 ^ i := Nat.mul_lt_mul_of_pos_right (Nat.sub_lt (Nat.two_pow_pos n) (by decide)) (Nat.two_pow_pos i)
  rw [← Nat.pow_add] at h1
  exact Nat.lt_of_lt_of_le h1 (Nat.pow_le_pow_right (n := 2) (i := n + i) (j := 64) (by decide) (by omega))
 refine wb_ext h0 fun t ht => ?_
 rw [Nat.mul_comm, Nat.testBit_two_pow_mul, Nat.testBit_two_pow_sub_one]
 unfold rng
 by_cases h1 : i ≤ t
 · have : (t - i < n) ↔ (t < i + n) := by omega
   simp [h1, this]
 · simp [h1]
/-- the lowest one -/
def lowFrom (f : Nat → Bool) (t : Nat) : Nat → Nat
 | 0 => t
 | k + 1 => if f t then t else lowFrom f (t + 1) k
def low (f : Nat → Bool) : Nat := lowFrom f 0 64
theorem lowFrom_eq (f : Nat → Bool) (n : Nat) : ∀ k t, t ≤ n → n ≤ t + k → (∀ s, t ≤ s → s < n → f s = false) → (n < t + k → f n = true) → lowFrom f t k = n := by
 intro k
 induction k with
 | zero => intro t h1 h2 _ _; simp only [lowFrom]; omega
 | succ k ih =>
  intro t h1 h2 h3 h4
  unfold lowFrom
  by_cases e : t = n
  · subst e; rw [if_pos (h4 (by omega))]
  · rw [if_neg (by rw [h3 t (Nat.le_refl _) (by omega)]; simp)]
    exact ih (t + 1) (by omega) (by omega) (fun s hs hs2 => h3 s (by omega) hs2) (fun h => h4 (by omega))
theorem low_eq {f : Nat → Bool} {n : Nat} (h1 : n ≤ 64) (h2 : ∀ s, s < n → f s = false) (h3 : n < 64 → f n = true) : low f = n :=
 lowFrom_eq f n 64 0 (Nat.zero_le _) (by omega) (fun s _ hs => h2 s hs) (fun h => h3 (by omega))
theorem lowFrom_spec (f : Nat → Bool) : ∀ k t, t ≤ lowFrom f t k ∧ lowFrom f t k ≤ t + k ∧ (∀ s, t ≤ s → s < lowFrom f t k → f s = false) ∧ (lowFrom f t k < t + k → f (lowFrom f t k) = true) := by
 intro k
 induction k with
 | zero => intro t; simp only [lowFrom]; exact ⟨by omega, by omega, fun s h1 h2 => by omega, fun h => by omega⟩
 | succ k ih =>
  intro t
  unfold lowFrom
  by_cases e : f t
  · rw [if_pos e]; exact ⟨by omega, by omega, fun s h1 h2 => by omega, fun _ => e⟩
  · rw [if_neg e]
    obtain ⟨a, b, c, d⟩ := ih (t + 1)
    refine ⟨by omega, by omega, fun s h1 h2 => ?_, fun h => d (by omega)⟩
    by_cases e2 : s = t
    · subst e2; simpa using e
    · exact c s (by omega) h2
theorem low_spec (f : Nat → Bool) : low f ≤ 64 ∧ (∀ s, s < low f → f s = false) ∧ (low f < 64 → f (low f) = true) := by
 obtain ⟨a, b, c, d⟩ := lowFrom_spec f 64 0
 exact ⟨by simpa [low] using b, fun s hs => c s (Nat.zero_le _) hs, fun h => d (by simpa [low] using h)⟩
end Go.Proofs.YtmookafmdonopaaGreat.Top
