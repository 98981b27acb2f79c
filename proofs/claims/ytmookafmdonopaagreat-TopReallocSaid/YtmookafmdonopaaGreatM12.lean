/- slices.Delete walked: one mark; side.Put, side.Take. -/
import Derived.Test.YtmookafmdonopaaGreatM11
/- slices.Delete walked: one mark; side.Put, side.Take. -/
namespace Go.Proofs.YtmookafmdonopaaGreat.Top
open Go Go.RowKit
set_option linter.unusedVariables false
set_option linter.unusedSimpArgs false
attribute [local go_sem] max2_int min2_int max_two min_two max_three

theorem Own.storeAt {X : List Nat} {L : List (Nat × (Obj → Prop))} {R : World → Prop} {w0 w : World} {g e o : Nat} {cs ns : List Value} (H : Own X ((g, EX e cs) :: L) R w0 w) (hfit : o + ns.length ≤ cs.length) (h1 : ∀ v ∈ ns, v.oneCell' = true) :
 ∃ w1, (storeCells ⟨g, o, none⟩ ns).run Tryz.prog w = .ok () w1 ∧ Own X ((g, EX e (over cs o ns)) :: L) R w0 w1 := by
 obtain ⟨x, hx, hxx⟩ := H.at_ _ _ List.mem_cons_self
 rw [show x = .cells cs.toArray e (0, 0) from hxx] at hx
 have hst := run_storeCells_at Tryz.prog g o e ns 0 cs.toArray w hx (by simpa using hfit) h1
 simp only [Nat.add_zero] at hst
 exact ⟨_, hst, H.setRow (cs' := over cs o ns)⟩
theorem append_run {X : List Nat} {L : List (Nat × (Obj → Prop))} {R : World → Prop} {w0 w : World} (t ty e sz : Nat) (hu : Tryz.prog.underlying t = some (.slice e)) (hsz : (Tryz.prog.info? e).map (·.size) = some sz)
 (g sLen sCap : Nat) (ad : Addr) (m c : Nat) (cs ns : List Value) (H : Own X ((g, EX e cs) :: L) R w0 w) (hn : ns.length = m * sz)
 (hsrc : ∀ j v, ns[j]? = some v → w.cell? (ad.add j) = some v) (hfit : sLen * sz + ns.length ≤ cs.length) (hroom : sLen + m ≤ sCap) (h1 : ∀ v ∈ ns, v.oneCell' = true) :
 ∃ w1, (Builtin.append_ #[t, t] ty #[.slice (some ⟨g, 0, none⟩) sLen sCap, .slice (some ad) m c]).run Tryz.prog w = .ok (.slice (some ⟨g, 0, none⟩) (sLen + m) sCap) w1 ∧ Own X ((g, EX e (over cs (sLen * sz) ns)) :: L) R w0 w1 := by
 obtain ⟨w1, hst, hw⟩ := H.storeAt hfit h1
 obtain ⟨i, hi, hisz⟩ := Option.map_eq_some_iff.1 hsz
 have hfc := run_firstCells_some (P := Tryz.prog) w i.size m ad m c ns (by rw [hisz]; exact hn) hsrc
 refine ⟨w1, ?_, hw⟩
 have hadd : (⟨g, 0, none⟩ : Addr).add (sLen * i.size) = ⟨g, sLen * sz, none⟩ := by rw [hisz, Addr.add_lit, Nat.zero_add]
 simp [Builtin.append_, run_underlying hu, sizeOf, typeInfo, hi, Builtin.lenOf, hroom, hfc, hadd, hst]
theorem zero99 (w : World) : (zeroValue 99).run Tryz.prog w = .ok (.agg #[.int .i64 0, .int .i64 0]) w := by
 obtain ⟨i0, hi, hzz⟩ := Option.map_eq_some_iff.1 info99
 simp only [Prod.mk.injEq] at hzz
 simp [zeroValue, typeInfo, hi, hzz.1]
theorem clear_run {X : List Nat} {L : List (Nat × (Obj → Prop))} {R : World → Prop} {w0 w : World} (ty g o c : Nat) (cs : List Value) (H : Own X ((g, EX 99 cs) :: L) R w0 w) (hfit : o + 2 ≤ cs.length) :
 ∃ w1, (Builtin.clear_ #[81] ty #[.slice (some ⟨g, o, none⟩) 1 c]).run Tryz.prog w = .ok (.tuple #[]) w1 ∧ Own X ((g, EX 99 (over cs o [.int .i64 0, .int .i64 0])) :: L) R w0 w1 := by
 obtain ⟨w1, hst, hw⟩ := H.storeAt (o := o) (ns := [.int .i64 0, .int .i64 0]) hfit (by intro v hv; simp at hv; subst hv; rfl)
 refine ⟨w1, ?_, hw⟩
 have hz : (Builtin.zeroCells (Value.agg #[.int .i64 0, .int .i64 0]).cells 1).toList = [.int .i64 0, .int .i64 0] := by kernel_rfl
 simp [Builtin.clear_, run_underlying Tryz.underlying81, zero99, hz, hst]
set_option maxHeartbeats 1000000 in
set_option maxRecDepth 100000 in
theorem Delete_w (L : List (Nat × (Obj → Prop))) (R : World → Prop) (w0 w : World) (g cap n i : Nat) (cs : List Value) (H : Own [] ((g, EX 99 cs) :: L) R w0 w) (hc : cs.length = cap * 2) (hnc : n ≤ cap) (hcm : cap ≤ maxLen) (hi : i < n) (hn : n ≤ 100000) (h2 : ∀ u ∈ cs.take (n * 2), u.oneCell' = true) :
 Calls Tryz.prog 115 #[.slice (some ⟨g, 0, none⟩) n cap, .int .i64 i, .int .i64 ((i : Int) + 1)] w fun e w' => ∃ v', e = .returned v' ∧ OwnS [] L R w0 w' 99 2 v' (n - 1) ((cs.take (n * 2)).take (i * 2) ++ (cs.take (n * 2)).drop (i * 2 + 2)) := by
 obtain ⟨i1, hi1⟩ : ∃ i1, i1 = i + 1 := ⟨_, rfl⟩
 have e0 : (i : Int) + 1 = (i1 : Int) := by omega
 rw [e0]
 obtain ⟨ad, had⟩ : ∃ ad : Addr, ad = if cap = i1 then ⟨g, 0, none⟩ else ⟨g, i1 * 2, none⟩ := ⟨_, rfl⟩
 have hlen1 : ((cs.take (n * 2)).drop (i1 * 2)).length = (n - i1) * 2 := by rw [List.length_drop, List.length_take, hc]; omega
 obtain ⟨w2, r2, hw2⟩ := append_run 81 81 99 2 Tryz.underlying81 sz99 g i cap ad (n - i1) (cap - i1) cs ((cs.take (n * 2)).drop (i1 * 2)) H.drew hlen1
  (fun j u hj => by
   have h9 : Own [] ((g, EC 99 cs) :: L) R w0 w := H.weak EX.ec
   have hjl := (List.getElem?_eq_some_iff.1 hj).1
   rw [hlen1] at hjl
   have h8 : cs[i1 * 2 + j]? = some u := by
    rw [List.getElem?_drop, List.getElem?_take] at hj
    split at hj
    · exact hj
    · cases hj
   rw [had, if_neg (by omega), Addr.add_lit]
   have y1 := h9.get List.mem_cons_self (i1 * 2 + j) (List.getElem?_eq_some_iff.1 h8).1
   exact y1.trans h8) (by rw [hlen1, hc]; omega) (by omega) (fun u hu => h2 u (List.mem_of_mem_drop hu))
 have hl2 : (over cs (i * 2) ((cs.take (n * 2)).drop (i1 * 2))).length = cap * 2 := by rw [over_len (by rw [hlen1, hc]; omega)]; exact hc
 obtain ⟨n1, hn1⟩ : ∃ n1, n1 = n - 1 := ⟨_, rfl⟩
 rw [show i + (n - i1) = n1 by omega] at r2
 obtain ⟨w3, r3, hw3⟩ := clear_run 0 g (n1 * 2) (cap - n1) _ hw2 (by rw [hl2]; omega)
 have hl3 : (over (over cs (i * 2) ((cs.take (n * 2)).drop (i1 * 2))) (n1 * 2) [.int .i64 0, .int .i64 0]).length = cap * 2 := by rw [over_len (by rw [hl2]; simp only [List.length_cons, List.length_nil]; omega)]; exact hl2
 have HW3 := As.mk hw3
 have HF : As (OwnS [] L R w0 w3 99 2 (.slice (some ⟨g, 0, none⟩) n1 cap) n1 ((cs.take (n * 2)).take (i * 2) ++ (cs.take (n * 2)).drop (i * 2 + 2))) := by
  refine As.mk (OwnS.ofWhole hw3 (by omega) hcm hl3 ?_)
  have t0 := over_take (A := cs) (ns := (cs.take (n * 2)).drop (i1 * 2)) (o := i * 2) (by omega)
  rw [hlen1, show i * 2 + (n - i1) * 2 = n1 * 2 by omega] at t0
  have t1 : ∀ (A ns : List Value), A.length = cap * 2 → (over A (n1 * 2) ns).take (n1 * 2) = A.take (n1 * 2) := by
   intro A ns hA
   have hl : (A.take (n1 * 2)).length = n1 * 2 := by rw [List.length_take, hA]; omega
   unfold over
   rw [List.append_assoc, List.take_append_of_le_length (by rw [hl]; exact Nat.le_refl _), List.take_of_length_le (by rw [hl]; exact Nat.le_refl _)]
  rw [t1 _ _ hl2, t0, List.take_take, Nat.min_eq_left (by omega), show i * 2 + 2 = i1 * 2 by omega]
 have HI := As.mk (And.intro hi1 hn1)
 have b0 : ((i : Int) == (i1 : Int)) = false := beqF (by omega)
 have b1 : ((i : Int) = (i1 : Int)) = False := eq_false (by omega)
 have b2 : (i = i1) = False := eq_false (by omega)
 have b3 : ((i1 : Int) ≤ (n : Int)) = True := eq_true (by omega)
 have b4 : ((i : Int) ≤ (n : Int)) = True := eq_true (by omega)
 have b5 : (cap = n1) = False := eq_false (by omega)
 have b6 : n1 ≤ n := by omega
 have b7 : n - n1 = 1 := by omega
 have b8 : IntKind.i64.wrap (i1 : Int) = (i1 : Int) := iw64 _ (by omega) (by omega)
 have b9 : IntKind.i64.wrap (i : Int) = (i : Int) := iw64 _ (by omega) (by omega)
 have b10 : cap ≤ 9223372036854775807 := by unfold maxLen at hcm; omega
 have b11 : (0 : Int) ≤ (i1 : Int) := by omega
 have b12 : (0 : Int) ≤ (i : Int) := by omega
 have b13 : ((i : Int) ≤ (cap : Int)) = True := eq_true (by omega)
 have b14 : ((i : Int) ≤ (i1 : Int)) = True := eq_true (by omega)
 have b15 : ((n : Int) ≤ (cap : Int)) = True := eq_true (by omega)
 have b16 : (i1 ≤ n) = True := eq_true (by omega)
 have b17 : (i ≤ i1) = True := eq_true (by omega)
 have b18 : (n ≤ cap) = True := eq_true hnc
 have b19 : (i ≤ cap) = True := eq_true (by omega)
 have b20 : (i ≤ n) = True := eq_true (by omega)
 have hne : n1 < n := by omega
 clear H hw2 hw3 hi1 hlen1 hl2 hl3 hn1 e0
 by_cases hcap : cap = i1
 · rw [if_pos hcap] at had
   subst had
   have hcn : cap = n := by have := HI.out.1; omega
   subst hcap
   subst hcn
   rw [Nat.sub_self] at r2
   rw [b7] at r3
   go_enter Tryz.func115, Tryz.ntmps115
   go_wp2_with fail
   refine rgn [(0, 1), (1, 1), (2, 1), (3, 1), (4, 1), (5, 1), (6, 2), (7, 1)] [] (fun W => True) (by kernel_rfl) (by kernel_rfl) (fun _ _ _ d _ h => by cases d <;> exact h) trivial ?_
   iterate 6 (refine Run.pu (v := ?_) (a' := ?_) rfl rfl (Or.inl ⟨by rfl, ?_⟩) ?_ ?_; rotate_left 2; (focus (intro W; go_simp; with_reducible rfl)); (focus (simp only [Act.put, zq4, zq5, zq6]; rfl)))
   refine Run.ef rfl (fun K hK => ?_)
   simp only [zq1, zq2, zq3]
   simp only [zq4, zq6, zq5]
   refine Lib.wpList_append_run _ rfl _ _ 81 81 rfl (.slice (some ⟨g, 0, none⟩) i cap) (.slice (some ⟨g, 0, none⟩) 0 0) (by simp [Act.eval]) (by simp [Act.eval]) _ _ r2 ?_
   go_wp2
   refine hK.out _ _ trivial ?_
   clear hK K
   refine Run.pu (v := ?_) (a' := ?_) rfl rfl (Or.inl ⟨by rfl, ?_⟩) ?_ ?_; rotate_left 2; (focus (intro W; go_simp; with_reducible rfl)); (focus (simp only [Act.put, zq4, zq5, zq6]; rfl))
   refine Run.nil ?_
   go_wp2_with fail
   go_ret
   refine ⟨_, rfl, ?_⟩
   rw [← HI.out.2]
   exact HF.out
 · rw [if_neg hcap] at had
   subst had
   have hcapP : (cap = i1) = False := eq_false hcap
   go_enter Tryz.func115, Tryz.ntmps115
   go_wp2_with fail
   refine rgn [(0, 1), (1, 1), (2, 1), (3, 1), (4, 1), (5, 1), (6, 2), (7, 1)] [] (fun W => True) (by kernel_rfl) (by kernel_rfl) (fun _ _ _ d _ h => by cases d <;> exact h) trivial ?_
   iterate 6 (refine Run.pu (v := ?_) (a' := ?_) rfl rfl (Or.inl ⟨by rfl, ?_⟩) ?_ ?_; rotate_left 2; (focus (intro W; go_simp; with_reducible rfl)); (focus (simp only [Act.put, zq4, zq5, zq6]; rfl)))
   refine Run.ef rfl (fun K hK => ?_)
   simp only [zq1, zq2, zq3]
   simp only [zq4, zq6, zq5]
   refine Lib.wpList_append_run _ rfl _ _ 81 81 rfl (.slice (some ⟨g, 0, none⟩) i cap) (.slice (some ⟨g, i1 * 2, none⟩) (n - i1) (cap - i1)) (by simp [Act.eval]) (by simp [Act.eval]) _ _ r2 ?_
   go_wp2
   refine hK.out _ _ trivial ?_
   clear hK K
   refine Run.pu (v := ?_) (a' := ?_) rfl rfl (Or.inl ⟨by rfl, ?_⟩) ?_ ?_; rotate_left 2; (focus (intro W; go_simp; with_reducible rfl)); (focus (simp only [Act.put, zq4, zq5, zq6]; rfl))
   refine Run.nil ?_
   go_wp2_with fail
   go_ret
   refine ⟨_, rfl, ?_⟩
   rw [← HI.out.2]
   exact HF.out
theorem slices_Delete (L : List (Nat × (Obj → Prop))) (R : World → Prop) (w0 w : World) (v : Value) (n i : Nat) (I : Int) (xs : List Value) (H : OwnS [] L R w0 w 99 2 v n xs) (hI : I = (i : Int) + 1) (hi : i < n) (hn : n ≤ 100000) (h2 : ∀ u ∈ xs, u.oneCell' = true) :
 Calls Tryz.prog 115 #[v, .int .i64 i, .int .i64 I] w fun e w' => ∃ v', e = .returned v' ∧ OwnS [] L R w0 w' 99 2 v' (n - 1) (xs.take (i * 2) ++ xs.drop (i * 2 + 2)) := by
 subst hI
 obtain ⟨g, cap, cs, rfl, hnc, hcm, hcl, hct, hw⟩ := H.whole (by omega)
 subst hct
 exact Delete_w L R w0 w g cap n i cs hw hcl hnc hcm hi hn h2
theorem marksV_app (a b : List Mk) : marksV (a ++ b) = marksV a ++ marksV b := by simp [marksV]
theorem marksV_take (l : List Mk) (p : Nat) : (marksV l).take (p * 2) = marksV (l.take p) := by
 induction l generalizing p with
 | nil => simp [marksV]
 | cons a r ih =>
  cases p with
  | zero => simp [marksV]
  | succ p =>
   have e : marksV (a :: r) = .int .i64 (a.1 : Int) :: .int .i64 (a.2 : Int) :: marksV r := rfl
   have e2 : marksV (a :: r.take p) = .int .i64 (a.1 : Int) :: .int .i64 (a.2 : Int) :: marksV (r.take p) := rfl
   rw [e, show (p + 1) * 2 = p * 2 + 1 + 1 by omega, List.take_succ_cons, List.take_succ_cons, List.take_succ_cons, e2, ih]
theorem marksV_drop (l : List Mk) (p : Nat) : (marksV l).drop (p * 2) = marksV (l.drop p) := by
 induction l generalizing p with
 | nil => simp [marksV]
 | cons a r ih =>
  cases p with
  | zero => simp [marksV]
  | succ p =>
   have e : marksV (a :: r) = .int .i64 (a.1 : Int) :: .int .i64 (a.2 : Int) :: marksV r := rfl
   rw [e, show (p + 1) * 2 = p * 2 + 1 + 1 by omega, List.drop_succ_cons, List.drop_succ_cons, List.drop_succ_cons, ih]
theorem marksV_one (l : List Mk) : ∀ u ∈ marksV l, u.oneCell' = true := by
 intro u hu
 unfold marksV at hu
 rw [List.mem_flatMap] at hu
 obtain ⟨p, _, hp⟩ := hu
 simp at hp
 rcases hp with rfl | rfl <;> rfl
/-- marks with another one; without one -/
def putM (l : List Mk) (m : Mk) : List Mk := l.take (posM l m.1) ++ m :: l.drop (posM l m.1)
def delM (l : List Mk) (x : Nat) : List Mk := l.take (posM l x) ++ l.drop (posM l x + 1)
set_option maxHeartbeats 1000000 in
theorem side_Put (A : Option Addr) (c : Nat) (l : List Mk) (m : Mk) (w : World) (h : Row w (.slice A l.length c) l.length (marksV l)) (hs : Sorted l) (hl : l.length ≤ 100000) (hm : hasM l m.1 = false) :
 Calls Tryz.prog 112 #[.slice A l.length c, .agg #[.int .i64 m.1, .int .i64 m.2]] w fun e w' => ∃ v', e = .returned v' ∧ Fr w.heap.size w' 99 v' (l.length + 1) (marksV (putM l m)) ∧ Below w.heap.size w w' := by
 obtain ⟨x, k⟩ := m
 simp only at hm
 have H := As.mk h
 have HF := As.mk (fun W (hr : Row W (.slice A l.length c) l.length (marksV l)) => hm ▸ side_find A c l x W hr hs hl)
 have hlen := marksV_len l
 have HCL := As.mk (fun W (hr : Row W (.slice A l.length c) l.length (marksV l)) => clone_113 A c l.length (marksV l) W hr hlen (marksV_one l) (by omega))
 have HO := As.mk ((Own.start (X := []) w).box #[.int .i64 x, .int .i64 k] 99)
 have hp := posM_le l x
 have hres : (marksV l).take (posM l x * 2) ++ [.int .i64 (x : Int), .int .i64 (k : Int)] ++ (marksV l).drop (posM l x * 2) = marksV (putM l (x, k)) := by
  rw [marksV_take, marksV_drop]
  unfold putM
  rw [show (x, k) :: l.drop (posM l x) = [(x, k)] ++ l.drop (posM l x) from rfl, marksV_app, marksV_app, List.append_assoc]
  rfl
 have HRES := As.mk hres
 obtain ⟨p, hpe⟩ : ∃ p, p = posM l x := ⟨_, rfl⟩
 rw [← hpe] at HF HRES hp
 obtain ⟨xs, hxs⟩ : ∃ xs, xs = marksV l := ⟨_, rfl⟩
 have H1 := As.mk (hxs ▸ marksV_one l)
 rw [← hxs] at H HF HCL HRES
 obtain ⟨n, hn⟩ : ∃ n, n = l.length := ⟨_, rfl⟩
 rw [← hn] at H HF HCL hp hl ⊢
 obtain ⟨ys, hys⟩ : ∃ ys, ys = marksV (putM l (x, k)) := ⟨_, rfl⟩
 rw [← hys] at HRES ⊢
 clear h hs hm hlen hres hpe hxs hn hys
 go_enter Tryz.func112, Tryz.ntmps112
 go_wp2_with fail
 refine (HCL.out _ (H.out.below HO.out.toBelow)).mono ?_
 rintro e w1 ⟨v1, rfl, hk1, hb1⟩
 have HS1 := As.mk (OwnS.ofRow HO.out hb1 hk1)
 have z0 := HS1.out.rest.get (g := w.heap.size) (e := 99) (cs := [.int .i64 x, .int .i64 k]) List.mem_cons_self 0 (by simp)
 clear hk1 hb1 HCL
 go_wp2_with fail
 refine (HF.out _ (H.out.below HS1.out.rest.toBelow)).mono ?_
 rintro e w2 ⟨rfl, hb2⟩
 have HS2 := As.mk (HS1.out.below hb2)
 have y0 := HS2.out.rest.get (g := w.heap.size) (e := 99) (cs := [.int .i64 x, .int .i64 k]) List.mem_cons_self 0 (by simp)
 have y1 := HS2.out.rest.get (g := w.heap.size) (e := 99) (cs := [.int .i64 x, .int .i64 k]) List.mem_cons_self 1 (by simp)
 clear hb2 z0 HS1 HF
 have HS3 := As.mk (HS2.out.box #[.int .i64 x, .int .i64 k] 99)
 go_wp2_with fail
 refine (slices_Insert _ _ w _ v1 n p w2.heap.size xs (.int .i64 x) (.int .i64 k) HS3.out List.mem_cons_self hp hl (by intro u hu; simp at hu; rcases hu with rfl | rfl <;> rfl) H1.out).mono ?_
 rintro e w3 ⟨v3, rfl, hw3⟩
 rw [HRES.out] at hw3
 have HW := As.mk hw3
 clear hw3
 go_wp2
 go_ret
 exact ⟨_, rfl, HW.out.fr, HW.out.rest.toBelow⟩
set_option maxHeartbeats 1000000 in
theorem side_Take (A : Option Addr) (c : Nat) (l : List Mk) (x k : Nat) (w : World) (h : Row w (.slice A l.length c) l.length (marksV l)) (hs : Sorted l) (hl : l.length ≤ 100000) (hm : (x, k) ∈ l) :
 Calls Tryz.prog 105 #[.slice A l.length c, .int .i64 x] w fun e w' => ∃ v', e = .returned (.tuple #[v', .int .i64 k, .bool true]) ∧ Fr w.heap.size w' 99 v' (l.length - 1) (marksV (delM l x)) ∧ Below w.heap.size w w' := by
 have hhas : hasM l x = true := List.any_eq_true.2 ⟨_, hm, by simp⟩
 have hat : l[posM l x]? = some (x, k) := by
  obtain ⟨q, hq, hqx⟩ := (hasM_at l x hs).1 hhas
  obtain ⟨j, hj⟩ := List.mem_iff_getElem?.1 hm
  have h1 := posM_spec l x hs j (x, k) hj
  have h2 := posM_spec l x hs _ q hq
  have hjl := (List.getElem?_eq_some_iff.1 hj).1
  have hql := (List.getElem?_eq_some_iff.1 hq).1
  rcases Nat.lt_trichotomy (posM l x) j with h3 | h3 | h3
  · exfalso
    have := List.pairwise_iff_getElem.1 hs _ _ hql hjl h3
    rw [List.getElem?_eq_getElem hql] at hq
    rw [List.getElem?_eq_getElem hjl] at hj
    injection hq with hq
    injection hj with hj
    rw [hq, hj] at this
    simp only at this
    omega
  · rw [h3]; exact hj
  · exfalso
    have := h1.2 h3
    simp at this
 have H := As.mk h
 have HF := As.mk (fun W (hr : Row W (.slice A l.length c) l.length (marksV l)) => hhas ▸ side_find A c l x W hr hs hl)
 have hlen := marksV_len l
 have HCL := As.mk (fun W (hr : Row W (.slice A l.length c) l.length (marksV l)) => clone_113 A c l.length (marksV l) W hr hlen (marksV_one l) (by omega))
 have HO := As.mk (Own.start (X := []) w)
 have hp : posM l x < l.length := (List.getElem?_eq_some_iff.1 hat).1
 have hres : (marksV l).take (posM l x * 2) ++ (marksV l).drop (posM l x * 2 + 2) = marksV (delM l x) := by
  rw [marksV_take, show posM l x * 2 + 2 = (posM l x + 1) * 2 by omega, marksV_drop]
  unfold delM
  rw [marksV_app]
 have HRES := As.mk hres
 obtain ⟨b, o, rfl, hnc, hcell⟩ := h.cell (by rw [hlen]; omega)
 have z9 := hcell _ _ (marksV_at l _ _ hat).2
 rw [← Nat.add_assoc] at z9
 simp only at z9
 have Z9 := As.mk z9
 obtain ⟨p, hpe⟩ : ∃ p, p = posM l x := ⟨_, rfl⟩
 rw [← hpe] at HF HRES hp Z9
 obtain ⟨xs, hxs⟩ : ∃ xs, xs = marksV l := ⟨_, rfl⟩
 have H1 := As.mk (hxs ▸ marksV_one l)
 rw [← hxs] at H HF HCL HRES
 obtain ⟨n, hn⟩ : ∃ n, n = l.length := ⟨_, rfl⟩
 rw [← hn] at H HF HCL hp hl ⊢
 obtain ⟨ys, hys⟩ : ∃ ys, ys = marksV (delM l x) := ⟨_, rfl⟩
 rw [← hys] at HRES ⊢
 clear h hs hm hlen hres hpe hxs hn hys hhas hat hcell hnc z9
 go_enter Tryz.func105, Tryz.ntmps105
 go_wp2_with fail
 refine (HCL.out _ (H.out.below HO.out.toBelow)).mono ?_
 rintro e w1 ⟨v1, rfl, hk1, hb1⟩
 have HS1 := As.mk (OwnS.ofRow HO.out hb1 hk1)
 clear hk1 hb1 HCL
 go_wp2_with fail
 refine (HF.out _ (H.out.below HS1.out.rest.toBelow)).mono ?_
 rintro e w2 ⟨rfl, hb2⟩
 have HS2 := As.mk (HS1.out.below hb2)
 clear hb2 HS1 HF
 have HZ := As.mk (show ∀ W, Below w.heap.size w W → W.cell? ⟨b, o + p * 2 + 1, none⟩ = some (.int .i64 k) from fun W hb => cell_below hb Z9.out)
 have a1 : IntKind.i64.wrap (p : Int) = (p : Int) := iw64 _ (by omega) (by omega)
 have a2 : ((p : Int) < (n : Int)) = True := eq_true (by omega)
 have a3 : (p < n) = True := eq_true (by omega)
 have a4 : (0 : Int) ≤ (p : Int) := by omega
 go_wp2_with fail
 refine rgn [(0, 1), (1, 1), (2, 1), (3, 1), (5, 1), (6, 1), (7, 1), (8, 1), (9, 0), (4, 2), (10, 1), (11, 1), (12, 1)] [] (fun W => W.cell? ⟨b, o + p * 2 + 1, none⟩ = some (.int .i64 k)) (by kernel_rfl) (by kernel_rfl) (fun _ _ _ d _ h => by cases d <;> exact h) (HZ.out _ HS2.out.drew.rest.toBelow) ?_
 iterate 8 (refine Run.pu (v := ?_) (a' := ?_) rfl rfl (Or.inl ⟨by rfl, ?_⟩) ?_ ?_; rotate_left 2; (focus (intro W; go_simp; with_reducible rfl)); (focus (simp only [Act.put, zq4, zq5, zq6]; rfl)))
 refine Run.rd (v := ?_) (a' := ?_) rfl rfl (Or.inl ⟨by rfl, ?_⟩) ?_ ?_; rotate_left 2; (focus (intro W hW; go_simp; with_reducible rfl)); (focus (simp only [Act.put, zq4, zq5, zq6]; rfl))
 refine Run.ef rfl (fun K hK => ?_)
 simp only [zq1, zq2, zq3]
 go_wp2_with fail
 refine (slices_Delete _ _ w _ v1 n p _ xs HS2.out.drew ?_ hp hl H1.out).mono ?_
 · first | rfl | omega
 rintro e w3 ⟨v3, rfl, hw3⟩
 rw [HRES.out] at hw3
 have HW := As.mk hw3
 clear hw3
 go_wp2
 refine hK.out _ _ (HZ.out _ HW.out.rest.toBelow) ?_
 clear hK K
 iterate 3 (refine Run.pu (v := ?_) (a' := ?_) rfl rfl (Or.inl ⟨by rfl, ?_⟩) ?_ ?_; rotate_left 2; (focus (intro W; go_simp; with_reducible rfl)); (focus (simp only [Act.put, zq4, zq5, zq6]; rfl)))
 refine Run.nil ?_
 simp only [zq1, zq2, zq3]
 go_wp2
 refine bodyPost_ret (v := .tuple #[v3, .int .i64 k, .bool true]) (by simp [results, Tryz.f105, go_sem]) rfl ?_
 exact ⟨_, rfl, HW.out.fr, HW.out.rest.toBelow⟩
end Go.Proofs.YtmookafmdonopaaGreat.Top
/- place.New, place.twin walked. -/
namespace Go.Proofs.YtmookafmdonopaaGreat.Top
open Go Go.RowKit
set_option linter.unusedVariables false
set_option linter.unusedSimpArgs false
attribute [local go_sem] max2_int min2_int max_two min_two max_three

/-- an engine's slots and marks, read -/
def EngR (w : World) (t s : Value) (L n : Nat) (b : Nat → Bool) (l : List Mk) : Prop :=
 TrR w t L (fun k => n / 2 ^ k) (fun k => lvs (n / 2 ^ k) (bk b k)) ∧ Row w s l.length (marksV l)
def EngF (base : Nat) (w : World) (t s : Value) (L n : Nat) (b : Nat → Bool) (l : List Mk) : Prop := ∀ W : World, (∀ k, base ≤ k → k < w.heap.size → W.heap[k]? = w.heap[k]?) → EngR W t s L n b l
theorem EngR.below {w w1 : World} {t s : Value} {L n : Nat} {b : Nat → Bool} {l : List Mk} (h : EngR w t s L n b l) (hb : Below w.heap.size w w1) : EngR w1 t s L n b l := ⟨h.1.below hb, h.2.below hb⟩
theorem EngF.now {base : Nat} {w : World} {t s : Value} {L n : Nat} {b : Nat → Bool} {l : List Mk} (h : EngF base w t s L n b l) : EngR w t s L n b l := h w fun _ _ _ => rfl
theorem Row.nilS (w : World) : Row w (.slice none 0 0) 0 [] := ⟨none, 0, rfl, Nat.le_refl _, Or.inl rfl⟩
theorem pow_and (m : Nat) (hm : m ≤ 30) : Go.bits .and .i64 ((2 ^ m : Nat) : Int) (((2 ^ m : Nat) : Int) - 1) = 0 := by
 have : ∀ m : Nat, m ≤ 30 → Go.bits .and .i64 ((2 ^ m : Nat) : Int) (((2 ^ m : Nat) : Int) - 1) = 0 := by decide
 exact this m hm
theorem bk_no (k i : Nat) : bk noB k i = false := by
 induction k generalizing i with
 | zero => rfl
 | succ k ih => unfold bk; rw [ih, ih]; rfl
theorem bk_noB (k : Nat) : bk noB k = noB := funext fun i => bk_no k i
set_option maxHeartbeats 1000000 in
theorem place_New (G m n L : Nat) (w : World) (hG : G = 2 ^ m) (hm : m ≤ 12) (h1 : 1 ≤ n) (h2 : n ≤ 4096) (hL : 1 ≤ L) (hL2 : L ≤ 17) (hd : 2 ^ (L - 1) ∣ n) (hGn : n * G ≤ 65536) :
 Calls Tryz.prog 34 #[.int .i64 G, .int .i64 n, .int .i64 L] w fun e w' => ∃ t, e = .returned (.tuple #[.agg #[.int .i64 G, t, .slice none 0 0], .bool true]) ∧ EngF w.heap.size w' t (.slice none 0 0) L n noB [] ∧ Below w.heap.size w w' := by
 have hG1 : 1 ≤ G := hG ▸ Nat.one_le_two_pow
 have hG2 : G ≤ 4096 := hG ▸ Nat.pow_le_pow_right (by decide) hm
 have hand : Go.bits .and .i64 (G : Int) ((G : Int) - 1) = 0 := by rw [hG]; exact pow_and m (by omega)
 have c1 : ((G : Int) < 1) = False := eq_false (by omega)
 have c2 : (65536 < (G : Int)) = False := eq_false (by omega)
 have c2' : (65536 < G) = False := eq_false (by omega)
 obtain ⟨q, hq⟩ : ∃ q, q = 65536 / G := ⟨_, rfl⟩
 have hnq : n ≤ q := by rw [hq]; exact (Nat.le_div_iff_mul_le (by omega)).2 hGn
 have hq6 : q ≤ 65536 := hq ▸ Nat.div_le_self _ _
 have hwq : wrap64 (q : Int) = (q : Int) := w64 _ (by omega) (by omega)
 have c3 : ((q : Int) < (n : Int)) = False := eq_false (Int.not_lt.2 (Int.ofNat_le.2 hnq))
 have c3' : (q < n) = False := eq_false (Nat.not_lt.2 hnq)
 have c4 : (G = 0) = False := eq_false (by omega)
 have c5 : ((L : Int) == 0) = false := beqF (by omega)
 have hqi : (65536 : Int) / (G : Int) = (q : Int) := by rw [hq, Int.natCast_ediv]; simp
 have hqt : Int.tdiv 65536 (G : Int) = (q : Int) := by rw [Int.tdiv_eq_ediv_of_nonneg (by omega)]; exact hqi
 clear hq
 have HSN := As.mk (fun W => slots_New n L W h1 h2 hL hL2 hd)
 have HO := As.mk ((Own.start (X := []) w).box #[.int .i64 0, .slice none 0 0, .slice none 0 0] 83)
 clear hG hd hGn
 go_enter Tryz.func34, Tryz.ntmps34
 go_wp2_with fail
 refine (HSN.out _).mono ?_
 rintro e w1 ⟨t, rfl, ht, hb⟩
 obtain ⟨g, cc, rfl⟩ := (ht w1 fun _ _ _ => rfl).ge
 have HO1 := As.mk (HO.out.result (R' := fun W => TrR W (.slice (some ⟨g, 0, none⟩) L cc) L (fun k => n / 2 ^ k) (fun k => lvs (n / 2 ^ k) noB)) hb (fun W hW => ht W hW))
 clear ht hb HO HSN
 have HO2 := As.mk (HO1.out.box #[.slice (some ⟨g, 0, none⟩) L cc] 80)
 have y0 := HO2.out.get (g := w.heap.size) (e := 83) (cs := [.int .i64 0, .slice none 0 0, .slice none 0 0]) (by simp) 0 (by simp)
 have y1 := HO2.out.get (g := w.heap.size) (e := 83) (cs := [.int .i64 0, .slice none 0 0, .slice none 0 0]) (by simp) 1 (by simp)
 have y2 := HO2.out.get (g := w.heap.size) (e := 83) (cs := [.int .i64 0, .slice none 0 0, .slice none 0 0]) (by simp) 2 (by simp)
 have f0 := HO2.out.frozen (g := w.heap.size) (e := 83) (cs := [.int .i64 0, .slice none 0 0, .slice none 0 0]) (by simp) 0
 have f1 := HO2.out.frozen (g := w.heap.size) (e := 83) (cs := [.int .i64 0, .slice none 0 0, .slice none 0 0]) (by simp) 1
 have f2 := HO2.out.frozen (g := w.heap.size) (e := 83) (cs := [.int .i64 0, .slice none 0 0, .slice none 0 0]) (by simp) 2
 go_wp2_with fail
 have HF := As.mk (((HO2.out.set 1 (g := w.heap.size) (e := 83) (cs := [.int .i64 0, .slice none 0 0, .slice none 0 0]) rfl 0 (.int .i64 G) (by simp)).set 1 (g := w.heap.size) (e := 83) (cs := [.int .i64 G, .slice none 0 0, .slice none 0 0]) rfl 1 (.slice (some ⟨g, 0, none⟩) L cc) (by simp)).set 1 (g := w.heap.size) (e := 83) (cs := [.int .i64 G, .slice (some ⟨g, 0, none⟩) L cc, .slice none 0 0]) rfl 2 (.slice none 0 0) (by simp))
 refine bodyPost_ret (v := .tuple #[.agg #[.int .i64 G, .slice (some ⟨g, 0, none⟩) L cc, .slice none 0 0], .bool true]) (by simp [results, Tryz.f34, go_sem, *]) rfl ?_
 refine ⟨_, rfl, fun W hW => ⟨?_, Row.nilS W⟩, HF.out.toBelow⟩
 simp only [bk_noB]
 exact (HF.out.ro W fun k hk h0 _ => hW k h0 hk).2
theorem Row.slice_ {w : World} {v : Value} {n : Nat} {cs : List Value} (h : Row w v n cs) : ∃ A c, v = .slice A n c := by
 obtain ⟨A, c, h1, _⟩ := h
 exact ⟨A, c, h1⟩
theorem EngF.of {base : Nat} {w : World} {t s : Value} {L n : Nat} {b : Nat → Bool} {l : List Mk} (h : ∀ W : World, (∀ k, base ≤ k → k < w.heap.size → W.heap[k]? = w.heap[k]?) → EngR W t s L n b l) : EngF base w t s L n b l := h
/-- an engine's cells -/
def EL (h G : Nat) (t s : Value) : Nat × (Obj → Prop) := (h, EC 83 [.int .i64 G, t, s])
set_option maxHeartbeats 1000000 in
theorem place_twin (G L n : Nat) (t s : Value) (b : Nat → Bool) (l : List Mk) (w : World) (h : EngR w t s L n b l) (hL : 1 ≤ L) (hL2 : L ≤ 17) (hn : n ≤ 4096) (hl : l.length ≤ 100000) :
 Calls Tryz.prog 106 #[.agg #[.int .i64 G, t, s]] w fun e w' => ∃ t' s', e = .returned (.agg #[.int .i64 G, t', s']) ∧ EngF w.heap.size w' t' s' L n b l ∧ Below w.heap.size w w' := by
 obtain ⟨g, c, rfl⟩ := h.1.ge
 obtain ⟨A, d, rfl⟩ := h.2.slice_
 have H := As.mk h
 have hsz : ∀ k, k < L → n / 2 ^ k ≤ 65536 := fun k _ => Nat.le_trans (Nat.div_le_self _ _) (by omega)
 have HUS := As.mk (fun W (hr : EngR W (.slice (some ⟨g, 0, none⟩) L c) (.slice A l.length d) L n b l) => slots_Use_no _ L (fun k => n / 2 ^ k) (fun k => bk b k) W hr.1 hL hL2 hsz)
 have HCL := As.mk (fun W (hr : EngR W (.slice (some ⟨g, 0, none⟩) L c) (.slice A l.length d) L n b l) => clone_113 A d l.length (marksV l) W hr.2 (marksV_len l) (marksV_one l) (by omega))
 have HO := As.mk (((Own.start (X := []) w).box #[.int .i64 G, .slice (some ⟨g, 0, none⟩) L c, .slice A l.length d] 83).box #[.int .i64 0, .slice none 0 0, .slice none 0 0] 83)
 clear h hsz
 go_enter Tryz.func106, Tryz.ntmps106
 have ho := HO.out
 rw [World.size_alloc] at ho
 have HO0 := As.mk ho
 clear ho HO
 have HS := As.mk (show ∀ (W : World) (R : World → Prop), Own [] [(w.heap.size + 1, EC 83 [.int .i64 0, .slice none 0 0, .slice none 0 0]), (w.heap.size, EC 83 [.int .i64 G, .slice (some ⟨g, 0, none⟩) L c, .slice A l.length d])] R w W → W.cell? ⟨w.heap.size, 1, none⟩ = some (.slice (some ⟨g, 0, none⟩) L c) ∧ W.cell? ⟨w.heap.size, 2, none⟩ = some (.slice A l.length d) from
  fun W R h => ⟨h.get (g := w.heap.size) (e := 83) (cs := [.int .i64 G, .slice (some ⟨g, 0, none⟩) L c, .slice A l.length d]) (by simp) 1 (by simp), h.get (g := w.heap.size) (e := 83) (cs := [.int .i64 G, .slice (some ⟨g, 0, none⟩) L c, .slice A l.length d]) (by simp) 2 (by simp)⟩)
 go_wp2_with fail
 refine rgn [(0, 1), (1, 0), (3, 1), (4, 0), (2, 2), (6, 1), (5, 2), (7, 3), (8, 1), (9, 3)] [7, 9] (fun W => W.cell? ⟨w.heap.size, 1, none⟩ = some (.slice (some ⟨g, 0, none⟩) L c) ∧ W.cell? ⟨w.heap.size, 2, none⟩ = some (.slice A l.length d)) (by kernel_rfl) (by kernel_rfl) (fun _ _ _ d _ h => by cases d <;> exact h) (HS.out _ _ HO0.out.drew) ?_
 refine Run.pu (v := ?_) (a' := ?_) rfl rfl (Or.inl ⟨by rfl, ?_⟩) ?_ ?_; rotate_left 2; (focus (intro W; go_simp; with_reducible rfl)); (focus (simp only [Act.put, zq4, zq5, zq6]; rfl))
 refine Run.rd (v := ?_) (a' := ?_) rfl rfl (Or.inl ⟨by rfl, ?_⟩) ?_ ?_; rotate_left 2; (focus (rintro W ⟨hW1, hW2⟩; go_simp; with_reducible rfl)); (focus (simp only [Act.put, zq4, zq5, zq6]; rfl))
 refine Run.pu (v := ?_) (a' := ?_) rfl rfl (Or.inl ⟨by rfl, ?_⟩) ?_ ?_; rotate_left 2; (focus (intro W; go_simp; with_reducible rfl)); (focus (simp only [Act.put, zq4, zq5, zq6]; rfl))
 refine Run.rd (v := ?_) (a' := ?_) rfl rfl (Or.inl ⟨by rfl, ?_⟩) ?_ ?_; rotate_left 2; (focus (rintro W ⟨hW1, hW2⟩; go_simp; with_reducible rfl)); (focus (simp only [Act.put, zq4, zq5, zq6]; rfl))
 refine Run.ef rfl (fun K hK => ?_)
 simp only [zq1, zq2, zq3]
 go_wp2_with fail
 refine (HUS.out _ (H.out.below HO0.out.drew.toBelow)).mono ?_
 rintro e w1 ⟨t1, rfl, ht, hb⟩
 obtain ⟨g1, c1, rfl⟩ := (ht w1 fun _ _ _ => rfl).ge
 have HO1 := As.mk (HO0.out.drew.result (R' := fun W => TrR W (.slice (some ⟨g1, 0, none⟩) L c1) L (fun k => n / 2 ^ k) (fun k => lvs (n / 2 ^ k) (bk b k))) hb (fun W hW => ht W hW))
 clear ht hb HO0 HUS
 go_wp2
 refine hK.out _ _ (HS.out _ _ HO1.out) ?_
 clear hK K
 refine Run.pu (v := ?_) (a' := ?_) rfl rfl (Or.inl ⟨by rfl, ?_⟩) ?_ ?_; rotate_left 2; (focus (intro W; go_simp; with_reducible rfl)); (focus (simp only [Act.put, zq4, zq5, zq6]; rfl))
 refine Run.ef rfl (fun K hK => ?_)
 simp only [zq1, zq2, zq3]
 go_wp2_with fail
 refine (HCL.out _ (H.out.below HO1.out.toBelow)).mono ?_
 rintro e w2 ⟨v2, rfl, hk2, hb2⟩
 have hfr := (OwnS.ofRow (Own.start (X := []) w1) hb2 hk2).fr
 obtain ⟨A2, d2, rfl⟩ := hfr.slice
 have HO2 := As.mk (HO1.out.result (R' := fun W => Row W (.slice A2 l.length d2) l.length (marksV l)) hb2 (fun W hW => hfr.row hW))
 clear hk2 hb2 hfr HO1 HCL
 go_wp2
 refine hK.out _ _ (HS.out _ _ HO2.out) ?_
 clear hK K
 refine Run.la rfl (fun K hK => ?_)
 simp only [zq1, zq2, zq3]
 have HO3 := As.mk ((HO2.out.set 1 (g := w.heap.size) (e := 83) (cs := [.int .i64 G, .slice (some ⟨g, 0, none⟩) L c, .slice A l.length d]) rfl 1 (.slice (some ⟨g1, 0, none⟩) L c1) (by simp)).set 1 (g := w.heap.size) (e := 83) (cs := [.int .i64 G, .slice (some ⟨g1, 0, none⟩) L c1, .slice A l.length d]) rfl 2 (.slice A2 l.length d2) (by simp))
 have z1 := (HS.out _ _ HO2.out).1
 have z2 := (HS.out _ _ HO2.out).2
 have z0 := HO2.out.get (g := w.heap.size) (e := 83) (cs := [.int .i64 G, .slice (some ⟨g, 0, none⟩) L c, .slice A l.length d]) (by simp) 0 (by simp)
 have f1 := HO2.out.frozen (g := w.heap.size) (e := 83) (cs := [.int .i64 G, .slice (some ⟨g, 0, none⟩) L c, .slice A l.length d]) (by simp) 1
 have f2 := HO2.out.frozen (g := w.heap.size) (e := 83) (cs := [.int .i64 G, .slice (some ⟨g, 0, none⟩) L c, .slice A l.length d]) (by simp) 2
 go_wp2
 refine hK.out _ _ ?_
 clear hK K
 refine Run.pu (v := ?_) (a' := ?_) rfl rfl (Or.inl ⟨by rfl, ?_⟩) ?_ ?_; rotate_left 2; (focus (intro W; go_simp; with_reducible rfl)); (focus (simp only [Act.put, zq4, zq5, zq6]; rfl))
 refine Run.la rfl (fun K hK => ?_)
 simp only [zq1, zq2, zq3]
 go_wp2
 refine hK.out _ _ ?_
 clear hK K
 refine Run.nil ?_
 clear z0 z1 z2 f1 f2 HO2 HS
 obtain ⟨w3, hw3⟩ : ∃ w3, w3 = (w2.setCell ⟨w.heap.size, 1, none⟩ (.slice (some ⟨g1, 0, none⟩) L c1)).setCell ⟨w.heap.size, 2, none⟩ (.slice A2 l.length d2) := ⟨_, rfl⟩
 simp only [zq6, zq5] at HO3
 rw [← hw3] at HO3 ⊢
 clear hw3
 have y0 := HO3.out.get (g := w.heap.size) (e := 83) (cs := [.int .i64 G, .slice (some ⟨g1, 0, none⟩) L c1, .slice A2 l.length d2]) (by simp) 0 (by simp)
 have y1 := HO3.out.get (g := w.heap.size) (e := 83) (cs := [.int .i64 G, .slice (some ⟨g1, 0, none⟩) L c1, .slice A2 l.length d2]) (by simp) 1 (by simp)
 have y2 := HO3.out.get (g := w.heap.size) (e := 83) (cs := [.int .i64 G, .slice (some ⟨g1, 0, none⟩) L c1, .slice A2 l.length d2]) (by simp) 2 (by simp)
 have x0 := HO3.out.get (g := w.heap.size + 1) (e := 83) (cs := [.int .i64 0, .slice none 0 0, .slice none 0 0]) (by simp) 0 (by simp)
 have x1 := HO3.out.get (g := w.heap.size + 1) (e := 83) (cs := [.int .i64 0, .slice none 0 0, .slice none 0 0]) (by simp) 1 (by simp)
 have x2 := HO3.out.get (g := w.heap.size + 1) (e := 83) (cs := [.int .i64 0, .slice none 0 0, .slice none 0 0]) (by simp) 2 (by simp)
 have f0 := HO3.out.frozen (g := w.heap.size + 1) (e := 83) (cs := [.int .i64 0, .slice none 0 0, .slice none 0 0]) (by simp) 0
 have f1 := HO3.out.frozen (g := w.heap.size + 1) (e := 83) (cs := [.int .i64 0, .slice none 0 0, .slice none 0 0]) (by simp) 1
 have f2 := HO3.out.frozen (g := w.heap.size + 1) (e := 83) (cs := [.int .i64 0, .slice none 0 0, .slice none 0 0]) (by simp) 2
 have HF := As.mk (((HO3.out.set 0 (g := w.heap.size + 1) (e := 83) (cs := [.int .i64 0, .slice none 0 0, .slice none 0 0]) rfl 0 (.int .i64 G) (by simp)).set 0 (g := w.heap.size + 1) (e := 83) (cs := [.int .i64 G, .slice none 0 0, .slice none 0 0]) rfl 1 (.slice (some ⟨g1, 0, none⟩) L c1) (by simp)).set 0 (g := w.heap.size + 1) (e := 83) (cs := [.int .i64 G, .slice (some ⟨g1, 0, none⟩) L c1, .slice none 0 0]) rfl 2 (.slice A2 l.length d2) (by simp))
 go_wp2
 refine bodyPost_ret (v := .agg #[.int .i64 G, .slice (some ⟨g1, 0, none⟩) L c1, .slice A2 l.length d2]) (by simp [results, Tryz.f106, go_sem, *]) rfl ?_
 refine ⟨_, _, rfl, fun W hW => ?_, HF.out.toBelow⟩
 have h9 := HF.out.ro W fun k hk h0 _ => hW k h0 hk
 exact ⟨h9.1.2, h9.2⟩
end Go.Proofs.YtmookafmdonopaaGreat.Top
