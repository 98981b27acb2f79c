/- (*heap.Heap).asks, aligned walked. -/
import Derived.Test.YtmookafmdonopaaGreatM16
/- (*heap.Heap).asks, aligned walked. -/
namespace Go.Proofs.YtmookafmdonopaaGreat.Top
open Go Go.RowKit Go.Instr Go.ChangeMaps
set_option linter.unusedVariables false
set_option linter.unusedSimpArgs false
attribute [local go_sem] max2_int min2_int max_two min_two max_three

/-- what a call is told -/
structure An where
 (err at_ n byte live peak mark pages : Int)
def An.v (a : An) : Value := .agg #[.int .i64 a.err, .int .i64 a.at_, .int .i64 a.n, .int .u8 a.byte, .int .i64 a.live, .int .i64 a.peak, .int .i64 a.mark, .int .i64 a.pages]
def An.no (e : Int) : An := ⟨e, 0, 0, 0, 0, 0, 0, 0⟩
def An.z : List Value := [.int .i64 0, .int .i64 0, .int .i64 0, .int .u8 0, .int .i64 0, .int .i64 0, .int .i64 0, .int .i64 0]
section
variable {h : Nat} {c : Cf} {s : Hs} {mem : List Nat} {L : List (Nat × (Obj → Prop))} {R : World → Prop} {w0 w w1 : World} {g e : Nat} {cs : List Value} {p : Obj → Prop}
theorem HW.below (H : HW h c s mem L R w0 w) (hb : Below w.heap.size w w1) : HW h c s mem L R w0 w1 := by
 obtain ⟨a, d, b1, b2, b3⟩ := H
 exact ⟨a, d, b1, b2, b3.below hb⟩
theorem HW.drew (H : HW h c s mem L R w0 w) : HW h c s mem L R w0 w.drew := H.below ⟨rfl, rfl, rfl, Nat.le_refl _, fun _ _ => rfl⟩
theorem Own.move4 {X : List Nat} {a1 a2 a3 a4 x : Nat × (Obj → Prop)} (h : Own X (x :: a1 :: a2 :: a3 :: a4 :: L) R w0 w) : Own X (a1 :: a2 :: a3 :: a4 :: x :: L) R w0 w := by
 have hp : (a1 :: a2 :: a3 :: a4 :: x :: L).Perm (x :: a1 :: a2 :: a3 :: a4 :: L) := by
  have := @List.perm_middle _ x [a1, a2, a3, a4] L
  simpa using this
 exact h.sub ((hp.map Prod.fst).nodup_iff.2 h.nd) fun y hy => hp.mem_iff.1 hy
theorem HW.box (H : HW h c s mem L R w0 w) (cs : Array Value) (e : TypeId) : HW h c s mem ((w.heap.size, EC e cs.toList) :: L) R w0 (w.alloc (.cells cs e)) := by
 obtain ⟨a, d, b1, b2, b3⟩ := H
 exact ⟨a, d, b1, b2, (b3.box cs e).move4⟩
theorem HW.drop (H : HW h c s mem ((g, p) :: L) R w0 w) : HW h c s mem L R w0 w := by
 obtain ⟨a, d, b1, b2, b3⟩ := H
 refine ⟨a, d, b1, b2, ?_⟩
 exact ((b3.front 4 rfl).drop)
theorem HW.rd (H : HW h c s mem L R w0 w) (hm : (g, EC e cs) ∈ L) (o : Nat) (ho : o < cs.length) : w.cell? ⟨g, o, none⟩ = cs[o]? := by
 obtain ⟨a, d, b1, b2, b3⟩ := H
 exact b3.get (List.mem_cons_of_mem _ (List.mem_cons_of_mem _ (List.mem_cons_of_mem _ (List.mem_cons_of_mem _ hm)))) o ho
theorem HW.frz (H : HW h c s mem L R w0 w) (hm : (g, EC e cs) ∈ L) (o : Nat) : w.frozen? ⟨g, o, none⟩ = false := by
 obtain ⟨a, d, b1, b2, b3⟩ := H
 exact b3.frozen (List.mem_cons_of_mem _ (List.mem_cons_of_mem _ (List.mem_cons_of_mem _ (List.mem_cons_of_mem _ hm)))) o
theorem HW.set (H : HW h c s mem L R w0 w) (i : Nat) (hi : L[i]? = some (g, EC e cs)) (o : Nat) (u : Value) (ho : o < cs.length) : HW h c s mem (L.set i (g, EC e (cs.set o u))) R w0 (w.setCell ⟨g, o, none⟩ u) := by
 obtain ⟨a, d, b1, b2, b3⟩ := H
 exact ⟨a, d, b1, b2, b3.set (i + 4) hi o u ho⟩
theorem HW.hc (H : HW h c s mem L R w0 w) : ∃ d : Hd, HcR w h c d.t d.sd d.gm (sumB c s.bl) s.peak s.mark (d.met c) (d.on c) (d.mem c) ∧ c.H / c.Page ≤ d.cap ∧ c.H ≤ d.capy ∧ (∀ o, o < c.H → w.cell? ⟨d.gy, o, none⟩ = (bytesV mem)[o]?) ∧ (∀ o, w.frozen? ⟨d.gy, o, none⟩ = false) ∧ Row w (d.met c) (c.H / c.Page) (natsV (metN c s.bl)) ∧ Row w (d.on c) (c.H / c.Page) (s.on.map Value.bool) ∧ EngR w d.t d.sd (c.L + 1) (c.H / c.G) (bitsB c s.bl) (marksB s.bl) := by
 obtain ⟨a, d, b1, b2, b3⟩ := H
 exact ⟨d, b3.hc me1, b1, b2, fun o ho => b3.get me3 o (by rw [bytesV_len, a]; exact ho), fun o => b3.frozen me3 o, (b3.fr me0 b1).now, b3.now.2.2, b3.now.2.1⟩
theorem HW.size (H : HW h c s mem L R w0 w) : w0.heap.size ≤ w.heap.size := by
 obtain ⟨a, d, b1, b2, b3⟩ := H
 exact b3.size
end
/-- what is charged is a class's -/
theorem chg_ok {c : Cf} (hg : Good c) {s a : Int} (ha : GoodA a) (h : (chg c s a).2 = 0) : ∃ k, (chg c s a).1 = ((c.G * 2 ^ k : Nat) : Int) ∧ k ≤ c.L ∧ 0 ≤ s ∧ s ≤ ((c.G * 2 ^ k : Nat) : Int) ∧ a ≤ ((c.G * 2 ^ k : Nat) : Int) := by
 unfold chg at h ⊢
 split at h
 · cases h
 · rename_i h1
   rw [if_neg h1]
   split at h
   · cases h
   · rename_i h2
     rw [if_neg h2]
     obtain ⟨g, pg, kk, e1, e2, _⟩ := hg.pow
     obtain ⟨x, hx⟩ : ∃ x, x = (max (max s a) c.G).toNat := ⟨_, rfl⟩
     have hG := hg.g1
     obtain ⟨j, u1, u2, u3⟩ := upN_spec x (by omega)
     have hxn : x ≤ c.N := by have := hg.n1; omega
     rw [← hx]
     have hgj : g ≤ j := (Nat.pow_le_pow_iff_right (a := 2) (by decide)).1 (by rw [← e1, ← u1]; omega)
     have hjn : j ≤ g + c.L := by
      rcases Nat.lt_or_ge (g + c.L) j with h3 | h3
      · exfalso
        have h4 : 2 ^ (g + c.L + 1) ≤ 2 ^ j := Nat.pow_le_pow_right (by decide) h3
        rw [Nat.pow_succ, ← e2, ← u1] at h4
        omega
      · exact h3
     have e3 : upN x = c.G * 2 ^ (j - g) := by rw [u1, e1, ← Nat.pow_add]; congr 1; omega
     refine ⟨j - g, by rw [e3], by omega, by omega, ?_, ?_⟩
     · rw [← e3]; omega
     · rw [← e3]; omega
theorem adm_ok {c : Cf} (hg : Good c) {live s a : Int} (ha : GoodA a) (h : (adm c live s a).2 = 0) : ∃ k, (adm c live s a).1 = ((c.G * 2 ^ k : Nat) : Int) ∧ k ≤ c.L ∧ 0 ≤ s ∧ s ≤ ((c.G * 2 ^ k : Nat) : Int) ∧ a ≤ ((c.G * 2 ^ k : Nat) : Int) ∧ live + ((c.G * 2 ^ k : Nat) : Int) ≤ c.M := by
 unfold adm at h ⊢
 by_cases h1 : (chg c s a).2 ≠ 0
 · rw [if_pos h1] at h
   exact absurd h h1
 · rw [if_neg h1] at h ⊢
   obtain ⟨k, k1, k2, k3, k4, k5⟩ := chg_ok hg ha (Decidable.not_not.1 h1)
   by_cases h2 : live + (chg c s a).1 > c.M
   · rw [if_pos h2] at h
     cases h
   · rw [if_neg h2]
     rw [k1] at h2
     exact ⟨k, k1, k2, k3, k4, k5, by omega⟩
theorem log_ch {c : Cf} (hg : Good c) (k : Nat) : Nat.log2 ((((c.G * 2 ^ k : Nat) : Int)).toNat / c.G) = k := by
 rw [Int.toNat_natCast, Nat.mul_div_cancel_left _ hg.g1, Nat.log2_two_pow]
def asksP (c : Cf) (s : Hs) (charge asked e : Int) : Hs × An :=
 if e ≠ 0 then (s, An.no e) else
  ((putsP c s (Nat.log2 (charge.toNat / c.G)) asked.toNat).1, ⟨(putsP c s (Nat.log2 (charge.toNat / c.G)) asked.toNat).2.2, (putsP c s (Nat.log2 (charge.toNat / c.G)) asked.toNat).2.1, 0, 0, 0, 0, 0, 0⟩)
/-- who may be placed -/
def MayP (c : Cf) (s : Hs) (charge asked e : Int) : Prop := e ≠ 0 ∨ (e = 0 ∧ ∃ k a : Nat, charge = ((c.G * 2 ^ k : Nat) : Int) ∧ asked = (a : Int) ∧ k ≤ c.L ∧ a ≤ c.G * 2 ^ k ∧ sumB c s.bl + c.G * 2 ^ k ≤ c.M)
theorem An.z_len : An.z.length = 8 := rfl
set_option maxHeartbeats 1000000 in
theorem heap_asks (h : Nat) (c : Cf) (s : Hs) (mem : List Nat) (L : List (Nat × (Obj → Prop))) (R : World → Prop) (w0 w : World) (charge asked er : Int) (H : HW h c s mem L R w0 w) (iv : Iv c s) (hm : MayP c s charge asked er) :
 Calls Tryz.prog 69 #[.pointer (some ⟨h, 0, none⟩), .int .i64 charge, .int .i64 asked, .int .i64 er] w fun e w' => e = .returned (asksP c s charge asked er).2.v ∧ ∃ mem', HW h c (asksP c s charge asked er).1 mem' L R w0 w' ∧ ((asksP c s charge asked er).2.err ≠ 0 → mem' = mem) := by
 rcases hm with hm | ⟨rfl, k, a, rfl, rfl, hk, hak, hM⟩
 · have hA : asksP c s charge asked er = (s, An.no er) := by unfold asksP; rw [if_pos hm]
   rw [hA]
   have c1 : (er == 0) = false := beqF hm
   have HB := As.mk (H.box #[.int .i64 er, .int .i64 0, .int .i64 0, .int .u8 0, .int .i64 0, .int .i64 0, .int .i64 0, .int .i64 0] 39).drop
   clear H
   go_enter Tryz.func69, Tryz.ntmps69
   go_wp2_with fail
   refine bodyPost_ret (v := (An.no er).v) (by simp [results, Tryz.results69, go_sem, An.v, An.no, *]) rfl ?_
   exact ⟨rfl, mem, HB.out, fun _ => rfl⟩
 · have HB := H.box #[.int .i64 0, .int .i64 0, .int .i64 0, .int .u8 0, .int .i64 0, .int .i64 0, .int .i64 0, .int .i64 0] 39
   have HPU := As.mk (heap_puts h c s mem _ R w0 _ k a HB iv hk hak hM)
   have hA : asksP c s ((c.G * 2 ^ k : Nat) : Int) (a : Int) 0 = ((putsP c s k a).1, ⟨(putsP c s k a).2.2, (putsP c s k a).2.1, 0, 0, 0, 0, 0, 0⟩) := by
    unfold asksP
    rw [if_neg (by simp), log_ch iv.good, Int.toNat_natCast]
   rw [hA]
   clear H HB iv hM hak hk hA
   obtain ⟨ch, hch⟩ : ∃ ch : Int, ch = ((c.G * 2 ^ k : Nat) : Int) := ⟨_, rfl⟩
   rw [← hch] at HPU ⊢
   clear hch
   go_enter Tryz.func69, Tryz.ntmps69
   go_wp2_with fail
   refine HPU.out.mono ?_
   rintro e w1 ⟨mem', rfl, ho, hme⟩
   have HO := As.mk ho
   have ME := As.mk hme
   have t0 := ho.rd me0 0 (by simp)
   have f0 := ho.frz me0 0
   have t1 := ho.rd me0 1 (by simp)
   have f1 := ho.frz me0 1
   have t2 := ho.rd me0 2 (by simp)
   have f2 := ho.frz me0 2
   have t3 := ho.rd me0 3 (by simp)
   have f3 := ho.frz me0 3
   have t4 := ho.rd me0 4 (by simp)
   have f4 := ho.frz me0 4
   have t5 := ho.rd me0 5 (by simp)
   have f5 := ho.frz me0 5
   have t6 := ho.rd me0 6 (by simp)
   have f6 := ho.frz me0 6
   have t7 := ho.rd me0 7 (by simp)
   have f7 := ho.frz me0 7
   have HF := As.mk (((((((((ho.set 0 rfl 0 (.int .i64 (putsP c s k a).2.2) (by simp)).set 0 rfl 1 (.int .i64 (putsP c s k a).2.1) (by simp)).set 0 rfl 2 (.int .i64 0) (by simp)).set 0 rfl 3 (.int .u8 0) (by simp)).set 0 rfl 4 (.int .i64 0) (by simp)).set 0 rfl 5 (.int .i64 0) (by simp)).set 0 rfl 6 (.int .i64 0) (by simp)).set 0 rfl 7 (.int .i64 0) (by simp))).drop
   clear ho hme HPU
   go_wp2_with fail
   refine bodyPost_ret (v := .agg #[.int .i64 (putsP c s k a).2.2, .int .i64 (putsP c s k a).2.1, .int .i64 0, .int .u8 0, .int .i64 0, .int .i64 0, .int .i64 0, .int .i64 0]) (by simp [results, Tryz.results69, go_sem, *]) rfl ?_
   exact ⟨rfl, mem', HF.out, ME.out⟩
end Go.Proofs.YtmookafmdonopaaGreat.Top
/- (*heap.Heap).aligned, calloc walked. -/
namespace Go.Proofs.YtmookafmdonopaaGreat.Top
open Go Go.RowKit Go.Instr Go.ChangeMaps
set_option linter.unusedVariables false
set_option linter.unusedSimpArgs false
attribute [local go_sem] max2_int min2_int max_two min_two max_three

/-- cells of a heap's configuration and what is live, read in a region -/
def CfS (h : Nat) (c : Cf) (live : Nat) (W : World) : Prop :=
 W.cell? ⟨h, 0, none⟩ = some (.int .i64 c.G) ∧ W.cell? ⟨h, 1, none⟩ = some (.int .i64 c.N) ∧ W.cell? ⟨h, 2, none⟩ = some (.int .i64 c.M) ∧ W.cell? ⟨h, 3, none⟩ = some (.int .i64 c.L) ∧ W.cell? ⟨h, 4, none⟩ = some (.int .i64 c.Page) ∧ W.cell? ⟨h, 5, none⟩ = some (.int .i64 c.P) ∧ W.cell? ⟨h, 6, none⟩ = some (.int .i64 c.H) ∧ W.cell? ⟨h, 7, none⟩ = some (.int .i64 c.Seed) ∧ W.cell? ⟨h, 12, none⟩ = some (.int .i64 (live : Int))
theorem HW.cfs {h : Nat} {c : Cf} {s : Hs} {mem : List Nat} {L : List (Nat × (Obj → Prop))} {R : World → Prop} {w0 w : World} (H : HW h c s mem L R w0 w) : CfS h c (sumB c s.bl) w := by
 obtain ⟨d, k, _⟩ := H.hc
 exact ⟨k.c0, k.c1, k.c2, k.c3, k.c4, k.c5, k.c6, k.c7, k.c12⟩
theorem adm_may {c : Cf} {s : Hs} (iv : Iv c s) {S A : Int} (ha : GoodA A) : MayP c s (adm c (sumB c s.bl : Nat) S A).1 S (adm c (sumB c s.bl : Nat) S A).2 := by
 by_cases h : (adm c (sumB c s.bl : Nat) S A).2 = 0
 · obtain ⟨k, k1, k2, k3, k4, k5, k6⟩ := adm_ok iv.good ha h
   refine Or.inr ⟨h, k, S.toNat, k1, by omega, k2, by omega, by omega⟩
 · exact Or.inl h
def alignedP (c : Cf) (s : Hs) (S A : Int) : Hs × An := asksP c s (adm c (sumB c s.bl : Nat) S A).1 S (adm c (sumB c s.bl : Nat) S A).2
set_option maxHeartbeats 1000000 in
theorem heap_aligned (h : Nat) (c : Cf) (s : Hs) (mem : List Nat) (L : List (Nat × (Obj → Prop))) (R : World → Prop) (w0 w : World) (S A : Int) (H : HW h c s mem L R w0 w) (iv : Iv c s) (ha : GoodA A) :
 Calls Tryz.prog 39 #[.pointer (some ⟨h, 0, none⟩), .int .i64 S, .int .i64 A] w fun e w' => e = .returned (alignedP c s S A).2.v ∧ ∃ mem', HW h c (alignedP c s S A).1 mem' L R w0 w' ∧ ((alignedP c s S A).2.err ≠ 0 → mem' = mem) := by
 have HB := As.mk (H.box #[.int .i64 0, .int .i64 0, .int .i64 0, .int .u8 0, .int .i64 0, .int .i64 0, .int .i64 0, .int .i64 0] 39)
 have hlv : sumB c s.bl ≤ 2 ^ 30 := by have := iv.live; have := iv.good.bounds; omega
 have HAD := As.mk (fun W => admit_New c iv.good (sumB c s.bl) S A W ha hlv)
 have HM := As.mk (adm_may iv (S := S) ha)
 have IV := As.mk iv
 have hP : alignedP c s S A = asksP c s (adm c (sumB c s.bl : Nat) S A).1 S (adm c (sumB c s.bl : Nat) S A).2 := rfl
 rw [hP]
 rw [Cf.v] at HAD
 obtain ⟨q1, hq1⟩ : ∃ q, q = (adm c (sumB c s.bl : Nat) S A).1 := ⟨_, rfl⟩
 obtain ⟨q2, hq2⟩ : ∃ q, q = (adm c (sumB c s.bl : Nat) S A).2 := ⟨_, rfl⟩
 rw [← hq1, ← hq2] at HAD HM ⊢
 clear H iv ha hP hq1 hq2 hlv
 go_enter Tryz.func39, Tryz.ntmps39
 go_wp2_with fail
 refine rgn [(0, 1), (1, 1), (2, 1), (3, 0), (4, 1), (5, 1), (6, 1), (7, 0), (8, 1), (9, 1), (10, 2), (11, 1), (12, 1), (13, 1), (14, 1), (15, 1)] [] (CfS h c (sumB c s.bl)) (by kernel_rfl) (by kernel_rfl) (fun _ _ _ d _ h => by cases d <;> exact h) HB.out.cfs ?_
 unfold CfS
 iterate 3 (refine Run.pu (v := ?_) (a' := ?_) rfl rfl (Or.inl ⟨by rfl, ?_⟩) ?_ ?_; rotate_left 2; (focus (intro W; go_simp; with_reducible rfl)); (focus (simp only [Act.put, zq4, zq5, zq6]; rfl)))
 refine Run.rd (v := ?_) (a' := ?_) rfl rfl (Or.inl ⟨by rfl, ?_⟩) ?_ ?_; rotate_left 2; (focus (rintro W ⟨hW1, hW2, hW3, hW4, hW5, hW6, hW7, hW8, hW9⟩; go_simp; with_reducible rfl)); (focus (simp only [Act.put, zq4, zq5, zq6]; rfl))
 iterate 3 (refine Run.pu (v := ?_) (a' := ?_) rfl rfl (Or.inl ⟨by rfl, ?_⟩) ?_ ?_; rotate_left 2; (focus (intro W; go_simp; with_reducible rfl)); (focus (simp only [Act.put, zq4, zq5, zq6]; rfl)))
 refine Run.rd (v := ?_) (a' := ?_) rfl rfl (Or.inl ⟨by rfl, ?_⟩) ?_ ?_; rotate_left 2; (focus (rintro W ⟨hW1, hW2, hW3, hW4, hW5, hW6, hW7, hW8, hW9⟩; go_simp; with_reducible rfl)); (focus (simp only [Act.put, zq4, zq5, zq6]; rfl))
 iterate 2 (refine Run.pu (v := ?_) (a' := ?_) rfl rfl (Or.inl ⟨by rfl, ?_⟩) ?_ ?_; rotate_left 2; (focus (intro W; go_simp; with_reducible rfl)); (focus (simp only [Act.put, zq4, zq5, zq6]; rfl)))
 refine Run.ef rfl (fun K hK => ?_)
 simp only [zq1, zq2, zq3]
 go_wp2_with fail
 refine (HAD.out _).mono ?_
 rintro e w1 ⟨rfl, hb⟩
 have HO := As.mk (HB.out.drew.below hb)
 clear hb HB HAD
 go_wp2
 refine hK.out _ _ HO.out.cfs ?_
 clear hK K
 iterate 5 (refine Run.pu (v := ?_) (a' := ?_) rfl rfl (Or.inl ⟨by rfl, ?_⟩) ?_ ?_; rotate_left 2; (focus (intro W; go_simp; with_reducible rfl)); (focus (simp only [Act.put, zq4, zq5, zq6]; rfl)))
 refine Run.nil ?_
 simp only [zq1, zq2, zq3]
 go_wp2_with fail
 refine (heap_asks h c s mem _ R w0 w1 q1 S q2 HO.out IV.out HM.out).mono ?_
 obtain ⟨r, hr⟩ : ∃ r, r = asksP c s q1 S q2 := ⟨_, rfl⟩
 rw [← hr]
 have HR := As.mk hr
 clear hr
 rintro e w2 ⟨rfl, mem', ho, hme⟩
 have ME := As.mk hme
 have HO2 := As.mk ho
 clear hme HO
 rw [An.v]
 have t0 := ho.rd me0 0 (by simp)
 have f0 := ho.frz me0 0
 have t1 := ho.rd me0 1 (by simp)
 have f1 := ho.frz me0 1
 have t2 := ho.rd me0 2 (by simp)
 have f2 := ho.frz me0 2
 have t3 := ho.rd me0 3 (by simp)
 have f3 := ho.frz me0 3
 have t4 := ho.rd me0 4 (by simp)
 have f4 := ho.frz me0 4
 have t5 := ho.rd me0 5 (by simp)
 have f5 := ho.frz me0 5
 have t6 := ho.rd me0 6 (by simp)
 have f6 := ho.frz me0 6
 have t7 := ho.rd me0 7 (by simp)
 have f7 := ho.frz me0 7
 have HF := As.mk (((((((((ho.set 0 rfl 0 (.int .i64 r.2.err) (by simp)).set 0 rfl 1 (.int .i64 r.2.at_) (by simp)).set 0 rfl 2 (.int .i64 r.2.n) (by simp)).set 0 rfl 3 (.int .u8 r.2.byte) (by simp)).set 0 rfl 4 (.int .i64 r.2.live) (by simp)).set 0 rfl 5 (.int .i64 r.2.peak) (by simp)).set 0 rfl 6 (.int .i64 r.2.mark) (by simp)).set 0 rfl 7 (.int .i64 r.2.pages) (by simp))).drop
 clear ho
 go_wp2_with fail
 refine bodyPost_ret (v := .agg #[.int .i64 r.2.err, .int .i64 r.2.at_, .int .i64 r.2.n, .int .u8 r.2.byte, .int .i64 r.2.live, .int .i64 r.2.peak, .int .i64 r.2.mark, .int .i64 r.2.pages]) (by simp [results, Tryz.results39, go_sem, *]) rfl ?_
 rw [← HR.out]
 exact ⟨rfl, mem', HF.out, ME.out⟩
end Go.Proofs.YtmookafmdonopaaGreat.Top
/- clear and copy in a heap's bytes; (*heap.Heap).calloc walked. -/
namespace Go.Proofs.YtmookafmdonopaaGreat.Top
open Go Go.RowKit Go.Instr Go.ChangeMaps
set_option linter.unusedVariables false
set_option linter.unusedSimpArgs false
attribute [local go_sem] max2_int min2_int max_two min_two max_three

theorem over_app (cs sp ns : List Value) (o : Nat) (h : o + ns.length ≤ cs.length) : over (cs ++ sp) o ns = over cs o ns ++ sp := by
 unfold over
 rw [List.take_append_of_le_length (by omega), List.drop_append_of_le_length h, List.append_assoc, List.append_assoc, List.append_assoc]
theorem Own.whole_ {X : List Nat} {L : List (Nat × (Obj → Prop))} {R : World → Prop} {w0 w : World} {g e : Nat} {cs : List Value} (H : Own X ((g, EC e cs) :: L) R w0 w) : ∃ sp, Own X ((g, EX e (cs ++ sp)) :: L) R w0 w := by
 obtain ⟨x, hx, cur, sp, rfl, hc⟩ := H.at_ _ _ List.mem_cons_self
 exact ⟨sp, H.known hx (by show _ = _; rw [← hc])⟩
theorem Own.part_ {X : List Nat} {L : List (Nat × (Obj → Prop))} {R : World → Prop} {w0 w : World} {g e : Nat} {cs sp : List Value} (H : Own X ((g, EX e (cs ++ sp)) :: L) R w0 w) : Own X ((g, EC e cs) :: L) R w0 w := by
 obtain ⟨x, hx, hxx⟩ := H.at_ _ _ List.mem_cons_self
 exact H.known hx ⟨_, sp, hxx, by simp⟩
def overN (l : List Nat) (o : Nat) (ns : List Nat) : List Nat := l.take o ++ ns ++ l.drop (o + ns.length)
theorem overN_len (l ns : List Nat) (o : Nat) (h : o + ns.length ≤ l.length) : (overN l o ns).length = l.length := by
 simp [overN]
 omega
theorem bytesV_over (l ns : List Nat) (o : Nat) : bytesV (overN l o ns) = over (bytesV l) o (bytesV ns) := by
 unfold overN over bytesV
 rw [List.map_append, List.map_append, List.map_take, List.map_drop, List.length_map]
theorem bytesV_one (l : List Nat) : ∀ v ∈ bytesV l, v.oneCell' = true := by
 intro v hv
 obtain ⟨x, _, rfl⟩ := List.mem_map.1 hv
 rfl
section
variable {h : Nat} {c : Cf} {s : Hs} {mem : List Nat} {L : List (Nat × (Obj → Prop))} {R : World → Prop} {w0 w : World}
theorem zero5 (w : World) : (zeroValue 5).run Tryz.prog w = .ok (.int .u8 0) w := by
 obtain ⟨i0, hi, hzz⟩ := Option.map_eq_some_iff.1 info5
 simp only [Prod.mk.injEq] at hzz
 simp [zeroValue, typeInfo, hi, hzz.1]
theorem sz5 : (Tryz.prog.info? 5).map (·.size) = some 1 := by kernel_rfl
theorem HW.memBlk (H : HW h c s mem L R w0 w) (d : Hd) (hd : w.cell? ⟨h, 17, none⟩ = some (.slice (some ⟨d.gy, 0, none⟩) c.H d.capy)) : ∃ d' : Hd, d'.gy = d.gy ∧ d'.capy = d.capy ∧ mem.length = c.H ∧ c.H / c.Page ≤ d'.cap ∧ c.H ≤ d'.capy ∧
 Own [] ((d'.gy, EC 5 (bytesV mem)) :: (d'.g, EC 3 (natsV (metN c s.bl))) :: (h, EC 85 (hC c d'.t d'.sd d'.gm (sumB c s.bl) s.peak s.mark (d'.met c) (d'.on c) (d'.mem c))) :: (d'.gm, MapP (mapB c s.bl)) :: L)
  (fun W => R W ∧ EngR W d'.t d'.sd (c.L + 1) (c.H / c.G) (bitsB c s.bl) (marksB s.bl) ∧ Row W (d'.on c) (c.H / c.Page) (s.on.map Value.bool)) w0 w := by
 obtain ⟨a, d', b1, b2, b3⟩ := H
 have h1 := (b3.hc me1).c17
 rw [hd] at h1
 simp only [Hd.mem, Option.some.injEq, Value.slice.injEq, Addr.mk.injEq] at h1
 exact ⟨d', h1.1.1.symm, h1.2.2.symm, a, b1, b2, b3.front 3 rfl⟩
theorem HW.memBack {d : Hd} (a : mem.length = c.H) (b1 : c.H / c.Page ≤ d.cap) (b2 : c.H ≤ d.capy)
 (H : Own [] ((d.gy, EC 5 (bytesV mem)) :: (d.g, EC 3 (natsV (metN c s.bl))) :: (h, EC 85 (hC c d.t d.sd d.gm (sumB c s.bl) s.peak s.mark (d.met c) (d.on c) (d.mem c))) :: (d.gm, MapP (mapB c s.bl)) :: L)
  (fun W => R W ∧ EngR W d.t d.sd (c.L + 1) (c.H / c.G) (bitsB c s.bl) (marksB s.bl) ∧ Row W (d.on c) (c.H / c.Page) (s.on.map Value.bool)) w0 w) : HW h c s mem L R w0 w := by
 refine ⟨a, d, b1, b2, ?_⟩
 have hp : ((d.g, EC 3 (natsV (metN c s.bl))) :: (h, EC 85 (hC c d.t d.sd d.gm (sumB c s.bl) s.peak s.mark (d.met c) (d.on c) (d.mem c))) :: (d.gm, MapP (mapB c s.bl)) :: (d.gy, EC 5 (bytesV mem)) :: L).Perm ((d.gy, EC 5 (bytesV mem)) :: (d.g, EC 3 (natsV (metN c s.bl))) :: (h, EC 85 (hC c d.t d.sd d.gm (sumB c s.bl) s.peak s.mark (d.met c) (d.on c) (d.mem c))) :: (d.gm, MapP (mapB c s.bl)) :: L) := by
  have := @List.perm_middle _ (d.gy, EC 5 (bytesV mem)) [(d.g, EC 3 (natsV (metN c s.bl))), (h, EC 85 (hC c d.t d.sd d.gm (sumB c s.bl) s.peak s.mark (d.met c) (d.on c) (d.mem c))), (d.gm, MapP (mapB c s.bl))] L
  simpa using this
 exact H.sub ((hp.map Prod.fst).nodup_iff.2 H.nd) fun y hy => hp.mem_iff.1 hy
/-- 'clear' of some of the heap's bytes -/
theorem HW.clear_ (H : HW h c s mem L R w0 w) (d : Hd) (hd : w.cell? ⟨h, 17, none⟩ = some (.slice (some ⟨d.gy, 0, none⟩) c.H d.capy)) (ty o n cp : Nat) (hn : 0 < n) (hfit : o + n ≤ c.H) :
 ∃ w1, (Builtin.clear_ #[22] ty #[.slice (some ⟨d.gy, o, none⟩) n cp]).run Tryz.prog w = .ok (.tuple #[]) w1 ∧ HW h c s (overN mem o (List.replicate n 0)) L R w0 w1 := by
 obtain ⟨d', e1, e2, a, b1, b2, b3⟩ := H.memBlk d hd
 obtain ⟨sp, hx⟩ := b3.whole_
 have hl : (bytesV mem).length = c.H := by rw [bytesV_len, a]
 obtain ⟨w1, hst, hw⟩ := hx.storeAt (o := o) (ns := bytesV (List.replicate n 0)) (by rw [List.length_append, hl, bytesV_len, List.length_replicate]; omega) (bytesV_one _)
 rw [over_app _ _ _ _ (by rw [hl, bytesV_len, List.length_replicate]; exact hfit), ← bytesV_over] at hw
 refine ⟨w1, ?_, HW.memBack (by rw [overN_len _ _ _ (by rw [List.length_replicate, a]; exact hfit), a]) b1 b2 hw.part_⟩
 have hz : ∀ k, (Builtin.zeroCells (Value.int .u8 0).cells k).toList = bytesV (List.replicate k 0) := by
  intro k
  simp [Builtin.zeroCells, Value.cells, bytesV, Nat.mod_one, List.map_const']
 rw [e1] at hst
 obtain ⟨m, rfl⟩ : ∃ m, n = m + 1 := ⟨n - 1, by omega⟩
 simp [Builtin.clear_, run_underlying Tryz.underlying22, zero5, hz, hst]
/-- 'copy' into some of the heap's bytes -/
theorem HW.copy_ (H : HW h c s mem L R w0 w) (d : Hd) (hd : w.cell? ⟨h, 17, none⟩ = some (.slice (some ⟨d.gy, 0, none⟩) c.H d.capy)) (ty o dLen dCap : Nat) (ad : Addr) (sLen sCap : Nat) (ns : List Nat) (hn : ns.length = sLen) (hsd : sLen ≤ dLen) (hfit : o + sLen ≤ c.H)
 (hsrc : ∀ j v, (bytesV ns)[j]? = some v → w.cell? (ad.add j) = some v) :
 ∃ w1, (Builtin.copy_ #[22, 22] ty #[.slice (some ⟨d.gy, o, none⟩) dLen dCap, .slice (some ad) sLen sCap]).run Tryz.prog w = .ok (goInt sLen) w1 ∧ HW h c s (overN mem o ns) L R w0 w1 := by
 obtain ⟨d', e1, e2, a, b1, b2, b3⟩ := H.memBlk d hd
 obtain ⟨sp, hx⟩ := b3.whole_
 have hl : (bytesV mem).length = c.H := by rw [bytesV_len, a]
 obtain ⟨x, hb, hxx⟩ := hx.at_ _ _ List.mem_cons_self
 rw [show x = .cells (bytesV mem ++ sp).toArray 5 (0, 0) from hxx, e1] at hb
 have hm : Nat.min sLen dLen = sLen := Nat.min_eq_left hsd
 have hrun := run_copy_n Tryz.prog w 22 22 ty 5 1 d.gy o dLen dCap ad sLen sCap (bytesV mem ++ sp).toArray 5 (bytesV ns) Tryz.underlying22 sz5 hb (by rw [bytesV_len, hn, hm, Nat.mul_one]) hsrc (by simp [hl, bytesV_len, hn]; omega) (bytesV_one _)
 rw [hm] at hrun
 have hw := hx.setRow (cs' := over (bytesV mem ++ sp) o (bytesV ns))
 rw [e1] at hw
 refine ⟨_, hrun, ?_⟩
 rw [over_app _ _ _ _ (by rw [hl, bytesV_len, hn]; exact hfit), ← bytesV_over, ← e1] at hw
 have hw2 := HW.memBack (mem := overN mem o ns) (by rw [overN_len _ _ _ (by rw [hn, a]; exact hfit), a]) b1 b2 hw.part_
 have e3 : (over (bytesV mem ++ sp) o (bytesV ns)).toArray = (((bytesV mem ++ sp).toArray.toList).take o ++ bytesV ns ++ ((bytesV mem ++ sp).toArray.toList).drop (o + (bytesV ns).length)).toArray := by
  simp [over]
 rw [← e3]
 rw [over_app _ _ _ _ (by rw [hl, bytesV_len, hn]; exact hfit), ← bytesV_over, ← e1]
 exact hw2
end
end Go.Proofs.YtmookafmdonopaaGreat.Top
/- What asks answers; (*heap.Heap).calloc walked. -/
namespace Go.Proofs.YtmookafmdonopaaGreat.Top
open Go Go.RowKit Go.Instr Go.ChangeMaps
set_option linter.unusedVariables false
set_option linter.unusedSimpArgs false
attribute [local go_sem] max2_int min2_int max_two min_two max_three

/-- what a block's placing comes to -/
structure Placed (c : Cf) (s : Hs) (k a i : Nat) (on' : List Bool) : Prop where
 hk : k ≤ c.L
 ha : a ≤ c.G * 2 ^ k
 fits : sumB c s.bl + c.G * 2 ^ k ≤ c.M
 low : lowB c s.bl k = some i
 on : on'.length = c.H / c.Page
 com : ∃ fr, commitP s.on (metB (metN c s.bl)) (pgF c (bkAt c i k a)) (pgB c (bkAt c i k a)) c.P = some (on', fr)
def placed (c : Cf) (s : Hs) (k a i : Nat) (on' : List Bool) : Hs := ⟨insB s.bl (bkAt c i k a), max s.peak (sumB c (insB s.bl (bkAt c i k a))), max s.mark (i * 2 ^ k * c.G + c.G * 2 ^ k), on'⟩
theorem asks_spec {c : Cf} {s : Hs} {charge asked e : Int} (iv : Iv c s) (hm : MayP c s charge asked e) :
 (∃ er, er ≠ 0 ∧ asksP c s charge asked e = (s, An.no er)) ∨
 (e = 0 ∧ ∃ (k a i : Nat) (on' : List Bool), charge = ((c.G * 2 ^ k : Nat) : Int) ∧ asked = (a : Int) ∧ Placed c s k a i on' ∧ asksP c s charge asked e = (placed c s k a i on', ⟨0, ((i * 2 ^ k * c.G : Nat) : Int), 0, 0, 0, 0, 0, 0⟩)) := by
 rcases hm with hm | ⟨rfl, k, a, rfl, rfl, hk, ha, hM⟩
 · exact Or.inl ⟨e, hm, by unfold asksP; rw [if_pos hm]⟩
 · unfold asksP
   rw [if_neg (by simp), log_ch iv.good, Int.toNat_natCast]
   unfold putsP
   cases hl : lowB c s.bl k with
   | none => exact Or.inl ⟨7, by decide, rfl⟩
   | some i =>
    dsimp only
    cases hc : commitP s.on (metB (metN c s.bl)) (pgF c (bkAt c i k a)) (pgB c (bkAt c i k a)) c.P with
    | none => exact Or.inl ⟨6, by decide, rfl⟩
    | some p =>
     obtain ⟨on', fr⟩ := p
     refine Or.inr ⟨rfl, k, a, i, on', rfl, rfl, ⟨hk, ha, hM, hl, ?_, fr, hc⟩, rfl⟩
     rw [(commitP_some hc (by rw [metB, List.length_map, metN_len, iv.on])).1, iv.on]
theorem Placed.iv {c : Cf} {s : Hs} {k a i : Nat} {on' : List Bool} (iv : Iv c s) (h : Placed c s k a i on') : Iv c (placed c s k a i on') ∧ i * 2 ^ k * c.G + c.G * 2 ^ k ≤ c.H := by
 obtain ⟨h1, h2, h3⟩ := bkAt_ok iv.good iv.inv h.hk h.low h.ha
 have hs : sumB c (insB s.bl (bkAt c i k a)) = c.G * 2 ^ k + sumB c s.bl := sum_ins _ _ _
 have hf := h.fits
 have h4 : i * 2 ^ k * c.G + c.G * 2 ^ k ≤ c.H := h2
 refine ⟨⟨iv.good, iv.small, h3, h.on, ?_, ?_, ?_⟩, h4⟩
 · show sumB c (insB s.bl (bkAt c i k a)) ≤ c.M
   omega
 · show max s.peak (sumB c (insB s.bl (bkAt c i k a))) ≤ c.M
   have := iv.peak
   omega
 · show max s.mark (i * 2 ^ k * c.G + c.G * 2 ^ k) ≤ c.H
   have := iv.mark
   omega
theorem asks_iv {c : Cf} {s : Hs} {charge asked e : Int} (iv : Iv c s) (hm : MayP c s charge asked e) : Iv c (asksP c s charge asked e).1 := by
 rcases asks_spec iv hm with ⟨er, _, h⟩ | ⟨_, k, a, i, on', _, _, hp, h⟩
 · rw [h]; exact iv
 · rw [h]; exact (hp.iv iv).1
theorem many_may {c : Cf} {s : Hs} (iv : Iv c s) (n sz : Int) : MayP c s (many c (sumB c s.bl : Nat) n sz).1 (prd c n sz).1 (many c (sumB c s.bl : Nat) n sz).2 := by
 unfold many
 by_cases h : (prd c n sz).2 ≠ 0
 · rw [if_pos h]
   exact Or.inl h
 · rw [if_neg h]
   exact adm_may iv (Or.inr (Or.inr ⟨0, by decide, rfl⟩))
def callocP (c : Cf) (s : Hs) (n sz : Int) : Hs × An := asksP c s (many c (sumB c s.bl : Nat) n sz).1 (prd c n sz).1 (many c (sumB c s.bl : Nat) n sz).2
theorem overN_zero (l : List Nat) (o n i : Nat) (h : o + n ≤ l.length) (h1 : o ≤ i) (h2 : i < o + n) : (overN l o (List.replicate n 0))[i]? = some 0 := by
 unfold overN
 rw [List.append_assoc, List.getElem?_append_right (by simp; omega), List.getElem?_append_left (by simp; omega), List.getElem?_replicate, if_pos (by simp; omega)]
set_option maxHeartbeats 2000000 in
theorem heap_calloc (h : Nat) (c : Cf) (s : Hs) (mem : List Nat) (L : List (Nat × (Obj → Prop))) (R : World → Prop) (w0 w : World) (n sz : Int) (H : HW h c s mem L R w0 w) (iv : Iv c s) (hn : n ≤ 2 ^ 30) (hs : sz ≤ 2 ^ 30) :
 Calls Tryz.prog 40 #[.pointer (some ⟨h, 0, none⟩), .int .i64 n, .int .i64 sz] w fun e w' => e = .returned (callocP c s n sz).2.v ∧ ∃ mem', HW h c (callocP c s n sz).1 mem' L R w0 w' ∧ ((callocP c s n sz).2.err ≠ 0 → mem' = mem) ∧
  ((callocP c s n sz).2.err = 0 → ∀ o : Nat, (callocP c s n sz).2.at_ ≤ o → (o : Int) < (callocP c s n sz).2.at_ + (many c (sumB c s.bl : Nat) n sz).1 → mem'[o]? = some 0) := by
 have HB := As.mk (H.box #[.int .i64 0, .int .i64 0, .int .i64 0, .int .u8 0, .int .i64 0, .int .i64 0, .int .i64 0, .int .i64 0] 39)
 have hlv : sumB c s.bl ≤ 2 ^ 30 := by have := iv.live; have := iv.good.bounds; omega
 have HMA := As.mk (fun W => admit_Many c iv.good (sumB c s.bl) n sz W hlv hn hs)
 have HPR := As.mk (fun W => class_Product c n sz W hn hs)
 have HM := As.mk (many_may iv n sz)
 have SP := As.mk (asks_spec iv HM.out)
 have IV := As.mk iv
 have hP : callocP c s n sz = asksP c s (many c (sumB c s.bl : Nat) n sz).1 (prd c n sz).1 (many c (sumB c s.bl : Nat) n sz).2 := rfl
 rw [hP]
 rw [Cf.v] at HMA HPR
 obtain ⟨q1, hq1⟩ : ∃ q, q = (many c (sumB c s.bl : Nat) n sz).1 := ⟨_, rfl⟩
 obtain ⟨q2, hq2⟩ : ∃ q, q = (many c (sumB c s.bl : Nat) n sz).2 := ⟨_, rfl⟩
 obtain ⟨q3, hq3⟩ : ∃ q, q = (prd c n sz).1 := ⟨_, rfl⟩
 obtain ⟨q4, hq4⟩ : ∃ q, q = (prd c n sz).2 := ⟨_, rfl⟩
 rw [← hq1, ← hq2] at HMA
 rw [← hq3, ← hq4] at HPR
 rw [← hq1, ← hq2, ← hq3] at HM SP ⊢
 have hg1 := iv.good.g1
 clear H iv hP hq1 hq2 hq3 hq4 hlv
 go_enter Tryz.func40, Tryz.ntmps40
 go_wp2_with fail
 refine rgn [(0, 1), (1, 1), (2, 1), (3, 0), (4, 1), (5, 1), (6, 1), (7, 0), (8, 1), (9, 1), (10, 2), (11, 1), (12, 1), (13, 1), (14, 1), (15, 1)] [] (CfS h c (sumB c s.bl)) (by kernel_rfl) (by kernel_rfl) (fun _ _ _ d _ h => by cases d <;> exact h) HB.out.cfs ?_
 unfold CfS
 iterate 3 (refine Run.pu (v := ?_) (a' := ?_) rfl rfl (Or.inl ⟨by rfl, ?_⟩) ?_ ?_; rotate_left 2; (focus (intro W; go_simp; with_reducible rfl)); (focus (simp only [Act.put, zq4, zq5, zq6]; rfl)))
 refine Run.rd (v := ?_) (a' := ?_) rfl rfl (Or.inl ⟨by rfl, ?_⟩) ?_ ?_; rotate_left 2; (focus (rintro W ⟨hW1, hW2, hW3, hW4, hW5, hW6, hW7, hW8, hW9⟩; go_simp; with_reducible rfl)); (focus (simp only [Act.put, zq4, zq5, zq6]; rfl))
 iterate 3 (refine Run.pu (v := ?_) (a' := ?_) rfl rfl (Or.inl ⟨by rfl, ?_⟩) ?_ ?_; rotate_left 2; (focus (intro W; go_simp; with_reducible rfl)); (focus (simp only [Act.put, zq4, zq5, zq6]; rfl)))
 refine Run.rd (v := ?_) (a' := ?_) rfl rfl (Or.inl ⟨by rfl, ?_⟩) ?_ ?_; rotate_left 2; (focus (rintro W ⟨hW1, hW2, hW3, hW4, hW5, hW6, hW7, hW8, hW9⟩; go_simp; with_reducible rfl)); (focus (simp only [Act.put, zq4, zq5, zq6]; rfl))
 iterate 2 (refine Run.pu (v := ?_) (a' := ?_) rfl rfl (Or.inl ⟨by rfl, ?_⟩) ?_ ?_; rotate_left 2; (focus (intro W; go_simp; with_reducible rfl)); (focus (simp only [Act.put, zq4, zq5, zq6]; rfl)))
 refine Run.ef rfl (fun K hK => ?_)
 simp only [zq1, zq2, zq3]
 go_wp2_with fail
 refine (HMA.out _).mono ?_
 rintro e w1 ⟨rfl, hb⟩
 have HO := As.mk (HB.out.drew.below hb)
 clear hb HB HMA
 go_wp2
 refine hK.out _ _ HO.out.cfs ?_
 clear hK K
 iterate 5 (refine Run.pu (v := ?_) (a' := ?_) rfl rfl (Or.inl ⟨by rfl, ?_⟩) ?_ ?_; rotate_left 2; (focus (intro W; go_simp; with_reducible rfl)); (focus (simp only [Act.put, zq4, zq5, zq6]; rfl)))
 refine Run.nil ?_
 simp only [zq1, zq2, zq3]
 obtain ⟨z0, z1, z2, z3, z4, z5, z6, z7, -⟩ := HO.out.cfs
 go_wp2_with fail
 refine (HPR.out _).mono ?_
 rintro e w2 ⟨rfl, hb⟩
 have HO2 := As.mk (HO.out.below hb)
 clear hb HO HPR z0 z1 z2 z3 z4 z5 z6 z7
 go_wp2_with fail
 refine (heap_asks h c s mem _ R w0 w2 q1 q3 q2 HO2.out IV.out HM.out).mono ?_
 obtain ⟨r, hr⟩ : ∃ r, r = asksP c s q1 q3 q2 := ⟨_, rfl⟩
 rw [← hr] at SP ⊢
 have HR := As.mk hr
 clear hr
 rintro e w3 ⟨rfl, mem', ho, hme⟩
 have ME := As.mk hme
 have HO3 := As.mk (ho.box #[.int .i64 r.2.err, .int .i64 r.2.at_, .int .i64 r.2.n, .int .u8 r.2.byte, .int .i64 r.2.live, .int .i64 r.2.peak, .int .i64 r.2.mark, .int .i64 r.2.pages] 39)
 clear hme ho HO2
 rw [An.v]
 rcases SP.out with ⟨er, her, hre⟩ | ⟨h2, k, a, i, on', hch, hask, hpl, hre⟩
 · have hr1 : r.2.err = er := by rw [hre]; rfl
   have c1 : (r.2.err == 0) = false := by rw [hr1]; exact beqF her
   have t0 := HO3.out.rd me1 0 (by simp)
   have f0 := HO3.out.frz me1 0
   have t1 := HO3.out.rd me1 1 (by simp)
   have f1 := HO3.out.frz me1 1
   have t2 := HO3.out.rd me1 2 (by simp)
   have f2 := HO3.out.frz me1 2
   have t3 := HO3.out.rd me1 3 (by simp)
   have f3 := HO3.out.frz me1 3
   have t4 := HO3.out.rd me1 4 (by simp)
   have f4 := HO3.out.frz me1 4
   have t5 := HO3.out.rd me1 5 (by simp)
   have f5 := HO3.out.frz me1 5
   have t6 := HO3.out.rd me1 6 (by simp)
   have f6 := HO3.out.frz me1 6
   have t7 := HO3.out.rd me1 7 (by simp)
   have f7 := HO3.out.frz me1 7
   have HF := As.mk (((((((((HO3.out.set 1 rfl 0 (.int .i64 r.2.err) (by simp)).set 1 rfl 1 (.int .i64 r.2.at_) (by simp)).set 1 rfl 2 (.int .i64 r.2.n) (by simp)).set 1 rfl 3 (.int .u8 r.2.byte) (by simp)).set 1 rfl 4 (.int .i64 r.2.live) (by simp)).set 1 rfl 5 (.int .i64 r.2.peak) (by simp)).set 1 rfl 6 (.int .i64 r.2.mark) (by simp)).set 1 rfl 7 (.int .i64 r.2.pages) (by simp))).drop.drop
   have FIN := As.mk (show r.2.err ≠ 0 by rw [hr1]; exact her)
   clear hre hr1 SP HM
   go_wp2_with fail
   refine bodyPost_ret (v := .agg #[.int .i64 r.2.err, .int .i64 r.2.at_, .int .i64 r.2.n, .int .u8 r.2.byte, .int .i64 r.2.live, .int .i64 r.2.peak, .int .i64 r.2.mark, .int .i64 r.2.pages]) (by simp [results, Tryz.results40, go_sem, *]) rfl ?_
   rw [← HR.out]
   exact ⟨rfl, mem', HF.out, ME.out, fun h0 => absurd h0 FIN.out⟩
 · have hfit := (hpl.iv IV.out).2
   have hck : 1 ≤ c.G * 2 ^ k := Nat.mul_pos hg1 (Nat.two_pow_pos k)
   obtain ⟨ch, hche⟩ : ∃ ch, ch = c.G * 2 ^ k := ⟨_, rfl⟩
   obtain ⟨at_, hate⟩ : ∃ x, x = i * 2 ^ k * c.G := ⟨_, rfl⟩
   rw [← hche] at hch hfit hck
   rw [← hate] at hre hfit
   have hH := IV.out.small
   obtain ⟨r1, r2⟩ := r
   injection hre with e1 e2
   subst e2
   dsimp only at HO3 ME
   subst hch
   clear SP HM hche hate hpl e1
   have HO4 := As.mk HO3.out
   obtain ⟨w4, hw4⟩ : ∃ w4, w4 = w3.alloc (.cells #[.int .i64 0, .int .i64 at_, .int .i64 0, .int .u8 0, .int .i64 0, .int .i64 0, .int .i64 0, .int .i64 0] 39) := ⟨_, rfl⟩
   rw [← hw4] at HO4
   have x0 := HO3.out.rd me0 0 (by simp)
   go_wp2_with fail
   simp only [← hw4]
   clear x0 hw4 HO3
   obtain ⟨d, dz, dcap, dcapy, -⟩ := HO4.out.hc
   have z17 := dz.c17
   rw [Hd.mem] at z17
   have x1 := HO4.out.rd me0 1 (by simp)
   clear dz dcap
   obtain ⟨en, hen⟩ : ∃ en, en = at_ + ch := ⟨_, rfl⟩
   have E1 := As.mk (show IntKind.i64.wrap ((at_ : Int) + (ch : Int)) = (en : Int) by rw [hen, ← Int.natCast_add]; exact iw64 _ (by omega) (by omega))
   have k1 : at_ ≤ en := by omega
   have k2 : en ≤ c.H := by omega
   have k3 : en - at_ = ch := by omega
   have k4 : ((en : Int) - (at_ : Int)).toNat = ch := by omega
   obtain ⟨q7, hq7⟩ : ∃ q, q = w3.heap.size := ⟨_, rfl⟩
   rw [← hq7] at x1 HO4 ⊢
   have HEN := As.mk hen
   clear hq7 hen
   refine rgn [(0, 1), (1, 1), (2, 1), (3, 0), (4, 1), (5, 0), (6, 1), (7, 0), (8, 1), (9, 1), (10, 1), (11, 3)] [11] (fun W => W.cell? ⟨h, 17, none⟩ = some (.slice (some ⟨d.gy, 0, none⟩) c.H d.capy) ∧ W.cell? ⟨q7, 1, none⟩ = some (.int .i64 at_)) (by kernel_rfl) (by kernel_rfl) (fun _ _ _ d _ h => by cases d <;> exact h) ⟨z17, x1⟩ ?_
   iterate 3 (refine Run.pu (v := ?_) (a' := ?_) rfl rfl (Or.inl ⟨by rfl, ?_⟩) ?_ ?_; rotate_left 2; (focus (intro W; go_simp; with_reducible rfl)); (focus (simp only [Act.put, zq4, zq5, zq6]; rfl)))
   refine Run.rd (v := ?_) (a' := ?_) rfl rfl (Or.inl ⟨by rfl, ?_⟩) ?_ ?_; rotate_left 2; (focus (rintro W ⟨hW1, hW2⟩; go_simp; with_reducible rfl)); (focus (simp only [Act.put, zq4, zq5, zq6]; rfl))
   refine Run.pu (v := ?_) (a' := ?_) rfl rfl (Or.inl ⟨by rfl, ?_⟩) ?_ ?_; rotate_left 2; (focus (intro W; go_simp; with_reducible rfl)); (focus (simp only [Act.put, zq4, zq5, zq6]; rfl))
   refine Run.rd (v := ?_) (a' := ?_) rfl rfl (Or.inl ⟨by rfl, ?_⟩) ?_ ?_; rotate_left 2; (focus (rintro W ⟨hW1, hW2⟩; go_simp; with_reducible rfl)); (focus (simp only [Act.put, zq4, zq5, zq6]; rfl))
   refine Run.pu (v := ?_) (a' := ?_) rfl rfl (Or.inl ⟨by rfl, ?_⟩) ?_ ?_; rotate_left 2; (focus (intro W; go_simp; with_reducible rfl)); (focus (simp only [Act.put, zq4, zq5, zq6]; rfl))
   refine Run.rd (v := ?_) (a' := ?_) rfl rfl (Or.inl ⟨by rfl, ?_⟩) ?_ ?_; rotate_left 2; (focus (rintro W ⟨hW1, hW2⟩; go_simp; with_reducible rfl)); (focus (simp only [Act.put, zq4, zq5, zq6]; rfl))
   refine Run.pu (v := ?_) (a' := ?_) rfl rfl (Or.inl ⟨by rfl, ?_⟩) ?_ ?_; rotate_left 2; (focus (intro W; go_simp; with_reducible rfl)); (focus (simp only [Act.put, zq4, zq5, zq6]; rfl))
   refine Run.pu (v := ?_) (a' := ?_) rfl rfl (Or.inl ⟨by rfl, ?_⟩) ?_ ?_
   rotate_left 2
   · intro W; go_simp; simp only [E1.out]; with_reducible rfl
   · simp only [Act.put, zq4, zq5, zq6]; rfl
   have k5 : en ≤ d.capy := by omega
   have k6 : (d.capy = at_) = False := eq_false (by omega)
   refine Run.pu (v := ?_) (a' := ?_) rfl rfl (Or.inl ⟨by rfl, ?_⟩) ?_ ?_; rotate_left 2; (focus (intro W; go_simp; with_reducible rfl)); (focus (simp only [Act.put, zq4, zq5, zq6]; rfl))
   refine Run.la rfl (fun K hK => ?_)
   simp only [zq1, zq2, zq3]
   obtain ⟨w5, hrun, ho5⟩ := HO4.out.drew.clear_ d z17 0 at_ ch (d.capy - at_) (by omega) hfit
   have HO5 := As.mk ho5
   have x10 := ho5.rd me0 0 (by simp)
   have x11 := ho5.rd me0 1 (by simp)
   have x12 := ho5.rd me0 2 (by simp)
   have x13 := ho5.rd me0 3 (by simp)
   have x14 := ho5.rd me0 4 (by simp)
   have x15 := ho5.rd me0 5 (by simp)
   have x16 := ho5.rd me0 6 (by simp)
   have x17 := ho5.rd me0 7 (by simp)
   have t0 := ho5.rd me1 0 (by simp)
   have f0 := ho5.frz me1 0
   have t1 := ho5.rd me1 1 (by simp)
   have f1 := ho5.frz me1 1
   have t2 := ho5.rd me1 2 (by simp)
   have f2 := ho5.frz me1 2
   have t3 := ho5.rd me1 3 (by simp)
   have f3 := ho5.frz me1 3
   have t4 := ho5.rd me1 4 (by simp)
   have f4 := ho5.frz me1 4
   have t5 := ho5.rd me1 5 (by simp)
   have f5 := ho5.frz me1 5
   have t6 := ho5.rd me1 6 (by simp)
   have f6 := ho5.frz me1 6
   have t7 := ho5.rd me1 7 (by simp)
   have f7 := ho5.frz me1 7
   have HF := As.mk (((((((((ho5.set 1 rfl 0 (.int .i64 0) (by simp)).set 1 rfl 1 (.int .i64 at_) (by simp)).set 1 rfl 2 (.int .i64 0) (by simp)).set 1 rfl 3 (.int .u8 0) (by simp)).set 1 rfl 4 (.int .i64 0) (by simp)).set 1 rfl 5 (.int .i64 0) (by simp)).set 1 rfl 6 (.int .i64 0) (by simp)).set 1 rfl 7 (.int .i64 0) (by simp))).drop.drop
   clear ho5 z17 x1
   go_wp2
   refine hK.out _ _ ?_
   clear hK K
   refine Run.nil ?_
   clear hrun
   go_wp2_with fail
   refine bodyPost_ret (v := .agg #[.int .i64 0, .int .i64 at_, .int .i64 0, .int .u8 0, .int .i64 0, .int .i64 0, .int .i64 0, .int .i64 0]) (by simp [results, Tryz.results40, go_sem, *]) rfl ?_
   have hml := HO4.out.1
   rw [← HR.out]
   refine ⟨rfl, _, HF.out, fun h0 => absurd rfl h0, fun _ o h1 h2 => overN_zero mem' at_ ch o (by rw [hml]; exact hfit) ?_ ?_⟩
   · simp only [] at h1; omega
   · simp only [] at h2; omega
end Go.Proofs.YtmookafmdonopaaGreat.Top
