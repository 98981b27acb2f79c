/- hodmanplay: Op walked. -/
import Derived.Test.YtmookafmdonopaaGreatM05
import Derived.Test.YtmookafmdonopaaGreatM21
/- hodmanplay: Op walked. -/
namespace Go.Proofs.YtmookafmdonopaaGreat.Top
open Go Go.RowKit
set_option linter.unusedVariables false
set_option linter.unusedSimpArgs false
attribute [local go_sem] max2_int min2_int max_two min_two max_three

theorem conf_at {w : World} {q : Nat} {cf : Cf} {L : List (Nat × (Obj → Prop))} {R : World → Prop} {w0 : World} {a b : Nat × (Obj → Prop)} (k : Own [] (a :: b :: (q, EC 34 [.int .i64 cf.G, .int .i64 cf.N, .int .i64 cf.M, .int .i64 cf.L, .int .i64 cf.Page, .int .i64 cf.P, .int .i64 cf.H, .int .i64 cf.Seed]) :: L) R w0 w) : w.cell? ⟨q, 0, none⟩ = some (.int .i64 cf.G) ∧ w.cell? ⟨q, 1, none⟩ = some (.int .i64 cf.N) ∧ w.cell? ⟨q, 2, none⟩ = some (.int .i64 cf.M) ∧ w.cell? ⟨q, 3, none⟩ = some (.int .i64 cf.L) ∧ w.cell? ⟨q, 4, none⟩ = some (.int .i64 cf.Page) ∧ w.cell? ⟨q, 5, none⟩ = some (.int .i64 cf.P) ∧ w.cell? ⟨q, 6, none⟩ = some (.int .i64 cf.H) ∧ w.cell? ⟨q, 7, none⟩ = some (.int .i64 cf.Seed) :=
 ⟨k.get me2 0 (by simp), k.get me2 1 (by simp), k.get me2 2 (by simp), k.get me2 3 (by simp), k.get me2 4 (by simp), k.get me2 5 (by simp), k.get me2 6 (by simp), k.get me2 7 (by simp)⟩
theorem lit7 : ∀ v : Nat, v < 7 → ∃ x : Int, ([.int .i64 1, .int .i64 2, .int .i64 4, .int .i64 3, .int .i64 0, .int .i64 8, .int .i64 16] : List Value)[v]? = some (.int .i64 x) ∧ GoodA x
 | 0, _ => ⟨1, rfl, Or.inr (Or.inr ⟨0, by decide, rfl⟩)⟩
 | 1, _ => ⟨2, rfl, Or.inr (Or.inr ⟨1, by decide, rfl⟩)⟩
 | 2, _ => ⟨4, rfl, Or.inr (Or.inr ⟨2, by decide, rfl⟩)⟩
 | 3, _ => ⟨3, rfl, Or.inr (Or.inl rfl)⟩
 | 4, _ => ⟨0, rfl, Or.inl rfl⟩
 | 5, _ => ⟨8, rfl, Or.inr (Or.inr ⟨3, by decide, rfl⟩)⟩
 | 6, _ => ⟨16, rfl, Or.inr (Or.inr ⟨4, by decide, rfl⟩)⟩
 | n + 7, h => absurd h (by omega)
theorem permPK {α : Type} (a b c : α) (L : List α) : (a :: b :: c :: L).Perm (b :: c :: a :: L) := (List.perm_middle (a := a) (l₁ := [b, c]) (l₂ := L)).symm
set_option maxHeartbeats 8000000 in
set_option maxRecDepth 100000 in
theorem play_Op (L : List (Nat × (Obj → Prop))) (R : World → Prop) (w0 w : World) (p : Nat) (A : Option Addr) (n c j : Nat) (cf : Cf) (hg : Good cf) (bs : List Nat) (B : Bytes w0 A n c bs) (H : Own [] ((p, PK A n c j) :: L) R w0 w) (hj : j ≤ n)
 (l : List MB) (A2 : Option Addr) (ln c2 : Nat) (hln : ln = l.length) (hrow : ∀ W, R W → Row W (.slice A2 ln c2) ln (mbV l)) (hll : ln ≤ 1000) (hat : ∀ b ∈ l, b.1 ≤ 65536) :
 Calls Tryz.prog 37 #[.pointer (some ⟨p, 0, none⟩), cf.v, .slice A2 ln c2] w fun e w' => ∃ o : Opp, e = .returned o.v ∧ OpOk o ∧ ∃ j' : Nat, j' ≤ n ∧ Own [] ((p, PK A n c j') :: L) R w0 w' := by
 have HN := As.mk (fun (L : List (Nat × (Obj → Prop))) (W : World) (j m : Nat) (H : Own [] ((p, PK A n c j) :: L) R w0 W) (hj : j ≤ n) (hm : m ≤ 2 ^ 40) => play_Num L R w0 W p A n c j m bs B H hj hm)
 have HS := As.mk (fun (L : List (Nat × (Obj → Prop))) (W : World) (j : Nat) (H : Own [] ((p, PK A n c j) :: L) R w0 W) (hj : j ≤ n) => play_Size L R w0 W p A n c j cf hg bs B H hj)
 have HBL := As.mk (fun (L : List (Nat × (Obj → Prop))) (W : World) (j : Nat) (H : Own [] ((p, PK A n c j) :: L) R w0 W) (hj : j ≤ n) => play_Block L R w0 W p A n c j bs B H hj l A2 ln c2 hln hrow hll hat)
 rw [Cf.v] at HS ⊢
 have ho := ((H.box #[.int .i64 cf.G, .int .i64 cf.N, .int .i64 cf.M, .int .i64 cf.L, .int .i64 cf.Page, .int .i64 cf.P, .int .i64 cf.H, .int .i64 cf.Seed] 34).box #[.int .i64 0, .int .i64 0, .int .i64 0, .int .i64 0, .int .i64 0, .int .u8 0] 42).permL (L' := (p, PK A n c j) :: (w.heap.size + 1, EC 42 [.int .i64 0, .int .i64 0, .int .i64 0, .int .i64 0, .int .i64 0, .int .u8 0]) :: (w.heap.size, EC 34 [.int .i64 cf.G, .int .i64 cf.N, .int .i64 cf.M, .int .i64 cf.L, .int .i64 cf.Page, .int .i64 cf.P, .int .i64 cf.H, .int .i64 cf.Seed]) :: L) (by rw [World.size_alloc]; exact permPK _ _ _ _)
 have HO := As.mk ho
 obtain ⟨w1, hw1⟩ : ∃ w1, w1 = (w.alloc (.cells #[.int .i64 cf.G, .int .i64 cf.N, .int .i64 cf.M, .int .i64 cf.L, .int .i64 cf.Page, .int .i64 cf.P, .int .i64 cf.H, .int .i64 cf.Seed] 34)).alloc (.cells #[.int .i64 0, .int .i64 0, .int .i64 0, .int .i64 0, .int .i64 0, .int .u8 0] 42) := ⟨_, rfl⟩
 rw [← hw1] at HO
 clear ho H B hg hrow hat hll hln
 go_enter Tryz.func37, Tryz.ntmps37
 go_wp2_with fail
 rw [← hw1]
 clear hw1
 refine (HN.out _ _ j 20 HO.out hj (by decide)).mono ?_
 rintro e w2 ⟨k, j1, rfl, hk, -, hj1, ho⟩
 have HO1 := As.mk ho
 have hk' : k ≤ 19 := by omega
 clear ho HO hk
 by_cases cA : k < 6
 · have nA : ((k : Int) < 6) = True := eq_true (by omega)
   obtain ⟨zc0, zc1, zc2, zc3, zc4, zc5, zc6, zc7⟩ := conf_at HO1.out
   go_wp2_with fail
   refine (HS.out _ _ j1 HO1.out hj1).mono ?_
   rintro e w3 ⟨v2, rfl, hv2a, hv2b, j2, hj2, ho⟩
   have HO2 := As.mk ho
   clear ho HO1
   have t0 := HO2.out.get me1 0 (by simp)
   have f0 := HO2.out.frozen (g := w.heap.size + 1) me1 0
   have t1 := HO2.out.get me1 1 (by simp)
   have f1 := HO2.out.frozen (g := w.heap.size + 1) me1 1
   have t2 := HO2.out.get me1 2 (by simp)
   have f2 := HO2.out.frozen (g := w.heap.size + 1) me1 2
   have t3 := HO2.out.get me1 3 (by simp)
   have f3 := HO2.out.frozen (g := w.heap.size + 1) me1 3
   have t4 := HO2.out.get me1 4 (by simp)
   have f4 := HO2.out.frozen (g := w.heap.size + 1) me1 4
   have t5 := HO2.out.get me1 5 (by simp)
   have f5 := HO2.out.frozen (g := w.heap.size + 1) me1 5
   have HF := As.mk ((((((HO2.out.set 1 rfl 0 (.int .i64 1) (by simp)).set 1 rfl 1 (.int .i64 0) (by simp)).set 1 rfl 2 (.int .i64 (v2 : Int)) (by simp)).set 1 rfl 3 (.int .i64 0) (by simp)).set 1 rfl 4 (.int .i64 0) (by simp)).set 1 rfl 5 (.int .u8 0) (by simp)).drop2.drop2
   go_wp2_with fail
   refine bodyPost_ret (v := .agg #[.int .i64 1, .int .i64 0, .int .i64 (v2 : Int), .int .i64 0, .int .i64 0, .int .u8 0]) (by simp [results, Tryz.results37, go_sem, *]) rfl ?_
   exact ⟨⟨1, 0, (v2 : Int), 0, 0, 0⟩, rfl, ⟨by dsimp only; omega, Or.inl rfl, by dsimp only; omega, by dsimp only; omega, by dsimp only; omega⟩, j2, hj2, HF.out⟩
 have nA : ((k : Int) < 6) = False := eq_false (by omega)
 by_cases cB : k = 6
 · subst cB
   clear nA
   go_wp2_with fail
   refine rgn [(0, 1), (2, 1), (3, 0), (1, 2), (4, 2), (5, 1), (6, 3)] [6] (fun W => W.cell? ⟨w.heap.size, 0, none⟩ = some (.int .i64 cf.G) ∧ W.cell? ⟨w.heap.size, 1, none⟩ = some (.int .i64 cf.N) ∧ W.cell? ⟨w.heap.size, 2, none⟩ = some (.int .i64 cf.M) ∧ W.cell? ⟨w.heap.size, 3, none⟩ = some (.int .i64 cf.L) ∧ W.cell? ⟨w.heap.size, 4, none⟩ = some (.int .i64 cf.Page) ∧ W.cell? ⟨w.heap.size, 5, none⟩ = some (.int .i64 cf.P) ∧ W.cell? ⟨w.heap.size, 6, none⟩ = some (.int .i64 cf.H) ∧ W.cell? ⟨w.heap.size, 7, none⟩ = some (.int .i64 cf.Seed)) (by kernel_rfl) (by kernel_rfl) (fun _ _ _ d _ h => by cases d <;> exact h) (conf_at HO1.out.drew) ?_
   have HOd := As.mk HO1.out.drew
   clear HO1
   iterate 2 (refine Run.pu (v := ?_) (a' := ?_) rfl rfl (Or.inl ⟨by rfl, ?_⟩) ?_ ?_; rotate_left 2; (focus (intro W; go_simp; with_reducible rfl)); (focus (simp only [Act.put, zq4, zq5, zq6]; rfl)))
   refine Run.rd (v := ?_) (a' := ?_) rfl rfl (Or.inl ⟨by rfl, ?_⟩) ?_ ?_; rotate_left 2; (focus (rintro W ⟨hW1, hW2, hW3, hW4, hW5, hW6, hW7, hW8⟩; go_simp; with_reducible rfl)); (focus (simp only [Act.put, zq4, zq5, zq6]; rfl))
   refine Run.ef rfl (fun K hK => ?_)
   simp only [zq1, zq2, zq3]
   go_wp2_with fail
   refine (HN.out _ _ j1 4 HOd.out hj1 (by decide)).mono ?_
   rintro e w3 ⟨v2, j2, rfl, hv, -, hj2, ho⟩
   have hv2 : v2 ≤ 3 := by omega
   have HO2 := As.mk ho
   clear ho hv HOd
   go_wp2
   refine hK.out _ _ (conf_at HO2.out) ?_
   clear hK K
   refine Run.ef rfl (fun K hK => ?_)
   simp only [zq1, zq2, zq3]
   go_wp2_with fail
   refine (HS.out _ _ j2 HO2.out hj2).mono ?_
   rintro e w4 ⟨v3, rfl, hv3a, hv3b, j3, hj3, ho⟩
   have HO3 := As.mk ho
   clear ho HO2
   go_wp2
   refine hK.out _ _ (conf_at HO3.out) ?_
   clear hK K
   refine Run.pu (v := ?_) (a' := ?_) rfl rfl (Or.inl ⟨by rfl, ?_⟩) ?_ ?_; rotate_left 2; (focus (intro W; go_simp; with_reducible rfl)); (focus (simp only [Act.put, zq4, zq5, zq6]; rfl))
   refine Run.la rfl (fun K hK => ?_)
   simp only [zq1, zq2, zq3]
   try simp only [zq4, zq5, zq6]
   have t0 := HO3.out.get me1 0 (by simp)
   have f0 := HO3.out.frozen (g := w.heap.size + 1) me1 0
   have t1 := HO3.out.get me1 1 (by simp)
   have f1 := HO3.out.frozen (g := w.heap.size + 1) me1 1
   have t2 := HO3.out.get me1 2 (by simp)
   have f2 := HO3.out.frozen (g := w.heap.size + 1) me1 2
   have t3 := HO3.out.get me1 3 (by simp)
   have f3 := HO3.out.frozen (g := w.heap.size + 1) me1 3
   have t4 := HO3.out.get me1 4 (by simp)
   have f4 := HO3.out.frozen (g := w.heap.size + 1) me1 4
   have t5 := HO3.out.get me1 5 (by simp)
   have f5 := HO3.out.frozen (g := w.heap.size + 1) me1 5
   have HF := As.mk ((((((HO3.out.set 1 rfl 0 (.int .i64 2) (by simp)).set 1 rfl 1 (.int .i64 0) (by simp)).set 1 rfl 2 (.int .i64 (v3 : Int)) (by simp)).set 1 rfl 3 (.int .i64 0) (by simp)).set 1 rfl 4 (.int .i64 (v2 : Int)) (by simp)).set 1 rfl 5 (.int .u8 0) (by simp)).drop2.drop2
   go_wp2
   refine hK.out _ _ ?_
   clear hK K
   refine Run.nil ?_
   go_wp2_with fail
   refine bodyPost_ret (v := .agg #[.int .i64 2, .int .i64 0, .int .i64 (v3 : Int), .int .i64 0, .int .i64 (v2 : Int), .int .u8 0]) (by simp [results, Tryz.results37, go_sem, *]) rfl ?_
   exact ⟨⟨2, 0, (v3 : Int), 0, (v2 : Int), 0⟩, rfl, ⟨by dsimp only; omega, Or.inl rfl, by dsimp only; omega, by dsimp only; omega, by dsimp only; omega⟩, j3, hj3, HF.out⟩
 have nB := beqF (show ¬ (k : Int) = 6 by omega)
 by_cases cC : k = 7
 · subst cC
   clear nA nB
   obtain ⟨zc0, zc1, zc2, zc3, zc4, zc5, zc6, zc7⟩ := conf_at HO1.out
   go_wp2_with fail
   refine (HS.out _ _ j1 HO1.out hj1).mono ?_
   rintro e w3 ⟨v2, rfl, hv2a, hv2b, j2, hj2, ho⟩
   have HO2 := As.mk ho
   clear ho HO1
   go_wp2_with fail
   have hob := (HO2.out.box #[.int .i64 1, .int .i64 2, .int .i64 4, .int .i64 3, .int .i64 0, .int .i64 8, .int .i64 16] 3).swap
   have HOb := As.mk hob
   clear hob HO2
   refine (HN.out _ _ j2 7 HOb.out hj2 (by decide)).mono ?_
   rintro e w4 ⟨v3, j3, rfl, hv, -, hj3, ho⟩
   have hv3 : v3 ≤ 6 := by omega
   have HO3 := As.mk ho
   clear ho hv HOb
   obtain ⟨x, hx, hga⟩ := lit7 v3 (by omega)
   have hrow := HO3.out.get me1 v3 (by simp; omega)
   rw [hx] at hrow
   have HO4 := As.mk HO3.out.drop2
   clear hx HO3
   have hv7 : ((v3 : Int) < 7) = True := eq_true (by omega)
   have hv0 : ((v3 : Int) < 0) = False := eq_false (by omega)
   have t0 := HO4.out.get me1 0 (by simp)
   have f0 := HO4.out.frozen (g := w.heap.size + 1) me1 0
   have t1 := HO4.out.get me1 1 (by simp)
   have f1 := HO4.out.frozen (g := w.heap.size + 1) me1 1
   have t2 := HO4.out.get me1 2 (by simp)
   have f2 := HO4.out.frozen (g := w.heap.size + 1) me1 2
   have t3 := HO4.out.get me1 3 (by simp)
   have f3 := HO4.out.frozen (g := w.heap.size + 1) me1 3
   have t4 := HO4.out.get me1 4 (by simp)
   have f4 := HO4.out.frozen (g := w.heap.size + 1) me1 4
   have t5 := HO4.out.get me1 5 (by simp)
   have f5 := HO4.out.frozen (g := w.heap.size + 1) me1 5
   have HF := As.mk ((((((HO4.out.set 1 rfl 0 (.int .i64 3) (by simp)).set 1 rfl 1 (.int .i64 0) (by simp)).set 1 rfl 2 (.int .i64 v2) (by simp)).set 1 rfl 3 (.int .i64 x) (by simp)).set 1 rfl 4 (.int .i64 0) (by simp)).set 1 rfl 5 (.int .u8 0) (by simp)).drop2.drop2
   go_wp2_with fail
   refine bodyPost_ret (v := .agg #[.int .i64 3, .int .i64 0, .int .i64 v2, .int .i64 x, .int .i64 0, .int .u8 0]) (by simp [results, Tryz.results37, go_sem, *]) rfl ?_
   exact ⟨⟨3, 0, v2, x, 0, 0⟩, rfl, ⟨by dsimp only; omega, hga, by dsimp only; omega, by dsimp only; omega, by dsimp only; omega⟩, j3, hj3, HF.out⟩
 have nC := beqF (show ¬ (k : Int) = 7 by omega)
 by_cases cD : k < 11
 · have nD : ((k : Int) < 11) = True := eq_true (by omega)
   go_wp2_with fail
   refine rgn [(0, 1), (1, 1), (3, 1), (4, 0), (2, 2), (5, 2), (6, 1), (7, 3)] [7] (fun W => W.cell? ⟨w.heap.size, 0, none⟩ = some (.int .i64 cf.G) ∧ W.cell? ⟨w.heap.size, 1, none⟩ = some (.int .i64 cf.N) ∧ W.cell? ⟨w.heap.size, 2, none⟩ = some (.int .i64 cf.M) ∧ W.cell? ⟨w.heap.size, 3, none⟩ = some (.int .i64 cf.L) ∧ W.cell? ⟨w.heap.size, 4, none⟩ = some (.int .i64 cf.Page) ∧ W.cell? ⟨w.heap.size, 5, none⟩ = some (.int .i64 cf.P) ∧ W.cell? ⟨w.heap.size, 6, none⟩ = some (.int .i64 cf.H) ∧ W.cell? ⟨w.heap.size, 7, none⟩ = some (.int .i64 cf.Seed)) (by kernel_rfl) (by kernel_rfl) (fun _ _ _ d _ h => by cases d <;> exact h) (conf_at HO1.out.drew) ?_
   have HOd := As.mk HO1.out.drew
   clear HO1
   iterate 3 (refine Run.pu (v := ?_) (a' := ?_) rfl rfl (Or.inl ⟨by rfl, ?_⟩) ?_ ?_; rotate_left 2; (focus (intro W; go_simp; with_reducible rfl)); (focus (simp only [Act.put, zq4, zq5, zq6]; rfl)))
   refine Run.rd (v := ?_) (a' := ?_) rfl rfl (Or.inl ⟨by rfl, ?_⟩) ?_ ?_; rotate_left 2; (focus (rintro W ⟨hW1, hW2, hW3, hW4, hW5, hW6, hW7, hW8⟩; go_simp; with_reducible rfl)); (focus (simp only [Act.put, zq4, zq5, zq6]; rfl))
   refine Run.ef rfl (fun K hK => ?_)
   simp only [zq1, zq2, zq3]
   go_wp2_with fail
   refine (HBL.out _ _ j1 HOd.out hj1).mono ?_
   rintro e w3 ⟨v2, rfl, hv2a, hv2b, j2, hj2, ho⟩
   have HO2 := As.mk ho
   clear ho HOd
   go_wp2
   refine hK.out _ _ (conf_at HO2.out) ?_
   clear hK K
   refine Run.ef rfl (fun K hK => ?_)
   simp only [zq1, zq2, zq3]
   go_wp2_with fail
   refine (HS.out _ _ j2 HO2.out hj2).mono ?_
   rintro e w4 ⟨v3, rfl, hv3a, hv3b, j3, hj3, ho⟩
   have HO3 := As.mk ho
   clear ho HO2
   go_wp2
   refine hK.out _ _ (conf_at HO3.out) ?_
   clear hK K
   refine Run.pu (v := ?_) (a' := ?_) rfl rfl (Or.inl ⟨by rfl, ?_⟩) ?_ ?_; rotate_left 2; (focus (intro W; go_simp; with_reducible rfl)); (focus (simp only [Act.put, zq4, zq5, zq6]; rfl))
   refine Run.la rfl (fun K hK => ?_)
   simp only [zq1, zq2, zq3]
   try simp only [zq4, zq5, zq6]
   have t0 := HO3.out.get me1 0 (by simp)
   have f0 := HO3.out.frozen (g := w.heap.size + 1) me1 0
   have t1 := HO3.out.get me1 1 (by simp)
   have f1 := HO3.out.frozen (g := w.heap.size + 1) me1 1
   have t2 := HO3.out.get me1 2 (by simp)
   have f2 := HO3.out.frozen (g := w.heap.size + 1) me1 2
   have t3 := HO3.out.get me1 3 (by simp)
   have f3 := HO3.out.frozen (g := w.heap.size + 1) me1 3
   have t4 := HO3.out.get me1 4 (by simp)
   have f4 := HO3.out.frozen (g := w.heap.size + 1) me1 4
   have t5 := HO3.out.get me1 5 (by simp)
   have f5 := HO3.out.frozen (g := w.heap.size + 1) me1 5
   have HF := As.mk ((((((HO3.out.set 1 rfl 0 (.int .i64 4) (by simp)).set 1 rfl 1 (.int .i64 (v2 : Int)) (by simp)).set 1 rfl 2 (.int .i64 (v3 : Int)) (by simp)).set 1 rfl 3 (.int .i64 0) (by simp)).set 1 rfl 4 (.int .i64 0) (by simp)).set 1 rfl 5 (.int .u8 0) (by simp)).drop2.drop2
   go_wp2
   refine hK.out _ _ ?_
   clear hK K
   refine Run.nil ?_
   go_wp2_with fail
   refine bodyPost_ret (v := .agg #[.int .i64 4, .int .i64 (v2 : Int), .int .i64 (v3 : Int), .int .i64 0, .int .i64 0, .int .u8 0]) (by simp [results, Tryz.results37, go_sem, *]) rfl ?_
   exact ⟨⟨4, (v2 : Int), (v3 : Int), 0, 0, 0⟩, rfl, ⟨by dsimp only; omega, Or.inl rfl, by dsimp only; omega, by dsimp only; omega, by dsimp only; omega⟩, j3, hj3, HF.out⟩
 have nD : ((k : Int) < 11) = False := eq_false (by omega)
 by_cases cE : k < 14
 · have nE : ((k : Int) < 14) = True := eq_true (by omega)
   go_wp2_with fail
   refine (HBL.out _ _ j1 HO1.out hj1).mono ?_
   rintro e w3 ⟨v2, rfl, hv2a, hv2b, j2, hj2, ho⟩
   have HO2 := As.mk ho
   clear ho HO1
   have t0 := HO2.out.get me1 0 (by simp)
   have f0 := HO2.out.frozen (g := w.heap.size + 1) me1 0
   have t1 := HO2.out.get me1 1 (by simp)
   have f1 := HO2.out.frozen (g := w.heap.size + 1) me1 1
   have t2 := HO2.out.get me1 2 (by simp)
   have f2 := HO2.out.frozen (g := w.heap.size + 1) me1 2
   have t3 := HO2.out.get me1 3 (by simp)
   have f3 := HO2.out.frozen (g := w.heap.size + 1) me1 3
   have t4 := HO2.out.get me1 4 (by simp)
   have f4 := HO2.out.frozen (g := w.heap.size + 1) me1 4
   have t5 := HO2.out.get me1 5 (by simp)
   have f5 := HO2.out.frozen (g := w.heap.size + 1) me1 5
   have HF := As.mk ((((((HO2.out.set 1 rfl 0 (.int .i64 5) (by simp)).set 1 rfl 1 (.int .i64 (v2 : Int)) (by simp)).set 1 rfl 2 (.int .i64 0) (by simp)).set 1 rfl 3 (.int .i64 0) (by simp)).set 1 rfl 4 (.int .i64 0) (by simp)).set 1 rfl 5 (.int .u8 0) (by simp)).drop2.drop2
   go_wp2_with fail
   refine bodyPost_ret (v := .agg #[.int .i64 5, .int .i64 (v2 : Int), .int .i64 0, .int .i64 0, .int .i64 0, .int .u8 0]) (by simp [results, Tryz.results37, go_sem, *]) rfl ?_
   exact ⟨⟨5, (v2 : Int), 0, 0, 0, 0⟩, rfl, ⟨by dsimp only; omega, Or.inl rfl, by dsimp only; omega, by dsimp only; omega, by dsimp only; omega⟩, j2, hj2, HF.out⟩
 have nE : ((k : Int) < 14) = False := eq_false (by omega)
 by_cases cF : k = 14
 · subst cF
   clear nA nB nC nD nE
   go_wp2_with fail
   refine (HBL.out _ _ j1 HO1.out hj1).mono ?_
   rintro e w3 ⟨v2, rfl, hv2a, hv2b, j2, hj2, ho⟩
   have HO2 := As.mk ho
   clear ho HO1
   have t0 := HO2.out.get me1 0 (by simp)
   have f0 := HO2.out.frozen (g := w.heap.size + 1) me1 0
   have t1 := HO2.out.get me1 1 (by simp)
   have f1 := HO2.out.frozen (g := w.heap.size + 1) me1 1
   have t2 := HO2.out.get me1 2 (by simp)
   have f2 := HO2.out.frozen (g := w.heap.size + 1) me1 2
   have t3 := HO2.out.get me1 3 (by simp)
   have f3 := HO2.out.frozen (g := w.heap.size + 1) me1 3
   have t4 := HO2.out.get me1 4 (by simp)
   have f4 := HO2.out.frozen (g := w.heap.size + 1) me1 4
   have t5 := HO2.out.get me1 5 (by simp)
   have f5 := HO2.out.frozen (g := w.heap.size + 1) me1 5
   have HF := As.mk ((((((HO2.out.set 1 rfl 0 (.int .i64 6) (by simp)).set 1 rfl 1 (.int .i64 (v2 : Int)) (by simp)).set 1 rfl 2 (.int .i64 0) (by simp)).set 1 rfl 3 (.int .i64 0) (by simp)).set 1 rfl 4 (.int .i64 0) (by simp)).set 1 rfl 5 (.int .u8 0) (by simp)).drop2.drop2
   go_wp2_with fail
   refine bodyPost_ret (v := .agg #[.int .i64 6, .int .i64 (v2 : Int), .int .i64 0, .int .i64 0, .int .i64 0, .int .u8 0]) (by simp [results, Tryz.results37, go_sem, *]) rfl ?_
   exact ⟨⟨6, (v2 : Int), 0, 0, 0, 0⟩, rfl, ⟨by dsimp only; omega, Or.inl rfl, by dsimp only; omega, by dsimp only; omega, by dsimp only; omega⟩, j2, hj2, HF.out⟩
 have nF := beqF (show ¬ (k : Int) = 14 by omega)
 by_cases cG : k < 17
 · have nG : ((k : Int) < 17) = True := eq_true (by omega)
   go_wp2_with fail
   refine (HBL.out _ _ j1 HO1.out hj1).mono ?_
   rintro e w3 ⟨v2, rfl, hv2a, hv2b, j2, hj2, ho⟩
   have HO2 := As.mk ho
   clear ho HO1
   go_wp2_with fail
   refine (HN.out _ _ j2 9 HO2.out hj2 (by decide)).mono ?_
   rintro e w4 ⟨v3, j3, rfl, hv, -, hj3, ho⟩
   have hv3 : v3 ≤ 8 := by omega
   have HO3 := As.mk ho
   clear ho hv HO2
   have t0 := HO3.out.get me1 0 (by simp)
   have f0 := HO3.out.frozen (g := w.heap.size + 1) me1 0
   have t1 := HO3.out.get me1 1 (by simp)
   have f1 := HO3.out.frozen (g := w.heap.size + 1) me1 1
   have t2 := HO3.out.get me1 2 (by simp)
   have f2 := HO3.out.frozen (g := w.heap.size + 1) me1 2
   have t3 := HO3.out.get me1 3 (by simp)
   have f3 := HO3.out.frozen (g := w.heap.size + 1) me1 3
   have t4 := HO3.out.get me1 4 (by simp)
   have f4 := HO3.out.frozen (g := w.heap.size + 1) me1 4
   have t5 := HO3.out.get me1 5 (by simp)
   have f5 := HO3.out.frozen (g := w.heap.size + 1) me1 5
   have HF := As.mk ((((((HO3.out.set 1 rfl 0 (.int .i64 7) (by simp)).set 1 rfl 1 (.int .i64 (v2 : Int)) (by simp)).set 1 rfl 2 (.int .i64 0) (by simp)).set 1 rfl 3 (.int .i64 0) (by simp)).set 1 rfl 4 (.int .i64 (v3 : Int)) (by simp)).set 1 rfl 5 (.int .u8 0) (by simp)).drop2.drop2
   go_wp2_with fail
   refine bodyPost_ret (v := .agg #[.int .i64 7, .int .i64 (v2 : Int), .int .i64 0, .int .i64 0, .int .i64 (v3 : Int), .int .u8 0]) (by simp [results, Tryz.results37, go_sem, *]) rfl ?_
   exact ⟨⟨7, (v2 : Int), 0, 0, (v3 : Int), 0⟩, rfl, ⟨by dsimp only; omega, Or.inl rfl, by dsimp only; omega, by dsimp only; omega, by dsimp only; omega⟩, j3, hj3, HF.out⟩
 have nG : ((k : Int) < 17) = False := eq_false (by omega)
 by_cases cH : k = 17
 · subst cH
   clear nA nB nC nD nE nF nG
   have t0 := HO1.out.get me1 0 (by simp)
   have f0 := HO1.out.frozen (g := w.heap.size + 1) me1 0
   have t1 := HO1.out.get me1 1 (by simp)
   have f1 := HO1.out.frozen (g := w.heap.size + 1) me1 1
   have t2 := HO1.out.get me1 2 (by simp)
   have f2 := HO1.out.frozen (g := w.heap.size + 1) me1 2
   have t3 := HO1.out.get me1 3 (by simp)
   have f3 := HO1.out.frozen (g := w.heap.size + 1) me1 3
   have t4 := HO1.out.get me1 4 (by simp)
   have f4 := HO1.out.frozen (g := w.heap.size + 1) me1 4
   have t5 := HO1.out.get me1 5 (by simp)
   have f5 := HO1.out.frozen (g := w.heap.size + 1) me1 5
   have HF := As.mk ((((((HO1.out.set 1 rfl 0 (.int .i64 9) (by simp)).set 1 rfl 1 (.int .i64 0) (by simp)).set 1 rfl 2 (.int .i64 0) (by simp)).set 1 rfl 3 (.int .i64 0) (by simp)).set 1 rfl 4 (.int .i64 0) (by simp)).set 1 rfl 5 (.int .u8 0) (by simp)).drop2.drop2
   go_wp2_with fail
   refine bodyPost_ret (v := .agg #[.int .i64 9, .int .i64 0, .int .i64 0, .int .i64 0, .int .i64 0, .int .u8 0]) (by simp [results, Tryz.results37, go_sem, *]) rfl ?_
   exact ⟨⟨9, 0, 0, 0, 0, 0⟩, rfl, ⟨by dsimp only; omega, Or.inl rfl, by dsimp only; omega, by dsimp only; omega, by dsimp only; omega⟩, j1, hj1, HF.out⟩
 have nH := beqF (show ¬ (k : Int) = 17 by omega)
 by_cases cI : k = 18
 · subst cI
   clear nA nB nC nD nE nF nG nH
   have t0 := HO1.out.get me1 0 (by simp)
   have f0 := HO1.out.frozen (g := w.heap.size + 1) me1 0
   have t1 := HO1.out.get me1 1 (by simp)
   have f1 := HO1.out.frozen (g := w.heap.size + 1) me1 1
   have t2 := HO1.out.get me1 2 (by simp)
   have f2 := HO1.out.frozen (g := w.heap.size + 1) me1 2
   have t3 := HO1.out.get me1 3 (by simp)
   have f3 := HO1.out.frozen (g := w.heap.size + 1) me1 3
   have t4 := HO1.out.get me1 4 (by simp)
   have f4 := HO1.out.frozen (g := w.heap.size + 1) me1 4
   have t5 := HO1.out.get me1 5 (by simp)
   have f5 := HO1.out.frozen (g := w.heap.size + 1) me1 5
   have HF := As.mk ((((((HO1.out.set 1 rfl 0 (.int .i64 10) (by simp)).set 1 rfl 1 (.int .i64 0) (by simp)).set 1 rfl 2 (.int .i64 0) (by simp)).set 1 rfl 3 (.int .i64 0) (by simp)).set 1 rfl 4 (.int .i64 0) (by simp)).set 1 rfl 5 (.int .u8 0) (by simp)).drop2.drop2
   go_wp2_with fail
   refine bodyPost_ret (v := .agg #[.int .i64 10, .int .i64 0, .int .i64 0, .int .i64 0, .int .i64 0, .int .u8 0]) (by simp [results, Tryz.results37, go_sem, *]) rfl ?_
   exact ⟨⟨10, 0, 0, 0, 0, 0⟩, rfl, ⟨by dsimp only; omega, Or.inl rfl, by dsimp only; omega, by dsimp only; omega, by dsimp only; omega⟩, j1, hj1, HF.out⟩
 have nI := beqF (show ¬ (k : Int) = 18 by omega)
 go_wp2_with fail
 refine (HBL.out _ _ j1 HO1.out hj1).mono ?_
 rintro e w3 ⟨v2, rfl, hv2a, hv2b, j2, hj2, ho⟩
 have HO2 := As.mk ho
 clear ho HO1
 go_wp2_with fail
 refine (HN.out _ _ j2 9 HO2.out hj2 (by decide)).mono ?_
 rintro e w4 ⟨v3, j3, rfl, hv, -, hj3, ho⟩
 have hv3 : v3 ≤ 8 := by omega
 have HO3 := As.mk ho
 clear ho hv HO2
 go_wp2_with fail
 refine (HN.out _ _ j3 256 HO3.out hj3 (by decide)).mono ?_
 rintro e w5 ⟨v4, j4, rfl, hv, -, hj4, ho⟩
 have hv4 : v4 ≤ 255 := by omega
 have HO4 := As.mk ho
 clear ho hv HO3
 have t0 := HO4.out.get me1 0 (by simp)
 have f0 := HO4.out.frozen (g := w.heap.size + 1) me1 0
 have t1 := HO4.out.get me1 1 (by simp)
 have f1 := HO4.out.frozen (g := w.heap.size + 1) me1 1
 have t2 := HO4.out.get me1 2 (by simp)
 have f2 := HO4.out.frozen (g := w.heap.size + 1) me1 2
 have t3 := HO4.out.get me1 3 (by simp)
 have f3 := HO4.out.frozen (g := w.heap.size + 1) me1 3
 have t4 := HO4.out.get me1 4 (by simp)
 have f4 := HO4.out.frozen (g := w.heap.size + 1) me1 4
 have t5 := HO4.out.get me1 5 (by simp)
 have f5 := HO4.out.frozen (g := w.heap.size + 1) me1 5
 have HF := As.mk ((((((HO4.out.set 1 rfl 0 (.int .i64 8) (by simp)).set 1 rfl 1 (.int .i64 (v2 : Int)) (by simp)).set 1 rfl 2 (.int .i64 0) (by simp)).set 1 rfl 3 (.int .i64 0) (by simp)).set 1 rfl 4 (.int .i64 (v3 : Int)) (by simp)).set 1 rfl 5 (.int .u8 (v4 : Int)) (by simp)).drop2.drop2
 go_wp2_with fail
 refine bodyPost_ret (v := .agg #[.int .i64 8, .int .i64 (v2 : Int), .int .i64 0, .int .i64 0, .int .i64 (v3 : Int), .int .u8 (v4 : Int)]) (by simp [results, Tryz.results37, go_sem, *]) rfl ?_
 exact ⟨⟨8, (v2 : Int), 0, 0, (v3 : Int), (v4 : Int)⟩, rfl, ⟨by dsimp only; omega, Or.inl rfl, by dsimp only; omega, by dsimp only; omega, by dsimp only; omega⟩, j4, hj4, HF.out⟩
end Go.Proofs.YtmookafmdonopaaGreat.Top
/- hodmanref8: Byte, there, Over, Pages, Count walked: that they answer (weak). -/
namespace Go.Proofs.YtmookafmdonopaaGreat.Top
open Go Go.RowKit
set_option linter.unusedVariables false
set_option linter.unusedSimpArgs false
attribute [local go_sem] max2_int min2_int max_two min_two max_three

def RetB (e : Ending) : Prop := ∃ x : Bool, e = .returned (.bool x)
def RetI (e : Ending) : Prop := ∃ x : Int, e = .returned (.int .i64 x)
def RetU (e : Ending) : Prop := ∃ x : Int, e = .returned (.int .u8 x)
def RetII (e : Ending) : Prop := ∃ x y : Int, e = .returned (.tuple #[.int .i64 x, .int .i64 y])
theorem ref_Byte (a b c : Int) (w : World) : Calls Tryz.prog 110 #[.int .i64 a, .int .i64 b, .int .i64 c] w fun e w' => RetU e ∧ w' = w := by
 go_enter Tryz.func110, Tryz.ntmps110
 go_wp2
 go_ret
 exact ⟨⟨_, rfl⟩, rfl⟩
theorem ref_Over (a n b m : Int) (w : World) : Calls Tryz.prog 50 #[.agg #[.int .i64 a, .int .i64 n], .agg #[.int .i64 b, .int .i64 m]] w fun e w' => RetB e ∧ Below w.heap.size w w' := by
 obtain ⟨s1, hs1⟩ : ∃ s, s = wrap64 (b + m) := ⟨_, rfl⟩
 obtain ⟨s2, hs2⟩ : ∃ s, s = wrap64 (a + n) := ⟨_, rfl⟩
 by_cases h1 : a < s1
 · go_enter Tryz.func50, Tryz.ntmps50
   go_wp2_with fail
   simp only [← hs1, ← hs2, h1]
   go_wp2_with fail
   go_ret
   exact ⟨⟨_, rfl⟩, (box_below _ _).alloc (by simp) _⟩
 · go_enter Tryz.func50, Tryz.ntmps50
   go_wp2_with fail
   simp only [← hs1, ← hs2, h1]
   go_wp2_with fail
   go_ret
   exact ⟨⟨_, rfl⟩, (box_below _ _).alloc (by simp) _⟩
theorem ref_Count (A : Option Addr) (c : Nat) (l : List Bool) (w : World) (h : Row w (.slice A l.length c) l.length (l.map Value.bool)) (hl : l.length ≤ 2 ^ 40) :
 Calls Tryz.prog 64 #[.slice A l.length c] w fun e w' => RetI e ∧ w' = w := by
 go_enter Tryz.func64, Tryz.ntmps64
 go_wp2
 go_loop [3, 4] (fun s i => ∃ (k : Nat) (x : Int), k ≤ l.length ∧ s = .int .i64 x ∧ i = .int .i64 (k : Nat)) (fun _ i => l.length - (intOf i).toNat)
 case atStart => exact ⟨0, 0, Nat.zero_le _, rfl, rfl⟩
 case round =>
  obtain ⟨k, x, hk, rfl, rfl⟩ := hrel
  have H := As.mk h
  clear h
  by_cases hlt : k < l.length
  · obtain ⟨b, o, rfl, hx⟩ := H.out.at_ k (by simpa using hlt)
    rw [List.getElem_map] at hx
    obtain ⟨y, hy⟩ : ∃ y, y = l[k] := ⟨_, rfl⟩
    rw [← hy] at hx
    clear hy
    cases y
    all_goals
     go_wp2
     go_round
     case rel => exact ⟨k + 1, _, hlt, rfl, by go_num⟩
     case measure => simp [intOf]; omega
  · have e : k = l.length := by omega
    subst e
    go_wp2
    go_ret
    exact ⟨⟨_, rfl⟩, rfl⟩
theorem ref_there (A : Option Addr) (n c : Nat) (at_ q : Int) (w : World) (hn : n ≤ 2 ^ 40) :
 Calls Tryz.prog 101 #[.slice A n c, .int .i64 at_, .int .i64 q] w fun e w' => ∃ b : Bool, e = .returned (.bool b) ∧ w' = w ∧ (b = true → 0 ≤ at_ ∧ 0 ≤ q ∧ at_ + q ≤ n) := by
 by_cases h1 : 0 ≤ at_
 · by_cases h2 : 0 ≤ q
   · by_cases h3 : at_ ≤ n
     · by_cases h4 : q ≤ n - at_
       all_goals
        go_enter Tryz.func101, Tryz.ntmps101
        go_wp2
        go_ret
        first | exact ⟨_, rfl, rfl, fun h => ⟨h1, h2, by omega⟩⟩ | exact ⟨_, rfl, rfl, fun h => absurd h (by simp)⟩ | (simp; omega) | simp
     · go_enter Tryz.func101, Tryz.ntmps101
       go_wp2
       go_ret
       first | exact ⟨_, rfl, rfl, fun h => absurd h (by simp)⟩ | simp
   · go_enter Tryz.func101, Tryz.ntmps101
     go_wp2
     go_ret
     first | exact ⟨_, rfl, rfl, fun h => absurd h (by simp)⟩ | simp
 · go_enter Tryz.func101, Tryz.ntmps101
   go_wp2
   go_ret
   first | exact ⟨_, rfl, rfl, fun h => absurd h (by simp)⟩ | simp
theorem ref_Pages (pg a : Nat) (n : Int) (w : World) (h1 : 1 ≤ pg) (h2 : pg ≤ 2 ^ 20) (h3 : a ≤ 2 ^ 20) (h4 : n ≤ 2 ^ 20) :
 Calls Tryz.prog 97 #[.int .i64 (pg : Int), .int .i64 (a : Int), .int .i64 n] w fun e w' => RetII e ∧ Below w.heap.size w w' := by
 by_cases hneg : n < 0
 · go_enter Tryz.func97, Tryz.ntmps97
   go_wp2
   go_ret2
   exact ⟨⟨_, _, rfl⟩, Below.refl _ _⟩
 · by_cases hz : n = 0
   · subst hz
     go_enter Tryz.func97, Tryz.ntmps97
     go_wp2
     go_quiet (fail)
     go_wp2
     go_ret2
     exact ⟨⟨_, _, rfl⟩, ⟨rfl, rfl, rfl, Nat.le_refl _, fun _ _ => rfl⟩⟩
   · obtain ⟨m, hm⟩ : ∃ m : Nat, n - 1 = (m : Int) := ⟨(n - 1).toNat, by omega⟩
     have HA := As.mk (fun w => ref_Add a m w (by omega) (by omega))
     have hn0 := beqF hz
     have E1 := As.mk (show wrap64 (n - 1) = (m : Int) by rw [hm]; unfold wrap64; omega)
     have hneg' : (n < 0) = False := eq_false hneg
     clear hm hneg hz h4
     go_enter Tryz.func97, Tryz.ntmps97
     go_wp2_with fail
     simp only [E1.out]
     refine (HA.out _).mono ?_
     rintro e w' ⟨rfl, rfl⟩
     go_wp2_with fail
     go_quiet (fail)
     go_wp2
     go_ret2
     exact ⟨⟨_, _, rfl⟩, ⟨rfl, rfl, rfl, Nat.le_refl _, fun _ _ => rfl⟩⟩
end Go.Proofs.YtmookafmdonopaaGreat.Top
/- hodmanref8: Met walked (weak). -/
namespace Go.Proofs.YtmookafmdonopaaGreat.Top
open Go Go.RowKit
set_option linter.unusedVariables false
set_option linter.unusedSimpArgs false
attribute [local go_sem] max2_int min2_int max_two min_two max_three

/-- a fresh row of truths comes back -/
def RetRow (base : Nat) (w' : World) (n : Nat) (e : Ending) : Prop := ∃ v, e = .returned v ∧ ∃ bs : List Bool, bs.length = n ∧ Fr base w' 4 v n (bs.map Value.bool)
set_option maxHeartbeats 4000000 in
theorem ref_Met (pg H : Nat) (A : Option Addr) (c : Nat) (l : List MB) (w : World) (hr : Row w (.slice A l.length c) l.length (mbV l)) (h1 : 1 ≤ pg) (h2 : pg ≤ H) (h3 : H ≤ 65536) (hl : l.length ≤ 100000) :
 Calls Tryz.prog 63 #[.int .i64 (pg : Int), .int .i64 (H : Int), .slice A l.length c] w fun e w' => RetRow w.heap.size w' (H / pg) e ∧ Below w.heap.size w w' := by
 have HR := As.mk hr
 have HS := As.mk (Own.start (X := []) w)
 have d1 : (H : Int) / (pg : Int) = ((H / pg : Nat) : Int) := rfl
 have n0 : 1 ≤ H / pg := Nat.div_pos h2 h1
 have n1 : H / pg ≤ H := Nat.div_le_self _ _
 obtain ⟨n, hn⟩ : ∃ n, n = H / pg := ⟨_, rfl⟩
 rw [← hn] at d1 n0 n1 ⊢
 have n2 : n ≤ 65536 := by omega
 obtain ⟨ln, hln⟩ : ∃ n, n = l.length := ⟨_, rfl⟩
 rw [← hln] at hl HR ⊢
 have HLN := As.mk hln
 clear hr hn n1 hln
 go_enter Tryz.func63, Tryz.ntmps63
 go_wp2_with (first | (at_make; refine go_make rfl _ _ 56 4 (.bool false) 1 rfl Tryz.underlying56 info4 rfl _ _ _ _ n rfl rfl (by first | rfl | omega) (by first | rfl | omega) (by omega) (by simp only [maxLen]; omega) HS.out ?_; intro w1 ho hb; have HO := As.mk ho; clear ho hb))
 go_loopw [8] (fun i wr => ∃ (k : Nat) (bs : List Bool), k ≤ n ∧ bs.length = n ∧ i = .int .i64 (k : Int) ∧ Own [] [(w.heap.size, EC 4 (bs.map Value.bool))] (fun _ => True) w wr) (fun i _ => n - (intOf i).toNat)
 case atStart => exact ⟨0, List.replicate n false, Nat.zero_le _, by simp, rfl, by rw [List.map_replicate]; exact HO.out⟩
 case round =>
  clear HO
  obtain ⟨k, bs, hk, hbs, rfl, ho⟩ := hrel
  have HO := As.mk ho
  clear ho
  by_cases hkn : k < n
  · go_wp2
    go_loopw [9] (fun i wr => ∃ (j : Nat) (bs : List Bool), j ≤ ln ∧ bs.length = n ∧ i = .int .i64 (j : Int) ∧ Own [] [(w.heap.size, EC 4 (bs.map Value.bool))] (fun _ => True) w wr) (fun i _ => ln - (intOf i).toNat)
    case atStart => exact ⟨0, bs, Nat.zero_le _, hbs, rfl, HO.out⟩
    case round =>
     clear HO hbs bs
     obtain ⟨j, bs, hj, hbs, rfl, ho⟩ := hrel
     have HO := As.mk ho
     clear ho
     by_cases hjl : j < ln
     · obtain ⟨m, hm⟩ : ∃ m, l[j]? = some m := ⟨l[j]'(by have := HLN.out; omega), List.getElem?_eq_getElem _⟩
       obtain ⟨b, o, rfl, hnc, hcell⟩ := HR.out.cell' (by rw [mbV_len]; have := HLN.out; omega)
       obtain ⟨m1, m2, _⟩ := mbV_at l j m hm
       have y1 := As.mk (hcell _ _ m1)
       have y2 := As.mk (hcell _ _ m2)
       obtain ⟨y, hy⟩ : ∃ y, bs[k]? = some y := ⟨bs[k]'(by omega), List.getElem?_eq_getElem _⟩
       have hbk : (bs.map Value.bool)[k]? = some (.bool y) := by rw [List.getElem?_map, hy]; rfl
       have HSS := As.mk (fun (W : World) (hW : Own [] [(w.heap.size, EC 4 (bs.map Value.bool))] (fun _ => True) w W) => show W.cell? ⟨w.heap.size, k, none⟩ = some (.bool y) ∧ W.cell? ⟨b, o + j * 3, none⟩ = some (.int .i64 (m.1 : Int)) ∧ W.cell? ⟨b, o + j * 3 + 1, none⟩ = some (.int .i64 (m.2.1 : Int)) from ⟨(hW.get List.mem_cons_self k (by simp; omega)).trans hbk, cell_below hW.toBelow y1.out, cell_below hW.toBelow (by rw [Nat.add_assoc]; exact y2.out)⟩)
       clear hcell m1 m2 y1 y2 hm hy
       go_wp2_with fail
       refine rgn [(0, 1), (1, 1), (2, 1), (3, 1), (4, 1), (5, 0), (6, 1), (7, 1), (8, 1), (9, 1), (10, 1), (11, 1), (12, 1), (13, 1), (14, 1), (15, 1), (16, 0), (17, 1), (18, 1), (19, 1), (20, 1), (21, 0), (22, 1), (23, 2), (24, 1), (25, 1), (26, 3)] [26] (fun W => W.cell? ⟨w.heap.size, k, none⟩ = some (.bool y) ∧ W.cell? ⟨b, o + j * 3, none⟩ = some (.int .i64 (m.1 : Int)) ∧ W.cell? ⟨b, o + j * 3 + 1, none⟩ = some (.int .i64 (m.2.1 : Int))) (by kernel_rfl) (by kernel_rfl) (fun _ _ _ d _ h => by cases d <;> exact h) (HSS.out _ HO.out.drew) ?_
       have HOd := As.mk HO.out.drew
       clear HO
       obtain ⟨x, hx⟩ : ∃ x : Int, (k : Int) * (pg : Int) = x := ⟨_, rfl⟩
       clear d1
       cases y
       · skip
         iterate 5 (refine Run.pu (v := ?_) (a' := ?_) rfl rfl (Or.inl ⟨by rfl, ?_⟩) ?_ ?_; rotate_left 2; (focus (intro W; go_simp; with_reducible rfl)); (focus (simp only [zq1, zq2, zq3, Act.put, zq4, zq5, zq6]; rfl)))
         refine Run.rd (v := ?_) (a' := ?_) rfl rfl (Or.inl ⟨by rfl, ?_⟩) ?_ ?_; rotate_left 2; (focus (rintro W ⟨hW1, hW2, hW3⟩; go_simp; with_reducible rfl)); (focus (simp only [zq1, zq2, zq3, Act.put, zq4, zq5, zq6]; rfl))
         iterate 10 (refine Run.pu (v := ?_) (a' := ?_) rfl rfl (Or.inl ⟨by rfl, ?_⟩) ?_ ?_; rotate_left 2; (focus (intro W; go_simp; with_reducible rfl)); (focus (simp only [zq1, zq2, zq3, Act.put, zq4, zq5, zq6]; rfl)))
         refine Run.rd (v := ?_) (a' := ?_) rfl rfl (Or.inl ⟨by rfl, ?_⟩) ?_ ?_; rotate_left 2; (focus (rintro W ⟨hW1, hW2, hW3⟩; go_simp; with_reducible rfl)); (focus (simp only [zq1, zq2, zq3, Act.put, zq4, zq5, zq6]; rfl))
         iterate 4 (refine Run.pu (v := ?_) (a' := ?_) rfl rfl (Or.inl ⟨by rfl, ?_⟩) ?_ ?_; rotate_left 2; (focus (intro W; go_simp; with_reducible rfl)); (focus (simp only [zq1, zq2, zq3, Act.put, zq4, zq5, zq6]; rfl)))
         refine Run.rd (v := ?_) (a' := ?_) rfl rfl (Or.inl ⟨by rfl, ?_⟩) ?_ ?_; rotate_left 2; (focus (rintro W ⟨hW1, hW2, hW3⟩; go_simp; with_reducible rfl)); (focus (simp only [zq1, zq2, zq3, Act.put, zq4, zq5, zq6]; rfl))
         refine Run.pu (v := ?_) (a' := ?_) rfl rfl (Or.inl ⟨by rfl, ?_⟩) ?_ ?_; rotate_left 2; (focus (intro W; go_simp; with_reducible rfl)); (focus (simp only [zq1, zq2, zq3, Act.put, zq4, zq5, zq6]; rfl))
         refine Run.ef rfl (fun K hK => ?_)
         simp only [zq1, zq2, zq3]
         try simp only [zq4, zq5, zq6]
         go_wp2_with fail
         refine (ref_Over _ _ _ _ _).mono ?_
         rintro e w3 ⟨⟨z, rfl⟩, hb⟩
         have HO3 := As.mk (HOd.out.below hb)
         clear hb HOd
         go_wp2
         refine hK.out _ _ (HSS.out _ HO3.out) ?_
         clear hK K
         iterate 2 (refine Run.pu (v := ?_) (a' := ?_) rfl rfl (Or.inl ⟨by rfl, ?_⟩) ?_ ?_; rotate_left 2; (focus (intro W; go_simp; with_reducible rfl)); (focus (simp only [zq1, zq2, zq3, Act.put, zq4, zq5, zq6]; rfl)))
         refine Run.la rfl (fun K hK => ?_)
         simp only [zq1, zq2, zq3]
         try simp only [zq4, zq5, zq6]
         have HSET := As.mk (HO3.out.set 0 (g := w.heap.size) (e := 4) (cs := bs.map Value.bool) rfl k (.bool z) (by simp; omega))
         have z2 := HO3.out.frozen (g := w.heap.size) (e := 4) (cs := bs.map Value.bool) List.mem_cons_self k
         have z3 := HO3.out.get (g := w.heap.size) (e := 4) (cs := bs.map Value.bool) List.mem_cons_self k (by simp; omega)
         rw [hbk] at z3
         go_wp2
         refine hK.out _ _ ?_
         clear hK K
         refine Run.nil ?_
         go_wp2_with fail
         go_roundw
         case rel => exact ⟨j + 1, bs.set k z, by omega, by simp [hbs], by go_num, by rw [List.map_set]; exact HSET.out⟩
         case measure => simp [intOf]; omega
       · skip
         iterate 5 (refine Run.pu (v := ?_) (a' := ?_) rfl rfl (Or.inl ⟨by rfl, ?_⟩) ?_ ?_; rotate_left 2; (focus (intro W; go_simp; with_reducible rfl)); (focus (simp only [zq1, zq2, zq3, Act.put, zq4, zq5, zq6]; rfl)))
         refine Run.rd (v := ?_) (a' := ?_) rfl rfl (Or.inl ⟨by rfl, ?_⟩) ?_ ?_; rotate_left 2; (focus (rintro W ⟨hW1, hW2, hW3⟩; go_simp; with_reducible rfl)); (focus (simp only [zq1, zq2, zq3, Act.put, zq4, zq5, zq6]; rfl))
         refine Run.pu (v := ?_) (a' := ?_) rfl rfl (Or.inl ⟨by rfl, ?_⟩) ?_ ?_; rotate_left 2; (focus (intro W; go_simp; with_reducible rfl)); (focus (simp only [zq1, zq2, zq3, Act.put, zq4, zq5, zq6]; rfl))
         iterate 9 (refine Run.pu (v := undef) (a' := ?_) rfl rfl (Or.inr ⟨by rfl, rfl⟩) ?_ ?_; rotate_left 1; (focus (simp only [zq1, zq2, zq3, Act.put, zq4, zq5, zq6]; rfl)))
         refine Run.rd (v := undef) (a' := ?_) rfl rfl (Or.inr ⟨by rfl, rfl⟩) ?_ ?_; rotate_left 1; (focus (simp only [zq1, zq2, zq3, Act.put, zq4, zq5, zq6]; rfl))
         iterate 4 (refine Run.pu (v := undef) (a' := ?_) rfl rfl (Or.inr ⟨by rfl, rfl⟩) ?_ ?_; rotate_left 1; (focus (simp only [zq1, zq2, zq3, Act.put, zq4, zq5, zq6]; rfl)))
         refine Run.rd (v := undef) (a' := ?_) rfl rfl (Or.inr ⟨by rfl, rfl⟩) ?_ ?_; rotate_left 1; (focus (simp only [zq1, zq2, zq3, Act.put, zq4, zq5, zq6]; rfl))
         refine Run.pu (v := undef) (a' := ?_) rfl rfl (Or.inr ⟨by rfl, rfl⟩) ?_ ?_; rotate_left 1; (focus (simp only [zq1, zq2, zq3, Act.put, zq4, zq5, zq6]; rfl))
         refine Run.ef rfl (fun K hK => ?_)
         simp only [zq1, zq2, zq3]
         try simp only [zq4, zq5, zq6]
         go_wp2
         refine hK.out _ _ (HSS.out _ HOd.out) ?_
         clear hK K
         iterate 2 (refine Run.pu (v := ?_) (a' := ?_) rfl rfl (Or.inl ⟨by rfl, ?_⟩) ?_ ?_; rotate_left 2; (focus (intro W; go_simp; with_reducible rfl)); (focus (simp only [zq1, zq2, zq3, Act.put, zq4, zq5, zq6]; rfl)))
         refine Run.la rfl (fun K hK => ?_)
         simp only [zq1, zq2, zq3]
         try simp only [zq4, zq5, zq6]
         have HSET := As.mk (HOd.out.set 0 (g := w.heap.size) (e := 4) (cs := bs.map Value.bool) rfl k (.bool true) (by simp; omega))
         have z2 := HOd.out.frozen (g := w.heap.size) (e := 4) (cs := bs.map Value.bool) List.mem_cons_self k
         have z3 := HOd.out.get (g := w.heap.size) (e := 4) (cs := bs.map Value.bool) List.mem_cons_self k (by simp; omega)
         rw [hbk] at z3
         go_wp2
         refine hK.out _ _ ?_
         clear hK K
         refine Run.nil ?_
         go_wp2_with fail
         go_roundw
         case rel => exact ⟨j + 1, bs.set k true, by omega, by simp [hbs], by go_num, by rw [List.map_set]; exact HSET.out⟩
         case measure => simp [intOf]; omega
     · have e : j = ln := by omega
       subst e
       go_wp2
       go_roundw
       case rel => exact ⟨k + 1, bs, by omega, hbs, by go_num, HO.out⟩
       case measure => simp [intOf]; omega
  · have e : k = n := by omega
    subst e
    go_wp2
    go_ret
    exact ⟨⟨_, rfl, bs, hbs, HO.out.fr List.mem_cons_self (Nat.le_refl _)⟩, HO.out.toBelow⟩
end Go.Proofs.YtmookafmdonopaaGreat.Top
