/- play: Decode walked (for what begun asks). -/
import Derived.Test.YtmookafmdonopaaGreatM32
/- play: Decode walked (for what begun asks). -/
namespace Go.Proofs.YtmookafmdonopaaGreat.Top
open Go Go.RowKit
set_option linter.unusedVariables false
set_option linter.unusedSimpArgs false
attribute [local go_sem] max2_int min2_int max_two min_two max_three

/-- what is read after k of them -/
def rk : Nat → List Value
 | 0 => [.int .i64 0, .int .i64 0, .int .i64 0, .int .i64 0, .int .i64 0, .int .i64 0]
 | 1 => [.int .i64 1, .int .i64 0, .int .i64 0, .int .i64 0, .int .i64 0, .int .i64 0]
 | 2 => [.int .i64 1, .int .i64 4, .int .i64 0, .int .i64 0, .int .i64 0, .int .i64 0]
 | 3 => [.int .i64 1, .int .i64 4, .int .i64 8, .int .i64 0, .int .i64 0, .int .i64 0]
 | 4 => [.int .i64 1, .int .i64 4, .int .i64 8, .int .i64 4, .int .i64 0, .int .i64 0]
 | _ => [.int .i64 1, .int .i64 4, .int .i64 8, .int .i64 4, .int .i64 6, .int .i64 0]
set_option maxHeartbeats 4000000 in
set_option maxRecDepth 100000 in
theorem play_Decode (g cp : Nat) (w : World) (hcp : 24 ≤ cp) (h : ∀ i u, (uV by24)[i]? = some u → w.cell? ⟨g, i, none⟩ = some u) :
 Calls Tryz.prog 51 #[.slice (some ⟨g, 0, none⟩) 24 cp] w fun e w' => (∃ v, e = .returned (.tuple #[.agg raw0.cs.toArray, v, .bool true]) ∧ ∀ W, Agr w w' W → Row W v 2 (opV [mo 3, mo 1])) ∧ Below w.heap.size w w' := by
 have HC := As.mk h
 have ho := ((Own.start (X := []) w).box #[.int .i64 0, .int .i64 0, .int .i64 0, .int .i64 0, .int .i64 0, .int .i64 0] 25).box #[.pointer (some ⟨w.heap.size, 0, none⟩), .pointer (some ⟨w.heap.size, 1, none⟩), .pointer (some ⟨w.heap.size, 2, none⟩), .pointer (some ⟨w.heap.size, 3, none⟩), .pointer (some ⟨w.heap.size, 4, none⟩)] 126
 rw [World.size_alloc] at ho
 go_enter Tryz.func51, Tryz.ntmps51
 go_wp2_with fail
 obtain ⟨gp, hgp⟩ : ∃ g, g = w.heap.size + 1 := ⟨_, rfl⟩
 obtain ⟨w1, hw1⟩ : ∃ x, x = (w.alloc (.cells #[.int .i64 0, .int .i64 0, .int .i64 0, .int .i64 0, .int .i64 0, .int .i64 0] 25)).alloc (.cells #[.pointer (some ⟨w.heap.size, 0, none⟩), .pointer (some ⟨w.heap.size, 1, none⟩), .pointer (some ⟨w.heap.size, 2, none⟩), .pointer (some ⟨w.heap.size, 3, none⟩), .pointer (some ⟨w.heap.size, 4, none⟩)] 126) := ⟨_, rfl⟩
 rw [← hgp, ← hw1] at ho ⊢
 have HO1 : As (Own [] [(gp, EC 126 [.pointer (some ⟨w.heap.size, 0, none⟩), .pointer (some ⟨w.heap.size, 1, none⟩), .pointer (some ⟨w.heap.size, 2, none⟩), .pointer (some ⟨w.heap.size, 3, none⟩), .pointer (some ⟨w.heap.size, 4, none⟩)]), (w.heap.size, EC 25 (rk 0))] (fun _ => True) w w1) := As.mk ho
 clear ho hw1 hgp h
 go_loopw [18] (fun i wr => ∃ k : Nat, k ≤ 5 ∧ i = .int .i64 (k : Int) ∧ Own [] [(gp, EC 126 [.pointer (some ⟨w.heap.size, 0, none⟩), .pointer (some ⟨w.heap.size, 1, none⟩), .pointer (some ⟨w.heap.size, 2, none⟩), .pointer (some ⟨w.heap.size, 3, none⟩), .pointer (some ⟨w.heap.size, 4, none⟩)]), (w.heap.size, EC 25 (rk k))] (fun _ => True) w wr) (fun i _ => 5 - (intOf i).toNat)
 case atStart => exact ⟨0, by omega, rfl, HO1.out⟩
 case round =>
  obtain ⟨k, hk, rfl, ho⟩ := hrel
  have HO := As.mk ho
  clear ho HO1
  have hkk : k = 0 ∨ k = 1 ∨ k = 2 ∨ k = 3 ∨ k = 4 ∨ k = 5 := by omega
  clear hk
  rcases hkk with rfl | rfl | rfl | rfl | rfl | rfl
  · have yp : wr.cell? ⟨gp, 0, none⟩ = some (.pointer (some ⟨w.heap.size, 0, none⟩)) := HO.out.get me0 0 (by simp)
    have HS : As (wr.drew.cell? ⟨g, 0, none⟩ = some (.int .u8 0) ∧ wr.drew.cell? ⟨g, 1, none⟩ = some (.int .u8 0) ∧ wr.drew.cell? ⟨g, 2, none⟩ = some (.int .u8 1)) := As.mk ⟨cell_below HO.out.drew.toBelow (HC.out 0 _ rfl), cell_below HO.out.drew.toBelow (HC.out 1 _ rfl), cell_below HO.out.drew.toBelow (HC.out 2 _ rfl)⟩
    go_wp2_with fail
    refine rgn [(0, 1), (1, 1), (2, 1), (3, 1), (4, 1), (5, 0), (6, 1), (7, 1), (8, 1), (9, 1), (10, 1), (11, 1), (12, 1), (13, 0), (14, 1), (15, 1), (16, 1), (17, 1), (18, 1), (19, 1), (20, 1), (21, 1), (22, 0), (23, 1), (24, 1), (25, 1), (26, 3)] [26] (fun W => W.cell? ⟨g, 0, none⟩ = some (.int .u8 0) ∧ W.cell? ⟨g, 1, none⟩ = some (.int .u8 0) ∧ W.cell? ⟨g, 2, none⟩ = some (.int .u8 1)) (by kernel_rfl) (by kernel_rfl) (fun _ _ _ d _ h => by cases d <;> exact h) HS.out ?_
    have HOD := As.mk HO.out.drew
    obtain ⟨w3, hw3⟩ : ∃ x, x = wr.drew := ⟨_, rfl⟩
    rw [← hw3] at HOD ⊢
    clear hw3 HO HS yp
    iterate 3 (refine Run.pu (v := ?_) (a' := ?_) rfl rfl (Or.inl ⟨by rfl, ?_⟩) ?_ ?_; rotate_left 2; (focus (intro W; go_simp; with_reducible rfl)); (focus (simp only [zq1, zq2, zq3, Act.put, zq4, zq5, zq6]; rfl)))
    refine Run.pu (v := ?_) (a' := ?_) rfl rfl (Or.inl ⟨by rfl, ?_⟩) ?_ ?_; rotate_left 2; (focus (intro W; go_simp; (try simp only [IntKind.wrap_i64, IntKind.wrap_u8, Int.reduceAdd, Int.reduceMod, Int.reduceSub, Int.reduceMul, Int.reduceToNat]); with_reducible rfl)); (focus (simp only [zq1, zq2, zq3, Act.put, zq4, zq5, zq6]; rfl))
    refine Run.pu (v := ?_) (a' := ?_) rfl rfl (Or.inl ⟨by rfl, ?_⟩) ?_ ?_; rotate_left 2; (focus (intro W; go_simp; with_reducible rfl)); (focus (simp only [zq1, zq2, zq3, Act.put, zq4, zq5, zq6]; rfl))
    refine Run.rd (v := ?_) (a' := ?_) rfl rfl (Or.inl ⟨by rfl, ?_⟩) ?_ ?_; rotate_left 2; (focus (rintro W ⟨hW1, hW2, hW3⟩; go_simp; with_reducible rfl)); (focus (simp only [zq1, zq2, zq3, Act.put, zq4, zq5, zq6]; rfl))
    refine Run.pu (v := ?_) (a' := ?_) rfl rfl (Or.inl ⟨by rfl, ?_⟩) ?_ ?_; rotate_left 2; (focus (intro W; go_simp; with_reducible rfl)); (focus (simp only [zq1, zq2, zq3, Act.put, zq4, zq5, zq6]; rfl))
    refine Run.pu (v := ?_) (a' := ?_) rfl rfl (Or.inl ⟨by rfl, ?_⟩) ?_ ?_; rotate_left 2; (focus (intro W; go_simp; (try simp only [IntKind.wrap_i64, IntKind.wrap_u8, Int.reduceAdd, Int.reduceMod, Int.reduceSub, Int.reduceMul, Int.reduceToNat]); with_reducible rfl)); (focus (simp only [zq1, zq2, zq3, Act.put, zq4, zq5, zq6]; rfl))
    iterate 2 (refine Run.pu (v := ?_) (a' := ?_) rfl rfl (Or.inl ⟨by rfl, ?_⟩) ?_ ?_; rotate_left 2; (focus (intro W; go_simp; with_reducible rfl)); (focus (simp only [zq1, zq2, zq3, Act.put, zq4, zq5, zq6]; rfl)))
    iterate 2 (refine Run.pu (v := ?_) (a' := ?_) rfl rfl (Or.inl ⟨by rfl, ?_⟩) ?_ ?_; rotate_left 2; (focus (intro W; go_simp; (try simp only [IntKind.wrap_i64, IntKind.wrap_u8, Int.reduceAdd, Int.reduceMod, Int.reduceSub, Int.reduceMul, Int.reduceToNat]); with_reducible rfl)); (focus (simp only [zq1, zq2, zq3, Act.put, zq4, zq5, zq6]; rfl)))
    refine Run.pu (v := ?_) (a' := ?_) rfl rfl (Or.inl ⟨by rfl, ?_⟩) ?_ ?_; rotate_left 2; (focus (intro W; go_simp; with_reducible rfl)); (focus (simp only [zq1, zq2, zq3, Act.put, zq4, zq5, zq6]; rfl))
    refine Run.rd (v := ?_) (a' := ?_) rfl rfl (Or.inl ⟨by rfl, ?_⟩) ?_ ?_; rotate_left 2; (focus (rintro W ⟨hW1, hW2, hW3⟩; go_simp; with_reducible rfl)); (focus (simp only [zq1, zq2, zq3, Act.put, zq4, zq5, zq6]; rfl))
    refine Run.pu (v := ?_) (a' := ?_) rfl rfl (Or.inl ⟨by rfl, ?_⟩) ?_ ?_; rotate_left 2; (focus (intro W; go_simp; with_reducible rfl)); (focus (simp only [zq1, zq2, zq3, Act.put, zq4, zq5, zq6]; rfl))
    iterate 2 (refine Run.pu (v := ?_) (a' := ?_) rfl rfl (Or.inl ⟨by rfl, ?_⟩) ?_ ?_; rotate_left 2; (focus (intro W; go_simp; (try simp only [IntKind.wrap_i64, IntKind.wrap_u8, Int.reduceAdd, Int.reduceMod, Int.reduceSub, Int.reduceMul, Int.reduceToNat]); with_reducible rfl)); (focus (simp only [zq1, zq2, zq3, Act.put, zq4, zq5, zq6]; rfl)))
    iterate 2 (refine Run.pu (v := ?_) (a' := ?_) rfl rfl (Or.inl ⟨by rfl, ?_⟩) ?_ ?_; rotate_left 2; (focus (intro W; go_simp; with_reducible rfl)); (focus (simp only [zq1, zq2, zq3, Act.put, zq4, zq5, zq6]; rfl)))
    iterate 2 (refine Run.pu (v := ?_) (a' := ?_) rfl rfl (Or.inl ⟨by rfl, ?_⟩) ?_ ?_; rotate_left 2; (focus (intro W; go_simp; (try simp only [IntKind.wrap_i64, IntKind.wrap_u8, Int.reduceAdd, Int.reduceMod, Int.reduceSub, Int.reduceMul, Int.reduceToNat]); with_reducible rfl)); (focus (simp only [zq1, zq2, zq3, Act.put, zq4, zq5, zq6]; rfl)))
    refine Run.pu (v := ?_) (a' := ?_) rfl rfl (Or.inl ⟨by rfl, ?_⟩) ?_ ?_; rotate_left 2; (focus (intro W; go_simp; with_reducible rfl)); (focus (simp only [zq1, zq2, zq3, Act.put, zq4, zq5, zq6]; rfl))
    refine Run.rd (v := ?_) (a' := ?_) rfl rfl (Or.inl ⟨by rfl, ?_⟩) ?_ ?_; rotate_left 2; (focus (rintro W ⟨hW1, hW2, hW3⟩; go_simp; with_reducible rfl)); (focus (simp only [zq1, zq2, zq3, Act.put, zq4, zq5, zq6]; rfl))
    refine Run.pu (v := ?_) (a' := ?_) rfl rfl (Or.inl ⟨by rfl, ?_⟩) ?_ ?_; rotate_left 2; (focus (intro W; go_simp; with_reducible rfl)); (focus (simp only [zq1, zq2, zq3, Act.put, zq4, zq5, zq6]; rfl))
    refine Run.pu (v := ?_) (a' := ?_) rfl rfl (Or.inl ⟨by rfl, ?_⟩) ?_ ?_; rotate_left 2; (focus (intro W; go_simp; (try simp only [IntKind.wrap_i64, IntKind.wrap_u8, Int.reduceAdd, Int.reduceMod, Int.reduceSub, Int.reduceMul, Int.reduceToNat]); with_reducible rfl)); (focus (simp only [zq1, zq2, zq3, Act.put, zq4, zq5, zq6]; rfl))
    refine Run.pu (v := ?_) (a' := ?_) rfl rfl (Or.inl ⟨by rfl, ?_⟩) ?_ ?_; rotate_left 2; (focus (intro W; go_simp; with_reducible rfl)); (focus (simp only [zq1, zq2, zq3, Act.put, zq4, zq5, zq6]; rfl))
    refine Run.la rfl (fun K hK => ?_)
    simp only [zq1, zq2, zq3]
    try simp only [zq4, zq5, zq6]
    refine go_st1 HOD.out 1 rfl rfl 3 (.tmp 48) (.tmp 47) rfl 0 rfl (.int .i64 1) rfl rfl (by simp [rk]) size3 ?_
    intro w5 ho
    have HO5 := As.mk ho
    clear ho HOD
    go_wp2_with fail
    refine hK.out _ _ ?_
    clear hK K
    refine Run.nil ?_
    try simp only [zq1, zq2, zq3]
    try simp only [zq4, zq5, zq6]
    go_wp2_with fail
    go_roundw
    case rel => exact ⟨1, by omega, by go_num, HO5.out⟩
    case measure => simp [intOf]
  · have yp : wr.cell? ⟨gp, 1, none⟩ = some (.pointer (some ⟨w.heap.size, 1, none⟩)) := HO.out.get me0 1 (by simp)
    have HS : As (wr.drew.cell? ⟨g, 3, none⟩ = some (.int .u8 0) ∧ wr.drew.cell? ⟨g, 4, none⟩ = some (.int .u8 0) ∧ wr.drew.cell? ⟨g, 5, none⟩ = some (.int .u8 4)) := As.mk ⟨cell_below HO.out.drew.toBelow (HC.out 3 _ rfl), cell_below HO.out.drew.toBelow (HC.out 4 _ rfl), cell_below HO.out.drew.toBelow (HC.out 5 _ rfl)⟩
    go_wp2_with fail
    refine rgn [(0, 1), (1, 1), (2, 1), (3, 1), (4, 1), (5, 0), (6, 1), (7, 1), (8, 1), (9, 1), (10, 1), (11, 1), (12, 1), (13, 0), (14, 1), (15, 1), (16, 1), (17, 1), (18, 1), (19, 1), (20, 1), (21, 1), (22, 0), (23, 1), (24, 1), (25, 1), (26, 3)] [26] (fun W => W.cell? ⟨g, 3, none⟩ = some (.int .u8 0) ∧ W.cell? ⟨g, 4, none⟩ = some (.int .u8 0) ∧ W.cell? ⟨g, 5, none⟩ = some (.int .u8 4)) (by kernel_rfl) (by kernel_rfl) (fun _ _ _ d _ h => by cases d <;> exact h) HS.out ?_
    have HOD := As.mk HO.out.drew
    obtain ⟨w3, hw3⟩ : ∃ x, x = wr.drew := ⟨_, rfl⟩
    rw [← hw3] at HOD ⊢
    clear hw3 HO HS yp
    iterate 3 (refine Run.pu (v := ?_) (a' := ?_) rfl rfl (Or.inl ⟨by rfl, ?_⟩) ?_ ?_; rotate_left 2; (focus (intro W; go_simp; with_reducible rfl)); (focus (simp only [zq1, zq2, zq3, Act.put, zq4, zq5, zq6]; rfl)))
    refine Run.pu (v := ?_) (a' := ?_) rfl rfl (Or.inl ⟨by rfl, ?_⟩) ?_ ?_; rotate_left 2; (focus (intro W; go_simp; (try simp only [IntKind.wrap_i64, IntKind.wrap_u8, Int.reduceAdd, Int.reduceMod, Int.reduceSub, Int.reduceMul, Int.reduceToNat]); with_reducible rfl)); (focus (simp only [zq1, zq2, zq3, Act.put, zq4, zq5, zq6]; rfl))
    refine Run.pu (v := ?_) (a' := ?_) rfl rfl (Or.inl ⟨by rfl, ?_⟩) ?_ ?_; rotate_left 2; (focus (intro W; go_simp; with_reducible rfl)); (focus (simp only [zq1, zq2, zq3, Act.put, zq4, zq5, zq6]; rfl))
    refine Run.rd (v := ?_) (a' := ?_) rfl rfl (Or.inl ⟨by rfl, ?_⟩) ?_ ?_; rotate_left 2; (focus (rintro W ⟨hW1, hW2, hW3⟩; go_simp; with_reducible rfl)); (focus (simp only [zq1, zq2, zq3, Act.put, zq4, zq5, zq6]; rfl))
    refine Run.pu (v := ?_) (a' := ?_) rfl rfl (Or.inl ⟨by rfl, ?_⟩) ?_ ?_; rotate_left 2; (focus (intro W; go_simp; with_reducible rfl)); (focus (simp only [zq1, zq2, zq3, Act.put, zq4, zq5, zq6]; rfl))
    refine Run.pu (v := ?_) (a' := ?_) rfl rfl (Or.inl ⟨by rfl, ?_⟩) ?_ ?_; rotate_left 2; (focus (intro W; go_simp; (try simp only [IntKind.wrap_i64, IntKind.wrap_u8, Int.reduceAdd, Int.reduceMod, Int.reduceSub, Int.reduceMul, Int.reduceToNat]); with_reducible rfl)); (focus (simp only [zq1, zq2, zq3, Act.put, zq4, zq5, zq6]; rfl))
    iterate 2 (refine Run.pu (v := ?_) (a' := ?_) rfl rfl (Or.inl ⟨by rfl, ?_⟩) ?_ ?_; rotate_left 2; (focus (intro W; go_simp; with_reducible rfl)); (focus (simp only [zq1, zq2, zq3, Act.put, zq4, zq5, zq6]; rfl)))
    iterate 2 (refine Run.pu (v := ?_) (a' := ?_) rfl rfl (Or.inl ⟨by rfl, ?_⟩) ?_ ?_; rotate_left 2; (focus (intro W; go_simp; (try simp only [IntKind.wrap_i64, IntKind.wrap_u8, Int.reduceAdd, Int.reduceMod, Int.reduceSub, Int.reduceMul, Int.reduceToNat]); with_reducible rfl)); (focus (simp only [zq1, zq2, zq3, Act.put, zq4, zq5, zq6]; rfl)))
    refine Run.pu (v := ?_) (a' := ?_) rfl rfl (Or.inl ⟨by rfl, ?_⟩) ?_ ?_; rotate_left 2; (focus (intro W; go_simp; with_reducible rfl)); (focus (simp only [zq1, zq2, zq3, Act.put, zq4, zq5, zq6]; rfl))
    refine Run.rd (v := ?_) (a' := ?_) rfl rfl (Or.inl ⟨by rfl, ?_⟩) ?_ ?_; rotate_left 2; (focus (rintro W ⟨hW1, hW2, hW3⟩; go_simp; with_reducible rfl)); (focus (simp only [zq1, zq2, zq3, Act.put, zq4, zq5, zq6]; rfl))
    refine Run.pu (v := ?_) (a' := ?_) rfl rfl (Or.inl ⟨by rfl, ?_⟩) ?_ ?_; rotate_left 2; (focus (intro W; go_simp; with_reducible rfl)); (focus (simp only [zq1, zq2, zq3, Act.put, zq4, zq5, zq6]; rfl))
    iterate 2 (refine Run.pu (v := ?_) (a' := ?_) rfl rfl (Or.inl ⟨by rfl, ?_⟩) ?_ ?_; rotate_left 2; (focus (intro W; go_simp; (try simp only [IntKind.wrap_i64, IntKind.wrap_u8, Int.reduceAdd, Int.reduceMod, Int.reduceSub, Int.reduceMul, Int.reduceToNat]); with_reducible rfl)); (focus (simp only [zq1, zq2, zq3, Act.put, zq4, zq5, zq6]; rfl)))
    iterate 2 (refine Run.pu (v := ?_) (a' := ?_) rfl rfl (Or.inl ⟨by rfl, ?_⟩) ?_ ?_; rotate_left 2; (focus (intro W; go_simp; with_reducible rfl)); (focus (simp only [zq1, zq2, zq3, Act.put, zq4, zq5, zq6]; rfl)))
    iterate 2 (refine Run.pu (v := ?_) (a' := ?_) rfl rfl (Or.inl ⟨by rfl, ?_⟩) ?_ ?_; rotate_left 2; (focus (intro W; go_simp; (try simp only [IntKind.wrap_i64, IntKind.wrap_u8, Int.reduceAdd, Int.reduceMod, Int.reduceSub, Int.reduceMul, Int.reduceToNat]); with_reducible rfl)); (focus (simp only [zq1, zq2, zq3, Act.put, zq4, zq5, zq6]; rfl)))
    refine Run.pu (v := ?_) (a' := ?_) rfl rfl (Or.inl ⟨by rfl, ?_⟩) ?_ ?_; rotate_left 2; (focus (intro W; go_simp; with_reducible rfl)); (focus (simp only [zq1, zq2, zq3, Act.put, zq4, zq5, zq6]; rfl))
    refine Run.rd (v := ?_) (a' := ?_) rfl rfl (Or.inl ⟨by rfl, ?_⟩) ?_ ?_; rotate_left 2; (focus (rintro W ⟨hW1, hW2, hW3⟩; go_simp; with_reducible rfl)); (focus (simp only [zq1, zq2, zq3, Act.put, zq4, zq5, zq6]; rfl))
    refine Run.pu (v := ?_) (a' := ?_) rfl rfl (Or.inl ⟨by rfl, ?_⟩) ?_ ?_; rotate_left 2; (focus (intro W; go_simp; with_reducible rfl)); (focus (simp only [zq1, zq2, zq3, Act.put, zq4, zq5, zq6]; rfl))
    refine Run.pu (v := ?_) (a' := ?_) rfl rfl (Or.inl ⟨by rfl, ?_⟩) ?_ ?_; rotate_left 2; (focus (intro W; go_simp; (try simp only [IntKind.wrap_i64, IntKind.wrap_u8, Int.reduceAdd, Int.reduceMod, Int.reduceSub, Int.reduceMul, Int.reduceToNat]); with_reducible rfl)); (focus (simp only [zq1, zq2, zq3, Act.put, zq4, zq5, zq6]; rfl))
    refine Run.pu (v := ?_) (a' := ?_) rfl rfl (Or.inl ⟨by rfl, ?_⟩) ?_ ?_; rotate_left 2; (focus (intro W; go_simp; with_reducible rfl)); (focus (simp only [zq1, zq2, zq3, Act.put, zq4, zq5, zq6]; rfl))
    refine Run.la rfl (fun K hK => ?_)
    simp only [zq1, zq2, zq3]
    try simp only [zq4, zq5, zq6]
    refine go_st1 HOD.out 1 rfl rfl 3 (.tmp 48) (.tmp 47) rfl 1 rfl (.int .i64 4) rfl rfl (by simp [rk]) size3 ?_
    intro w5 ho
    have HO5 := As.mk ho
    clear ho HOD
    go_wp2_with fail
    refine hK.out _ _ ?_
    clear hK K
    refine Run.nil ?_
    try simp only [zq1, zq2, zq3]
    try simp only [zq4, zq5, zq6]
    go_wp2_with fail
    go_roundw
    case rel => exact ⟨2, by omega, by go_num, HO5.out⟩
    case measure => simp [intOf]
  · have yp : wr.cell? ⟨gp, 2, none⟩ = some (.pointer (some ⟨w.heap.size, 2, none⟩)) := HO.out.get me0 2 (by simp)
    have HS : As (wr.drew.cell? ⟨g, 6, none⟩ = some (.int .u8 0) ∧ wr.drew.cell? ⟨g, 7, none⟩ = some (.int .u8 0) ∧ wr.drew.cell? ⟨g, 8, none⟩ = some (.int .u8 8)) := As.mk ⟨cell_below HO.out.drew.toBelow (HC.out 6 _ rfl), cell_below HO.out.drew.toBelow (HC.out 7 _ rfl), cell_below HO.out.drew.toBelow (HC.out 8 _ rfl)⟩
    go_wp2_with fail
    refine rgn [(0, 1), (1, 1), (2, 1), (3, 1), (4, 1), (5, 0), (6, 1), (7, 1), (8, 1), (9, 1), (10, 1), (11, 1), (12, 1), (13, 0), (14, 1), (15, 1), (16, 1), (17, 1), (18, 1), (19, 1), (20, 1), (21, 1), (22, 0), (23, 1), (24, 1), (25, 1), (26, 3)] [26] (fun W => W.cell? ⟨g, 6, none⟩ = some (.int .u8 0) ∧ W.cell? ⟨g, 7, none⟩ = some (.int .u8 0) ∧ W.cell? ⟨g, 8, none⟩ = some (.int .u8 8)) (by kernel_rfl) (by kernel_rfl) (fun _ _ _ d _ h => by cases d <;> exact h) HS.out ?_
    have HOD := As.mk HO.out.drew
    obtain ⟨w3, hw3⟩ : ∃ x, x = wr.drew := ⟨_, rfl⟩
    rw [← hw3] at HOD ⊢
    clear hw3 HO HS yp
    iterate 3 (refine Run.pu (v := ?_) (a' := ?_) rfl rfl (Or.inl ⟨by rfl, ?_⟩) ?_ ?_; rotate_left 2; (focus (intro W; go_simp; with_reducible rfl)); (focus (simp only [zq1, zq2, zq3, Act.put, zq4, zq5, zq6]; rfl)))
    refine Run.pu (v := ?_) (a' := ?_) rfl rfl (Or.inl ⟨by rfl, ?_⟩) ?_ ?_; rotate_left 2; (focus (intro W; go_simp; (try simp only [IntKind.wrap_i64, IntKind.wrap_u8, Int.reduceAdd, Int.reduceMod, Int.reduceSub, Int.reduceMul, Int.reduceToNat]); with_reducible rfl)); (focus (simp only [zq1, zq2, zq3, Act.put, zq4, zq5, zq6]; rfl))
    refine Run.pu (v := ?_) (a' := ?_) rfl rfl (Or.inl ⟨by rfl, ?_⟩) ?_ ?_; rotate_left 2; (focus (intro W; go_simp; with_reducible rfl)); (focus (simp only [zq1, zq2, zq3, Act.put, zq4, zq5, zq6]; rfl))
    refine Run.rd (v := ?_) (a' := ?_) rfl rfl (Or.inl ⟨by rfl, ?_⟩) ?_ ?_; rotate_left 2; (focus (rintro W ⟨hW1, hW2, hW3⟩; go_simp; with_reducible rfl)); (focus (simp only [zq1, zq2, zq3, Act.put, zq4, zq5, zq6]; rfl))
    refine Run.pu (v := ?_) (a' := ?_) rfl rfl (Or.inl ⟨by rfl, ?_⟩) ?_ ?_; rotate_left 2; (focus (intro W; go_simp; with_reducible rfl)); (focus (simp only [zq1, zq2, zq3, Act.put, zq4, zq5, zq6]; rfl))
    refine Run.pu (v := ?_) (a' := ?_) rfl rfl (Or.inl ⟨by rfl, ?_⟩) ?_ ?_; rotate_left 2; (focus (intro W; go_simp; (try simp only [IntKind.wrap_i64, IntKind.wrap_u8, Int.reduceAdd, Int.reduceMod, Int.reduceSub, Int.reduceMul, Int.reduceToNat]); with_reducible rfl)); (focus (simp only [zq1, zq2, zq3, Act.put, zq4, zq5, zq6]; rfl))
    iterate 2 (refine Run.pu (v := ?_) (a' := ?_) rfl rfl (Or.inl ⟨by rfl, ?_⟩) ?_ ?_; rotate_left 2; (focus (intro W; go_simp; with_reducible rfl)); (focus (simp only [zq1, zq2, zq3, Act.put, zq4, zq5, zq6]; rfl)))
    iterate 2 (refine Run.pu (v := ?_) (a' := ?_) rfl rfl (Or.inl ⟨by rfl, ?_⟩) ?_ ?_; rotate_left 2; (focus (intro W; go_simp; (try simp only [IntKind.wrap_i64, IntKind.wrap_u8, Int.reduceAdd, Int.reduceMod, Int.reduceSub, Int.reduceMul, Int.reduceToNat]); with_reducible rfl)); (focus (simp only [zq1, zq2, zq3, Act.put, zq4, zq5, zq6]; rfl)))
    refine Run.pu (v := ?_) (a' := ?_) rfl rfl (Or.inl ⟨by rfl, ?_⟩) ?_ ?_; rotate_left 2; (focus (intro W; go_simp; with_reducible rfl)); (focus (simp only [zq1, zq2, zq3, Act.put, zq4, zq5, zq6]; rfl))
    refine Run.rd (v := ?_) (a' := ?_) rfl rfl (Or.inl ⟨by rfl, ?_⟩) ?_ ?_; rotate_left 2; (focus (rintro W ⟨hW1, hW2, hW3⟩; go_simp; with_reducible rfl)); (focus (simp only [zq1, zq2, zq3, Act.put, zq4, zq5, zq6]; rfl))
    refine Run.pu (v := ?_) (a' := ?_) rfl rfl (Or.inl ⟨by rfl, ?_⟩) ?_ ?_; rotate_left 2; (focus (intro W; go_simp; with_reducible rfl)); (focus (simp only [zq1, zq2, zq3, Act.put, zq4, zq5, zq6]; rfl))
    iterate 2 (refine Run.pu (v := ?_) (a' := ?_) rfl rfl (Or.inl ⟨by rfl, ?_⟩) ?_ ?_; rotate_left 2; (focus (intro W; go_simp; (try simp only [IntKind.wrap_i64, IntKind.wrap_u8, Int.reduceAdd, Int.reduceMod, Int.reduceSub, Int.reduceMul, Int.reduceToNat]); with_reducible rfl)); (focus (simp only [zq1, zq2, zq3, Act.put, zq4, zq5, zq6]; rfl)))
    iterate 2 (refine Run.pu (v := ?_) (a' := ?_) rfl rfl (Or.inl ⟨by rfl, ?_⟩) ?_ ?_; rotate_left 2; (focus (intro W; go_simp; with_reducible rfl)); (focus (simp only [zq1, zq2, zq3, Act.put, zq4, zq5, zq6]; rfl)))
    iterate 2 (refine Run.pu (v := ?_) (a' := ?_) rfl rfl (Or.inl ⟨by rfl, ?_⟩) ?_ ?_; rotate_left 2; (focus (intro W; go_simp; (try simp only [IntKind.wrap_i64, IntKind.wrap_u8, Int.reduceAdd, Int.reduceMod, Int.reduceSub, Int.reduceMul, Int.reduceToNat]); with_reducible rfl)); (focus (simp only [zq1, zq2, zq3, Act.put, zq4, zq5, zq6]; rfl)))
    refine Run.pu (v := ?_) (a' := ?_) rfl rfl (Or.inl ⟨by rfl, ?_⟩) ?_ ?_; rotate_left 2; (focus (intro W; go_simp; with_reducible rfl)); (focus (simp only [zq1, zq2, zq3, Act.put, zq4, zq5, zq6]; rfl))
    refine Run.rd (v := ?_) (a' := ?_) rfl rfl (Or.inl ⟨by rfl, ?_⟩) ?_ ?_; rotate_left 2; (focus (rintro W ⟨hW1, hW2, hW3⟩; go_simp; with_reducible rfl)); (focus (simp only [zq1, zq2, zq3, Act.put, zq4, zq5, zq6]; rfl))
    refine Run.pu (v := ?_) (a' := ?_) rfl rfl (Or.inl ⟨by rfl, ?_⟩) ?_ ?_; rotate_left 2; (focus (intro W; go_simp; with_reducible rfl)); (focus (simp only [zq1, zq2, zq3, Act.put, zq4, zq5, zq6]; rfl))
    refine Run.pu (v := ?_) (a' := ?_) rfl rfl (Or.inl ⟨by rfl, ?_⟩) ?_ ?_; rotate_left 2; (focus (intro W; go_simp; (try simp only [IntKind.wrap_i64, IntKind.wrap_u8, Int.reduceAdd, Int.reduceMod, Int.reduceSub, Int.reduceMul, Int.reduceToNat]); with_reducible rfl)); (focus (simp only [zq1, zq2, zq3, Act.put, zq4, zq5, zq6]; rfl))
    refine Run.pu (v := ?_) (a' := ?_) rfl rfl (Or.inl ⟨by rfl, ?_⟩) ?_ ?_; rotate_left 2; (focus (intro W; go_simp; with_reducible rfl)); (focus (simp only [zq1, zq2, zq3, Act.put, zq4, zq5, zq6]; rfl))
    refine Run.la rfl (fun K hK => ?_)
    simp only [zq1, zq2, zq3]
    try simp only [zq4, zq5, zq6]
    refine go_st1 HOD.out 1 rfl rfl 3 (.tmp 48) (.tmp 47) rfl 2 rfl (.int .i64 8) rfl rfl (by simp [rk]) size3 ?_
    intro w5 ho
    have HO5 := As.mk ho
    clear ho HOD
    go_wp2_with fail
    refine hK.out _ _ ?_
    clear hK K
    refine Run.nil ?_
    try simp only [zq1, zq2, zq3]
    try simp only [zq4, zq5, zq6]
    go_wp2_with fail
    go_roundw
    case rel => exact ⟨3, by omega, by go_num, HO5.out⟩
    case measure => simp [intOf]
  · have yp : wr.cell? ⟨gp, 3, none⟩ = some (.pointer (some ⟨w.heap.size, 3, none⟩)) := HO.out.get me0 3 (by simp)
    have HS : As (wr.drew.cell? ⟨g, 9, none⟩ = some (.int .u8 0) ∧ wr.drew.cell? ⟨g, 10, none⟩ = some (.int .u8 0) ∧ wr.drew.cell? ⟨g, 11, none⟩ = some (.int .u8 4)) := As.mk ⟨cell_below HO.out.drew.toBelow (HC.out 9 _ rfl), cell_below HO.out.drew.toBelow (HC.out 10 _ rfl), cell_below HO.out.drew.toBelow (HC.out 11 _ rfl)⟩
    go_wp2_with fail
    refine rgn [(0, 1), (1, 1), (2, 1), (3, 1), (4, 1), (5, 0), (6, 1), (7, 1), (8, 1), (9, 1), (10, 1), (11, 1), (12, 1), (13, 0), (14, 1), (15, 1), (16, 1), (17, 1), (18, 1), (19, 1), (20, 1), (21, 1), (22, 0), (23, 1), (24, 1), (25, 1), (26, 3)] [26] (fun W => W.cell? ⟨g, 9, none⟩ = some (.int .u8 0) ∧ W.cell? ⟨g, 10, none⟩ = some (.int .u8 0) ∧ W.cell? ⟨g, 11, none⟩ = some (.int .u8 4)) (by kernel_rfl) (by kernel_rfl) (fun _ _ _ d _ h => by cases d <;> exact h) HS.out ?_
    have HOD := As.mk HO.out.drew
    obtain ⟨w3, hw3⟩ : ∃ x, x = wr.drew := ⟨_, rfl⟩
    rw [← hw3] at HOD ⊢
    clear hw3 HO HS yp
    iterate 3 (refine Run.pu (v := ?_) (a' := ?_) rfl rfl (Or.inl ⟨by rfl, ?_⟩) ?_ ?_; rotate_left 2; (focus (intro W; go_simp; with_reducible rfl)); (focus (simp only [zq1, zq2, zq3, Act.put, zq4, zq5, zq6]; rfl)))
    refine Run.pu (v := ?_) (a' := ?_) rfl rfl (Or.inl ⟨by rfl, ?_⟩) ?_ ?_; rotate_left 2; (focus (intro W; go_simp; (try simp only [IntKind.wrap_i64, IntKind.wrap_u8, Int.reduceAdd, Int.reduceMod, Int.reduceSub, Int.reduceMul, Int.reduceToNat]); with_reducible rfl)); (focus (simp only [zq1, zq2, zq3, Act.put, zq4, zq5, zq6]; rfl))
    refine Run.pu (v := ?_) (a' := ?_) rfl rfl (Or.inl ⟨by rfl, ?_⟩) ?_ ?_; rotate_left 2; (focus (intro W; go_simp; with_reducible rfl)); (focus (simp only [zq1, zq2, zq3, Act.put, zq4, zq5, zq6]; rfl))
    refine Run.rd (v := ?_) (a' := ?_) rfl rfl (Or.inl ⟨by rfl, ?_⟩) ?_ ?_; rotate_left 2; (focus (rintro W ⟨hW1, hW2, hW3⟩; go_simp; with_reducible rfl)); (focus (simp only [zq1, zq2, zq3, Act.put, zq4, zq5, zq6]; rfl))
    refine Run.pu (v := ?_) (a' := ?_) rfl rfl (Or.inl ⟨by rfl, ?_⟩) ?_ ?_; rotate_left 2; (focus (intro W; go_simp; with_reducible rfl)); (focus (simp only [zq1, zq2, zq3, Act.put, zq4, zq5, zq6]; rfl))
    refine Run.pu (v := ?_) (a' := ?_) rfl rfl (Or.inl ⟨by rfl, ?_⟩) ?_ ?_; rotate_left 2; (focus (intro W; go_simp; (try simp only [IntKind.wrap_i64, IntKind.wrap_u8, Int.reduceAdd, Int.reduceMod, Int.reduceSub, Int.reduceMul, Int.reduceToNat]); with_reducible rfl)); (focus (simp only [zq1, zq2, zq3, Act.put, zq4, zq5, zq6]; rfl))
    iterate 2 (refine Run.pu (v := ?_) (a' := ?_) rfl rfl (Or.inl ⟨by rfl, ?_⟩) ?_ ?_; rotate_left 2; (focus (intro W; go_simp; with_reducible rfl)); (focus (simp only [zq1, zq2, zq3, Act.put, zq4, zq5, zq6]; rfl)))
    iterate 2 (refine Run.pu (v := ?_) (a' := ?_) rfl rfl (Or.inl ⟨by rfl, ?_⟩) ?_ ?_; rotate_left 2; (focus (intro W; go_simp; (try simp only [IntKind.wrap_i64, IntKind.wrap_u8, Int.reduceAdd, Int.reduceMod, Int.reduceSub, Int.reduceMul, Int.reduceToNat]); with_reducible rfl)); (focus (simp only [zq1, zq2, zq3, Act.put, zq4, zq5, zq6]; rfl)))
    refine Run.pu (v := ?_) (a' := ?_) rfl rfl (Or.inl ⟨by rfl, ?_⟩) ?_ ?_; rotate_left 2; (focus (intro W; go_simp; with_reducible rfl)); (focus (simp only [zq1, zq2, zq3, Act.put, zq4, zq5, zq6]; rfl))
    refine Run.rd (v := ?_) (a' := ?_) rfl rfl (Or.inl ⟨by rfl, ?_⟩) ?_ ?_; rotate_left 2; (focus (rintro W ⟨hW1, hW2, hW3⟩; go_simp; with_reducible rfl)); (focus (simp only [zq1, zq2, zq3, Act.put, zq4, zq5, zq6]; rfl))
    refine Run.pu (v := ?_) (a' := ?_) rfl rfl (Or.inl ⟨by rfl, ?_⟩) ?_ ?_; rotate_left 2; (focus (intro W; go_simp; with_reducible rfl)); (focus (simp only [zq1, zq2, zq3, Act.put, zq4, zq5, zq6]; rfl))
    iterate 2 (refine Run.pu (v := ?_) (a' := ?_) rfl rfl (Or.inl ⟨by rfl, ?_⟩) ?_ ?_; rotate_left 2; (focus (intro W; go_simp; (try simp only [IntKind.wrap_i64, IntKind.wrap_u8, Int.reduceAdd, Int.reduceMod, Int.reduceSub, Int.reduceMul, Int.reduceToNat]); with_reducible rfl)); (focus (simp only [zq1, zq2, zq3, Act.put, zq4, zq5, zq6]; rfl)))
    iterate 2 (refine Run.pu (v := ?_) (a' := ?_) rfl rfl (Or.inl ⟨by rfl, ?_⟩) ?_ ?_; rotate_left 2; (focus (intro W; go_simp; with_reducible rfl)); (focus (simp only [zq1, zq2, zq3, Act.put, zq4, zq5, zq6]; rfl)))
    iterate 2 (refine Run.pu (v := ?_) (a' := ?_) rfl rfl (Or.inl ⟨by rfl, ?_⟩) ?_ ?_; rotate_left 2; (focus (intro W; go_simp; (try simp only [IntKind.wrap_i64, IntKind.wrap_u8, Int.reduceAdd, Int.reduceMod, Int.reduceSub, Int.reduceMul, Int.reduceToNat]); with_reducible rfl)); (focus (simp only [zq1, zq2, zq3, Act.put, zq4, zq5, zq6]; rfl)))
    refine Run.pu (v := ?_) (a' := ?_) rfl rfl (Or.inl ⟨by rfl, ?_⟩) ?_ ?_; rotate_left 2; (focus (intro W; go_simp; with_reducible rfl)); (focus (simp only [zq1, zq2, zq3, Act.put, zq4, zq5, zq6]; rfl))
    refine Run.rd (v := ?_) (a' := ?_) rfl rfl (Or.inl ⟨by rfl, ?_⟩) ?_ ?_; rotate_left 2; (focus (rintro W ⟨hW1, hW2, hW3⟩; go_simp; with_reducible rfl)); (focus (simp only [zq1, zq2, zq3, Act.put, zq4, zq5, zq6]; rfl))
    refine Run.pu (v := ?_) (a' := ?_) rfl rfl (Or.inl ⟨by rfl, ?_⟩) ?_ ?_; rotate_left 2; (focus (intro W; go_simp; with_reducible rfl)); (focus (simp only [zq1, zq2, zq3, Act.put, zq4, zq5, zq6]; rfl))
    refine Run.pu (v := ?_) (a' := ?_) rfl rfl (Or.inl ⟨by rfl, ?_⟩) ?_ ?_; rotate_left 2; (focus (intro W; go_simp; (try simp only [IntKind.wrap_i64, IntKind.wrap_u8, Int.reduceAdd, Int.reduceMod, Int.reduceSub, Int.reduceMul, Int.reduceToNat]); with_reducible rfl)); (focus (simp only [zq1, zq2, zq3, Act.put, zq4, zq5, zq6]; rfl))
    refine Run.pu (v := ?_) (a' := ?_) rfl rfl (Or.inl ⟨by rfl, ?_⟩) ?_ ?_; rotate_left 2; (focus (intro W; go_simp; with_reducible rfl)); (focus (simp only [zq1, zq2, zq3, Act.put, zq4, zq5, zq6]; rfl))
    refine Run.la rfl (fun K hK => ?_)
    simp only [zq1, zq2, zq3]
    try simp only [zq4, zq5, zq6]
    refine go_st1 HOD.out 1 rfl rfl 3 (.tmp 48) (.tmp 47) rfl 3 rfl (.int .i64 4) rfl rfl (by simp [rk]) size3 ?_
    intro w5 ho
    have HO5 := As.mk ho
    clear ho HOD
    go_wp2_with fail
    refine hK.out _ _ ?_
    clear hK K
    refine Run.nil ?_
    try simp only [zq1, zq2, zq3]
    try simp only [zq4, zq5, zq6]
    go_wp2_with fail
    go_roundw
    case rel => exact ⟨4, by omega, by go_num, HO5.out⟩
    case measure => simp [intOf]
  · have yp : wr.cell? ⟨gp, 4, none⟩ = some (.pointer (some ⟨w.heap.size, 4, none⟩)) := HO.out.get me0 4 (by simp)
    have HS : As (wr.drew.cell? ⟨g, 12, none⟩ = some (.int .u8 0) ∧ wr.drew.cell? ⟨g, 13, none⟩ = some (.int .u8 0) ∧ wr.drew.cell? ⟨g, 14, none⟩ = some (.int .u8 6)) := As.mk ⟨cell_below HO.out.drew.toBelow (HC.out 12 _ rfl), cell_below HO.out.drew.toBelow (HC.out 13 _ rfl), cell_below HO.out.drew.toBelow (HC.out 14 _ rfl)⟩
    go_wp2_with fail
    refine rgn [(0, 1), (1, 1), (2, 1), (3, 1), (4, 1), (5, 0), (6, 1), (7, 1), (8, 1), (9, 1), (10, 1), (11, 1), (12, 1), (13, 0), (14, 1), (15, 1), (16, 1), (17, 1), (18, 1), (19, 1), (20, 1), (21, 1), (22, 0), (23, 1), (24, 1), (25, 1), (26, 3)] [26] (fun W => W.cell? ⟨g, 12, none⟩ = some (.int .u8 0) ∧ W.cell? ⟨g, 13, none⟩ = some (.int .u8 0) ∧ W.cell? ⟨g, 14, none⟩ = some (.int .u8 6)) (by kernel_rfl) (by kernel_rfl) (fun _ _ _ d _ h => by cases d <;> exact h) HS.out ?_
    have HOD := As.mk HO.out.drew
    obtain ⟨w3, hw3⟩ : ∃ x, x = wr.drew := ⟨_, rfl⟩
    rw [← hw3] at HOD ⊢
    clear hw3 HO HS yp
    iterate 3 (refine Run.pu (v := ?_) (a' := ?_) rfl rfl (Or.inl ⟨by rfl, ?_⟩) ?_ ?_; rotate_left 2; (focus (intro W; go_simp; with_reducible rfl)); (focus (simp only [zq1, zq2, zq3, Act.put, zq4, zq5, zq6]; rfl)))
    refine Run.pu (v := ?_) (a' := ?_) rfl rfl (Or.inl ⟨by rfl, ?_⟩) ?_ ?_; rotate_left 2; (focus (intro W; go_simp; (try simp only [IntKind.wrap_i64, IntKind.wrap_u8, Int.reduceAdd, Int.reduceMod, Int.reduceSub, Int.reduceMul, Int.reduceToNat]); with_reducible rfl)); (focus (simp only [zq1, zq2, zq3, Act.put, zq4, zq5, zq6]; rfl))
    refine Run.pu (v := ?_) (a' := ?_) rfl rfl (Or.inl ⟨by rfl, ?_⟩) ?_ ?_; rotate_left 2; (focus (intro W; go_simp; with_reducible rfl)); (focus (simp only [zq1, zq2, zq3, Act.put, zq4, zq5, zq6]; rfl))
    refine Run.rd (v := ?_) (a' := ?_) rfl rfl (Or.inl ⟨by rfl, ?_⟩) ?_ ?_; rotate_left 2; (focus (rintro W ⟨hW1, hW2, hW3⟩; go_simp; with_reducible rfl)); (focus (simp only [zq1, zq2, zq3, Act.put, zq4, zq5, zq6]; rfl))
    refine Run.pu (v := ?_) (a' := ?_) rfl rfl (Or.inl ⟨by rfl, ?_⟩) ?_ ?_; rotate_left 2; (focus (intro W; go_simp; with_reducible rfl)); (focus (simp only [zq1, zq2, zq3, Act.put, zq4, zq5, zq6]; rfl))
    refine Run.pu (v := ?_) (a' := ?_) rfl rfl (Or.inl ⟨by rfl, ?_⟩) ?_ ?_; rotate_left 2; (focus (intro W; go_simp; (try simp only [IntKind.wrap_i64, IntKind.wrap_u8, Int.reduceAdd, Int.reduceMod, Int.reduceSub, Int.reduceMul, Int.reduceToNat]); with_reducible rfl)); (focus (simp only [zq1, zq2, zq3, Act.put, zq4, zq5, zq6]; rfl))
    iterate 2 (refine Run.pu (v := ?_) (a' := ?_) rfl rfl (Or.inl ⟨by rfl, ?_⟩) ?_ ?_; rotate_left 2; (focus (intro W; go_simp; with_reducible rfl)); (focus (simp only [zq1, zq2, zq3, Act.put, zq4, zq5, zq6]; rfl)))
    iterate 2 (refine Run.pu (v := ?_) (a' := ?_) rfl rfl (Or.inl ⟨by rfl, ?_⟩) ?_ ?_; rotate_left 2; (focus (intro W; go_simp; (try simp only [IntKind.wrap_i64, IntKind.wrap_u8, Int.reduceAdd, Int.reduceMod, Int.reduceSub, Int.reduceMul, Int.reduceToNat]); with_reducible rfl)); (focus (simp only [zq1, zq2, zq3, Act.put, zq4, zq5, zq6]; rfl)))
    refine Run.pu (v := ?_) (a' := ?_) rfl rfl (Or.inl ⟨by rfl, ?_⟩) ?_ ?_; rotate_left 2; (focus (intro W; go_simp; with_reducible rfl)); (focus (simp only [zq1, zq2, zq3, Act.put, zq4, zq5, zq6]; rfl))
    refine Run.rd (v := ?_) (a' := ?_) rfl rfl (Or.inl ⟨by rfl, ?_⟩) ?_ ?_; rotate_left 2; (focus (rintro W ⟨hW1, hW2, hW3⟩; go_simp; with_reducible rfl)); (focus (simp only [zq1, zq2, zq3, Act.put, zq4, zq5, zq6]; rfl))
    refine Run.pu (v := ?_) (a' := ?_) rfl rfl (Or.inl ⟨by rfl, ?_⟩) ?_ ?_; rotate_left 2; (focus (intro W; go_simp; with_reducible rfl)); (focus (simp only [zq1, zq2, zq3, Act.put, zq4, zq5, zq6]; rfl))
    iterate 2 (refine Run.pu (v := ?_) (a' := ?_) rfl rfl (Or.inl ⟨by rfl, ?_⟩) ?_ ?_; rotate_left 2; (focus (intro W; go_simp; (try simp only [IntKind.wrap_i64, IntKind.wrap_u8, Int.reduceAdd, Int.reduceMod, Int.reduceSub, Int.reduceMul, Int.reduceToNat]); with_reducible rfl)); (focus (simp only [zq1, zq2, zq3, Act.put, zq4, zq5, zq6]; rfl)))
    iterate 2 (refine Run.pu (v := ?_) (a' := ?_) rfl rfl (Or.inl ⟨by rfl, ?_⟩) ?_ ?_; rotate_left 2; (focus (intro W; go_simp; with_reducible rfl)); (focus (simp only [zq1, zq2, zq3, Act.put, zq4, zq5, zq6]; rfl)))
    iterate 2 (refine Run.pu (v := ?_) (a' := ?_) rfl rfl (Or.inl ⟨by rfl, ?_⟩) ?_ ?_; rotate_left 2; (focus (intro W; go_simp; (try simp only [IntKind.wrap_i64, IntKind.wrap_u8, Int.reduceAdd, Int.reduceMod, Int.reduceSub, Int.reduceMul, Int.reduceToNat]); with_reducible rfl)); (focus (simp only [zq1, zq2, zq3, Act.put, zq4, zq5, zq6]; rfl)))
    refine Run.pu (v := ?_) (a' := ?_) rfl rfl (Or.inl ⟨by rfl, ?_⟩) ?_ ?_; rotate_left 2; (focus (intro W; go_simp; with_reducible rfl)); (focus (simp only [zq1, zq2, zq3, Act.put, zq4, zq5, zq6]; rfl))
    refine Run.rd (v := ?_) (a' := ?_) rfl rfl (Or.inl ⟨by rfl, ?_⟩) ?_ ?_; rotate_left 2; (focus (rintro W ⟨hW1, hW2, hW3⟩; go_simp; with_reducible rfl)); (focus (simp only [zq1, zq2, zq3, Act.put, zq4, zq5, zq6]; rfl))
    refine Run.pu (v := ?_) (a' := ?_) rfl rfl (Or.inl ⟨by rfl, ?_⟩) ?_ ?_; rotate_left 2; (focus (intro W; go_simp; with_reducible rfl)); (focus (simp only [zq1, zq2, zq3, Act.put, zq4, zq5, zq6]; rfl))
    refine Run.pu (v := ?_) (a' := ?_) rfl rfl (Or.inl ⟨by rfl, ?_⟩) ?_ ?_; rotate_left 2; (focus (intro W; go_simp; (try simp only [IntKind.wrap_i64, IntKind.wrap_u8, Int.reduceAdd, Int.reduceMod, Int.reduceSub, Int.reduceMul, Int.reduceToNat]); with_reducible rfl)); (focus (simp only [zq1, zq2, zq3, Act.put, zq4, zq5, zq6]; rfl))
    refine Run.pu (v := ?_) (a' := ?_) rfl rfl (Or.inl ⟨by rfl, ?_⟩) ?_ ?_; rotate_left 2; (focus (intro W; go_simp; with_reducible rfl)); (focus (simp only [zq1, zq2, zq3, Act.put, zq4, zq5, zq6]; rfl))
    refine Run.la rfl (fun K hK => ?_)
    simp only [zq1, zq2, zq3]
    try simp only [zq4, zq5, zq6]
    refine go_st1 HOD.out 1 rfl rfl 3 (.tmp 48) (.tmp 47) rfl 4 rfl (.int .i64 6) rfl rfl (by simp [rk]) size3 ?_
    intro w5 ho
    have HO5 := As.mk ho
    clear ho HOD
    go_wp2_with fail
    refine hK.out _ _ ?_
    clear hK K
    refine Run.nil ?_
    try simp only [zq1, zq2, zq3]
    try simp only [zq4, zq5, zq6]
    go_wp2_with fail
    go_roundw
    case rel => exact ⟨5, by omega, by go_num, HO5.out⟩
    case measure => simp [intOf]
  · have y15 := cell_below HO.out.toBelow (HC.out 15 (.int .u8 0) rfl)
    have HCB := As.mk (fun (W : World) (hb : Below w.heap.size w W) i u (hu : (uV ([3, 1].flatMap b4))[i]? = some u) => show W.cell? ⟨g, 16 + i, none⟩ = some u from cell_below hb (HC.out (16 + i) u (by
     rw [by24, uV, List.map_append, List.getElem?_append_right (by simp [rs5, h3])]
     have e : 16 + i - (List.map (fun x => Value.int .u8 x) (rs5.flatMap h3 ++ [0])).length = i := by simp [rs5, h3]
     rw [e]
     exact hu)))
    have q16 : (cp = 16) = False := eq_false (by omega)
    have HTA := As.mk (fun (W : World) (hb : Below w.heap.size w W) => show Calls Tryz.prog 74 #[.slice (some ⟨g, 16, none⟩) 8 (cp - 16)] W fun e w' => (∃ v, e = .returned v ∧ Fr W.heap.size w' 42 v 2 (opV [mo 3, mo 1])) ∧ Below W.heap.size W w' from wire_Take [3, 1] (by intro s hs; simp at hs; omega) (by decide) g 16 (cp - 16) W (by show 8 ≤ _; omega) (HCB.out W hb))
    go_wp2_with (refine go_st1 HO.out 1 rfl rfl 3 (.tmp 54) (.tmp 53) rfl 5 rfl (.int .i64 0) rfl rfl (by simp [rk]) size3 ?_; intro w5 ho; have HO5 : As (Own [] [(gp, EC 126 [.pointer (some ⟨w.heap.size, 0, none⟩), .pointer (some ⟨w.heap.size, 1, none⟩), .pointer (some ⟨w.heap.size, 2, none⟩), .pointer (some ⟨w.heap.size, 3, none⟩), .pointer (some ⟨w.heap.size, 4, none⟩)]), (w.heap.size, EC 25 (rk 5))] (fun _ => True) w w5) := As.mk ho; clear ho HO y15)
    refine rgn [(0, 0), (1, 1), (2, 1), (3, 2), (4, 3), (5, 1), (6, 1)] [4] (fun W => W.rangeAt w.heap.size 0 raw0.cs) (by kernel_rfl) (by kernel_rfl) (fun _ _ _ d _ h => by cases d <;> exact h) (HO5.out.drew.range me1) ?_
    have HOD := As.mk HO5.out.drew
    obtain ⟨w3, hw3⟩ : ∃ x, x = w5.drew := ⟨_, rfl⟩
    rw [← hw3] at HOD ⊢
    clear hw3 HO5
    refine Run.rd (v := .agg raw0.cs.toArray) (a' := ?_) rfl rfl (yieldsIf_load_mid rfl 25 (.tmp 2) rfl w.heap.size 0 rfl raw0.cs _ (fun W hW => hW) Tryz.underlying25 rfl size25) ?_ ?_
    rotate_left 1
    · simp only [zq1, zq2, zq3, Act.put, zq4, zq5, zq6]; rfl
    iterate 2 (refine Run.pu (v := ?_) (a' := ?_) rfl rfl (Or.inl ⟨by rfl, ?_⟩) ?_ ?_; rotate_left 2; (focus (intro W; go_simp; with_reducible rfl)); (focus (simp only [zq1, zq2, zq3, Act.put, zq4, zq5, zq6]; rfl)))
    refine Run.ef rfl (fun K hK => ?_)
    simp only [zq1, zq2, zq3]
    try simp only [zq4, zq5, zq6]
    go_wp2_with fail
    refine (HTA.out _ HOD.out.toBelow).mono ?_
    rintro e w6 ⟨⟨v, rfl, hfr⟩, hb⟩
    have HO6 := As.mk (HOD.out.result hb (R' := fun W => Row W v 2 (opV [mo 3, mo 1])) (fun W hW => hfr.row hW))
    clear hb hfr HOD
    go_wp2_with fail
    refine hK.out _ _ (HO6.out.range me1) ?_
    clear hK K
    refine Run.la rfl (fun K hK => ?_)
    simp only [zq1, zq2, zq3]
    try simp only [zq4, zq5, zq6]
    refine go_st HO6.out 1 rfl rfl 25 (.tmp 2) (.tmp 55) rfl rfl raw0.cs rfl rfl size25 (Rw.one _) ?_
    intro w7 ho
    have HO7 := As.mk ho
    clear ho HO6
    go_wp2_with fail
    refine hK.out _ _ ?_
    clear hK K
    iterate 2 (refine Run.pu (v := ?_) (a' := ?_) rfl rfl (Or.inl ⟨by rfl, ?_⟩) ?_ ?_; rotate_left 2; (focus (intro W; go_simp; with_reducible rfl)); (focus (simp only [zq1, zq2, zq3, Act.put, zq4, zq5, zq6]; rfl)))
    refine Run.nil ?_
    try simp only [zq1, zq2, zq3]
    try simp only [zq4, zq5, zq6]
    go_wp2_with fail
    exact bodyPost_ret (results_ctt rfl _ rfl (HO7.out.range me1) Tryz.underlying25 rfl size25) rfl ⟨⟨v, rfl, fun W hW => (HO7.out.ro W (fun k hk hx _ => hW k hx hk)).2⟩, HO7.out.toBelow⟩
end Go.Proofs.YtmookafmdonopaaGreat.Top
