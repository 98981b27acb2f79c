/- hodmanref17.SameBlocks on the same rows. -/
import Derived.Test.YtmookafmdonopaaGreatCT54
namespace Go.Proofs.YtmookafmdonopaaGreat.Top
open Go Go.RowKit
set_option linter.unusedVariables false
set_option linter.unusedSimpArgs false
attribute [local go_sem] max2_int min2_int max_two min_two max_three

theorem size48_ : (Tryz.prog.info? 48).map (·.size) = some 3 := by kernel_rfl
theorem same_Blocks (A A2 : Option Addr) (c c2 n : Nat) (l : List MB) (w : World) (hl : l.length = n) (h1 : Row w (.slice A n c) n (mbV l)) (h2 : Row w (.slice A2 n c2) n (mbV l)) (hn : n ≤ 100000) :
 Calls Tryz.prog 20 #[.slice A n c, .slice A2 n c2] w fun e w' => e = .returned (.bool true) ∧ Below w.heap.size w w' := by
 have H1 := As.mk h1
 have H2 := As.mk h2
 have HL := As.mk hl
 clear h1 h2 hl
 go_enter Tryz.func20, Tryz.ntmps20
 go_wp2_with fail
 go_loopw [5] (fun i wr => ∃ k : Nat, k ≤ n ∧ i = .int .i64 (k : Int) ∧ As (Below w.heap.size w wr)) (fun i _ => n - (intOf i).toNat)
 case atStart => exact ⟨0, Nat.zero_le _, rfl, ⟨Below.refl _ _⟩⟩
 case round =>
  obtain ⟨k, hk, rfl, HB⟩ := hrel
  by_cases hkn : k < n
  · obtain ⟨b, hb⟩ : ∃ y, l[k]? = some y := ⟨l[k]'(by have := HL.out; omega), List.getElem?_eq_getElem _⟩
    obtain ⟨b1, o1, rfl, -, c1⟩ := H1.out.cell' (by rw [mbV_len]; have := HL.out; omega)
    obtain ⟨b2, o2, rfl, -, c2⟩ := H2.out.cell' (by rw [mbV_len]; have := HL.out; omega)
    obtain ⟨m1, m2, m3⟩ := mbV_at l k b hb
    have HBD : As (Below w.heap.size w wr.drew) := ⟨HB.out.trans ⟨rfl, rfl, rfl, Nat.le_refl _, fun _ _ => rfl⟩⟩
    have hS : (wr.drew.rangeAt b1 (o1 + k * 3) [.int .i64 (b.1 : Int), .int .i64 (b.2.1 : Int), .int .i64 b.2.2]) ∧ (wr.drew.rangeAt b2 (o2 + k * 3) [.int .i64 (b.1 : Int), .int .i64 (b.2.1 : Int), .int .i64 b.2.2]) := by
     refine ⟨fun j v hj => ?_, fun j v hj => ?_⟩
     · have : j = 0 ∨ j = 1 ∨ j = 2 := by have := (List.getElem?_eq_some_iff.1 hj).1; simp at this; omega
       rcases this with rfl | rfl | rfl <;> (simp at hj; subst hj)
       · exact cell_below HBD.out (c1 _ _ m1)
       · rw [Nat.add_assoc]; exact cell_below HBD.out (c1 _ _ m2)
       · rw [Nat.add_assoc]; exact cell_below HBD.out (c1 _ _ m3)
     · have : j = 0 ∨ j = 1 ∨ j = 2 := by have := (List.getElem?_eq_some_iff.1 hj).1; simp at this; omega
       rcases this with rfl | rfl | rfl <;> (simp at hj; subst hj)
       · exact cell_below HBD.out (c2 _ _ m1)
       · rw [Nat.add_assoc]; exact cell_below HBD.out (c2 _ _ m2)
       · rw [Nat.add_assoc]; exact cell_below HBD.out (c2 _ _ m3)
    clear c1 c2 hb m1 m2 m3
    go_wp2_with fail
    refine rgn [(0, 1), (1, 1), (2, 1), (3, 0), (4, 1), (5, 1), (6, 1), (7, 0), (8, 1)] [] (fun W => (W.rangeAt b1 (o1 + k * 3) [.int .i64 (b.1 : Int), .int .i64 (b.2.1 : Int), .int .i64 b.2.2]) ∧ (W.rangeAt b2 (o2 + k * 3) [.int .i64 (b.1 : Int), .int .i64 (b.2.1 : Int), .int .i64 b.2.2])) (by kernel_rfl) (by kernel_rfl) (fun _ _ _ d _ h => by cases d <;> exact h) hS ?_
    obtain ⟨wd, hwd⟩ : ∃ x, x = wr.drew := ⟨_, rfl⟩
    rw [← hwd] at HBD ⊢
    clear hwd hS HB
    iterate 3 (refine Run.pu (v := ?_) (a' := ?_) rfl rfl (Or.inl ⟨by rfl, ?_⟩) ?_ ?_; rotate_left 2; (focus (intro W; go_simp; with_reducible rfl)); (focus (simp only [zq1, zq2, zq3, Act.put, zq4, zq5, zq6]; rfl)))
    refine Run.rd (v := .agg #[.int .i64 (b.1 : Int), .int .i64 (b.2.1 : Int), .int .i64 b.2.2]) (a' := ?_) rfl rfl (yieldsIf_load_mid rfl 48 (.tmp 19) rfl b1 (o1 + k * 3) rfl [.int .i64 (b.1 : Int), .int .i64 (b.2.1 : Int), .int .i64 b.2.2] _ (fun W hW => hW.1) Tryz.underlying48 rfl size48_) ?_ ?_
    rotate_left 1
    · simp only [zq1, zq2, zq3, Act.put, zq4, zq5, zq6]; rfl
    iterate 3 (refine Run.pu (v := ?_) (a' := ?_) rfl rfl (Or.inl ⟨by rfl, ?_⟩) ?_ ?_; rotate_left 2; (focus (intro W; go_simp; with_reducible rfl)); (focus (simp only [zq1, zq2, zq3, Act.put, zq4, zq5, zq6]; rfl)))
    refine Run.rd (v := .agg #[.int .i64 (b.1 : Int), .int .i64 (b.2.1 : Int), .int .i64 b.2.2]) (a' := ?_) rfl rfl (yieldsIf_load_mid rfl 48 (.tmp 23) rfl b2 (o2 + k * 3) rfl [.int .i64 (b.1 : Int), .int .i64 (b.2.1 : Int), .int .i64 b.2.2] _ (fun W hW => hW.2) Tryz.underlying48 rfl size48_) ?_ ?_
    rotate_left 1
    · simp only [zq1, zq2, zq3, Act.put, zq4, zq5, zq6]; rfl
    refine Run.pu (v := ?_) (a' := ?_) rfl rfl (Or.inl ⟨by rfl, ?_⟩) ?_ ?_; rotate_left 2; (focus (intro W; go_simp; with_reducible rfl)); (focus (simp only [zq1, zq2, zq3, Act.put, zq4, zq5, zq6]; rfl))
    refine Run.nil ?_
    try simp only [zq1, zq2, zq3]
    try simp only [zq4, zq5, zq6]
    go_wp2_with fail
    go_roundw
    case rel => exact ⟨k + 1, by omega, by go_num, HBD⟩
    case measure => simp [intOf]; omega
  · have e : k = n := by omega
    rw [e]
    clear e hkn hk
    go_wp2_with fail
    go_ret
    exact ⟨rfl, HB.out⟩
end Go.Proofs.YtmookafmdonopaaGreat.Top
