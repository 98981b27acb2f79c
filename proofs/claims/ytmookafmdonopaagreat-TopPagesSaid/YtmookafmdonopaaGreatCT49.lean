/- pin.Met, heap.Pages walked; hodmanref8.SameBools on the same rows. -/
import Derived.Test.YtmookafmdonopaaGreatCT48
import Derived.Test.YtmookafmdonopaaGreatM35
namespace Go.Proofs.YtmookafmdonopaaGreat.Top
open Go Go.RowKit
set_option linter.unusedVariables false
set_option linter.unusedSimpArgs false
attribute [local go_sem] max2_int min2_int max_two min_two max_three

theorem metL_snoc {c : Cf} {l : List MB} {q : Nat} {b : MB} (h : l[q]? = some b) : metL c (l.take (q + 1)) = onTo (metL c (l.take q)) (b.1 / c.Page) ((b.1 + b.2.1 - 1) / c.Page + 1 - b.1 / c.Page) := by
 apply List.ext_getElem?
 intro i
 rw [onTo_get, metL_len]
 by_cases hi : i < c.H / c.Page
 · have e1 : (metL c (l.take (q + 1)))[i]? = some ((l.take q).any (fun b => decide (b.1 / c.Page ≤ i ∧ i < (b.1 + b.2.1 - 1) / c.Page + 1)) || decide (b.1 / c.Page ≤ i ∧ i < (b.1 + b.2.1 - 1) / c.Page + 1)) := by
    rw [metL, List.getElem?_map, List.getElem?_range hi, List.take_add_one, h]
    simp
   have e2 : (metL c (l.take q))[i]? = some ((l.take q).any (fun b => decide (b.1 / c.Page ≤ i ∧ i < (b.1 + b.2.1 - 1) / c.Page + 1))) := by
    rw [metL, List.getElem?_map, List.getElem?_range hi]
    rfl
   rw [e1, e2]
   by_cases h2 : b.1 / c.Page ≤ i ∧ i < (b.1 + b.2.1 - 1) / c.Page + 1
   · rw [if_pos (by omega), decide_eq_true h2, Bool.or_true]
   · rw [if_neg (by omega), decide_eq_false h2, Bool.or_false]
 · rw [List.getElem?_eq_none (by rw [metL_len]; omega), if_neg (by omega), List.getElem?_eq_none (by rw [metL_len]; omega)]
theorem heap_Pages {h : Nat} {c : Cf} {s : Hs} {mem : List Nat} {L : List (Nat × (Obj → Prop))} {R : World → Prop} {w0 w : World} (H : HW h c s mem L R w0 w) (iv : Iv c s) :
 Calls Tryz.prog 28 #[.pointer (some ⟨h, 0, none⟩)] w fun e w' => ∃ v, e = .returned v ∧ Fr w.heap.size w' 4 v (c.H / c.Page) (s.on.map Value.bool) ∧ Below w.heap.size w w' := by
 obtain ⟨_, d, _, _, ho⟩ := H.toB
 have dz := ho.hc (List.mem_append_left _ me1)
 have z16 := dz.c16
 have hr := ho.now.2.2
 obtain ⟨np, hnp⟩ : ∃ np, np = c.H / c.Page := ⟨_, rfl⟩
 have hnp4 : np ≤ 4096 := by rw [hnp]; exact Nat.le_trans (Nat.div_le_self _ _) iv.small
 have hon := iv.on
 unfold Hd.on at z16 hr
 rw [← hnp] at z16 hr hon ⊢
 have HCL := As.mk (clone_46 d.Ao d.co np (s.on.map Value.bool) w hr (by simp [hon]) (bools_one s.on) (by omega))
 clear H ho dz iv hr hnp hon
 go_enter Tryz.func28, Tryz.ntmps28
 go_wp2_with fail
 refine HCL.out.mono ?_
 rintro e w' ⟨v, rfl, hown, hb⟩
 have HF := As.mk (Fr.own hown)
 have HB := As.mk hb
 clear hown hb
 go_wp2_with fail
 go_ret
 exact ⟨_, rfl, HF.out, HB.out⟩
theorem same_Bools (A A2 : Option Addr) (c c2 n : Nat) (l : List Bool) (w : World) (hl : l.length = n) (h1 : Row w (.slice A n c) n (l.map Value.bool)) (h2 : Row w (.slice A2 n c2) n (l.map Value.bool)) (hn : n ≤ 100000) :
 Calls Tryz.prog 29 #[.slice A n c, .slice A2 n c2] w fun e w' => e = .returned (.bool true) ∧ Below w.heap.size w w' := by
 have H1 := As.mk h1
 have H2 := As.mk h2
 have HL := As.mk hl
 clear h1 h2 hl
 go_enter Tryz.func29, Tryz.ntmps29
 go_wp2_with fail
 go_loopw [5] (fun i wr => ∃ k : Nat, k ≤ n ∧ i = .int .i64 (k : Int) ∧ As (Below w.heap.size w wr)) (fun i _ => n - (intOf i).toNat)
 case atStart => exact ⟨0, Nat.zero_le _, rfl, ⟨Below.refl _ _⟩⟩
 case round =>
  obtain ⟨k, hk, rfl, HB⟩ := hrel
  by_cases hkn : k < n
  · obtain ⟨y, hy⟩ : ∃ y, l[k]? = some y := ⟨l[k]'(by have := HL.out; omega), List.getElem?_eq_getElem _⟩
    obtain ⟨b1, o1, rfl, -, c1⟩ := H1.out.cell' (by rw [List.length_map]; have := HL.out; omega)
    obtain ⟨b2, o2, rfl, -, c2⟩ := H2.out.cell' (by rw [List.length_map]; have := HL.out; omega)
    have HBD : As (Below w.heap.size w wr.drew) := ⟨HB.out.trans ⟨rfl, rfl, rfl, Nat.le_refl _, fun _ _ => rfl⟩⟩
    have hS : wr.drew.cell? ⟨b1, o1 + k, none⟩ = some (.bool y) ∧ wr.drew.cell? ⟨b2, o2 + k, none⟩ = some (.bool y) := ⟨cell_below HBD.out (c1 k _ (by rw [List.getElem?_map, hy]; rfl)), cell_below HBD.out (c2 k _ (by rw [List.getElem?_map, hy]; rfl))⟩
    clear c1 c2 hy
    go_wp2_with fail
    refine rgn [(0, 1), (1, 1), (2, 1), (3, 0), (4, 1), (5, 1), (6, 1), (7, 0), (8, 1)] [] (fun W => W.cell? ⟨b1, o1 + k, none⟩ = some (.bool y) ∧ W.cell? ⟨b2, o2 + k, none⟩ = some (.bool y)) (by kernel_rfl) (by kernel_rfl) (fun _ _ _ d _ h => by cases d <;> exact h) hS ?_
    obtain ⟨wd, hwd⟩ : ∃ x, x = wr.drew := ⟨_, rfl⟩
    rw [← hwd] at HBD ⊢
    clear hwd hS HB
    cases y
    · skip
      iterate 3 (refine Run.pu (v := ?_) (a' := ?_) rfl rfl (Or.inl ⟨by rfl, ?_⟩) ?_ ?_; rotate_left 2; (focus (intro W; go_simp; with_reducible rfl)); (focus (simp only [zq1, zq2, zq3, Act.put, zq4, zq5, zq6]; rfl)))
      refine Run.rd (v := ?_) (a' := ?_) rfl rfl (Or.inl ⟨by rfl, ?_⟩) ?_ ?_; rotate_left 2; (focus (rintro W ⟨hW1, hW2⟩; go_simp; with_reducible rfl)); (focus (simp only [zq1, zq2, zq3, Act.put, zq4, zq5, zq6]; rfl))
      iterate 3 (refine Run.pu (v := ?_) (a' := ?_) rfl rfl (Or.inl ⟨by rfl, ?_⟩) ?_ ?_; rotate_left 2; (focus (intro W; go_simp; with_reducible rfl)); (focus (simp only [zq1, zq2, zq3, Act.put, zq4, zq5, zq6]; rfl)))
      refine Run.rd (v := ?_) (a' := ?_) rfl rfl (Or.inl ⟨by rfl, ?_⟩) ?_ ?_; rotate_left 2; (focus (rintro W ⟨hW1, hW2⟩; go_simp; with_reducible rfl)); (focus (simp only [zq1, zq2, zq3, Act.put, zq4, zq5, zq6]; rfl))
      refine Run.pu (v := ?_) (a' := ?_) rfl rfl (Or.inl ⟨by rfl, ?_⟩) ?_ ?_; rotate_left 2; (focus (intro W; go_simp; with_reducible rfl)); (focus (simp only [zq1, zq2, zq3, Act.put, zq4, zq5, zq6]; rfl))
      refine Run.nil ?_
      try simp only [zq1, zq2, zq3]
      try simp only [zq4, zq5, zq6]
      go_wp2_with fail
      go_roundw
      case rel => exact ⟨k + 1, by omega, by go_num, HBD⟩
      case measure => simp [intOf]; omega
    · skip
      iterate 3 (refine Run.pu (v := ?_) (a' := ?_) rfl rfl (Or.inl ⟨by rfl, ?_⟩) ?_ ?_; rotate_left 2; (focus (intro W; go_simp; with_reducible rfl)); (focus (simp only [zq1, zq2, zq3, Act.put, zq4, zq5, zq6]; rfl)))
      refine Run.rd (v := ?_) (a' := ?_) rfl rfl (Or.inl ⟨by rfl, ?_⟩) ?_ ?_; rotate_left 2; (focus (rintro W ⟨hW1, hW2⟩; go_simp; with_reducible rfl)); (focus (simp only [zq1, zq2, zq3, Act.put, zq4, zq5, zq6]; rfl))
      iterate 3 (refine Run.pu (v := ?_) (a' := ?_) rfl rfl (Or.inl ⟨by rfl, ?_⟩) ?_ ?_; rotate_left 2; (focus (intro W; go_simp; with_reducible rfl)); (focus (simp only [zq1, zq2, zq3, Act.put, zq4, zq5, zq6]; rfl)))
      refine Run.rd (v := ?_) (a' := ?_) rfl rfl (Or.inl ⟨by rfl, ?_⟩) ?_ ?_; rotate_left 2; (focus (rintro W ⟨hW1, hW2⟩; go_simp; with_reducible rfl)); (focus (simp only [zq1, zq2, zq3, Act.put, zq4, zq5, zq6]; rfl))
      refine Run.pu (v := ?_) (a' := ?_) rfl rfl (Or.inl ⟨by rfl, ?_⟩) ?_ ?_; rotate_left 2; (focus (intro W; go_simp; with_reducible rfl)); (focus (simp only [zq1, zq2, zq3, Act.put, zq4, zq5, zq6]; rfl))
      refine Run.nil ?_
      try simp only [zq1, zq2, zq3]
      try simp only [zq4, zq5, zq6]
      go_wp2_with fail
      go_roundw
      case rel => exact ⟨k + 1, by omega, by go_num, HBD⟩
      case measure => simp [intOf]; omega
  · have e : k = n := by omega
    rw [e]
    clear e hkn hk
    go_wp2_with fail
    go_ret
    exact ⟨rfl, HB.out⟩
end Go.Proofs.YtmookafmdonopaaGreat.Top
