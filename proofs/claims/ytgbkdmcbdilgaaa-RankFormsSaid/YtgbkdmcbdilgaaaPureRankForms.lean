/- RankForms, the plain part: how many there are of some. -/
import Derived.Test.YtgbkdmcbdilgaaaRankTree
import Derived.Test.YtgbkdmcbdilgaaaPRankMx13
set_option linter.unusedVariables false
set_option linter.unusedSimpArgs false
namespace Go.Proofs.Ytgbkdmcbdilgaaa.Pure
open Go.RowKit Go.Proofs.Ytgbkdmcbdilgaaa Go.Proofs.Ytgbkdmcbdilgaaa.PRankM Go.Proofs.YtgbkdmcbdilgaaaW.PrintWords Go.Proofs.YtgbkdmcbdilgaaaW.PrintLast Go.Proofs.YtgbkdmcbdilgaaaW.PrintMore Go.Proofs.Ytgbkdmcbdilgaaa.Bt Go.Proofs.Ytgbkdmcbdilgaaa.KF Go.Proofs.Ytgbkdmcbdilgaaa.KT

theorem formsBegun_at : hodmanlaw6_begun.f 210 = some true := by decide +kernel
theorem formsBegun (k : Nat) (hk : 210 ≤ k) : hodmanlaw6_begun.f k = some true := at_rounds hodmanlaw6_begun.mono hk formsBegun_at
theorem forms_cnt (us : List Nat) (h : ∀ j, j < 5000 → B us j = (decide (4999 ≤ j) || (decide (64 ≤ j) && decide (j < 4096)))) (n : Nat) (hn : n ≤ 4999) : cnt (B us) n = min n 4096 - 64 := by
  induction n with
  | zero => rfl
  | succ n ih =>
    rw [cnt_step, ih (by omega), h n (by omega), decide_eq_false (show ¬ 4999 ≤ n by omega), Bool.false_or]
    by_cases h1 : 64 ≤ n
    · by_cases h2 : n < 4096
      · rw [decide_eq_true h1, decide_eq_true h2]
        simp only [Bool.and_self, Bool.toNat_true]
        omega
      · rw [decide_eq_false h2, Bool.and_false]
        simp only [Bool.toNat_false]
        omega
    · rw [decide_eq_false h1, Bool.false_and]
      simp only [Bool.toNat_false]
      omega
theorem forms_wrap : wrap64 (((5000 : Nat) : Int) - ((4033 : Nat) : Int)) = 967 := by unfold wrap64; omega
theorem RankForms : hodmanlaw6_RankForms.Pure := by
  obtain ⟨K, hK⟩ : ∃ K, K = 13000 := ⟨_, rfl⟩
  refine ⟨K, ?_⟩
  obtain ⟨t1, m1, h1⟩ := made_ 5000 (by omega) (by omega) (List.replicate 5000 false) (List.length_replicate ..)
  obtain ⟨t2, m2, h2⟩ := settree_ 5000 (by omega) (by omega) _ t1 h1 64 4032 (by omega) (by omega) true K (by omega)
  obtain ⟨t3, m3, us, rest, rfl, hF, hl, hp⟩ := settree_ 5000 (by omega) (by omega) _ t2 h2 4999 1 (by omega) (by omega) true K (by omega)
  have hb : ∀ j, j < 5000 → B us j = (decide (4999 ≤ j) || (decide (64 ≤ j) && decide (j < 4096))) := by
    intro j hj
    rw [hp j hj]
    show (if 4999 ≤ j ∧ j < 4999 + 1 then true else if 64 ≤ j ∧ j < 64 + 4032 then true else (List.replicate 5000 false).getD j false) = _
    by_cases e1 : 4999 ≤ j
    · rw [if_pos (by omega), decide_eq_true e1]; rfl
    · rw [if_neg (by omega), decide_eq_false e1, Bool.false_or]
      by_cases e2 : 64 ≤ j ∧ j < 4096
      · rw [if_pos e2, decide_eq_true e2.1, decide_eq_true e2.2]; rfl
      · rw [if_neg (by omega), List.getD_eq_getElem?_getD, List.getElem?_replicate, if_pos hj]
        by_cases e3 : 64 ≤ j
        · rw [decide_eq_false (show ¬ j < 4096 by omega), Bool.and_false]; rfl
        · rw [decide_eq_false e3]; rfl
  have hc := forms_cnt us hb
  have hc5 : cnt (B us) 5000 = 4033 := by
    rw [show 5000 = 4999 + 1 from rfl, cnt_step, hc 4999 (by omega), hb 4999 (by omega)]
    rfl
  have n1 : rank_Nth.f K 5000 (W us :: rest) 0 = some (64, true) := (nth_f us rest hF 5000 (by omega) (by omega) hl 0 (by omega) K (by omega)).trans (congrArg some (nthR_some us 5000 0 64 (by omega) (by rw [hb 64 (by omega)]; rfl) (by rw [hc 64 (by omega)]; rfl)))
  have n2 : rank_Nth.f K 5000 (W us :: rest) 4031 = some (4095, true) := (nth_f us rest hF 5000 (by omega) (by omega) hl 4031 (by omega) K (by omega)).trans (congrArg some (nthR_some us 5000 4031 4095 (by omega) (by rw [hb 4095 (by omega)]; rfl) (by rw [hc 4095 (by omega)]; rfl)))
  have n3 : rank_Nth.f K 5000 (W us :: rest) 4032 = some (4999, true) := (nth_f us rest hF 5000 (by omega) (by omega) hl 4032 (by omega) K (by omega)).trans (congrArg some (nthR_some us 5000 4032 4999 (by omega) (by rw [hb 4999 (by omega)]; rfl) (by rw [hc 4999 (by omega)]; rfl)))
  have n4 : rank_Nth.f K 5000 (W us :: rest) 4033 = some (0, false) := (nth_f us rest hF 5000 (by omega) (by omega) hl 4033 (by omega) K (by omega)).trans (congrArg some (nthR_none us 5000 4033 (by rw [hc5]; exact Nat.le_refl _)))
  have n5 : rank_Nth.f K 5000 (W us :: rest) (-1) = some (0, false) := (nth_f us rest hF 5000 (by omega) (by omega) hl (-1) (by omega) K (by omega)).trans (congrArg some (by unfold nthR; rw [if_pos (by decide)]))
  have bl_ : ∀ i : Int, -9223372036854775808 ≤ i → i ≤ 9223372036854775807 → rank_Below.f K 5000 (W us :: rest) i = some ((cnt (B us) (min i.toNat 5000) : Nat) : Int) := fun i e1 e2 => below_ us rest hF 5000 (by omega) (by omega) hl i e1 e2 K (by omega)
  have b1 : rank_Below.f K 5000 (W us :: rest) 64 = some 0 := (bl_ 64 (by omega) (by omega)).trans (by rw [show min (64 : Int).toNat 5000 = 64 from rfl, hc 64 (by omega)]; rfl)
  have b2 : rank_Below.f K 5000 (W us :: rest) 65 = some 1 := (bl_ 65 (by omega) (by omega)).trans (by rw [show min (65 : Int).toNat 5000 = 65 from rfl, hc 65 (by omega)]; rfl)
  have b3 : rank_Below.f K 5000 (W us :: rest) 4096 = some 4032 := (bl_ 4096 (by omega) (by omega)).trans (by rw [show min (4096 : Int).toNat 5000 = 4096 from rfl, hc 4096 (by omega)]; rfl)
  have b4 : rank_Below.f K 5000 (W us :: rest) 4999 = some 4032 := (bl_ 4999 (by omega) (by omega)).trans (by rw [show min (4999 : Int).toNat 5000 = 4999 from rfl, hc 4999 (by omega)]; rfl)
  have b5 : rank_Below.f K 5000 (W us :: rest) 5000 = some 4033 := (bl_ 5000 (by omega) (by omega)).trans (by rw [show min (5000 : Int).toNat 5000 = 5000 from rfl, hc5]; rfl)
  have b6 : rank_Below.f K 5000 (W us :: rest) 1099511627776 = some 4033 := (bl_ 1099511627776 (by omega) (by omega)).trans (by rw [show min (1099511627776 : Int).toNat 5000 = 5000 from rfl, hc5]; rfl)
  have b7 : rank_Below.f K 5000 (W us :: rest) (-7) = some 0 := (bl_ (-7) (by omega) (by omega)).trans (by rw [show min (-7 : Int).toNat 5000 = 0 from rfl]; rfl)
  have z1 : rank_Zeros.f K 5000 (W us :: rest) = some 967 := (zeros_ us rest hF 5000 (by omega) (by omega) hl K (by omega)).trans (by rw [hc5]; exact congrArg some (forms_wrap))
  have e1 : hodmanref3_Made.f 5000 (List.replicate 5000 false) = some t1 := m1
  have e2 : hodmanref3_SetTree.f K t1.1 t1.2 64 4032 true = some t2 := m2
  have e3 : hodmanref3_SetTree.f K t2.1 t2.2 4999 1 true = some (5000, W us :: rest) := m3
  clear m1 m2 m3 hp hb hc h1 h2 bl_
  unfold hodmanlaw6_RankForms.f
  rw [formsBegun K (by omega), Option.bind_some, if_pos rfl, if_pos (by decide), e1, Option.bind_some, e2, Option.bind_some, e3, Option.bind_some]
  dsimp only
  rw [n1, Option.bind_some, n2, Option.bind_some, n3, Option.bind_some, n4, Option.bind_some, n5, Option.bind_some, b1, Option.bind_some, if_pos rfl, b2, Option.bind_some, if_pos rfl, b3, Option.bind_some, if_pos rfl, b4, Option.bind_some, if_pos rfl, b5, Option.bind_some, if_pos rfl, b6, Option.bind_some, if_pos rfl, b7, Option.bind_some, if_pos rfl]
  dsimp only
  rw [if_pos rfl, if_pos rfl, if_pos rfl, if_pos rfl, if_pos rfl, if_pos rfl, if_neg Bool.false_ne_true, if_neg Bool.false_ne_true, z1, Option.bind_some]
  rfl

end Go.Proofs.Ytgbkdmcbdilgaaa.Pure
