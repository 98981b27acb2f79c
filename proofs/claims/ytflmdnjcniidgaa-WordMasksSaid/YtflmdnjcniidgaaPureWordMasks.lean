/- WordMasks, the plain part: pieces side by side are one, and what is masked has so many. -/
import Derived.Test.YtflmdnjcniidgaaWordLaws
set_option linter.unusedVariables false
set_option linter.unusedSimpArgs false
namespace Go.Proofs.Ytflmdnjcniidgaa.Pure
open Go.RowKit Go.Proofs.Ytflmdnjcniidgaa.PWord Go.Proofs.YtflmdnjcniidgaaW.PrintWords Go.Proofs.YtflmdnjcniidgaaW.PrintLast Go.Proofs.YtflmdnjcniidgaaW.PrintMore Go.Proofs.Ytflmdnjcniidgaa.Bt Go.Proofs.Ytflmdnjcniidgaa.WFWord Go.Proofs.Ytflmdnjcniidgaa.WL

theorem mask_nat (x y k : Nat) (hx : x < 1000) (hy : y < 1000) (hk : 70 ≤ k) : word_Mask.f k (x : Int) (y : Int) = some ((mask x y : Nat) : Int) := by
  rw [mask_ _ _ (by omega) (by omega) k hk, maskI_nat]
theorem and_none (x y z : Nat) : mask x y &&& mask (x + y) z = 0 :=
  eq_zero_of_bits (and_lt (mask_lt _ _)) fun i hi => by
    rw [Nat.testBit_and, mask_bit, mask_bit]
    simp
    omega
theorem or_one (x y z : Nat) : mask x y ||| mask (x + y) z = mask x (y + z) :=
  eq_of_bits (or_lt (mask_lt _ _) (mask_lt _ _)) (mask_lt _ _) fun i hi => by
    rw [Nat.testBit_or, mask_bit, mask_bit, mask_bit, Bool.eq_iff_iff]
    simp [hi]
    omega
theorem low_mask {x y : Nat} (h : mask x y ≠ 0) : fst (mask x y).testBit 64 = x := by
  have hlt := bit_of_ne_zero (mask_lt x y) h
  rcases fst_spec (mask x y).testBit 64 with ⟨h1, h2, h3⟩ | ⟨h1, h2⟩
  · rw [mask_bit] at h2
    simp at h2
    refine fst_eq ?_ (fun j hj => ?_) 64 (by omega)
    · rw [mask_bit]; simp; omega
    · rw [mask_bit]; simp; omega
  · omega
theorem WordMasks : hodmanlaw3_WordMasks.Pure := by
  intro a b c ha hb hc
  obtain ⟨a, rfl, ha⟩ := wf_u8 ha
  obtain ⟨b, rfl, hb⟩ := wf_u8 hb
  obtain ⟨c, rfl, hc⟩ := wf_u8 hc
  refine ⟨100, ?_⟩
  unfold hodmanlaw3_WordMasks.f
  have ta := tmod_nat a 80 (by omega) (by omega)
  have tb := tmod_nat b 80 (by omega) (by omega)
  have tc := tmod_nat c 80 (by omega) (by omega)
  have la := Nat.mod_lt a (show 80 > 0 by omega)
  have lb := Nat.mod_lt b (show 80 > 0 by omega)
  have lc := Nat.mod_lt c (show 80 > 0 by omega)
  rw [show ((80 : Nat) : Int) = 80 from rfl] at ta tb tc
  rw [ta, tb, tc]
  generalize a % 80 = x at *
  generalize b % 80 = y at *
  generalize c % 80 = z at *
  clear ta tb tc ha hb hc
  have wxy : wrap64 ((x : Int) + (y : Int)) = ((x + y : Nat) : Int) := wrapi_in (by omega) (by omega)
  have wyz : wrap64 ((y : Int) + (z : Int)) = ((y + z : Nat) : Int) := wrapi_in (by omega) (by omega)
  have w64 : wrap64 (64 - (x : Int)) = 64 - (x : Int) := wrapi_in (by omega) (by omega)
  rw [lawBegun 100 (by omega), wxy, wyz, w64, mask_nat x y 100 (by omega) (by omega) (by omega), mask_nat (x + y) z 100 (by omega) (by omega) (by omega), mask_nat x (y + z) 100 (by omega) (by omega) (by omega)]
  simp only [Option.bind_some, if_true]
  rw [ones (mask_lt x y) 100 (by omega), low (mask_lt x y) 100 (by omega)]
  simp only [Option.bind_some]
  rw [and_ (mask_lt _ _) (mask_lt _ _), or_ (mask_lt _ _) (mask_lt _ _), and_none, or_one, if_pos (by rfl), if_pos rfl, mask_cnt]
  rw [if_pos (by unfold mx mn; split <;> split <;> omega)]
  by_cases h : mask x y = 0
  · rw [h]; rfl
  · rw [if_neg (by omega), low_mask h]
    exact congrArg some (beq_iff_eq.mpr rfl)

end Go.Proofs.Ytflmdnjcniidgaa.Pure
