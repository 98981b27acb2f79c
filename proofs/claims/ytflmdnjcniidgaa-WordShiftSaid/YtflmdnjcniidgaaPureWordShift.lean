/- WordShift, the plain part: what is shifted is shifted: the lowest one goes up, and as many are set as do not fall out. -/
import Derived.Test.YtflmdnjcniidgaaWordLaws
set_option linter.unusedVariables false
set_option linter.unusedSimpArgs false
namespace Go.Proofs.Ytflmdnjcniidgaa.Pure
open Go.RowKit Go.Proofs.Ytflmdnjcniidgaa.PWord Go.Proofs.YtflmdnjcniidgaaW.PrintWords Go.Proofs.YtflmdnjcniidgaaW.PrintLast Go.Proofs.YtflmdnjcniidgaaW.PrintMore Go.Proofs.Ytflmdnjcniidgaa.Bt Go.Proofs.Ytflmdnjcniidgaa.WFWord Go.Proofs.Ytflmdnjcniidgaa.WL
attribute [local irreducible] cnt fst

/-- a word shifted to the left -/
def up (u n : Nat) : Nat := u * 2 ^ n % 2 ^ 64
theorem up_lt (u n : Nat) : up u n < 2 ^ 64 := Nat.mod_lt _ (by decide)
theorem up_bit (u n k : Nat) : (up u n).testBit k = (decide (k < 64) && (decide (n ≤ k) && u.testBit (k - n))) := by
  unfold up
  rw [Nat.testBit_mod_two_pow, Nat.mul_comm, Nat.testBit_two_pow_mul]
theorem up_cnt (u n : Nat) (hn : n ≤ 64) : cnt (up u n).testBit 64 = cnt u.testBit (64 - n) := by
  have h := cnt_add (up u n).testBit n (64 - n)
  rw [Nat.add_sub_cancel' hn] at h
  rw [h, cnt_zero n (fun i hi => by rw [up_bit]; simp; omega), Nat.zero_add]
  refine cnt_congr _ fun i hi => ?_
  rw [up_bit]
  simp [show n + i < 64 by omega]
theorem out_bit (u m k : Nat) (hk : k < 64) : (u &&& (18446744073709551615 - mask 0 m)).testBit k = (u.testBit k && !decide (k < m)) := by
  have e : 18446744073709551615 - mask 0 m = 2 ^ 64 - (mask 0 m + 1) := by rw [two64]; omega
  rw [Nat.testBit_and, e, Nat.testBit_two_pow_sub_succ (mask_lt 0 m), mask_bit]
  simp [hk]
theorem out_lt {u : Nat} (hu : u < 2 ^ 64) (m : Nat) : u &&& (18446744073709551615 - mask 0 m) < 2 ^ 64 := and_lt hu
theorem out_cnt (u n : Nat) (hn : n ≤ 64) : cnt (u &&& (18446744073709551615 - mask 0 (64 - n))).testBit 64 + cnt u.testBit (64 - n) = cnt u.testBit 64 := by
  have h := cnt_add (u &&& (18446744073709551615 - mask 0 (64 - n))).testBit (64 - n) n
  have h2 := cnt_add u.testBit (64 - n) n
  rw [Nat.sub_add_cancel hn] at h h2
  rw [h, h2, cnt_zero (64 - n) (fun i hi => by rw [out_bit u _ i (by omega)]; simp [hi]), Nat.zero_add]
  rw [cnt_congr n (q := fun i => u.testBit (64 - n + i)) (fun i hi => by rw [out_bit u _ _ (by omega)]; simp)]
  omega
theorem far_zero {u n : Nat} (hc : 64 ≤ fst u.testBit 64 + n) : cnt u.testBit (64 - n) = 0 := by
  refine cnt_zero _ fun i hi => ?_
  rcases fst_spec u.testBit 64 with ⟨_, _, g3⟩ | ⟨_, g2⟩
  · exact g3 i (by omega)
  · exact g2 i (by omega)
theorem low_up {u n : Nat} (hc : fst u.testBit 64 + n < 64) : fst (up u n).testBit 64 = fst u.testBit 64 + n := by
  rcases fst_spec u.testBit 64 with ⟨g1, g2, g3⟩ | ⟨g1, _⟩
  · refine fst_eq ?_ (fun j hj => ?_) 64 (by omega)
    · rw [up_bit, Nat.add_sub_cancel, g2]
      simp
      omega
    · rw [up_bit]
      by_cases e : n ≤ j
      · rw [g3 (j - n) (by omega)]; simp
      · simp [e]
  · omega
theorem shift_fin (s t o c n : Nat) (hA : 64 ≤ s + n → t = 64 ∧ o = c) (hB : s + n < 64 → t = s + n) :
    (if (s : Int) + (n : Int) ≥ 64 then (if (t : Int) = 64 then (if (o : Int) = (c : Int) then some true else (if (s : Int) + (n : Int) < 64 then some ((t : Int) == (s : Int) + (n : Int)) else some false)) else (if (s : Int) + (n : Int) < 64 then some ((t : Int) == (s : Int) + (n : Int)) else some false)) else (if (s : Int) + (n : Int) < 64 then some ((t : Int) == (s : Int) + (n : Int)) else some false)) = some true := by
  by_cases hc : 64 ≤ s + n
  · obtain ⟨rfl, rfl⟩ := hA hc
    rw [if_pos (by omega), if_pos (by omega), if_pos rfl]
  · have := hB (by omega)
    rw [if_neg (by omega), if_pos (by omega)]
    exact congrArg some (beq_iff_eq.mpr (by omega))
theorem WordShift : hodmanlaw3_WordShift.Pure := by
  intro a b ha hb
  obtain ⟨u, rfl, hu⟩ := wf_u64 ha
  obtain ⟨b, rfl, hb⟩ := wf_u8 hb
  refine ⟨100, ?_⟩
  unfold hodmanlaw3_WordShift.f
  have tb := tmod_nat b 64 (by omega) (by omega)
  have lb := Nat.mod_lt b (show 64 > 0 by omega)
  rw [show ((64 : Nat) : Int) = 64 from rfl] at tb
  rw [tb]
  generalize b % 64 = n at *
  clear tb hb
  have w64 : wrap64 (64 - (n : Int)) = ((64 - n : Nat) : Int) := by rw [wrapi_in (by omega) (by omega)]; omega
  have hs : shl .u64 (u : Int) (n : Int) = ((up u n : Nat) : Int) := shl_nat u n (by omega)
  have hm : word_Mask.f 100 0 ((64 - n : Nat) : Int) = some ((mask 0 (64 - n) : Nat) : Int) := by
    have := mask_ 0 ((64 - n : Nat) : Int) (by omega) (by omega) 100 (by omega)
    rw [this, show (0 : Int) = ((0 : Nat) : Int) from rfl, maskI_nat]
  rw [lawBegun 100 (by omega), w64, hs, hm, low hu 100 (by omega), low (up_lt u n) 100 (by omega), ones (up_lt u n) 100 (by omega), ones hu 100 (by omega)]
  simp only [Option.bind_some, if_true]
  rw [if_pos (by omega), andNot_ hu (mask_lt _ _), ones (out_lt hu _) 100 (by omega)]
  simp only [Option.bind_some]
  have h1 := up_cnt u n (by omega)
  have h2 := out_cnt u n (by omega)
  have h3 := cnt_le u.testBit 64
  have h4 := fst_le u.testBit 64
  rw [h1]
  generalize cnt (u &&& (18446744073709551615 - mask 0 (64 - n))).testBit 64 = o at *
  have wa : wrap64 (((cnt u.testBit 64 : Nat) : Int) - (o : Int)) = ((cnt u.testBit 64 : Nat) : Int) - (o : Int) := wrapi_in (by omega) (by omega)
  have wb : wrap64 (((fst u.testBit 64 : Nat) : Int) + (n : Int)) = ((fst u.testBit 64 : Nat) : Int) + (n : Int) := wrapi_in (by omega) (by omega)
  rw [wa, wb, if_pos (by omega)]
  exact shift_fin _ _ _ _ _ (fun hc => ⟨fst_none 64 (cnt_eq_zero (h1.trans (far_zero hc))), by rw [far_zero hc] at h2; exact h2⟩) low_up

end Go.Proofs.Ytflmdnjcniidgaa.Pure
