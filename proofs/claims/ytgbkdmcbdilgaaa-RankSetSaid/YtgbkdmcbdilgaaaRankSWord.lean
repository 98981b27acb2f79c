/- What the printed functions of package word come to, in plain words on bits (group RankS). Laid by rankword.py out of WordFns. -/
import Derived.Test.YtgbkdmcbdilgaaaBits
import Derived.Test.YtgbkdmcbdilgaaaPRankSx1
import Derived.Test.YtgbkdmcbdilgaaaPRankSx2
import Derived.Laws.BitsAllLaws
set_option linter.unusedVariables false
set_option linter.unusedSimpArgs false
set_option linter.unnecessarySimpa false
namespace Go.Proofs.Ytgbkdmcbdilgaaa.KWS
open Go.RowKit Go.Proofs.Ytgbkdmcbdilgaaa Go.Proofs.Ytgbkdmcbdilgaaa.PRankS Go.Proofs.YtgbkdmcbdilgaaaW.PrintWords Go.Proofs.YtgbkdmcbdilgaaaW.PrintLast Go.Proofs.YtgbkdmcbdilgaaaW.PrintMore Go.Proofs.Ytgbkdmcbdilgaaa.Bt

theorem two64 : (2 : Nat) ^ 64 = 18446744073709551616 := by decide
theorem and_ {u v : Nat} (hu : u < 2 ^ 64) (hv : v < 2 ^ 64) : Go.bits .and .u64 (u : Int) (v : Int) = ((u &&& v : Nat) : Int) := Go.u64_and_nat u v (two64 ▸ hu) (two64 ▸ hv)
theorem or_ {u v : Nat} (hu : u < 2 ^ 64) (hv : v < 2 ^ 64) : Go.bits .or .u64 (u : Int) (v : Int) = ((u ||| v : Nat) : Int) := Go.u64_or_nat u v (two64 ▸ hu) (two64 ▸ hv)
theorem xor_ {u v : Nat} (hu : u < 2 ^ 64) (hv : v < 2 ^ 64) : Go.bits .xor .u64 (u : Int) (v : Int) = ((u ^^^ v : Nat) : Int) := Go.u64_xor_nat u v (two64 ▸ hu) (two64 ▸ hv)
theorem andNot_ {u v : Nat} (hu : u < 2 ^ 64) (hv : v < 2 ^ 64) : Go.bits .andNot .u64 (u : Int) (v : Int) = ((u &&& (18446744073709551615 - v) : Nat) : Int) := Go.u64_andNot_nat u v (two64 ▸ hu) (two64 ▸ hv)
theorem max_ : IntKind.u64.max = ((18446744073709551615 : Nat) : Int) := by decide
theorem not_ {u : Nat} (hu : u < 2 ^ 64) : Go.bits .xor .u64 IntKind.u64.max (u : Int) = ((18446744073709551615 ^^^ u : Nat) : Int) := by
  rw [max_]; exact xor_ (by decide) hu
theorem wrapu (n : Int) : IntKind.u64.wrap n = n % 18446744073709551616 := by simp [IntKind.wrap, IntKind.bits, IntKind.signed]
theorem wrapu_nat (n : Nat) : IntKind.u64.wrap (n : Int) = ((n % 2 ^ 64 : Nat) : Int) := by rw [wrapu, two64]; omega
theorem wrapu_in {n : Int} (h0 : 0 ≤ n) (h1 : n < 18446744073709551616) : IntKind.u64.wrap n = n := by rw [wrapu]; omega
theorem wrapi_in {n : Int} (h0 : -9223372036854775808 ≤ n) (h1 : n ≤ 9223372036854775807) : wrap64 n = n := by unfold wrap64; omega
theorem pow_cast (n : Nat) : (2 : Int) ^ n = ((2 ^ n : Nat) : Int) := by push_cast; rfl
theorem shl_nat (u n : Nat) (hn : n ≤ 64) : shl .u64 (u : Int) (n : Int) = ((u * 2 ^ n % 2 ^ 64 : Nat) : Int) := by
  unfold shl
  rw [Int.toNat_natCast, Nat.min_eq_left (by simp only [IntKind.bits]; exact hn), pow_cast, ← Int.natCast_mul, wrapu_nat]
theorem shr_nat (u n : Nat) (hn : n ≤ 64) : shr .u64 (u : Int) (n : Int) = ((u / 2 ^ n : Nat) : Int) := by
  unfold shr
  rw [Int.toNat_natCast, Nat.min_eq_left (by simp only [IntKind.bits]; exact hn), pow_cast, ← Int.natCast_ediv]
theorem div_lt {u : Nat} (hu : u < 2 ^ 64) (n : Nat) : u / 2 ^ n < 2 ^ 64 := Nat.lt_of_le_of_lt (Nat.div_le_self _ _) hu
theorem and1 (u : Nat) : u &&& 1 = u % 2 := by have := Nat.and_two_pow_sub_one_eq_mod u 1; simpa only using this
theorem bit_test {u : Nat} (hu : u < 2 ^ 64) (i : Nat) (hi : i < 64) : Go.bits .and .u64 (shr .u64 (u : Int) (i : Int)) 1 = ((u.testBit i).toNat : Int) := by
  rw [shr_nat u i (by omega), show (1 : Int) = ((1 : Nat) : Int) from rfl, and_ (div_lt hu i) (by decide), and1, Nat.testBit_eq_decide_div_mod_eq]
  congr 1
  by_cases h : u / 2 ^ i % 2 = 1
  · simp [h]
  · have : u / 2 ^ i % 2 = 0 := by omega
    simp [this]

def nthI (u : Nat) (n : Int) : Nat := if n < 0 then 64 else nth u.testBit n.toNat 64
theorem low_l (d : Nat) : ∀ (x : Nat) (k : Nat) (s : Nat) (h : Nat), x < 2 ^ 64 → x ≠ 0 → d ≤ 6 → h = 2 ^ d / 2 → fst x.testBit 64 < 2 ^ d → s + 2 ^ d ≤ 64 → d < k →
    word_LowOne.l0 k (x : Int) (s : Int) (h : Int) = some ((s + fst x.testBit 64 : Nat) : Int) := by
  induction d with
  | zero =>
    intro x k s h hx h0 hd he hl hs hk
    obtain ⟨k, rfl⟩ : ∃ m, k = m + 1 := ⟨k - 1, by omega⟩
    simp only [word_LowOne.l0]
    rw [if_neg (by omega)]
    have : fst x.testBit 64 = 0 := by simpa using hl
    exact congrArg some (by omega)
  | succ d ih =>
    intro x k s h hx h0 hd he hl hs hk
    obtain ⟨k, rfl⟩ : ∃ m, k = m + 1 := ⟨k - 1, by omega⟩
    have hp := Nat.two_pow_pos d
    have hps : 2 ^ (d + 1) = 2 ^ d + 2 ^ d := by rw [Nat.pow_succ]; omega
    have he2 : h = 2 ^ d := by rw [he, Nat.pow_succ]; omega
    have hd5 : 2 ^ d ≤ 2 ^ 5 := Nat.pow_le_pow_right (by decide) (by omega)
    subst he2
    have hf : ((2 ^ d : Nat) : Int) / 2 = ((2 ^ d / 2 : Nat) : Int) := by omega
    have h64 : 2 ^ 2 ^ d ≤ 2 ^ 32 := Nat.pow_le_pow_right (by decide) hd5
    have h63 := Nat.two_pow_pos (2 ^ d)
    simp only [word_LowOne.l0]
    rw [if_pos (by omega), if_pos (by omega)]
    have hc : Go.bits .and .u64 (x : Int) (IntKind.u64.wrap (shl .u64 1 ((2 ^ d : Nat) : Int) - 1)) = ((x % 2 ^ 2 ^ d : Nat) : Int) := by
      have e1 : shl .u64 1 ((2 ^ d : Nat) : Int) = ((2 ^ 2 ^ d : Nat) : Int) := by
        have := shl_nat 1 (2 ^ d) (by omega)
        rw [Nat.one_mul, Nat.mod_eq_of_lt (by omega)] at this
        exact this
      rw [e1, wrapu_in (by omega) (by omega), show ((2 ^ 2 ^ d : Nat) : Int) - 1 = ((2 ^ 2 ^ d - 1 : Nat) : Int) by omega, and_ hx (by omega), Nat.and_two_pow_sub_one_eq_mod]
    rw [hc, hf]
    rcases fst_spec x.testBit 64 with ⟨g1, g2, g3⟩ | ⟨_, g2⟩
    case inr => exact absurd (eq_zero_of_bits hx g2) h0
    by_cases hm : x % 2 ^ 2 ^ d = 0
    · rw [if_pos (by omega), shr_nat x (2 ^ d) (by omega), wrapi_in (n := ((2 ^ d : Nat) : Int)) (by omega) (by omega), wrapi_in (by omega) (by omega)]
      have hge : 2 ^ d ≤ fst x.testBit 64 := by
        rcases Nat.lt_or_ge (fst x.testBit 64) (2 ^ d) with hlt | hge
        · have := low_of_mod hm _ hlt
          rw [g2] at this
          cases this
        · exact hge
      have e3 : fst (x / 2 ^ 2 ^ d).testBit 64 = fst x.testBit 64 - 2 ^ d :=
        fst_eq (by rw [testBit_div, Nat.add_sub_cancel' hge]; exact g2) (fun j hj => by rw [testBit_div]; exact g3 _ (by omega)) 64 (by omega)
      have hx0 : x / 2 ^ 2 ^ d ≠ 0 := by
        intro e
        have h1 : (x / 2 ^ 2 ^ d).testBit (fst x.testBit 64 - 2 ^ d) = true := by rw [testBit_div, Nat.add_sub_cancel' hge]; exact g2
        rw [e, Nat.zero_testBit] at h1
        cases h1
      have := ih (x / 2 ^ 2 ^ d) k (s + 2 ^ d) (2 ^ d / 2) (div_lt hx _) hx0 (by omega) rfl (by rw [e3]; omega) (by omega) (by omega)
      rw [show (s : Int) + ((2 ^ d : Nat) : Int) = ((s + 2 ^ d : Nat) : Int) by omega, this, e3]
      exact congrArg some (by omega)
    · rw [if_neg (by omega)]
      have hlt : fst x.testBit 64 < 2 ^ d := by
        rcases Nat.lt_or_ge (fst x.testBit 64) (2 ^ d) with hlt | hge
        · exact hlt
        · exact absurd (mod_of_low fun j hj => g3 j (by omega)) hm
      exact ih x k s (2 ^ d / 2) hx h0 (by omega) rfl hlt (by omega) (by omega)
theorem low {u : Nat} (hu : u < 2 ^ 64) (k : Nat) (hk : 70 ≤ k) : word_LowOne.f k (u : Int) = some ((fst u.testBit 64 : Nat) : Int) := by
  unfold word_LowOne.f
  by_cases h : u = 0
  · subst h
    rw [if_pos (by omega), fst_none 64 (fun j _ => Nat.zero_testBit j)]
    rfl
  · rw [if_neg (by omega)]
    have := low_l 6 u k 0 32 hu h (by omega) (by decide) (bit_of_ne_zero hu h) (by omega) (by omega)
    rw [Nat.zero_add] at this
    exact this
theorem fst_not {u : Nat} : fst (18446744073709551615 ^^^ u).testBit 64 = fst (fun i => !u.testBit i) 64 := fst_congr fun i hi => not_bit u i hi
theorem cnt_not_ {u : Nat} : cnt (18446744073709551615 ^^^ u).testBit 64 = cnt (fun i => !u.testBit i) 64 := cnt_congr 64 fun i hi => not_bit u i hi
theorem clr_ {u : Nat} (hu : u < 2 ^ 64) (h : u ≠ 0) : Go.bits .and .u64 (u : Int) (IntKind.u64.wrap ((u : Int) - 1)) = ((u &&& (u - 1) : Nat) : Int) := by
  rw [wrapu_in (by omega) (by omega), show (u : Int) - 1 = ((u - 1 : Nat) : Int) by omega, and_ hu (by omega)]
theorem ones_l (c : Nat) : ∀ (u s k : Nat), u < 2 ^ 64 → cnt u.testBit 64 = c → s ≤ 64 → c < k → word_Ones.l0 k (u : Int) (s : Int) = some ((s + c : Nat) : Int) ∨ 64 < s + c := by
  induction c with
  | zero =>
    intro u s k hu hc hs hk
    left
    obtain ⟨k, rfl⟩ : ∃ m, k = m + 1 := ⟨k - 1, by omega⟩
    have : u = 0 := eq_zero_of_bits hu fun i hi => cnt_eq_zero hc i hi
    simp only [word_Ones.l0]
    rw [if_pos (by omega)]
    rfl
  | succ c ih =>
    intro u s k hu hc hs hk
    obtain ⟨k, rfl⟩ : ∃ m, k = m + 1 := ⟨k - 1, by omega⟩
    have h0 : u ≠ 0 := by
      rintro rfl
      rw [cnt_zero 64 (fun i _ => Nat.zero_testBit i)] at hc
      omega
    by_cases hs64 : 64 < s + (c + 1)
    · exact Or.inr hs64
    · left
      simp only [word_Ones.l0]
      rw [if_neg (by omega), clr_ hu h0, wrapi_in (by omega) (by omega)]
      have h1 := clr_cnt hu h0
      rcases ih (u &&& (u - 1)) (s + 1) k (clr_lt hu) (by omega) (by omega) (by omega) with h2 | h2
      · rw [show (s : Int) + 1 = ((s + 1 : Nat) : Int) by omega, h2]
        exact congrArg some (by omega)
      · omega
theorem ones {u : Nat} (hu : u < 2 ^ 64) (k : Nat) (hk : 70 ≤ k) : word_Ones.f k (u : Int) = some ((cnt u.testBit 64 : Nat) : Int) := by
  have hc := cnt_le u.testBit 64
  rcases ones_l _ u 0 k hu rfl (by omega) (by omega) with h | h
  · rw [Nat.zero_add] at h; exact h
  · omega
theorem nth_l (c : Nat) : ∀ (u k : Nat) (n : Nat), u < 2 ^ 64 → cnt u.testBit 64 = c → n ≤ 9223372036854775807 → c + 70 < k → word_Nth.l0 k (u : Int) (n : Int) = some ((nth u.testBit n 64 : Nat) : Int) := by
  induction c with
  | zero =>
    intro u k n hu hc hn hk
    obtain ⟨k, rfl⟩ : ∃ m, k = m + 1 := ⟨k - 1, by omega⟩
    obtain rfl : u = 0 := eq_zero_of_bits hu fun i hi => cnt_eq_zero hc i hi
    have hl := low (u := 0) (by decide) k (by omega)
    have h64 : fst (Nat.testBit 0) 64 = 64 := fst_none 64 (fun j _ => Nat.zero_testBit j)
    have hr : nth (Nat.testBit 0) n 64 = 64 := nth_none (by rw [hc]; omega)
    simp only [word_Nth.l0]
    rw [hr]
    rw [h64] at hl
    by_cases h : n = 0
    · rw [if_neg (by omega), hl]; rfl
    · rw [if_pos (by omega), if_pos (by omega), hl]; rfl
  | succ c ih =>
    intro u k n hu hc hn hk
    obtain ⟨k, rfl⟩ : ∃ m, k = m + 1 := ⟨k - 1, by omega⟩
    have h0 : u ≠ 0 := by
      rintro rfl
      rw [cnt_zero 64 (fun i _ => Nat.zero_testBit i)] at hc
      omega
    simp only [word_Nth.l0]
    by_cases h : n = 0
    · subst h
      rw [if_neg (by omega), low hu k (by omega), nth_zero]
      rfl
    · obtain ⟨m, rfl⟩ : ∃ m, n = m + 1 := ⟨n - 1, by omega⟩
      rw [if_pos (by omega), if_neg (by omega), clr_ hu h0, wrapi_in (by omega) (by omega), show ((m + 1 : Nat) : Int) - 1 = (m : Int) by omega, ← clr_nth hu h0]
      have h1 := clr_cnt hu h0
      exact ih (u &&& (u - 1)) k m (clr_lt hu) (by omega) (by omega) (by omega)
theorem nth_ {u : Nat} (hu : u < 2 ^ 64) (n : Int) (h1 : n ≤ 9223372036854775807) (k : Nat) (hk : 140 ≤ k) : word_Nth.f k (u : Int) n = some ((nthI u n : Nat) : Int) := by
  unfold word_Nth.f nthI
  by_cases h : n < 0
  · rw [if_pos h, if_pos h]; rfl
  · rw [if_neg h, if_neg h]
    have hc := cnt_le u.testBit 64
    have := nth_l _ u k n.toNat hu rfl (by omega) (by omega)
    rw [Int.toNat_of_nonneg (by omega)] at this
    exact this
/-- the mask, for any whole numbers -/
def maskI (i n : Int) : Nat := if i < 0 ∨ n ≤ 0 then 0 else mask i.toNat n.toNat
theorem maskI_lt (i n : Int) : maskI i n < 2 ^ 64 := by
  unfold maskI
  split
  · decide
  · exact mask_lt _ _
theorem mask_zero_n (i : Nat) : mask i 0 = 0 := by unfold mask; simp
theorem maskI_nat (i n : Nat) : maskI (i : Int) (n : Int) = mask i n := by
  unfold maskI
  by_cases h : n = 0
  · subst h
    rw [if_pos (by omega), mask_zero_n]
  · rw [if_neg (by omega)]
    rfl
theorem mask_far {i : Nat} (n : Nat) (hi : 64 ≤ i) : mask i n = 0 :=
  eq_zero_of_bits (mask_lt _ _) fun k hk => by rw [mask_bit]; simp; omega
theorem mask_ (i n : Int) (h0 : i ≤ 9223372036854775807) (h1 : n ≤ 9223372036854775807) (k : Nat) (hk : 70 ≤ k) : word_Mask.f k i n = some ((maskI i n : Nat) : Int) := by
  obtain ⟨k, rfl⟩ : ∃ m, k = m + 1 := ⟨k - 1, by omega⟩
  unfold word_Mask.f maskI
  by_cases hi : i < 0
  · rw [if_pos hi, if_pos (Or.inl hi)]
    simp only [word_Mask.j0]
    rw [if_pos trivial]
    rfl
  · rw [if_neg hi]
    by_cases hn : n ≤ 0
    · rw [if_pos hn, if_pos (Or.inr hn)]
      simp only [word_Mask.j0]
      rw [if_pos trivial]
      rfl
    · rw [if_neg hn, if_neg (by omega)]
      obtain ⟨i, rfl⟩ := Int.eq_ofNat_of_zero_le (show 0 ≤ i by omega)
      obtain ⟨n, rfl⟩ := Int.eq_ofNat_of_zero_le (show 0 ≤ n by omega)
      simp only [word_Mask.j0, Int.toNat_natCast]
      by_cases hi64 : 64 ≤ i
      · rw [if_pos (by simp; omega), mask_far n hi64]
        rfl
      · rw [if_neg (by simp; omega)]
        have wi : IntKind.u64.wrap (i : Int) = (i : Int) := wrapu_in (by omega) (by omega)
        rw [wi]
        by_cases hn64 : n < 64
        · have wn : IntKind.u64.wrap (n : Int) = (n : Int) := wrapu_in (by omega) (by omega)
          rw [if_pos (by omega), wn, if_pos (by omega), if_pos (by omega)]
          have hpn : 2 ^ n ≤ 2 ^ 63 := Nat.pow_le_pow_right (by decide) (by omega)
          have hpp := Nat.two_pow_pos n
          have e1 : shl .u64 1 (n : Int) = ((2 ^ n : Nat) : Int) := by
            have := shl_nat 1 n (by omega)
            rw [Nat.one_mul, Nat.mod_eq_of_lt (by omega)] at this
            exact this
          rw [e1, wrapu_in (by omega) (by omega), show ((2 ^ n : Nat) : Int) - 1 = ((2 ^ n - 1 : Nat) : Int) by omega, shl_nat _ i (by omega)]
          unfold mask
          rw [Nat.min_eq_left (by omega)]
        · rw [if_neg (by omega), if_pos (by omega)]
          have := shl_nat 18446744073709551615 i (by omega)
          unfold mask
          rw [Nat.min_eq_right (by omega)]
          exact congrArg some this
theorem or_lt {u v : Nat} (hu : u < 2 ^ 64) (hv : v < 2 ^ 64) : u ||| v < 2 ^ 64 := Nat.or_lt_two_pow hu hv

end Go.Proofs.Ytgbkdmcbdilgaaa.KWS
