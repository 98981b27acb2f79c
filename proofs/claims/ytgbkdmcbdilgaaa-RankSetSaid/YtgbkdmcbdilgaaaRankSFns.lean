/- What rank's functions, and the document's, come to on a tree of bits, in plain words on bits. -/
import Derived.Test.YtgbkdmcbdilgaaaRankSWord
import Derived.Test.YtgbkdmcbdilgaaaPRankSx4
import Derived.Test.YtgbkdmcbdilgaaaPRankSx6
import Derived.OpenShut
set_option linter.unusedVariables false
set_option linter.unusedSimpArgs false
namespace Go.Proofs.Ytgbkdmcbdilgaaa.KFS
open Go.RowKit Go.Proofs.Ytgbkdmcbdilgaaa Go.Proofs.Ytgbkdmcbdilgaaa.PRankS Go.Proofs.YtgbkdmcbdilgaaaW.PrintWords Go.Proofs.YtgbkdmcbdilgaaaW.PrintLast Go.Proofs.YtgbkdmcbdilgaaaW.PrintMore Go.Proofs.Ytgbkdmcbdilgaaa.Bt Go.Proofs.Ytgbkdmcbdilgaaa.KWS

theorem rn {n : Int} {m : Nat} (h : n = (m : Int)) (hm : m < 1000000) : wrap64 n = (m : Int) := by unfold wrap64; omega
/-- words, as the printed functions have them -/
def W (us : List Nat) : List Int := List.map (α := Nat) (β := Int) (fun u => (u : Int)) us
theorem W_len (us : List Nat) : (W us).length = us.length := List.length_map _
theorem rd_W (us : List Nat) (i : Nat) (h : i < us.length) : rd (W us) (i : Int) = ((us.getD i 0 : Nat) : Int) := by
  unfold rd W
  rw [Int.toNat_natCast, List.getD_eq_getElem?_getD, List.getD_eq_getElem?_getD, List.getElem?_map, List.getElem?_eq_getElem h]
  rfl
def Fine (us : List Nat) : Prop := ∀ u ∈ us, u < 2 ^ 64
theorem Fine.at {us : List Nat} (h : Fine us) (i : Nat) : us.getD i 0 < 2 ^ 64 := by
  rw [List.getD_eq_getElem?_getD]
  rcases Nat.lt_or_ge i us.length with hi | hi
  · rw [List.getElem?_eq_getElem hi]
    exact h _ (List.getElem_mem hi)
  · rw [List.getElem?_eq_none hi]
    exact Nat.two_pow_pos 64
/-- is a bit set? -/
def B (us : List Nat) (j : Nat) : Bool := (us.getD (j / 64) 0).testBit (j % 64)
theorem B_at (us : List Nat) (i j : Nat) (h : j < 64) : B us (i * 64 + j) = (us.getD i 0).testBit j := by
  unfold B
  rw [show (i * 64 + j) / 64 = i from by omega, show (i * 64 + j) % 64 = j from by omega]
theorem maskI_bit (n : Int) (j : Nat) (hj : j < 64) : (maskI 0 n).testBit j = decide ((j : Int) < n) := by
  unfold maskI
  by_cases h : n ≤ 0
  · rw [if_pos (Or.inr h), decide_eq_false (by omega)]
    exact Nat.zero_testBit j
  · rw [if_neg (by omega), mask_bit, decide_eq_true hj]
    simp only [Bool.true_and]
    by_cases h2 : (j : Int) < n
    · rw [decide_eq_true h2, decide_eq_true (by omega), decide_eq_true (by omega)]; rfl
    · rw [decide_eq_false h2, decide_eq_false (show ¬ j < Int.toNat 0 + n.toNat by omega), Bool.and_false]
theorem L0 (us : List Nat) (rest : List (List Int)) : rd_L1 (W us :: rest) 0 = W us := rfl

/-! ### the bits of a tree -/
def bl (us : List Nat) (s : Nat) : List Bool := (List.range s).map (B us)
theorem bl_len (us : List Nat) (s : Nat) : (bl us s).length = s := by unfold bl; rw [List.length_map, List.length_range]
theorem bl_at (us : List Nat) (s j : Nat) (h : j < s) : rdOf false (bl us s) (j : Int) = B us j := by
  unfold rdOf bl
  rw [Int.toNat_natCast, List.getD_eq_getElem?_getD, List.getElem?_map, List.getElem?_range h]
  rfl
theorem bl_snoc (us : List Nat) (s : Nat) : bl us (s + 1) = bl us s ++ [B us s] := by unfold bl; rw [List.range_succ, List.map_append]; rfl
theorem has_ (us : List Nat) (hu : Fine us) (hl : us.length ≤ 100) (j : Nat) (hj : j < 64 * us.length) : hodmanref3_Has.f (W us) (j : Int) = some (B us j) := by
  have hd : Int.tdiv (j : Int) 64 = ((j / 64 : Nat) : Int) := rfl
  have hm : Int.tmod (j : Int) 64 = ((j % 64 : Nat) : Int) := rfl
  unfold hodmanref3_Has.f
  rw [if_pos (by omega), W_len, rn (n := 64 * (us.length : Int)) (m := 64 * us.length) (by omega) (by omega), if_pos (by omega), hd, rn (m := j / 64) rfl (by omega), if_pos (by omega), if_pos (by omega), hm, rd_W us (j / 64) (by omega)]
  unfold hodmanref3_Bit.f
  rw [if_pos (by omega), if_pos (by omega), if_pos (by omega), bit_test (hu.at _) (j % 64) (by omega)]
  unfold B
  cases (us.getD (j / 64) 0).testBit (j % 64) <;> rfl
theorem bits_l (us : List Nat) (rest : List (List Int)) (hu : Fine us) (hl : us.length ≤ 100) (s : Nat) (hs : s ≤ 64 * us.length) (d : Nat) : ∀ (k i : Nat), i + d = s → d < k →
    hodmanref3_Bits.l0 k (bl us i) (i : Int) (s : Int) (W us :: rest) = some (bl us s) := by
  induction d with
  | zero =>
    intro k i hi hk
    obtain ⟨k, rfl⟩ : ∃ m, k = m + 1 := ⟨k - 1, by omega⟩
    obtain rfl : i = s := by omega
    rw [hodmanref3_Bits.l0.eq_2, if_neg (by omega)]
  | succ d ih =>
    intro k i hi hk
    obtain ⟨k, rfl⟩ : ∃ m, k = m + 1 := ⟨k - 1, by omega⟩
    rw [hodmanref3_Bits.l0.eq_2, if_pos (by omega), if_pos (by simp), if_pos (by simp), L0, has_ us hu hl i (by omega), Option.bind_some, if_pos (by rw [bl_len]; omega), rn (n := (i : Int) + 1) (m := i + 1) (by omega) (by omega), ← bl_snoc]
    exact ih k (i + 1) (by omega) (by omega)
theorem bits_ (us : List Nat) (rest : List (List Int)) (hu : Fine us) (hl : us.length ≤ 100) (s : Nat) (hs : s ≤ 64 * us.length) (k : Nat) (hk : s < k) : hodmanref3_Bits.f k (s : Int) (W us :: rest) = some (bl us s) :=
  bits_l us rest hu hl s hs s k 0 (by omega) hk

/-! ### Below -/
theorem words_ (us : List Nat) (rest : List (List Int)) (s : Nat) (h1 : 1 ≤ s) (hs : s ≤ 5000) (hl : us.length = (s + 63) / 64) : rank_words.f (s : Int) (W us :: rest) = some ((us.length : Nat) : Int) := by
  have hd : Int.tdiv ((s - 1 : Nat) : Int) 64 = (((s - 1) / 64 : Nat) : Int) := rfl
  unfold rank_words.f
  rw [if_neg (by rw [List.length_cons]; omega), if_neg (by omega), if_pos (by rw [List.length_cons]; omega), L0, W_len, rn (n := (s : Int) - 1) (m := s - 1) (by omega) (by omega), hd, rn (m := (s - 1) / 64) rfl (by omega), rn (n := (((s - 1) / 64 : Nat) : Int) + 1) (m := (s - 1) / 64 + 1) (by omega) (by omega)]
  congr 1
  unfold mn
  split <;> omega
theorem real_ (us : List Nat) (rest : List (List Int)) (hu : Fine us) (s : Nat) (hs : s ≤ 5000) (hl : us.length ≤ 100) (i k : Nat) (hi : i < us.length) (hk : 70 ≤ k) : ∃ v : Nat, rank_real.f k (s : Int) (W us :: rest) (i : Int) = some (v : Int) ∧ v < 2 ^ 64 ∧ ∀ j, j < 64 → v.testBit j = (B us (i * 64 + j) && decide (i * 64 + j < s)) := by
  have hw : wrap64 ((s : Int) - ((i * 64 : Nat) : Int)) = (s : Int) - ((i * 64 : Nat) : Int) := by unfold wrap64; omega
  have hm := mask_ 0 ((s : Int) - ((i * 64 : Nat) : Int)) (by omega) (by omega) k hk
  have hml := maskI_lt 0 ((s : Int) - ((i * 64 : Nat) : Int))
  have hmb := maskI_bit ((s : Int) - ((i * 64 : Nat) : Int))
  generalize maskI 0 ((s : Int) - ((i * 64 : Nat) : Int)) = m at hm hml hmb
  refine ⟨us.getD i 0 &&& m, ?_, Nat.lt_of_le_of_lt Nat.and_le_left (hu.at i), fun j hj => ?_⟩
  · unfold rank_real.f
    rw [if_pos (by simp), if_pos (by omega), L0, W_len, if_pos (by omega), rn (n := (i : Int) * 64) (m := i * 64) (by omega) (by omega), hw, hm, Option.bind_some, rd_W us i hi, and_ (hu.at i) hml]
  · rw [Nat.testBit_and, hmb j hj, B_at us i j hj]
    congr 1
    rw [decide_eq_decide]
    omega
theorem cnt_min (p : Nat → Bool) (a s : Nat) : ∀ n, cnt (fun j => p j && decide (j < s)) n = cnt p (min n s) := by
  intro n
  rcases Nat.le_total n s with h | h
  · rw [Nat.min_eq_left h]
    exact cnt_congr n fun i hi => by rw [decide_eq_true (by omega), Bool.and_true]
  · rw [Nat.min_eq_right h]
    obtain ⟨d, rfl⟩ : ∃ d, n = s + d := ⟨n - s, by omega⟩
    rw [cnt_add, cnt_zero d (fun i hi => by rw [decide_eq_false (show ¬ s + i < s by omega), Bool.and_false])]
    exact cnt_congr s fun i hi => by rw [decide_eq_true hi, Bool.and_true]
/-- what is set below a number, of those that there are -/
def below (us : List Nat) (s : Nat) (i : Int) : Nat := cnt (B us) (min i.toNat s)
theorem below_l (us : List Nat) (rest : List (List Int)) (hu : Fine us) (s : Nat) (h1 : 1 ≤ s) (hs : s ≤ 5000) (hl : us.length = (s + 63) / 64) (i : Int) (hi0 : -9223372036854775808 ≤ i) (hi : i ≤ 9223372036854775807) (d : Nat) : ∀ (k x : Nat), x + d = us.length → 200 + 2 * d ≤ k → ((x : Int) * 64 < i ∨ x = 0 ∨ i.toNat ≤ x * 64) →
    rank_Below.l0 k i ((cnt (B us) (min (min i.toNat s) (x * 64)) : Nat) : Int) (x : Int) (s : Int) (W us :: rest) = some ((below us s i : Nat) : Int) := by
  induction d with
  | zero =>
    intro k x hx hk _
    obtain ⟨k, rfl⟩ : ∃ m, k = m + 2 := ⟨k - 2, by omega⟩
    rw [rank_Below.l0.eq_2, words_ us rest s h1 hs hl, Option.bind_some, if_neg (by omega), rank_Below.j1.eq_2, if_neg (by decide)]
    unfold below
    rw [Nat.min_eq_left (by omega)]
  | succ d ih =>
    intro k x hx hk _
    obtain ⟨k, rfl⟩ : ∃ m, k = m + 2 := ⟨k - 2, by omega⟩
    rw [rank_Below.l0.eq_2, words_ us rest s h1 hs hl, Option.bind_some, if_pos (by omega), rn (n := (x : Int) * 64) (m := x * 64) (by omega) (by omega), rank_Below.j1.eq_2]
    by_cases h : ((x * 64 : Nat) : Int) < i
    · rw [if_pos (decide_eq_true h), rn (n := (x : Int) * 64) (m := x * 64) (by omega) (by omega)]
      obtain ⟨v, hv, hvl, hvb⟩ := real_ us rest hu s hs (by omega) x k (by omega) (by omega)
      have hw : wrap64 (i - ((x * 64 : Nat) : Int)) = i - ((x * 64 : Nat) : Int) := by unfold wrap64; omega
      have hm := mask_ 0 (i - ((x * 64 : Nat) : Int)) (by omega) (by omega) k (by omega)
      have hml := maskI_lt 0 (i - ((x * 64 : Nat) : Int))
      have hmb := maskI_bit (i - ((x * 64 : Nat) : Int))
      generalize maskI 0 (i - ((x * 64 : Nat) : Int)) = m at hm hml hmb
      have hc : cnt (v &&& m).testBit 64 = cnt (fun j => B us (x * 64 + j)) (min 64 (min i.toNat s - x * 64)) := by
        rw [← cnt_min (fun j => B us (x * 64 + j)) 0 (min i.toNat s - x * 64) 64]
        refine cnt_congr 64 fun j hj => ?_
        rw [Nat.testBit_and, hvb j hj, hmb j hj, Bool.and_assoc]
        congr 1
        rw [← Bool.decide_and, decide_eq_decide]
        omega
      have hcl := cnt_le (v &&& m).testBit 64
      have hsum : cnt (B us) (min (min i.toNat s) (x * 64)) + cnt (v &&& m).testBit 64 = cnt (B us) (min (min i.toNat s) ((x + 1) * 64)) := by
        rw [hc]
        rcases Nat.le_total (min i.toNat s) (x * 64) with h2 | h2
        · rw [Nat.min_eq_left h2, Nat.min_eq_left (show min i.toNat s ≤ (x + 1) * 64 by omega), show min 64 (min i.toNat s - x * 64) = 0 from by omega]
          rfl
        · rw [Nat.min_eq_right h2, show min (min i.toNat s) ((x + 1) * 64) = x * 64 + min 64 (min i.toNat s - x * 64) from by omega, cnt_add]
      have hb2 := cnt_le (B us) (min (min i.toNat s) (x * 64))
      rw [hv, Option.bind_some, hw, hm, Option.bind_some, and_ hvl hml, ones (Nat.lt_of_le_of_lt Nat.and_le_left hvl) k (by omega), Option.bind_some, rn (n := ((cnt (B us) (min (min i.toNat s) (x * 64)) : Nat) : Int) + ((cnt (v &&& m).testBit 64 : Nat) : Int)) (m := cnt (B us) (min (min i.toNat s) ((x + 1) * 64))) (by rw [← hsum, Int.natCast_add]) (by rw [← hsum]; omega), rn (n := (x : Int) + 1) (m := x + 1) (by omega) (by omega)]
      exact ih k (x + 1) (by omega) (by omega) (by omega)
    · rw [if_neg (by rw [decide_eq_true_eq]; exact h)]
      unfold below
      rw [Nat.min_eq_left (show min i.toNat s ≤ x * 64 by omega)]
theorem below_ (us : List Nat) (rest : List (List Int)) (hu : Fine us) (s : Nat) (h1 : 1 ≤ s) (hs : s ≤ 5000) (hl : us.length = (s + 63) / 64) (i : Int) (hi0 : -9223372036854775808 ≤ i) (hi : i ≤ 9223372036854775807) (k : Nat) (hk : 500 ≤ k) : rank_Below.f k (s : Int) (W us :: rest) i = some ((below us s i : Nat) : Int) := by
  have h := below_l us rest hu s h1 hs hl i hi0 hi us.length k 0 (by omega) (by omega) (Or.inr (Or.inl rfl))
  rw [Nat.zero_mul, Nat.min_zero] at h
  exact h

end Go.Proofs.Ytgbkdmcbdilgaaa.KFS
