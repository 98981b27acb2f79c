/- What row's functions come to, in plain words on bits. -/
import Derived.Test.YtgbkdmcbdilgaaaRowWord
import Derived.Test.YtgbkdmcbdilgaaaPRowx6
import Derived.OpenShut
set_option linter.unusedVariables false
set_option linter.unusedSimpArgs false
namespace Go.Proofs.Ytgbkdmcbdilgaaa.RF
open Go.RowKit Go.Proofs.Ytgbkdmcbdilgaaa Go.Proofs.Ytgbkdmcbdilgaaa.PRow Go.Proofs.YtgbkdmcbdilgaaaW.PrintWords Go.Proofs.YtgbkdmcbdilgaaaW.PrintLast Go.Proofs.YtgbkdmcbdilgaaaW.PrintMore Go.Proofs.Ytgbkdmcbdilgaaa.Bt Go.Proofs.Ytgbkdmcbdilgaaa.RW

theorem rn {n : Int} {m : Nat} (h : n = (m : Int)) (hm : m < 1000000) : wrap64 n = (m : Int) := by unfold wrap64; omega
/-- words, as the printed functions have them -/
def W (us : List Nat) : List Int := List.map (α := Nat) (β := Int) (fun u => (u : Int)) us
theorem W_len (us : List Nat) : (W us).length = us.length := List.length_map _
theorem rd_W (us : List Nat) (i : Nat) (h : i < us.length) : rd (W us) (i : Int) = ((us.getD i 0 : Nat) : Int) := by
  unfold rd W
  rw [Int.toNat_natCast, List.getD_eq_getElem?_getD, List.getD_eq_getElem?_getD, List.getElem?_map, List.getElem?_eq_getElem h]
  rfl
def Fine (us : List Nat) : Prop := ∀ u ∈ us, u < 2 ^ 64
theorem Fine.at {us : List Nat} (h : Fine us) (i : Nat) : us.getD i 0 < 2 ^ 64 := by
  rw [List.getD_eq_getElem?_getD]
  rcases Nat.lt_or_ge i us.length with hi | hi
  · rw [List.getElem?_eq_getElem hi]
    exact h _ (List.getElem_mem hi)
  · rw [List.getElem?_eq_none hi]
    exact Nat.two_pow_pos 64
/-- is a bit set? -/
def B (us : List Nat) (j : Nat) : Bool := (us.getD (j / 64) 0).testBit (j % 64)
theorem B_at (us : List Nat) (i j : Nat) (h : j < 64) : B us (i * 64 + j) = (us.getD i 0).testBit j := by
  unfold B
  rw [show (i * 64 + j) / 64 = i from by omega, show (i * 64 + j) % 64 = j from by omega]
theorem maskI_bit (n : Int) (j : Nat) (hj : j < 64) : (maskI 0 n).testBit j = decide ((j : Int) < n) := by
  unfold maskI
  by_cases h : n ≤ 0
  · rw [if_pos (Or.inr h), decide_eq_false (by omega)]
    exact Nat.zero_testBit j
  · rw [if_neg (by omega), mask_bit, decide_eq_true hj]
    simp only [Bool.true_and]
    by_cases h2 : (j : Int) < n
    · rw [decide_eq_true h2, decide_eq_true (by omega), decide_eq_true (by omega)]; rfl
    · rw [decide_eq_false h2, decide_eq_false (show ¬ j < Int.toNat 0 + n.toNat by omega), Bool.and_false]

/-! ### FirstZero -/
def Found (us : List Nat) (s f lo : Nat) (r : Int × Bool) : Prop :=
  (r = (0, false) ∧ ∀ j, f ≤ j → lo ≤ j → j < s → j < 64 * us.length → B us j = true) ∨ ∃ a : Nat, r = ((a : Int), true) ∧ f ≤ a ∧ lo ≤ a ∧ a < s ∧ a < 64 * us.length ∧ B us a = false ∧ ∀ j, f ≤ j → lo ≤ j → j < a → B us j = true
theorem first_l (us : List Nat) (hu : Fine us) (s f : Nat) (hl : us.length ≤ 20) (hs : s < 2000) (hf : f < 2000) (d : Nat) : ∀ (k i : Nat), i + d = us.length → 100 + d ≤ k →
    ∃ r, row_FirstZero.l0 k (W us) (s : Int) (f : Int) (i : Int) = some r ∧ Found us s f (i * 64) r := by
  induction d with
  | zero =>
    intro k i hi hk
    obtain ⟨k, rfl⟩ : ∃ m, k = m + 1 := ⟨k - 1, by omega⟩
    rw [row_FirstZero.l0.eq_2, if_neg (by rw [W_len]; omega)]
    exact ⟨_, rfl, Or.inl ⟨rfl, fun j _ h1 _ h2 => by omega⟩⟩
  | succ d ih =>
    intro k i hi hk
    obtain ⟨k, rfl⟩ : ∃ m, k = m + 1 := ⟨k - 1, by omega⟩
    have hw : wrap64 ((f : Int) - ((i * 64 : Nat) : Int)) = (f : Int) - ((i * 64 : Nat) : Int) := by unfold wrap64; omega
    have hm := mask_ 0 ((f : Int) - ((i * 64 : Nat) : Int)) (by omega) (by omega) k (by omega)
    have hml := maskI_lt 0 ((f : Int) - ((i * 64 : Nat) : Int))
    have hmb := maskI_bit ((f : Int) - ((i * 64 : Nat) : Int))
    generalize maskI 0 ((f : Int) - ((i * 64 : Nat) : Int)) = m at hm hml hmb
    have hv := or_lt (hu.at i) hml
    have hz := lowz hv k (by omega)
    have hb : ∀ j, j < 64 → (us.getD i 0 ||| m).testBit j = (B us (i * 64 + j) || decide (i * 64 + j < f)) := by
      intro j hj
      rw [Nat.testBit_or, hmb j hj, B_at us i j hj]
      congr 1
      rw [decide_eq_decide]
      omega
    have hsp := fst_spec (fun j => !(us.getD i 0 ||| m).testBit j) 64
    generalize fst (fun j => !(us.getD i 0 ||| m).testBit j) 64 = z at hz hsp
    have hz64 : z ≤ 64 := by rcases hsp with h | h <;> omega
    have hlow : ∀ j, j < z → f ≤ i * 64 + j → B us (i * 64 + j) = true := by
      intro j hj hfj
      have h1 : (us.getD i 0 ||| m).testBit j = true := by
        have h3 : (!(us.getD i 0 ||| m).testBit j) = false := by
          rcases hsp with ⟨_, _, h⟩ | ⟨h0, h⟩
          · exact h j hj
          · exact h j (by omega)
        cases h4 : (us.getD i 0 ||| m).testBit j with
        | true => rfl
        | false => rw [h4] at h3; cases h3
      rw [hb j (by omega), decide_eq_false (by omega), Bool.or_false] at h1
      exact h1
    rw [row_FirstZero.l0.eq_2, if_pos (by rw [W_len]; omega), if_pos (by omega), rn (n := (i : Int) * 64) (m := i * 64) (by omega) (by omega), hw, hm, Option.bind_some, rd_W us i (by omega), or_ (hu.at i) hml, hz, Option.bind_some]
    rw [rn (n := ((i * 64 : Nat) : Int) + (z : Int)) (m := i * 64 + z) (by omega) (by omega), rn (n := (i : Int) + 1) (m := i + 1) (by omega) (by omega), rn (n := ((i + 1 : Nat) : Int) * 64) (m := (i + 1) * 64) (by omega) (by omega)]
    by_cases h1 : s ≤ i * 64 + z
    · rw [if_pos (by omega)]
      refine ⟨_, rfl, Or.inl ⟨rfl, fun j h2 h3 h4 h5 => ?_⟩⟩
      have := hlow (j - i * 64) (by omega) (by omega)
      rwa [show i * 64 + (j - i * 64) = j from by omega] at this
    · rw [if_neg (by omega)]
      by_cases h2 : z < 64
      · rw [if_pos (by omega)]
        rcases hsp with ⟨_, h3, _⟩ | ⟨h0, _⟩
        · have h4 : (us.getD i 0 ||| m).testBit z = false := by simpa using h3
          rw [hb z h2, Bool.or_eq_false_iff] at h4
          have h5 := of_decide_eq_false h4.2
          refine ⟨_, rfl, Or.inr ⟨i * 64 + z, rfl, by omega, by omega, by omega, by omega, h4.1, fun j h6 h7 h8 => ?_⟩⟩
          have := hlow (j - i * 64) (by omega) (by omega)
          rwa [show i * 64 + (j - i * 64) = j from by omega] at this
        · omega
      · rw [if_neg (by omega)]
        obtain ⟨r, hr, hF⟩ := ih k (i + 1) (by omega) (by omega)
        refine ⟨r, hr, ?_⟩
        have hlow2 : ∀ j, f ≤ j → i * 64 ≤ j → j < (i + 1) * 64 → B us j = true := by
          intro j h3 h4 h5
          have := hlow (j - i * 64) (by omega) (by omega)
          rwa [show i * 64 + (j - i * 64) = j from by omega] at this
        rcases hF with ⟨e, h⟩ | ⟨a, e, h3, h4, h5, h6, h7, h8⟩
        · refine Or.inl ⟨e, fun j h9 h10 h11 h12 => ?_⟩
          by_cases hj : j < (i + 1) * 64
          · exact hlow2 j h9 h10 hj
          · exact h j h9 (by omega) h11 h12
        · refine Or.inr ⟨a, e, h3, by omega, h5, h6, h7, fun j h9 h10 h11 => ?_⟩
          by_cases hj : j < (i + 1) * 64
          · exact hlow2 j h9 h10 hj
          · exact h8 j h9 (by omega) h11
theorem first (us : List Nat) (hu : Fine us) (s f : Nat) (hl : us.length ≤ 20) (hs : s < 2000) (hf : f < 2000) (k : Nat) (hk : 130 ≤ k) :
    ∃ r, row_FirstZero.f k (W us) (s : Int) (f : Int) = some r ∧ Found us s f 0 r := by
  have hd : Int.tdiv (f : Int) 64 = ((f / 64 : Nat) : Int) := rfl
  unfold row_FirstZero.f
  rw [if_neg (by omega), hd, rn (m := f / 64) rfl (by omega)]
  rcases Nat.lt_or_ge (f / 64) us.length with h | h
  · obtain ⟨r, hr, hF⟩ := first_l us hu s f hl hs hf (us.length - f / 64) k (f / 64) (by omega) (by omega)
    refine ⟨r, hr, ?_⟩
    rcases hF with ⟨e, h1⟩ | ⟨a, e, h3, h4, h5, h6, h7, h8⟩
    · exact Or.inl ⟨e, fun j h9 _ h11 h12 => h1 j h9 (by omega) h11 h12⟩
    · exact Or.inr ⟨a, e, h3, by omega, h5, h6, h7, fun j h9 _ h11 => h8 j h9 (by omega) h11⟩
  · obtain ⟨k, rfl⟩ : ∃ m, k = m + 1 := ⟨k - 1, by omega⟩
    rw [row_FirstZero.l0.eq_2, if_neg (by rw [W_len]; omega)]
    exact ⟨_, rfl, Or.inl ⟨rfl, fun j h1 _ _ h2 => by omega⟩⟩

/-! ### Count, where all are set -/
theorem cnt_iv (a t N : Nat) (h : a + t ≤ N) : cnt (fun j => decide (a ≤ j) && decide (j < a + t)) N = t := by
  obtain ⟨r, rfl⟩ : ∃ r, N = a + (t + r) := ⟨N - a - t, by omega⟩
  rw [cnt_add, cnt_add, cnt_zero a (fun i hi => by rw [decide_eq_false (by omega)]; rfl), cnt_all t (fun i hi => by rw [decide_eq_true (by omega), decide_eq_true (by omega)]; rfl), cnt_zero r (fun i hi => by rw [decide_eq_false (show ¬ a + (t + i) < a + t by omega), Bool.and_false])]
  omega
theorem count_l (us : List Nat) (hu : Fine us) (hl : us.length ≤ 20) (d : Nat) : ∀ (k i f n s : Nat), i + d = us.length → d < k → f < 5000 → n < 5000 → s + n < 10000 → (n = 0 ∨ i = f / 64) → f + n ≤ 64 * us.length ∨ n = 0 → (∀ j, f ≤ j → j < f + n → B us j = true) →
    cnt_l k (W us) (i : Int) (f : Int) (n : Int) (s : Int) = some ((s + n : Nat) : Int) := by
  induction d with
  | zero =>
    intro k i f n s hi hk hf hn hs h1 h2 hb
    obtain ⟨k, rfl⟩ : ∃ m, k = m + 1 := ⟨k - 1, by omega⟩
    have : n = 0 := by omega
    subst this
    rw [cnt_l, if_neg (by rw [W_len]; omega)]
    rfl
  | succ d ih =>
    intro k i f n s hi hk hf hn hs h1 h2 hb
    obtain ⟨k, rfl⟩ : ∃ m, k = m + 1 := ⟨k - 1, by omega⟩
    rw [cnt_l, if_pos (by rw [W_len]; omega)]
    by_cases h0 : n = 0
    · subst h0
      rw [if_neg (by omega)]
      rfl
    · have hm : Int.tmod (f : Int) 64 = ((f % 64 : Nat) : Int) := rfl
      have hlt := Nat.mod_lt f (show 0 < 64 by decide)
      have hi2 : i = f / 64 := by omega
      obtain ⟨a, ha⟩ : ∃ a, a = f % 64 := ⟨_, rfl⟩
      rw [← ha] at hm hlt
      obtain ⟨t, ht⟩ : ∃ t, t = min (64 - a) n := ⟨_, rfl⟩
      have htk : takes (f : Int) (n : Int) = ((t : Nat) : Int) := by
        unfold takes mn
        rw [hm, rn (n := 64 - (a : Int)) (m := 64 - a) (by omega) (by omega)]
        split <;> omega
      rw [if_pos (by omega), htk, hm, mask_ (a : Int) (t : Int) (by omega) (by omega) 70 (by omega), Option.bind_some, rd_W us i (by omega), maskI_nat, and_ (hu.at i) (mask_lt a t)]
      have hc : cnt (us.getD i 0 &&& mask a t).testBit 64 = t := by
        refine Eq.trans (cnt_congr 64 fun j hj => ?_) (cnt_iv a t 64 (by omega))
        rw [Nat.testBit_and, mask_bit, decide_eq_true hj, Bool.true_and]
        by_cases h3 : a ≤ j ∧ j < a + t
        · have h4 := hb (i * 64 + j) (by omega) (by omega)
          rw [B_at us i j hj] at h4
          rw [h4, Bool.true_and]
        · by_cases h5 : a ≤ j
          · rw [decide_eq_false (show ¬ j < a + t by omega), Bool.and_false, Bool.and_false]
          · rw [decide_eq_false h5, Bool.false_and, Bool.and_false]
      have hlt2 : us.getD i 0 &&& mask a t < 2 ^ 64 := Nat.lt_of_le_of_lt Nat.and_le_left (hu.at i)
      rw [ones hlt2 70 (by omega), hc, Option.bind_some, rn (n := (i : Int) + 1) (m := i + 1) (by omega) (by omega), rn (n := (f : Int) + (t : Int)) (m := f + t) (by omega) (by omega), rn (n := (n : Int) - (t : Int)) (m := n - t) (by omega) (by omega), rn (n := (s : Int) + (t : Int)) (m := s + t) (by omega) (by omega)]
      by_cases h6 : n = t
      · rw [ih k (i + 1) (f + t) (n - t) (s + t) (by omega) (by omega) (by omega) (by omega) (by omega) (Or.inl (by omega)) (Or.inr (by omega)) (fun j h7 h8 => by omega)]
        congr 2
        omega
      · rw [ih k (i + 1) (f + t) (n - t) (s + t) (by omega) (by omega) (by omega) (by omega) (by omega) (Or.inr (by omega)) (Or.inl (by omega)) (fun j h7 h8 => hb j (by omega) (by omega))]
        congr 2
        omega
theorem count_all (us : List Nat) (hu : Fine us) (hl : us.length ≤ 20) (f n : Nat) (h : f + n ≤ 64 * us.length) (hb : ∀ j, f ≤ j → j < f + n → B us j = true) : row_Count.f (W us) (f : Int) (n : Int) = some (n : Int) := by
  have hd : Int.tdiv (f : Int) 64 = ((f / 64 : Nat) : Int) := rfl
  unfold row_Count.f
  rw [if_neg (by omega), if_neg (by omega), hd, rn (m := f / 64) rfl (by omega), if_pos (by omega), W_len]
  have := count_l us hu hl (us.length - f / 64) (us.length + 1) (f / 64) f n 0 (by omega) (by omega) (by omega) (by omega) (by omega) (Or.inr rfl) (Or.inl h) hb
  rw [Nat.zero_add] at this
  exact this

/-! ### Has -/
theorem has_ (us : List Nat) (hu : Fine us) (hl : us.length ≤ 20) (j : Nat) (hj : j < 64 * us.length) : row_Has.f (W us) (j : Int) = some (B us j) := by
  have hd : Int.tdiv (j : Int) 64 = ((j / 64 : Nat) : Int) := rfl
  have hm : Int.tmod (j : Int) 64 = ((j % 64 : Nat) : Int) := rfl
  unfold row_Has.f
  rw [if_pos (by omega), hd, rn (m := j / 64) rfl (by omega), if_pos (by rw [W_len]; omega), if_pos (by omega), wrapu_in (by omega) (by omega), hm, if_pos (by omega), rd_W us (j / 64) (by omega), bit_test (hu.at _) (j % 64) (by omega)]
  unfold B
  cases (us.getD (j / 64) 0).testBit (j % 64) <;> rfl

/-! ### Words -/
theorem words_in (l : List Int) (hl : l.length ≤ 100) (us : List Nat) (hus : us.length ≤ 20) (i : Nat) (hi : i + 8 ≤ l.length) (d : Nat) : ∀ (k c u : Nat), c + d = 8 → d < k → u < 2 ^ 64 →
    ∃ v : Nat, v < 2 ^ 64 ∧ hodmanplay_Words.l1 k l (W us) (i : Int) (u : Int) (c : Int) = hodmanplay_Words.l0 (k - d - 1) l (W (us ++ [v])) ((i + 8 : Nat) : Int) := by
  have happ : ∀ v : Nat, W us ++ [(v : Int)] = W (us ++ [v]) := fun v => by unfold W; rw [List.map_append]; rfl
  induction d with
  | zero =>
    intro k c u hc hk hu
    obtain ⟨k, rfl⟩ : ∃ m, k = m + 1 := ⟨k - 1, by omega⟩
    rw [hodmanplay_Words.l1.eq_2, if_neg (by omega), if_pos (by omega), if_pos (by omega), rn (n := (i : Int) + 8) (m := i + 8) (by omega) (by omega), W_len]
    rw [show k + 1 - 0 - 1 = k from by omega]
    split
    · rw [if_pos (by omega)]; exact ⟨18446744073709551615, by decide, by rw [← happ]; rfl⟩
    · split
      · rw [if_pos (by omega)]; exact ⟨0, by decide, by rw [← happ]; rfl⟩
      · rw [if_pos (by omega)]; exact ⟨u, hu, by rw [← happ]⟩
  | succ d ih =>
    intro k c u hc hk hu
    obtain ⟨k, rfl⟩ : ∃ m, k = m + 1 := ⟨k - 1, by omega⟩
    have hw : ∀ n : Int, ∃ v : Nat, IntKind.u64.wrap n = (v : Int) ∧ v < 2 ^ 64 := fun n => ⟨(IntKind.u64.wrap n).toNat, by rw [wrapu]; omega, by rw [wrapu, two64]; omega⟩
    rw [hodmanplay_Words.l1.eq_2, if_pos (by omega), rn (n := (i : Int) + (c : Int)) (m := i + c) (by omega) (by omega), if_pos (by omega), if_pos (by omega), rn (n := (c : Int) + 1) (m := c + 1) (by omega) (by omega)]
    obtain ⟨v, hv, hv2⟩ := hw (IntKind.u64.wrap ((u : Int) * 256) + IntKind.u64.wrap (rd l ((i + c : Nat) : Int)))
    rw [hv]
    obtain ⟨x, hx, he⟩ := ih k (c + 1) v (by omega) (by omega) hv2
    exact ⟨x, hx, by rw [he, show k + 1 - (d + 1) - 1 = k - d - 1 from by omega]⟩
theorem words_l (l : List Int) (hl : l.length ≤ 100) (e : Nat) : ∀ (k i : Nat) (us : List Nat), i ≤ l.length → l.length - i ≤ e → 20 * (l.length - i) + 1 ≤ k → us.length * 8 ≤ i → Fine us →
    ∃ vs : List Nat, hodmanplay_Words.l0 k l (W us) (i : Int) = some (W vs) ∧ Fine vs ∧ vs.length * 8 ≤ l.length := by
  induction e with
  | zero =>
    intro k i us hi he hk hus hF
    obtain ⟨k, rfl⟩ : ∃ m, k = m + 1 := ⟨k - 1, by omega⟩
    rw [hodmanplay_Words.l0.eq_2, rn (n := (i : Int) + 8) (m := i + 8) (by omega) (by omega), if_neg (by omega)]
    exact ⟨us, rfl, hF, by omega⟩
  | succ e ih =>
    intro k i us hi he hk hus hF
    obtain ⟨k, rfl⟩ : ∃ m, k = m + 1 := ⟨k - 1, by omega⟩
    rw [hodmanplay_Words.l0.eq_2, rn (n := (i : Int) + 8) (m := i + 8) (by omega) (by omega)]
    by_cases h : i + 8 ≤ l.length
    · rw [if_pos (by omega)]
      obtain ⟨v, hv, he2⟩ := words_in l hl us (by omega) i h 8 k 0 0 (by omega) (by omega) (by decide)
      have he3 : hodmanplay_Words.l1 k l (W us) (i : Int) 0 0 = _ := he2
      rw [he3]
      refine ih _ (i + 8) (us ++ [v]) h (by omega) (by omega) (by rw [List.length_append, List.length_singleton]; omega) (fun u hu => ?_)
      rcases List.mem_append.1 hu with h1 | h1
      · exact hF u h1
      · rw [List.mem_singleton.1 h1]; exact hv
    · rw [if_neg (by omega)]
      exact ⟨us, rfl, hF, by omega⟩
theorem words (l : List Int) (hl : l.length ≤ 100) (k : Nat) (hk : 3000 ≤ k) : ∃ vs : List Nat, hodmanplay_Words.f k l = some (W vs) ∧ Fine vs ∧ vs.length ≤ 12 := by
  obtain ⟨vs, h1, h2, h3⟩ := words_l l hl l.length k 0 [] (by omega) (by omega) (by omega) (by simp) (fun u hu => by cases hu)
  exact ⟨vs, h1, h2, by omega⟩

end Go.Proofs.Ytgbkdmcbdilgaaa.RF
