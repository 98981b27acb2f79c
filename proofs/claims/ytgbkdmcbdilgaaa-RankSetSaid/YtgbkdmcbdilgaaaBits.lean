/- Plain facts on 64 bits told as natural numbers: counting set bits, the lowest one, the n-th one, masks. No Go in it. -/
namespace Go.Proofs.Ytgbkdmcbdilgaaa.Bt

/-- how many of the first n places hold -/
def cnt (p : Nat → Bool) : Nat → Nat
  | 0 => 0
  | n + 1 => cnt p n + (p n).toNat
/-- the first place below n that holds; n if there is none -/
def fst (p : Nat → Bool) : Nat → Nat
  | 0 => 0
  | n + 1 => if fst p n < n then fst p n else if p n = true then n else n + 1

theorem cnt_congr {p q : Nat → Bool} : ∀ n, (∀ i, i < n → p i = q i) → cnt p n = cnt q n
  | 0, _ => rfl
  | n + 1, h => by
    unfold cnt
    rw [cnt_congr n fun i hi => h i (by omega), h n (by omega)]
theorem cnt_le (p : Nat → Bool) : ∀ n, cnt p n ≤ n
  | 0 => Nat.le_refl _
  | n + 1 => by
    have := cnt_le p n
    have := Bool.toNat_le (p n)
    unfold cnt
    omega
theorem cnt_step (p : Nat → Bool) (n : Nat) : cnt p (n + 1) = cnt p n + (p n).toNat := rfl
theorem cnt_mono (p : Nat → Bool) (a b : Nat) : cnt p a ≤ cnt p (a + b) := by
  induction b with
  | zero => exact Nat.le_refl _
  | succ b ih =>
    have : cnt p (a + (b + 1)) = cnt p (a + b) + (p (a + b)).toNat := rfl
    omega
theorem cnt_le_of_le (p : Nat → Bool) {a b : Nat} (h : a ≤ b) : cnt p a ≤ cnt p b := by
  have := cnt_mono p a (b - a)
  rwa [Nat.add_sub_cancel' h] at this
theorem cnt_lt {p : Nat → Bool} {a b : Nat} (h : a < b) (hp : p a = true) : cnt p a < cnt p b := by
  have h1 := cnt_le_of_le p (a := a + 1) (b := b) h
  have h2 := cnt_step p a
  rw [hp] at h2
  simp at h2
  omega
theorem cnt_add (p : Nat → Bool) (a b : Nat) : cnt p (a + b) = cnt p a + cnt (fun i => p (a + i)) b := by
  induction b with
  | zero => rfl
  | succ b ih =>
    have h1 : cnt p (a + (b + 1)) = cnt p (a + b) + (p (a + b)).toNat := rfl
    have h2 : cnt (fun i => p (a + i)) (b + 1) = cnt (fun i => p (a + i)) b + (p (a + b)).toNat := rfl
    omega
theorem cnt_zero {p : Nat → Bool} : ∀ n, (∀ i, i < n → p i = false) → cnt p n = 0
  | 0, _ => rfl
  | n + 1, h => by
    rw [cnt_step, cnt_zero n fun i hi => h i (by omega), h n (by omega)]
    rfl
theorem cnt_all {p : Nat → Bool} : ∀ n, (∀ i, i < n → p i = true) → cnt p n = n
  | 0, _ => rfl
  | n + 1, h => by
    rw [cnt_step, cnt_all n fun i hi => h i (by omega), h n (by omega)]
    rfl
theorem cnt_eq_zero {p : Nat → Bool} {n : Nat} (h : cnt p n = 0) (i : Nat) (hi : i < n) : p i = false := by
  cases hp : p i with
  | false => rfl
  | true =>
    have := cnt_lt hi hp
    omega
theorem cnt_not (p : Nat → Bool) : ∀ n, cnt p n + cnt (fun i => !p i) n = n
  | 0 => rfl
  | n + 1 => by
    have := cnt_not p n
    rw [cnt_step, cnt_step]
    cases p n <;> simp <;> omega
/-- two that have nothing in common -/
theorem cnt_or {p q : Nat → Bool} : ∀ n, (∀ i, i < n → (p i && q i) = false) → cnt (fun i => p i || q i) n = cnt p n + cnt q n
  | 0, _ => rfl
  | n + 1, h => by
    have := cnt_or n fun i hi => h i (by omega)
    have h2 := h n (by omega)
    rw [cnt_step, cnt_step, cnt_step, this]
    cases hp : p n <;> cases hq : q n <;> simp_all <;> omega
/-- one place less -/
theorem cnt_but {p : Nat → Bool} {i : Nat} (hp : p i = true) : ∀ n, cnt (fun j => p j && decide (j ≠ i)) n + (decide (i < n)).toNat = cnt p n
  | 0 => rfl
  | n + 1 => by
    have := cnt_but hp n
    rw [cnt_step, cnt_step]
    by_cases h : n = i
    · subst h
      simp [hp] at this ⊢
      omega
    · have e : decide (i < n + 1) = decide (i < n) := by simp; omega
      rw [e]
      have e2 : (p n && decide (n ≠ i)) = p n := by simp [h]
      rw [e2]
      omega

theorem fst_le (p : Nat → Bool) : ∀ n, fst p n ≤ n
  | 0 => Nat.le_refl _
  | n + 1 => by
    unfold fst
    split
    · omega
    · split <;> omega
theorem fst_none {p : Nat → Bool} : ∀ n, (∀ i, i < n → p i = false) → fst p n = n
  | 0, _ => rfl
  | n + 1, h => by
    unfold fst
    rw [fst_none n fun i hi => h i (by omega), if_neg (by omega), h n (by omega)]
    simp
theorem fst_eq {p : Nat → Bool} {i : Nat} (hp : p i = true) (hb : ∀ j, j < i → p j = false) : ∀ n, i < n → fst p n = i
  | 0, h => by omega
  | n + 1, h => by
    unfold fst
    by_cases e : i = n
    · subst e
      rw [fst_none i hb, if_neg (by omega), if_pos hp]
    · rw [fst_eq hp hb n (by omega), if_pos (by omega)]
theorem fst_spec (p : Nat → Bool) : ∀ n, (fst p n < n ∧ p (fst p n) = true ∧ ∀ j, j < fst p n → p j = false) ∨ (fst p n = n ∧ ∀ j, j < n → p j = false)
  | 0 => Or.inr ⟨rfl, fun j h => by omega⟩
  | n + 1 => by
    rcases fst_spec p n with ⟨h1, h2, h3⟩ | ⟨h1, h2⟩
    · left
      have e := fst_eq h2 h3 (n + 1) (by omega)
      rw [e]
      exact ⟨by omega, h2, h3⟩
    · cases hp : p n with
      | true =>
        left
        rw [fst_eq hp h2 (n + 1) (by omega)]
        exact ⟨by omega, hp, h2⟩
      | false =>
        right
        have hall : ∀ j, j < n + 1 → p j = false := fun j hj => by
          by_cases e : j = n
          · rw [e]; exact hp
          · exact h2 j (by omega)
        exact ⟨fst_none _ hall, hall⟩
theorem fst_congr {p q : Nat → Bool} {n : Nat} (h : ∀ i, i < n → p i = q i) : fst p n = fst q n := by
  rcases fst_spec q n with ⟨h1, h2, h3⟩ | ⟨h1, h2⟩
  · exact fst_eq (by rw [h _ h1]; exact h2) (fun j hj => by rw [h j (by omega)]; exact h3 j hj) n h1
  · rw [h1]; exact fst_none _ fun i hi => by rw [h i hi]; exact h2 i hi

/-- the place that holds and has n that hold below it -/
def nth (p : Nat → Bool) (n : Nat) (N : Nat) : Nat := fst (fun j => p j && cnt p j == n) N
theorem nth_spec (p : Nat → Bool) (n N : Nat) : (nth p n N < N ∧ p (nth p n N) = true ∧ cnt p (nth p n N) = n) ∨ (nth p n N = N ∧ cnt p N ≤ n) := by
  rcases fst_spec (fun j => p j && cnt p j == n) N with ⟨h1, h2, _⟩ | ⟨h1, h2⟩
  · left
    simp only [Bool.and_eq_true, beq_iff_eq] at h2
    exact ⟨h1, h2.1, h2.2⟩
  · right
    refine ⟨h1, ?_⟩
    have : ∀ m, m ≤ N → cnt p m ≤ n := by
      intro m
      induction m with
      | zero => intro _; exact Nat.zero_le _
      | succ m ih =>
        intro hm
        have h3 := ih (by omega)
        have h4 := h2 m (by omega)
        rw [cnt_step]
        cases hp : p m with
        | false => simpa using h3
        | true =>
          simp [hp] at h4
          simp
          omega
    exact this N (Nat.le_refl _)
theorem nth_eq {p : Nat → Bool} {n i N : Nat} (hi : i < N) (hp : p i = true) (hc : cnt p i = n) : nth p n N = i := by
  refine fst_eq (by simp [hp, hc]) (fun j hj => ?_) N hi
  cases hq : p j with
  | false => rfl
  | true =>
    have := cnt_lt hj hq
    simp
    omega
theorem nth_none {p : Nat → Bool} {n N : Nat} (h : cnt p N ≤ n) : nth p n N = N := by
  refine fst_none N fun j hj => ?_
  cases hq : p j with
  | false => rfl
  | true =>
    have := cnt_lt hj hq
    simp
    omega
theorem nth_le (p : Nat → Bool) (n N : Nat) : nth p n N ≤ N := fst_le _ _
theorem nth_zero (p : Nat → Bool) (N : Nat) : nth p 0 N = fst p N := by
  rcases fst_spec p N with ⟨h1, h2, h3⟩ | ⟨h1, h2⟩
  · exact nth_eq h1 h2 (cnt_zero _ h3)
  · rw [h1]; exact nth_none (by rw [cnt_zero _ h2]; exact Nat.le_refl _)
theorem nth_congr {p q : Nat → Bool} {n N : Nat} (h : ∀ i, i < N → p i = q i) : nth p n N = nth q n N :=
  fst_congr fun i hi => by rw [h i hi, cnt_congr i fun j hj => h j (by omega)]

/-! ### words -/
theorem testBit_high {u n i : Nat} (hu : u < 2 ^ n) (hi : n ≤ i) : u.testBit i = false :=
  Nat.testBit_lt_two_pow (Nat.lt_of_lt_of_le hu (Nat.pow_le_pow_right (by decide) hi))
theorem eq_of_bits {u v : Nat} (hu : u < 2 ^ 64) (hv : v < 2 ^ 64) (h : ∀ i, i < 64 → u.testBit i = v.testBit i) : u = v := by
  refine Nat.eq_of_testBit_eq fun i => ?_
  by_cases hi : i < 64
  · exact h i hi
  · rw [testBit_high hu (by omega), testBit_high hv (by omega)]
theorem eq_zero_of_bits {u : Nat} (hu : u < 2 ^ 64) (h : ∀ i, i < 64 → u.testBit i = false) : u = 0 :=
  eq_of_bits hu (by decide) fun i hi => by rw [h i hi, Nat.zero_testBit]
theorem bit_of_ne_zero {u : Nat} (hu : u < 2 ^ 64) (h : u ≠ 0) : fst u.testBit 64 < 64 := by
  rcases fst_spec u.testBit 64 with ⟨h1, _, _⟩ | ⟨_, h2⟩
  · exact h1
  · exact absurd (eq_zero_of_bits hu h2) h
/-- nothing below i: a multiple of 2^i -/
theorem mod_of_low {u i : Nat} (h : ∀ j, j < i → u.testBit j = false) : u % 2 ^ i = 0 := by
  refine Nat.eq_of_testBit_eq fun j => ?_
  rw [Nat.testBit_mod_two_pow, Nat.zero_testBit]
  by_cases hj : j < i
  · simp [h j hj]
  · simp [hj]
theorem low_of_mod {u i : Nat} (h : u % 2 ^ i = 0) (j : Nat) (hj : j < i) : u.testBit j = false := by
  have := Nat.testBit_mod_two_pow u i j
  rw [h, Nat.zero_testBit] at this
  simpa [hj] using this.symm
theorem testBit_div (u k j : Nat) : (u / 2 ^ k).testBit j = u.testBit (k + j) := by
  rw [← Nat.shiftRight_eq_div_pow, Nat.testBit_shiftRight]
/-- the lowest one away -/
theorem clr_bits {u i : Nat} (hi : u.testBit i = true) (hl : ∀ j, j < i → u.testBit j = false) (j : Nat) :
    (u &&& (u - 1)).testBit j = (u.testBit j && decide (j ≠ i)) := by
  have hm := mod_of_low hl
  obtain ⟨q, hq⟩ : ∃ q, u = 2 ^ i * q := ⟨u / 2 ^ i, by have := Nat.div_add_mod u (2 ^ i); omega⟩
  have hodd : q % 2 = 1 := by
    have h1 : u.testBit i = (u / 2 ^ i).testBit 0 := by rw [testBit_div]; rfl
    rw [hi, hq, Nat.mul_div_cancel_left _ (Nat.two_pow_pos i)] at h1
    have h2 := h1.symm
    simpa [Nat.testBit_zero] using h2
  have hp := Nat.two_pow_pos i
  have hpred : u - 1 = 2 ^ i * (q - 1) + (2 ^ i - 1) := by
    obtain ⟨r, rfl⟩ : ∃ r, q = r + 1 := ⟨q - 1, by omega⟩
    rw [hq, Nat.mul_add, Nat.add_sub_cancel]
    omega
  rw [Nat.testBit_and]
  by_cases hj : j < i
  · rw [hl j hj]; simp
  · have e1 : (u - 1).testBit j = (q - 1).testBit (j - i) := by
      rw [hpred, Nat.testBit_two_pow_mul_add _ (by omega), if_neg hj]
    have e2 : u.testBit j = q.testBit (j - i) := by
      have := testBit_div u i (j - i)
      rw [Nat.add_sub_cancel' (by omega)] at this
      rw [← this, hq, Nat.mul_div_cancel_left _ hp]
    rw [e1]
    by_cases e : j = i
    · subst e
      rw [Nat.sub_self, Nat.testBit_zero]
      simp
      omega
    · obtain ⟨m, hm⟩ : ∃ m, j - i = m + 1 := ⟨j - i - 1, by omega⟩
      have e3 : (q - 1).testBit (m + 1) = q.testBit (m + 1) := by
        rw [Nat.testBit_succ, Nat.testBit_succ]
        congr 1
        omega
      rw [e2, hm, e3]
      simp [e]
theorem clr_lt {u : Nat} (hu : u < 2 ^ 64) : u &&& (u - 1) < 2 ^ 64 := Nat.lt_of_le_of_lt Nat.and_le_left hu
theorem clr_cnt {u : Nat} (hu : u < 2 ^ 64) (h : u ≠ 0) : cnt (u &&& (u - 1)).testBit 64 + 1 = cnt u.testBit 64 := by
  rcases fst_spec u.testBit 64 with ⟨h1, h2, h3⟩ | ⟨h1, h2⟩
  · have := cnt_but h2 64
    rw [← cnt_congr 64 fun j _ => clr_bits h2 h3 j] at this
    simpa [h1] using this
  · exact absurd (eq_zero_of_bits hu h2) h
theorem clr_nth {u n : Nat} (hu : u < 2 ^ 64) (h : u ≠ 0) : nth (u &&& (u - 1)).testBit n 64 = nth u.testBit (n + 1) 64 := by
  rcases fst_spec u.testBit 64 with ⟨h1, h2, h3⟩ | ⟨h1, h2⟩
  · refine fst_congr fun j hj => ?_
    have hc := cnt_but h2 j
    rw [← cnt_congr j fun j _ => clr_bits h2 h3 j] at hc
    rw [clr_bits h2 h3 j]
    by_cases e : j = fst u.testBit 64
    · have h0 : cnt u.testBit j = 0 := by rw [e]; exact cnt_zero _ h3
      rw [h0]
      simp [e]
    · by_cases hlt : j < fst u.testBit 64
      · rw [h3 j hlt]; simp
      · have hg : decide (fst u.testBit 64 < j) = true := by simp; omega
        rw [hg] at hc
        simp only [Bool.toNat_true] at hc
        rw [← hc]
        simp [e]
  · exact absurd (eq_zero_of_bits hu h2) h

/-- the bits from i on, n of them -/
def mask (i n : Nat) : Nat := (2 ^ min n 64 - 1) * 2 ^ i % 2 ^ 64
theorem mask_lt (i n : Nat) : mask i n < 2 ^ 64 := Nat.mod_lt _ (by decide)
theorem mask_bit (i n k : Nat) : (mask i n).testBit k = (decide (k < 64) && decide (i ≤ k) && decide (k < i + n)) := by
  unfold mask
  rw [Nat.testBit_mod_two_pow, Nat.mul_comm, Nat.testBit_two_pow_mul, Nat.testBit_two_pow_sub_one]
  by_cases h1 : k < 64 <;> by_cases h2 : i ≤ k <;> simp [h1, h2] <;> omega
theorem not_bit (u : Nat) (k : Nat) (hk : k < 64) : (18446744073709551615 ^^^ u).testBit k = !u.testBit k := by
  rw [Nat.testBit_xor, show (18446744073709551615 : Nat) = 2 ^ 64 - 1 from by decide, Nat.testBit_two_pow_sub_one]
  simp [hk]
theorem not_lt {u : Nat} (hu : u < 2 ^ 64) : 18446744073709551615 ^^^ u < 2 ^ 64 := Nat.xor_lt_two_pow (by decide) hu

end Go.Proofs.Ytgbkdmcbdilgaaa.Bt
