/- JunkAll, the plain part: what stands in fresh pages is what the document says. -/
import Derived.Test.YtflmdnjcniidgaaJunkAFns
set_option linter.unusedVariables false
set_option linter.unusedSimpArgs false
namespace Go.Proofs.Ytflmdnjcniidgaa.Pure
open Go.RowKit Go.Proofs.Ytflmdnjcniidgaa.PJunkA Go.Proofs.YtflmdnjcniidgaaW.PrintWords Go.Proofs.YtflmdnjcniidgaaW.PrintLast Go.Proofs.YtflmdnjcniidgaaW.PrintMore Go.Proofs.Ytflmdnjcniidgaa.JF

theorem junkBegun_at : hodmanlaw14_begun.f 20 = some true := by decide +kernel
theorem junkBegun (k : Nat) (hk : 20 ≤ k) : hodmanlaw14_begun.f k = some true := at_rounds hodmanlaw14_begun.mono hk junkBegun_at
theorem div_page {i n p : Nat} (hn : 1 ≤ n) : i / n = p ↔ p * n ≤ i ∧ i < p * n + n := by
  constructor
  · rintro rfl
    have h1 := Nat.div_mul_le_self i n
    have h2 := Nat.lt_div_mul_add (a := i) (b := n) (by omega)
    exact ⟨h1, h2⟩
  · rintro ⟨h1, h2⟩
    exact Nat.div_eq_of_lt_le h1 (by rw [Nat.succ_mul]; exact h2)
theorem ref_byte (s p i : Int) (hs : 0 ≤ s) (hp : 0 ≤ p) (hi : 0 ≤ i) : hodmanref8_Byte.f s p i = some (B s p i) := by
  unfold hodmanref8_Byte.f B
  rw [Int.tmod_eq_emod_of_nonneg hs, Int.tmod_eq_emod_of_nonneg hp, Int.tmod_eq_emod_of_nonneg hi]
  have h1 : 0 ≤ s % 256 ∧ s % 256 < 256 := by omega
  have h2 : 0 ≤ p % 256 ∧ p % 256 < 256 := by omega
  have h3 : 0 ≤ i % 256 ∧ i % 256 < 256 := by omega
  generalize s % 256 = x at h1 ⊢
  generalize p % 256 = y at h2 ⊢
  generalize i % 256 = z at h3 ⊢
  rw [wrapi_in (n := 31 * y) (by omega) (by omega), wrapi_in (n := 7 * z) (by omega) (by omega), wrapi_in (n := x + 31 * y) (by omega) (by omega), wrapi_in (n := x + 31 * y + 7 * z) (by omega) (by omega), wrapi_in (n := x + 31 * y + 7 * z + 1) (by omega) (by omega), Int.tmod_eq_emod_of_nonneg (by omega)]
  congr 1
  omega
theorem reffill_l (l : List Int) (s : Int) (p n : Nat) (hl : l.length ≤ 60) (hs : 0 ≤ s) (hn0 : 1 ≤ n) (hn : n < 1000) (d : Nat) : ∀ (k i : Nat) (x : List Int), i + d = l.length → d < k → x.length = l.length → (∀ j, j < l.length → e x j = if j < i ∧ p * n ≤ j ∧ j < p * n + n then B s p ((j - p * n : Nat) : Int) else e l j) →
    ∃ y, hodmanref8_Fill.l0 k s (p : Int) (n : Int) x (i : Int) = some y ∧ Filled l s p n y := by
  induction d with
  | zero =>
    intro k i x hi hk hx hb
    obtain ⟨k, rfl⟩ : ∃ m, k = m + 1 := ⟨k - 1, by omega⟩
    rw [hodmanref8_Fill.l0.eq_2, if_neg (by omega)]
    refine ⟨x, rfl, hx, fun j hj => ?_⟩
    rw [hb j hj]
    by_cases h : p * n ≤ j ∧ j < p * n + n
    · rw [if_pos h, if_pos ⟨by omega, h⟩]
    · rw [if_neg h, if_neg (fun h2 => h h2.2)]
  | succ d ih =>
    intro k i x hi hk hx hb
    obtain ⟨k, rfl⟩ : ∃ m, k = m + 1 := ⟨k - 1, by omega⟩
    have hd : Int.tdiv (i : Int) (n : Int) = ((i / n : Nat) : Int) := rfl
    have hm : Int.tmod (i : Int) (n : Int) = ((i % n : Nat) : Int) := rfl
    have hle : i / n ≤ i := Nat.div_le_self _ _
    have hq : wrap64 ((i / n : Nat) : Int) = ((i / n : Nat) : Int) := by
      generalize i / n = q at hle ⊢
      exact wrapi_in (by omega) (by omega)
    rw [hodmanref8_Fill.l0.eq_2, if_pos (by omega), if_pos (by omega), if_neg (by omega), hd, hq, hm, wrap1 i (by omega)]
    clear hd hm hq
    by_cases h : i / n = p
    · have h2 := (div_page hn0).1 h
      have h3 : i % n = i - p * n := by
        have h4 := Nat.div_add_mod i n
        rw [h, Nat.mul_comm] at h4
        omega
      rw [if_pos (congrArg (fun z : Nat => (z : Int)) h), ref_byte s p _ hs (by omega) (by omega), Option.bind_some, if_pos (by omega), Int.toNat_natCast, h3]
      refine ih k (i + 1) _ (by omega) (by omega) (by rw [List.length_set]; exact hx) fun j hj => ?_
      rw [e_set _ _ _ _ (by omega), hb j hj]
      by_cases e1 : j = i
      · subst e1
        rw [if_pos rfl, if_pos ⟨by omega, h2⟩]
      · rw [if_neg e1]
        by_cases e2 : j < i ∧ p * n ≤ j ∧ j < p * n + n
        · rw [if_pos e2, if_pos ⟨by omega, e2.2⟩]
        · rw [if_neg e2, if_neg (fun h4 => e2 ⟨by omega, h4.2⟩)]
    · rw [if_neg (show ¬ ((i / n : Nat) : Int) = (p : Int) from fun h4 => h (Int.ofNat.inj h4))]
      refine ih k (i + 1) x (by omega) (by omega) hx fun j hj => ?_
      rw [hb j hj]
      by_cases e1 : j = i
      · subst e1
        rw [if_neg (by omega), if_neg (fun h4 => h ((div_page hn0).2 h4.2))]
      · by_cases e2 : j < i ∧ p * n ≤ j ∧ j < p * n + n
        · rw [if_pos e2, if_pos ⟨by omega, e2.2⟩]
        · rw [if_neg e2, if_neg (fun h4 => e2 ⟨by omega, h4.2⟩)]
theorem reffill_same (l : List Int) (s q n : Int) (hl : l.length ≤ 60) (h : q < 0 ∨ n = 0) (hn : 0 ≤ n) (k : Nat) (hk : 70 ≤ k) : hodmanref8_Fill.f k l s q n = some l := by
  obtain ⟨k, rfl⟩ : ∃ m, k = m + 1 := ⟨k - 1, by omega⟩
  unfold hodmanref8_Fill.f
  rw [Option.bind_some, List.nil_append, if_pos (by simp; omega), Option.bind_some]
  by_cases h1 : q < 0
  · rw [if_pos h1, hodmanref8_Fill.j0.eq_2, if_pos rfl]
  · obtain rfl : n = 0 := by omega
    rw [if_neg h1, hodmanref8_Fill.j0.eq_2, if_neg (by decide)]
    have : ∀ (d k i : Nat), i + d = l.length → d < k → hodmanref8_Fill.l0 k s q 0 l (i : Int) = some l := by
      intro d
      induction d with
      | zero =>
        intro k i hi hk
        obtain ⟨k, rfl⟩ : ∃ m, k = m + 1 := ⟨k - 1, by omega⟩
        rw [hodmanref8_Fill.l0.eq_2, if_neg (by omega)]
      | succ d ih =>
        intro k i hi hk
        obtain ⟨k, rfl⟩ : ∃ m, k = m + 1 := ⟨k - 1, by omega⟩
        rw [hodmanref8_Fill.l0.eq_2, if_pos (by omega), if_neg (by omega), wrap1 i (by omega)]
        exact ih k (i + 1) (by omega) (by omega)
    exact this l.length k 0 (by omega) (by omega)
theorem fill_same (l : List Int) (s q n : Int) (hl : l.length ≤ 60) (h : q < 0 ∨ n = 0) (k : Nat) (hk : 70 ≤ k) : junk_Fill.f k l s q n = some l := by
  obtain ⟨k, rfl⟩ : ∃ m, k = m + 1 := ⟨k - 1, by omega⟩
  unfold junk_Fill.f
  rw [clone_ l (by omega), Option.bind_some]
  by_cases h1 : q < 0
  · rw [if_pos h1, junk_Fill.j0.eq_2, if_pos rfl]
  · rw [if_neg h1, if_pos (by omega), junk_Fill.j0.eq_2, if_pos rfl]
theorem both (l : List Int) (s q : Int) (n : Nat) (hl : l.length ≤ 60) (hs : 0 ≤ s) (hn : n < 40) (k : Nat) (hk : 100 ≤ k) : ∃ t, junk_Fill.f k l s q (n : Int) = some t ∧ hodmanref8_Fill.f k l s q (n : Int) = some t := by
  by_cases h : q < 0 ∨ (n : Int) = 0
  · exact ⟨l, fill_same l s q n hl h k (by omega), reffill_same l s q n hl h (by omega) k (by omega)⟩
  · obtain ⟨p, rfl⟩ : ∃ p : Nat, q = (p : Int) := ⟨q.toNat, by omega⟩
    obtain ⟨y, hy, hF⟩ := fill l s p n (by omega) (by omega) (by omega) k (by omega)
    obtain ⟨k, rfl⟩ : ∃ m, k = m + 1 := ⟨k - 1, by omega⟩
    obtain ⟨z, hz, hG⟩ := reffill_l l s p n hl hs (by omega) (by omega) l.length k 0 l (by omega) (by omega) rfl (fun j hj => by rw [if_neg (by omega)])
    refine ⟨y, hy, ?_⟩
    unfold hodmanref8_Fill.f
    rw [Option.bind_some, List.nil_append, if_pos (by simp; omega), Option.bind_some, if_neg (by omega), hodmanref8_Fill.j0.eq_2, if_neg (by simp), Filled.same hF hG]
    exact hz
theorem all_l (l pages : List Int) (s p at_ : Int) (n : Nat) (hl : l.length ≤ 60) (hs : 0 ≤ s) (hp : 0 ≤ p) (ha0 : 0 ≤ at_) (ha : at_ < 65536) (hn : n < 40) (hg : pages.length = 4) (d : Nat) : ∀ (k i : Nat), i + d = 4 → 110 + d ≤ k →
    hodmanlaw14_JunkAll.l0 k l at_ p (n : Int) s pages (i : Int) = some true := by
  induction d with
  | zero =>
    intro k i hi hk
    obtain ⟨k, rfl⟩ : ∃ m, k = m + 1 := ⟨k - 1, by omega⟩
    rw [hodmanlaw14_JunkAll.l0.eq_2, if_neg (by omega), wrapi_in (n := at_) (by omega) (by omega), byte_, Option.bind_some, ref_byte s p at_ hs hp ha0, Option.bind_some]
    exact congrArg some (beq_self_eq_true _)
  | succ d ih =>
    intro k i hi hk
    obtain ⟨k, rfl⟩ : ∃ m, k = m + 1 := ⟨k - 1, by omega⟩
    obtain ⟨t, h1, h2⟩ := both l s (rd pages (i : Int)) n hl hs hn k (by omega)
    rw [hodmanlaw14_JunkAll.l0.eq_2, if_pos (by omega), if_pos (by omega), if_pos (by omega), h1, Option.bind_some, h2, Option.bind_some, if_pos rfl, wrap1 i (by omega)]
    exact ih k (i + 1) (by omega) (by omega)
theorem JunkAll : hodmanlaw14_JunkAll.Pure := by
  intro l a1 a2 a3 a4 a5 _ _ _ h1 h2 h3 h4 _
  have b1 := bounds_u8 h1
  have b2 := bounds_u16 h2
  have b3 := bounds_u16 h3
  have b4 := bounds_u16 h4
  obtain ⟨K, hK⟩ : ∃ K, K = 200 := ⟨_, rfl⟩
  refine ⟨K, ?_⟩
  unfold hodmanlaw14_JunkAll.f
  rw [junkBegun K (by omega), Option.bind_some, if_pos rfl]
  by_cases h60 : (l.length : Int) > 60
  · rw [if_pos h60]
  · rw [if_neg h60]
    obtain ⟨u3, rfl⟩ : ∃ u : Nat, a3 = (u : Int) := ⟨a3.toNat, by omega⟩
    have hn := Nat.mod_lt u3 (show 0 < 40 by decide)
    have e3 : Int.tmod (u3 : Int) 40 = ((u3 % 40 : Nat) : Int) := rfl
    rw [e3, wrapi_in (n := a2) (by omega) (by omega), wrapi_in (n := a1) (by omega) (by omega), wrapi_in (n := ((u3 % 40 : Nat) : Int)) (by omega) (by omega)]
    exact all_l l _ a1 a2 a4 (u3 % 40) (by omega) (by omega) (by omega) (by omega) (by omega) hn rfl 4 K 0 (by omega) (by omega)

end Go.Proofs.Ytflmdnjcniidgaa.Pure
