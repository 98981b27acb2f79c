/- JunkOnly, the plain part: a page is filled, no other byte is another one, and twice filled is once. -/
import Derived.Test.YtflmdnjcniidgaaJunkFns
set_option linter.unusedVariables false
set_option linter.unusedSimpArgs false
namespace Go.Proofs.Ytflmdnjcniidgaa.Pure
open Go.RowKit Go.Proofs.Ytflmdnjcniidgaa.PJunk Go.Proofs.YtflmdnjcniidgaaW.PrintWords Go.Proofs.YtflmdnjcniidgaaW.PrintLast Go.Proofs.YtflmdnjcniidgaaW.PrintMore Go.Proofs.Ytflmdnjcniidgaa.JF

theorem junkBegun_at : hodmanlaw14_begun.f 20 = some true := by decide +kernel
theorem junkBegun (k : Nat) (hk : 20 ≤ k) : hodmanlaw14_begun.f k = some true := at_rounds hodmanlaw14_begun.mono hk junkBegun_at
theorem div_page {i n p : Nat} (hn : 1 ≤ n) : i / n = p ↔ p * n ≤ i ∧ i < p * n + n := by
  constructor
  · rintro rfl
    have h1 := Nat.div_mul_le_self i n
    have h2 := Nat.lt_div_mul_add (a := i) (b := n) (by omega)
    exact ⟨h1, h2⟩
  · rintro ⟨h1, h2⟩
    exact Nat.div_eq_of_lt_le h1 (by rw [Nat.succ_mul]; exact h2)
theorem only_l (l x : List Int) (s p n : Nat) (hl : l.length ≤ 60) (hs : s < 256) (hp : p < 8) (hn0 : 1 ≤ n) (hn : n ≤ 20) (hx : Filled l (s : Int) p n x) (d : Nat) : ∀ (k i : Nat), i + d = l.length → 100 + d ≤ k →
    hodmanlaw14_JunkOnly.l0 k l (s : Int) (n : Int) (p : Int) x (i : Int) = some true := by
  have hxl := hx.1
  have ws : wrap64 (s : Int) = (s : Int) := wrapi_in (by omega) (by omega)
  have hpn : p * n ≤ 140 := by
    have := Nat.mul_le_mul (show p ≤ 7 by omega) hn
    omega
  have wp : wrap64 ((p : Int) * (n : Int)) = ((p * n : Nat) : Int) := by rw [← Int.natCast_mul]; exact wrapi_in (by omega) (by omega)
  induction d with
  | zero =>
    intro k i hi hk
    obtain ⟨k, rfl⟩ : ∃ m, k = m + 1 := ⟨k - 1, by omega⟩
    obtain ⟨y, hy, hfy⟩ := fill x (s : Int) p n (by omega) hn0 (by omega) k (by omega)
    have : y = x := e_ext hfy.1 fun j hj => by
      have hj2 : j < x.length := by rw [← hfy.1]; exact hj
      rw [hfy.2 j hj2]
      split
      · rename_i h
        rw [hx.2 j (by omega), if_pos h]
      · rfl
    subst this
    rw [hodmanlaw14_JunkOnly.l0.eq_2, if_neg (by omega), ws, hy]
    simp only [Option.bind_some]
    exact congrArg some (beq_self_eq_true _)
  | succ d ih =>
    intro k i hi hk
    obtain ⟨k, rfl⟩ : ∃ m, k = m + 1 := ⟨k - 1, by omega⟩
    have hd : Int.tdiv (i : Int) (n : Int) = ((i / n : Nat) : Int) := rfl
    have hle : i / n ≤ i := Nat.div_le_self _ _
    have hxi := hx.2 i (by omega)
    have hq : wrap64 ((i / n : Nat) : Int) = ((i / n : Nat) : Int) := by
      generalize i / n = q at hle ⊢
      exact wrapi_in (by omega) (by omega)
    rw [hodmanlaw14_JunkOnly.l0.eq_2, if_pos (by omega), if_neg (by omega), hd, hq, rd_e, rd_e, wrap1 i (by omega), wp, ws]
    by_cases h : i / n = p
    · have h2 := (div_page hn0).1 h
      rw [if_pos (congrArg (fun z : Nat => (z : Int)) h), if_pos (by omega), if_pos (by omega), byte_]
      simp only [Option.bind_some]
      rw [if_pos h2] at hxi
      have wd : wrap64 ((i : Int) - ((p * n : Nat) : Int)) = ((i - p * n : Nat) : Int) := by rw [wrapi_in (by omega) (by omega)]; omega
      rw [wd, if_pos hxi]
      exact ih k (i + 1) (by omega) (by omega)
    · have h2 : ¬ (p * n ≤ i ∧ i < p * n + n) := fun h3 => h ((div_page hn0).2 h3)
      rw [if_neg (fun hh => h (Int.ofNat_inj.1 hh)), if_pos (by omega), if_pos (by omega)]
      rw [if_neg h2] at hxi
      rw [if_pos hxi]
      exact ih k (i + 1) (by omega) (by omega)
theorem JunkOnly : hodmanlaw14_JunkOnly.Pure := by
  intro l s p n _ _ _ hs hp hn
  have hs := bounds_u8 hs
  have hp := bounds_u8 hp
  have hn := bounds_u8 hn
  obtain ⟨s, rfl⟩ := Int.eq_ofNat_of_zero_le hs.1
  obtain ⟨p, rfl⟩ := Int.eq_ofNat_of_zero_le hp.1
  obtain ⟨n, rfl⟩ := Int.eq_ofNat_of_zero_le hn.1
  refine ⟨300, ?_⟩
  unfold hodmanlaw14_JunkOnly.f
  rw [junkBegun 300 (by omega)]
  simp only [Option.bind_some, if_true]
  by_cases h : l.length > 60
  · rw [if_pos (by omega)]
  · rw [if_neg (by omega)]
    have tp : Int.tmod (p : Int) 8 = ((p % 8 : Nat) : Int) := rfl
    have tn : Int.tmod (n : Int) 20 = ((n % 20 : Nat) : Int) := rfl
    have lp := Nat.mod_lt p (show 8 > 0 by omega)
    have ln := Nat.mod_lt n (show 20 > 0 by omega)
    rw [tp, tn]
    clear tp tn hp hn
    generalize p % 8 = p at *
    generalize n % 20 = n at *
    have w1 : wrap64 (n : Int) = (n : Int) := wrapi_in (by omega) (by omega)
    have w2 : wrap64 (1 + (n : Int)) = ((n + 1 : Nat) : Int) := by rw [wrapi_in (by omega) (by omega)]; omega
    have w3 : wrap64 (p : Int) = (p : Int) := wrapi_in (by omega) (by omega)
    have w4 : wrap64 (s : Int) = (s : Int) := wrapi_in (by omega) (by omega)
    rw [w1, w2, w3, w4]
    clear w1 w2 w3 w4
    obtain ⟨x, hx, hfx⟩ := fill l (s : Int) p (n + 1) (by omega) (by omega) (by omega) 300 (by omega)
    rw [hx]
    simp only [Option.bind_some]
    rw [if_pos (by have := hfx.1; omega)]
    exact only_l l x s p (n + 1) (by omega) (by omega) lp (by omega) (by omega) hfx l.length 300 0 (by omega) (by omega)

end Go.Proofs.Ytflmdnjcniidgaa.Pure
