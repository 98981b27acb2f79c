/- What the printed functions of package junk come to, in plain words on lists of numbers. -/
import Derived.Test.YtflmdnjcniidgaaPJunkAx
import Derived.OpenShut
set_option linter.unusedVariables false
set_option linter.unusedSimpArgs false
namespace Go.Proofs.Ytflmdnjcniidgaa.JF
open Go.RowKit Go.Proofs.Ytflmdnjcniidgaa.PJunkA Go.Proofs.YtflmdnjcniidgaaW.PrintWords Go.Proofs.YtflmdnjcniidgaaW.PrintLast Go.Proofs.YtflmdnjcniidgaaW.PrintMore

theorem wrapi_in {n : Int} (h0 : -9223372036854775808 ≤ n) (h1 : n ≤ 9223372036854775807) : wrap64 n = n := by unfold wrap64; omega
theorem wrap1 (i : Nat) (h : i < 1000000000) : wrap64 ((i : Int) + 1) = ((i + 1 : Nat) : Int) := by unfold wrap64; omega
/-- the number at a place -/
def e (l : List Int) (i : Nat) : Int := l.getD i 0
theorem rd_e (l : List Int) (i : Nat) : rd l (i : Int) = e l i := by unfold rd e; rw [Int.toNat_natCast]
theorem e_set (l : List Int) (i j : Nat) (v : Int) (hi : i < l.length) : e (l.set i v) j = if j = i then v else e l j := by
  unfold e
  rw [List.getD_eq_getElem?_getD, List.getD_eq_getElem?_getD, List.getElem?_set]
  by_cases h : i = j
  · subst h; simp [hi]
  · simp [h, show ¬ j = i from fun x => h x.symm]
theorem e_ext {a b : List Int} (hl : a.length = b.length) (h : ∀ j, j < a.length → e a j = e b j) : a = b := by
  refine List.ext_getElem hl fun j h1 h2 => ?_
  have := h j h1
  unfold e at this
  rw [List.getD_eq_getElem?_getD, List.getD_eq_getElem?_getD, List.getElem?_eq_getElem h1, List.getElem?_eq_getElem h2] at this
  exact this
theorem clone_ (l : List Int) (h : l.length < 140737488355328) : slices_Clone_byte_byte.f l = some l := by
  unfold slices_Clone_byte_byte.f
  simp only [Option.bind_some]
  rw [if_pos (by simpa using h)]
  simp
/-- what stands in a fresh page -/
def B (s p i : Int) : Int := ((((((((s) % 256) + ((31 * ((p) % 256)) % 256)) % 256) + ((7 * ((i) % 256)) % 256)) % 256) + 1) % 256)
theorem byte_ (s p i : Int) : junk_Byte.f s p i = some (B s p i) := rfl
/-- a row of which page p is fresh -/
def Filled (l : List Int) (s : Int) (p n : Nat) (x : List Int) : Prop := x.length = l.length ∧ ∀ j, j < l.length → e x j = if p * n ≤ j ∧ j < p * n + n then B s p ((j - p * n : Nat) : Int) else e l j
theorem fill_l (l : List Int) (s : Int) (p n : Nat) (hl : l.length < 1000000) (hpn : p * n ≤ l.length) (hn : n < 1000000) (d : Nat) : ∀ (k i : Nat) (x : List Int), i + d = n → d < k → x.length = l.length → (∀ j, j < l.length → e x j = if p * n ≤ j ∧ j < p * n + i then B s p ((j - p * n : Nat) : Int) else e l j) →
    ∃ y, junk_Fill.l0 k x s (p : Int) (n : Int) (i : Int) = some y ∧ Filled l s p n y := by
  have wp : wrap64 ((p : Int) * (n : Int)) = ((p * n : Nat) : Int) := by rw [← Int.natCast_mul]; exact wrapi_in (by omega) (by omega)
  induction d with
  | zero =>
    intro k i x hi hk hx hb
    obtain ⟨k, rfl⟩ : ∃ m, k = m + 1 := ⟨k - 1, by omega⟩
    obtain rfl : i = n := by omega
    exact ⟨x, by simp only [junk_Fill.l0]; rw [if_neg (by omega)], hx, hb⟩
  | succ d ih =>
    intro k i x hi hk hx hb
    obtain ⟨k, rfl⟩ : ∃ m, k = m + 1 := ⟨k - 1, by omega⟩
    have w2 : wrap64 (((p * n : Nat) : Int) + (i : Int)) = ((p * n + i : Nat) : Int) := by rw [wrapi_in (by omega) (by omega)]; omega
    rw [junk_Fill.l0.eq_2, if_pos (by omega), wp, w2]
    by_cases h : p * n + i < x.length
    · rw [if_pos (by omega), byte_]
      simp only [Option.bind_some]
      rw [if_pos (by omega), Int.toNat_natCast, wrap1 i (by omega)]
      refine ih k (i + 1) (x.set (p * n + i) (B s p i)) (by omega) (by omega) (by rw [List.length_set]; exact hx) fun j hj => ?_
      rw [e_set _ _ _ _ h, hb j hj]
      by_cases e1 : j = p * n + i
      · subst e1
        rw [if_pos rfl, if_pos (by omega), Nat.add_sub_cancel_left]
      · rw [if_neg e1]
        by_cases e2 : p * n ≤ j ∧ j < p * n + i
        · rw [if_pos e2, if_pos (by omega)]
        · rw [if_neg e2, if_neg (by omega)]
    · rw [if_neg (by omega)]
      refine ⟨x, rfl, hx, fun j hj => ?_⟩
      rw [hb j hj]
      by_cases e2 : p * n ≤ j ∧ j < p * n + i
      · rw [if_pos e2, if_pos (by omega)]
      · rw [if_neg e2, if_neg (by omega)]
theorem fill (l : List Int) (s : Int) (p n : Nat) (hl : l.length < 1000000) (hn0 : 1 ≤ n) (hn : n < 1000000) (k : Nat) (hk : n + 5 ≤ k) :
    ∃ y, junk_Fill.f k l s (p : Int) (n : Int) = some y ∧ Filled l s p n y := by
  obtain ⟨k, rfl⟩ : ∃ m, k = m + 1 := ⟨k - 1, by omega⟩
  unfold junk_Fill.f
  rw [clone_ l (by omega)]
  simp only [Option.bind_some]
  have hd : (l.length : Int) / (n : Int) = ((l.length / n : Nat) : Int) := by rw [Int.natCast_ediv]
  have hle : l.length / n ≤ l.length := Nat.div_le_self _ _
  have hlt : p * n ≤ l.length ∨ l.length < p * n := by omega
  have h1 : l.length / n < p ↔ l.length < p * n := Nat.div_lt_iff_lt_mul (by omega)
  rw [if_neg (by omega), if_neg (by omega), if_neg (by omega), hd]
  clear hd
  generalize l.length / n = q at *
  rw [wrapi_in (by omega) (by omega), junk_Fill.j0.eq_2]
  by_cases h : q < p
  · rw [if_pos (by simp; omega)]
    refine ⟨l, rfl, rfl, fun j hj => ?_⟩
    have h1 := h1.1 h
    rw [if_neg (by omega)]
  · rw [if_neg (by simp; omega)]
    have h2 : ¬ l.length < p * n := fun h3 => h (h1.2 h3)
    exact fill_l l s p n hl (by omega) hn n k 0 l (by omega) (by omega) rfl fun j hj => by rw [if_neg (by omega)]
theorem Filled.same {l x y : List Int} {s : Int} {p n : Nat} (h1 : Filled l s p n x) (h2 : Filled l s p n y) : x = y :=
  e_ext (by rw [h1.1, h2.1]) fun j hj => by rw [h1.2 j (by rw [← h1.1]; exact hj), h2.2 j (by rw [← h1.1]; exact hj)]

end Go.Proofs.Ytflmdnjcniidgaa.JF
