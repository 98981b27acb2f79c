/- MemMoves, the plain part: what is moved is whole, also where it lies over itself, and all else stays. -/
import Derived.OpenShut
import Derived.Test.YtjjfcpffbooboaaMemFns
import Derived.Test.YtjjfcpffbooboaaPMemx4
set_option linter.unusedVariables false
set_option linter.unusedSimpArgs false
namespace Go.Proofs.Ytjjfcpffbooboaa.Pure
open Go.RowKit Go.Proofs.Ytjjfcpffbooboaa.PMem Go.Proofs.YtjjfcpffbooboaaW.PrintWords Go.Proofs.YtjjfcpffbooboaaW.PrintLast Go.Proofs.YtjjfcpffbooboaaW.PrintMore Go.Proofs.Ytjjfcpffbooboaa.MFMem

theorem wf_u8 {a : Int} (h : (Lit.int .u8 a).wf = true) : ∃ u : Nat, a = (u : Int) ∧ u < 256 := by
  have := bounds_u8 h
  exact ⟨a.toNat, by omega, by omega⟩
theorem rd_get (l : List Int) (i : Nat) : rd l (i : Int) = (l[i]?).getD 0 := by unfold rd; rw [Int.toNat_natCast, List.getD_eq_getElem?_getD]
theorem wn {n : Int} {m : Nat} (h : n = (m : Int)) (hm : m < 1000000) : wrap64 n = (m : Int) := by unfold wrap64; omega
theorem moves_j (l : List Int) (f t n i K : Nat) (hl : l.length ≤ 50) (hf : f + n ≤ l.length) (ht : t + n ≤ l.length) (hi : i < l.length) (b : Bool) (hb : b = decide (t ≤ i ∧ i < t + n)) :
    hodmanlaw15_MemMoves.j3 (K + 1) l (f : Int) (t : Int) (n : Int) (moved l f t n) (i : Int) (rd l (i : Int)) b = hodmanlaw15_MemMoves.l0 K l (f : Int) (t : Int) (n : Int) (moved l f t n) ((i + 1 : Nat) : Int) := by
  have hlen := moved_length l f t n
  have hg := moved_get l f t n (by omega) i
  simp only [Int.toNat_natCast] at hg
  rw [hodmanlaw15_MemMoves.j3.eq_2, wn (n := (i : Int) + 1) (m := i + 1) (by omega) (by omega), hlen]
  by_cases hc : t ≤ i ∧ i < t + n
  · rw [if_pos (by rw [hb]; exact decide_eq_true hc), wn (n := (i : Int) - t) (m := i - t) (by omega) (by omega), wn (n := ((i - t : Nat) : Int) + f) (m := i - t + f) (by omega) (by omega), if_pos (by omega), if_pos (by omega), if_pos (by omega), if_pos (by omega), if_pos (by rw [rd_get, rd_get, hg, if_pos hc])]
  · rw [if_neg (by rw [hb, decide_eq_true_eq]; exact hc), if_pos (by omega), if_pos (by omega), if_pos (by rw [rd_get, rd_get, hg, if_neg hc])]
theorem moves_l (l : List Int) (f t n : Nat) (hl : l.length ≤ 50) (hf : f + n ≤ l.length) (ht : t + n ≤ l.length) (d : Nat) : ∀ (k i : Nat), i + d = l.length → 2 * d < k →
    hodmanlaw15_MemMoves.l0 k l (f : Int) (t : Int) (n : Int) (moved l f t n) (i : Int) = some true := by
  induction d with
  | zero =>
    intro k i hi hk
    obtain ⟨k, rfl⟩ : ∃ m, k = m + 1 := ⟨k - 1, by omega⟩
    rw [hodmanlaw15_MemMoves.l0.eq_2, if_neg (by omega), wn (n := (l.length : Int) + 1) (m := l.length + 1) (by omega) (by omega), move_eq l (by omega), Option.bind_some]
    show some (!(decide _)) = some true
    rw [decide_eq_false (by omega)]
    rfl
  | succ d ih =>
    intro k i hi hk
    obtain ⟨k, rfl⟩ : ∃ m, k = m + 2 := ⟨k - 2, by omega⟩
    rw [hodmanlaw15_MemMoves.l0.eq_2, if_pos (by omega), if_pos (by omega), wn (n := (t : Int) + n) (m := t + n) (by omega) (by omega)]
    by_cases h : (i : Int) ≥ (t : Int)
    · rw [if_pos h, moves_j l f t n i k hl hf ht (by omega) _ (by rw [decide_eq_decide]; omega)]
      exact ih k (i + 1) (by omega) (by omega)
    · rw [if_neg h, moves_j l f t n i k hl hf ht (by omega) _ (by rw [decide_eq_false (by omega)])]
      exact ih k (i + 1) (by omega) (by omega)
theorem MemMoves : hodmanlaw15_MemMoves.Pure := by
  intro l a1 a2 a3 hm hy hw h1 h2 h3
  obtain ⟨u1, rfl, hu1⟩ := wf_u8 h1
  obtain ⟨u2, rfl, hu2⟩ := wf_u8 h2
  obtain ⟨u3, rfl, hu3⟩ := wf_u8 h3
  obtain ⟨K, hK⟩ : ∃ K, K = 200 := ⟨_, rfl⟩
  refine ⟨K + 2, ?_⟩
  unfold hodmanlaw15_MemMoves.f
  rw [begun_eq, Option.bind_some, if_pos rfl]
  by_cases h50 : (l.length : Int) > 50
  · rw [if_pos h50, hodmanlaw15_MemMoves.j0.eq_2, if_pos rfl]
  · rw [if_neg h50, hodmanlaw15_MemMoves.j0.eq_2]
    by_cases h0 : l.length = 0
    · rw [if_pos (by rw [h0]; rfl)]
    · have hp : 0 < l.length := by omega
      have hf := Nat.mod_lt u1 hp
      have ht := Nat.mod_lt u2 hp
      have e1 : Int.tmod (wrap64 (u1 : Int)) (l.length : Int) = ((u1 % l.length : Nat) : Int) := by rw [wn (m := u1) rfl (by omega)]; rfl
      have e2 : Int.tmod (wrap64 (u2 : Int)) (l.length : Int) = ((u2 % l.length : Nat) : Int) := by rw [wn (m := u2) rfl (by omega)]; rfl
      rw [if_neg (by rw [beq_iff_eq]; omega), if_neg (by omega), e1, e2]
      generalize u1 % l.length = f at hf ⊢
      generalize u2 % l.length = t at ht ⊢
      have e3 : mx (f : Int) (t : Int) = ((max f t : Nat) : Int) := by unfold mx; split <;> omega
      rw [e3, wn (n := (l.length : Int) - ((max f t : Nat) : Int)) (m := l.length - max f t) (by omega) (by omega), wn (n := ((l.length - max f t : Nat) : Int) + 1) (m := l.length - max f t + 1) (by omega) (by omega)]
      have hn := Nat.mod_lt u3 (show 0 < l.length - max f t + 1 by omega)
      have e4 : Int.tmod (wrap64 (u3 : Int)) ((l.length - max f t + 1 : Nat) : Int) = ((u3 % (l.length - max f t + 1) : Nat) : Int) := by rw [wn (m := u3) rfl (by omega)]; rfl
      rw [if_neg (by omega), e4]
      generalize u3 % (l.length - max f t + 1) = n at hn ⊢
      rw [move_eq l (by omega), Option.bind_some]
      simp only []
      rw [if_pos (decide_eq_true (by omega)), hodmanlaw15_MemMoves.j1.eq_2, moved_length, if_neg (by simp)]
      exact moves_l l f t n (by omega) (by omega) (by omega) l.length K 0 (by omega) (by omega)

end Go.Proofs.Ytjjfcpffbooboaa.Pure
