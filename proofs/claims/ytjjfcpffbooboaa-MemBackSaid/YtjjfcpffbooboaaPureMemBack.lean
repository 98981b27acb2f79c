/- MemBack, the plain part: what was moved away and back, apart, is as it was. -/
import Derived.OpenShut
import Derived.Test.YtjjfcpffbooboaaMemFns
import Derived.Test.YtjjfcpffbooboaaPMemx6
set_option linter.unusedVariables false
set_option linter.unusedSimpArgs false
namespace Go.Proofs.Ytjjfcpffbooboaa.Pure
open Go.RowKit Go.Proofs.Ytjjfcpffbooboaa.PMem Go.Proofs.YtjjfcpffbooboaaW.PrintWords Go.Proofs.YtjjfcpffbooboaaW.PrintLast Go.Proofs.YtjjfcpffbooboaaW.PrintMore Go.Proofs.Ytjjfcpffbooboaa.MFMem

theorem back_u8 {a : Int} (h : (Lit.int .u8 a).wf = true) : ∃ u : Nat, a = (u : Int) ∧ u < 256 := by
  have := bounds_u8 h
  exact ⟨a.toNat, by omega, by omega⟩
theorem bn {n : Int} {m : Nat} (h : n = (m : Int)) (hm : m < 1000000) : wrap64 n = (m : Int) := by unfold wrap64; omega
theorem back_get (l b : List Int) (f k : Nat) (hb : b = l ++ List.replicate l.length 0) (hk : f + k ≤ l.length) (j : Nat) :
    (moved (zeroed (moved b (f : Int) ((l.length + f : Nat) : Int) (k : Int)) (f : Int) (k : Int)) ((l.length + f : Nat) : Int) (f : Int) (k : Int))[j]? = if l.length + f ≤ j ∧ j < l.length + f + k then b[j - l.length]? else b[j]? := by
  have hbl : b.length = l.length + l.length := by rw [hb, List.length_append, List.length_replicate]
  have g1 := moved_get b (f : Int) ((l.length + f : Nat) : Int) (k : Int) (by omega)
  have n1 := moved_length b (f : Int) ((l.length + f : Nat) : Int) (k : Int)
  generalize moved b (f : Int) ((l.length + f : Nat) : Int) (k : Int) = x at g1 n1 ⊢
  have g2 := zeroed_get x (f : Int) (k : Int) (by omega)
  have n2 := zeroed_length x (f : Int) (k : Int)
  generalize zeroed x (f : Int) (k : Int) = y at g2 n2 ⊢
  have g3 := moved_get y ((l.length + f : Nat) : Int) (f : Int) (k : Int) (by omega)
  rw [g3 j]
  simp only [Int.toNat_natCast] at g1 g2 ⊢
  by_cases h1 : f ≤ j ∧ j < f + k
  · rw [if_pos h1, g2, if_neg (by omega), g1, if_pos (by omega), if_neg (by omega)]
    congr 1
    omega
  · rw [if_neg h1, g2, if_neg h1, g1]
    by_cases h2 : l.length + f ≤ j ∧ j < l.length + f + k
    · rw [if_pos h2, if_pos h2]
      congr 1
      omega
    · rw [if_neg h2, if_neg h2]
theorem MemBack : hodmanlaw15_MemBack.Pure := by
  intro l a1 a2 hm hy hw h1 h2
  obtain ⟨u1, rfl, hu1⟩ := back_u8 h1
  obtain ⟨u2, rfl, hu2⟩ := back_u8 h2
  unfold hodmanlaw15_MemBack.f
  rw [begun_eq, Option.bind_some, if_pos rfl]
  by_cases h50 : (l.length : Int) > 50
  · rw [if_pos h50]
  · rw [if_neg h50, Option.bind_some, List.nil_append, if_pos (by simp; omega), Option.bind_some, if_pos (by omega), Int.toNat_natCast, if_pos (by omega), Option.bind_some]
    rw [bn (n := (l.length : Int) + 1) (m := l.length + 1) (by omega) (by omega)]
    have hf := Nat.mod_lt u1 (show 0 < l.length + 1 by omega)
    have e2 : Int.tmod (wrap64 (u1 : Int)) ((l.length + 1 : Nat) : Int) = ((u1 % (l.length + 1) : Nat) : Int) := by rw [bn (m := u1) rfl (by omega)]; rfl
    rw [if_neg (by omega), e2]
    generalize u1 % (l.length + 1) = f at hf ⊢
    rw [bn (n := (l.length : Int) - f) (m := l.length - f) (by omega) (by omega), bn (n := ((l.length - f : Nat) : Int) + 1) (m := l.length - f + 1) (by omega) (by omega)]
    have hk := Nat.mod_lt u2 (show 0 < l.length - f + 1 by omega)
    have e4 : Int.tmod (wrap64 (u2 : Int)) ((l.length - f + 1 : Nat) : Int) = ((u2 % (l.length - f + 1) : Nat) : Int) := by rw [bn (m := u2) rfl (by omega)]; rfl
    rw [if_neg (by omega), e4]
    generalize u2 % (l.length - f + 1) = k at hk ⊢
    rw [bn (n := (l.length : Int) + f) (m := l.length + f) (by omega) (by omega), bn (n := ((l.length + f : Nat) : Int) + k) (m := l.length + f + k) (by omega) (by omega), bn (n := (f : Int) + k) (m := f + k) (by omega) (by omega)]
    obtain ⟨b, hb⟩ : ∃ b, b = l ++ List.replicate l.length (0 : Int) := ⟨_, rfl⟩
    have hbl : b.length = l.length + l.length := by rw [hb, List.length_append, List.length_replicate]
    have hz := back_get l b f k hb (by omega)
    rw [← hb, move_eq b (by omega), Option.bind_some]
    have n1 := moved_length b (f : Int) ((l.length + f : Nat) : Int) (k : Int)
    simp only []
    rw [zero_eq _ (by omega), Option.bind_some]
    have n2 := zeroed_length (moved b (f : Int) ((l.length + f : Nat) : Int) (k : Int)) (f : Int) (k : Int)
    simp only []
    rw [move_eq _ (by omega), Option.bind_some]
    have n3 := moved_length (zeroed (moved b (f : Int) ((l.length + f : Nat) : Int) (k : Int)) (f : Int) (k : Int)) ((l.length + f : Nat) : Int) (f : Int) (k : Int)
    simp only []
    rw [if_pos (decide_eq_true (by omega)), if_pos (decide_eq_true (by omega)), if_pos (decide_eq_true (by omega)), if_pos (by omega), if_pos (by omega)]
    generalize moved (zeroed (moved b (f : Int) ((l.length + f : Nat) : Int) (k : Int)) (f : Int) (k : Int)) ((l.length + f : Nat) : Int) (f : Int) (k : Int) = z at hz n3 ⊢
    have z1 : z.take l.length = l := by
      apply List.ext_getElem?
      intro j
      rw [List.getElem?_take]
      by_cases hj : j < l.length
      · rw [if_pos hj, hz, if_neg (by omega), hb, List.getElem?_append_left hj]
      · rw [if_neg hj, List.getElem?_eq_none (by omega)]
    have z2 : (z.take (l.length + f + k)).drop (l.length + f) = (l.take (f + k)).drop f := by
      apply List.ext_getElem?
      intro j
      rw [List.getElem?_drop, List.getElem?_drop, List.getElem?_take, List.getElem?_take]
      by_cases hj : j < k
      · rw [if_pos (by omega), if_pos (by omega), hz, if_pos (by omega), hb, List.getElem?_append_left (by omega)]
        congr 1
        omega
      · rw [if_neg (by omega), if_neg (by omega)]
    simp only [Int.toNat_natCast]
    rw [z1, if_pos rfl, if_pos (by omega), if_pos (by omega), if_pos (by omega), if_pos (by omega), if_pos (by omega), if_pos (by omega), z2]
    exact congrArg some (beq_self_eq_true _)

end Go.Proofs.Ytjjfcpffbooboaa.Pure
