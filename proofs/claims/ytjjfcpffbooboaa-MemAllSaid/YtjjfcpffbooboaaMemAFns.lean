/- What mem's functions come to, in plain words on lists. -/
import Derived.Test.YtjjfcpffbooboaaMemW
import Derived.Test.YtjjfcpffbooboaaPMemAx3
set_option linter.unusedVariables false
set_option linter.unusedSimpArgs false
namespace Go.Proofs.Ytjjfcpffbooboaa.MFMemA
open Go.RowKit Go.Proofs.Ytjjfcpffbooboaa.PMemA Go.Proofs.YtjjfcpffbooboaaW.PrintWords Go.Proofs.YtjjfcpffbooboaaW.PrintLast Go.Proofs.YtjjfcpffbooboaaW.PrintMore

theorem begun_eq : hodmanlaw15_begun.f = some true := by decide +kernel

theorem clone_eq (l : List Int) (h : l.length < 140737488355328) : slices_Clone_byte_byte.f l = some l := by
  unfold slices_Clone_byte_byte.f
  rw [Option.bind_some, if_pos (by simpa using h)]
  rfl
theorem within_eq (l : List Int) (h : l.length < 140737488355328) (a n : Int) : mem_within.f l a n = some (decide (0 ≤ a ∧ 0 ≤ n ∧ a + n ≤ l.length)) := by
  unfold mem_within.f
  by_cases h0 : 0 ≤ a
  · rw [if_pos h0]
    by_cases h1 : 0 ≤ n
    · rw [if_pos h1]
      by_cases h2 : a ≤ (l.length : Int)
      · rw [if_pos h2, show wrap64 ((l.length : Int) - a) = (l.length : Int) - a from by unfold wrap64; omega]
        congr 1
        rw [decide_eq_decide]
        omega
      · rw [if_neg h2, decide_eq_false (by omega)]
    · rw [if_neg h1, decide_eq_false (by omega)]
  · rw [if_neg h0, decide_eq_false (by omega)]
theorem putL_length {α : Type} (vs : List α) : ∀ (l : List α) (o : Nat), (MemW.putL l o vs).length = l.length := by
  induction vs with
  | nil => intro l o; rfl
  | cons v r ih => intro l o; rw [MemW.putL, ih, List.length_set]
theorem putL_get {α : Type} (vs : List α) : ∀ (l : List α) (o j : Nat), o + vs.length ≤ l.length → (MemW.putL l o vs)[j]? = if o ≤ j ∧ j < o + vs.length then vs[j - o]? else l[j]? := by
  induction vs with
  | nil => intro l o j _; rw [MemW.putL, if_neg (by simp only [List.length_nil]; omega)]
  | cons v r ih =>
    intro l o j h
    simp only [List.length_cons] at h ⊢
    rw [MemW.putL, ih _ _ _ (by rw [List.length_set]; omega), List.getElem?_set]
    by_cases h1 : o + 1 ≤ j ∧ j < o + 1 + r.length
    · rw [if_pos h1, if_pos (by omega), show j - o = (j - (o + 1)) + 1 from by omega, List.getElem?_cons_succ]
    · rw [if_neg h1]
      by_cases h2 : o = j
      · subst h2
        rw [if_pos rfl, if_pos (by omega), if_pos (by omega), Nat.sub_self]
        rfl
      · rw [if_neg h2, if_neg (by omega)]
/-- what is put over a list stands there whole -/
theorem putL_eq {α : Type} (vs l : List α) (o : Nat) (h : o + vs.length ≤ l.length) : MemW.putL l o vs = l.take o ++ vs ++ l.drop (o + vs.length) := by
  apply List.ext_getElem?
  intro j
  rw [putL_get vs l o j h]
  have ht : (l.take o).length = o := by rw [List.length_take]; omega
  by_cases h1 : j < o
  · rw [if_neg (by omega), List.append_assoc, List.getElem?_append_left (by omega), List.getElem?_take, if_pos h1]
  · by_cases h2 : j < o + vs.length
    · rw [if_pos (by omega), List.getElem?_append_left (by rw [List.length_append]; omega), List.getElem?_append_right (by omega), ht]
    · rw [if_neg (by omega), List.getElem?_append_right (by rw [List.length_append]; omega), List.length_append, ht, List.getElem?_drop]
      congr 1
      omega
def zeroed (l : List Int) (a n : Int) : List Int := if 0 ≤ a ∧ 0 ≤ n ∧ a + n ≤ l.length then l.take a.toNat ++ List.replicate n.toNat 0 ++ l.drop (a.toNat + n.toNat) else l
def moved (l : List Int) (a b n : Int) : List Int := if (0 ≤ a ∧ 0 ≤ n ∧ a + n ≤ l.length) ∧ (0 ≤ b ∧ 0 ≤ n ∧ b + n ≤ l.length) then l.take b.toNat ++ (l.drop a.toNat).take n.toNat ++ l.drop (b.toNat + n.toNat) else l
theorem zero_eq (l : List Int) (h : l.length < 140737488355328) (a n : Int) : mem_Zero.f l a n = some (zeroed l a n, decide (0 ≤ a ∧ 0 ≤ n ∧ a + n ≤ l.length)) := by
  unfold mem_Zero.f zeroed
  rw [clone_eq l h, Option.bind_some, within_eq l h, Option.bind_some]
  by_cases hc : 0 ≤ a ∧ 0 ≤ n ∧ a + n ≤ l.length
  · rw [if_pos hc, if_pos (decide_eq_true hc), decide_eq_true hc, putL_eq _ _ _ (by rw [List.length_replicate]; omega), List.length_replicate]
  · rw [if_neg hc, if_neg (by rw [decide_eq_true_eq]; exact hc), decide_eq_false hc]
theorem move_eq (l : List Int) (h : l.length < 140737488355328) (a b n : Int) : mem_Move.f l a b n = some (moved l a b n, decide ((0 ≤ a ∧ 0 ≤ n ∧ a + n ≤ l.length) ∧ (0 ≤ b ∧ 0 ≤ n ∧ b + n ≤ l.length))) := by
  unfold mem_Move.f moved
  rw [clone_eq l h, Option.bind_some, within_eq l h, Option.bind_some]
  by_cases hc : 0 ≤ a ∧ 0 ≤ n ∧ a + n ≤ l.length
  · rw [if_pos (decide_eq_true hc), within_eq l h, Option.bind_some]
    by_cases hd : 0 ≤ b ∧ 0 ≤ n ∧ b + n ≤ l.length
    · have hl : ((l.drop a.toNat).take n.toNat).length = n.toNat := by rw [List.length_take, List.length_drop]; omega
      rw [if_pos (decide_eq_true hd), if_pos ⟨hc, hd⟩, decide_eq_true ⟨hc, hd⟩, putL_eq _ _ _ (by rw [hl]; omega), hl]
    · rw [if_neg (by rw [decide_eq_true_eq]; exact hd), if_neg (fun h => hd h.2), decide_eq_false (fun h => hd h.2)]
  · rw [if_neg (by rw [decide_eq_true_eq]; exact hc), if_neg (fun h => hc h.1), decide_eq_false (fun h => hc h.1)]
theorem zeroed_length (l : List Int) (a n : Int) : (zeroed l a n).length = l.length := by
  unfold zeroed
  split
  · simp only [List.length_append, List.length_take, List.length_replicate, List.length_drop]; omega
  · rfl
theorem moved_length (l : List Int) (a b n : Int) : (moved l a b n).length = l.length := by
  unfold moved
  split
  · simp only [List.length_append, List.length_take, List.length_drop]; omega
  · rfl
theorem get_eq (l : List Int) (h : l.length < 140737488355328) (a : Int) : mem_Get.f l a = some (if 0 ≤ a ∧ a < l.length then (rd l a, true) else (0, false)) := by
  unfold mem_Get.f
  rw [within_eq l h, Option.bind_some]
  by_cases hc : 0 ≤ a ∧ a < l.length
  · rw [if_pos (decide_eq_true (by omega)), if_pos hc.1, if_pos hc.2, if_pos hc]
  · rw [if_neg (by rw [decide_eq_true_eq]; omega), if_neg hc]
theorem put_eq (l : List Int) (h : l.length < 140737488355328) (a v : Int) : mem_Put.f l a v = some (if 0 ≤ a ∧ a < l.length then (l.set a.toNat v, true) else (l, false)) := by
  unfold mem_Put.f
  rw [clone_eq l h, Option.bind_some, within_eq l h, Option.bind_some]
  by_cases hc : 0 ≤ a ∧ a < l.length
  · rw [if_pos (decide_eq_true (by omega)), if_pos hc.1, if_pos hc.2, if_pos hc]
  · rw [if_neg (by rw [decide_eq_true_eq]; omega), if_neg hc]
theorem zeroed_get (l : List Int) (a n : Int) (hc : 0 ≤ a ∧ 0 ≤ n ∧ a + n ≤ l.length) (j : Nat) : (zeroed l a n)[j]? = if a.toNat ≤ j ∧ j < a.toNat + n.toNat then some 0 else l[j]? := by
  unfold zeroed
  rw [if_pos hc]
  have h := putL_eq (List.replicate n.toNat (0 : Int)) l a.toNat (by rw [List.length_replicate]; omega)
  rw [List.length_replicate] at h
  rw [← h, putL_get _ _ _ _ (by rw [List.length_replicate]; omega), List.length_replicate]
  by_cases h1 : a.toNat ≤ j ∧ j < a.toNat + n.toNat
  · rw [if_pos h1, if_pos h1, List.getElem?_replicate, if_pos (by omega)]
  · rw [if_neg h1, if_neg h1]
theorem moved_get (l : List Int) (a b n : Int) (hc : (0 ≤ a ∧ 0 ≤ n ∧ a + n ≤ l.length) ∧ (0 ≤ b ∧ 0 ≤ n ∧ b + n ≤ l.length)) (j : Nat) : (moved l a b n)[j]? = if b.toNat ≤ j ∧ j < b.toNat + n.toNat then l[j - b.toNat + a.toNat]? else l[j]? := by
  unfold moved
  rw [if_pos hc]
  have hl : ((l.drop a.toNat).take n.toNat).length = n.toNat := by rw [List.length_take, List.length_drop]; omega
  have h := putL_eq ((l.drop a.toNat).take n.toNat) l b.toNat (by rw [hl]; omega)
  rw [hl] at h
  rw [← h, putL_get _ _ _ _ (by rw [hl]; omega), hl]
  by_cases h1 : b.toNat ≤ j ∧ j < b.toNat + n.toNat
  · rw [if_pos h1, if_pos h1, List.getElem?_take, if_pos (by omega), List.getElem?_drop, Nat.add_comm]
  · rw [if_neg h1, if_neg h1]
end Go.Proofs.Ytjjfcpffbooboaa.MFMemA
