/- MemAll, the plain part: what becomes of bytes is what the document says. -/
import Derived.Test.YtjjfcpffbooboaaMemAFns
import Derived.Test.YtjjfcpffbooboaaPMemAx5
set_option linter.unusedVariables false
set_option linter.unusedSimpArgs false
namespace Go.Proofs.Ytjjfcpffbooboaa.Pure
open Go.RowKit Go.Proofs.Ytjjfcpffbooboaa.PMemA Go.Proofs.YtjjfcpffbooboaaW.PrintWords Go.Proofs.YtjjfcpffbooboaaW.PrintLast Go.Proofs.YtjjfcpffbooboaaW.PrintMore Go.Proofs.Ytjjfcpffbooboaa.MFMemA

theorem an {n : Int} {m : Nat} (h : n = (m : Int)) (hm : m < 1000000) : wrap64 n = (m : Int) := by unfold wrap64; omega
theorem there_eq (l : List Int) (h : l.length < 140737488355328) (a n : Int) : hodmanref8_there.f l a n = some (decide (0 ≤ a ∧ 0 ≤ n ∧ a + n ≤ l.length)) := within_eq l h a n
theorem refzero_l (l : List Int) (a n : Nat) (hl : l.length ≤ 50) (hn : a + n ≤ l.length) (d : Nat) : ∀ (k i : Nat) (x : List Int), i + d = n → d < k → x.length = l.length → (∀ j : Nat, x[j]? = if a ≤ j ∧ j < a + i then some 0 else l[j]?) →
    hodmanref8_Zero.l0 k (a : Int) (n : Int) x (i : Int) = some (zeroed l a n, true) := by
  induction d with
  | zero =>
    intro k i x hi hk hx hb
    obtain ⟨k, rfl⟩ : ∃ m, k = m + 1 := ⟨k - 1, by omega⟩
    obtain rfl : i = n := by omega
    rw [hodmanref8_Zero.l0.eq_2, if_neg (by omega)]
    congr 2
    apply List.ext_getElem?
    intro j
    have hz := zeroed_get l (a : Int) (i : Int) (by omega) j
    simp only [Int.toNat_natCast] at hz
    rw [hb, hz]
  | succ d ih =>
    intro k i x hi hk hx hb
    obtain ⟨k, rfl⟩ : ∃ m, k = m + 1 := ⟨k - 1, by omega⟩
    rw [hodmanref8_Zero.l0.eq_2, if_pos (by omega), an (n := (a : Int) + i) (m := a + i) (by omega) (by omega), if_pos (by omega), if_pos (by omega), an (n := (i : Int) + 1) (m := i + 1) (by omega) (by omega), Int.toNat_natCast]
    refine ih k (i + 1) _ (by omega) (by omega) (by rw [List.length_set]; exact hx) fun j => ?_
    rw [List.getElem?_set, hb]
    by_cases h1 : a + i = j
    · rw [if_pos h1, if_pos (by omega), if_pos (by omega)]
    · rw [if_neg h1]
      by_cases h2 : a ≤ j ∧ j < a + i
      · rw [if_pos h2, if_pos (by omega)]
      · rw [if_neg h2, if_neg (by omega)]
theorem refzero (l : List Int) (hl : l.length ≤ 50) (a n : Int) (k : Nat) (hk : 52 ≤ k) : hodmanref8_Zero.f k l a n = some (zeroed l a n, decide (0 ≤ a ∧ 0 ≤ n ∧ a + n ≤ l.length)) := by
  unfold hodmanref8_Zero.f
  rw [there_eq l (by omega), Option.bind_some]
  by_cases hc : 0 ≤ a ∧ 0 ≤ n ∧ a + n ≤ l.length
  · rw [if_pos (decide_eq_true hc), Option.bind_some, List.nil_append, if_pos (by simp; omega), decide_eq_true hc]
    obtain ⟨a', rfl⟩ : ∃ m : Nat, a = (m : Int) := ⟨a.toNat, by omega⟩
    obtain ⟨n', rfl⟩ : ∃ m : Nat, n = (m : Int) := ⟨n.toNat, by omega⟩
    exact refzero_l l a' n' hl (by omega) n' k 0 l (by omega) (by omega) rfl fun j => by rw [if_neg (by omega)]
  · rw [if_neg (by rw [decide_eq_true_eq]; exact hc), decide_eq_false hc]
    unfold zeroed
    rw [if_neg hc]
theorem refmove_l (l : List Int) (a b n : Nat) (hl : l.length ≤ 50) (ha : a + n ≤ l.length) (hb2 : b + n ≤ l.length) (d : Nat) : ∀ (k i : Nat) (x : List Int), i + d = n → d < k → x.length = l.length → (∀ j : Nat, x[j]? = if b ≤ j ∧ j < b + i then l[j - b + a]? else l[j]?) →
    hodmanref8_Move.l0 k l (a : Int) (b : Int) (n : Int) x (i : Int) = some (moved l a b n, true) := by
  induction d with
  | zero =>
    intro k i x hi hk hx hb
    obtain ⟨k, rfl⟩ : ∃ m, k = m + 1 := ⟨k - 1, by omega⟩
    obtain rfl : i = n := by omega
    rw [hodmanref8_Move.l0.eq_2, if_neg (by omega)]
    congr 2
    apply List.ext_getElem?
    intro j
    have hz := moved_get l (a : Int) (b : Int) (i : Int) (by omega) j
    simp only [Int.toNat_natCast] at hz
    rw [hb, hz]
  | succ d ih =>
    intro k i x hi hk hx hb
    obtain ⟨k, rfl⟩ : ∃ m, k = m + 1 := ⟨k - 1, by omega⟩
    rw [hodmanref8_Move.l0.eq_2, if_pos (by omega), an (n := (a : Int) + i) (m := a + i) (by omega) (by omega), an (n := (b : Int) + i) (m := b + i) (by omega) (by omega), if_pos (by omega), if_pos (by omega), if_pos (by omega), if_pos (by omega), an (n := (i : Int) + 1) (m := i + 1) (by omega) (by omega), Int.toNat_natCast]
    refine ih k (i + 1) _ (by omega) (by omega) (by rw [List.length_set]; exact hx) fun j => ?_
    rw [List.getElem?_set, hb]
    by_cases h1 : b + i = j
    · rw [if_pos h1, if_pos (by omega), if_pos (by omega)]
      unfold rd
      rw [Int.toNat_natCast, List.getD_eq_getElem?_getD, show j - b + a = a + i from by omega, List.getElem?_eq_getElem (show a + i < l.length by omega)]
      rfl
    · rw [if_neg h1]
      by_cases h2 : b ≤ j ∧ j < b + i
      · rw [if_pos h2, if_pos (by omega)]
      · rw [if_neg h2, if_neg (by omega)]
theorem refmove_no (l : List Int) (a b n : Int) (k : Nat) (h : ¬ ((0 ≤ a ∧ 0 ≤ n ∧ a + n ≤ l.length) ∧ (0 ≤ b ∧ 0 ≤ n ∧ b + n ≤ l.length))) : hodmanref8_Move.j0 (k + 1) l a b n true = some (moved l a b n, decide ((0 ≤ a ∧ 0 ≤ n ∧ a + n ≤ l.length) ∧ (0 ≤ b ∧ 0 ≤ n ∧ b + n ≤ l.length))) := by
  rw [hodmanref8_Move.j0.eq_2, if_pos rfl, decide_eq_false h]
  unfold moved
  rw [if_neg h]
theorem refmove (l : List Int) (hl : l.length ≤ 50) (a b n : Int) (k : Nat) (hk : 52 ≤ k) : hodmanref8_Move.f k l a b n = some (moved l a b n, decide ((0 ≤ a ∧ 0 ≤ n ∧ a + n ≤ l.length) ∧ (0 ≤ b ∧ 0 ≤ n ∧ b + n ≤ l.length))) := by
  obtain ⟨k, rfl⟩ : ∃ m, k = m + 1 := ⟨k - 1, by omega⟩
  unfold hodmanref8_Move.f
  rw [there_eq l (by omega), Option.bind_some]
  by_cases hc : 0 ≤ a ∧ 0 ≤ n ∧ a + n ≤ l.length
  · rw [if_pos (decide_eq_true hc), there_eq l (by omega), Option.bind_some]
    by_cases hd : 0 ≤ b ∧ 0 ≤ n ∧ b + n ≤ l.length
    · rw [decide_eq_true hd, hodmanref8_Move.j0.eq_2, if_neg (by decide), Option.bind_some, List.nil_append, if_pos (by simp; omega), decide_eq_true ⟨hc, hd⟩]
      obtain ⟨a', rfl⟩ : ∃ m : Nat, a = (m : Int) := ⟨a.toNat, by omega⟩
      obtain ⟨b', rfl⟩ : ∃ m : Nat, b = (m : Int) := ⟨b.toNat, by omega⟩
      obtain ⟨n', rfl⟩ : ∃ m : Nat, n = (m : Int) := ⟨n.toNat, by omega⟩
      exact refmove_l l a' b' n' hl (by omega) (by omega) n' k 0 l (by omega) (by omega) rfl fun j => by rw [if_neg (by omega)]
    · rw [decide_eq_false hd]
      exact refmove_no l a b n k (fun h => hd h.2)
  · rw [if_neg (by rw [decide_eq_true_eq]; exact hc)]
    exact refmove_no l a b n k (fun h => hc h.1)
theorem all_j (l A B C : List Int) (v : Int) (hl : l.length ≤ 50) (hA : A.length = 4) (i K : Nat) (hi : i < 4) (b : Bool) (x z : List Int) (p q : Bool) (hb : b = decide (0 ≤ rd A (i : Int) ∧ rd A (i : Int) < l.length)) :
    hodmanlaw15_MemAll.j1 (K + 1) l v A B C (i : Int) x p x p z q z q b = hodmanlaw15_MemAll.l0 K l v A B C ((i + 1 : Nat) : Int) := by
  rw [hodmanlaw15_MemAll.j1.eq_2, if_pos (by omega), if_pos (by omega), get_eq l (by omega), put_eq l (by omega), Option.bind_some, Option.bind_some, an (n := (i : Int) + 1) (m := i + 1) (by omega) (by omega), if_neg (by simp), if_pos rfl, if_neg (by simp), if_pos rfl]
  generalize rd A (i : Int) = a at hb ⊢
  by_cases hc : 0 ≤ a ∧ a < l.length
  · obtain rfl : b = true := by rw [hb]; exact decide_eq_true hc
    rw [if_pos hc, if_pos hc]
    simp only [List.length_set]
    rw [if_neg (by decide), if_neg (by decide), if_pos trivial, if_pos trivial, if_pos hc.1, if_pos hc.2, if_pos trivial, if_pos hc.2, if_pos]
    unfold rd
    rw [List.getD_eq_getElem?_getD, List.getElem?_set, if_pos rfl, if_pos (by omega)]
    rfl
  · obtain rfl : b = false := by rw [hb]; exact decide_eq_false hc
    rw [if_neg hc, if_neg hc]
    simp only []
    rw [if_neg (by decide), if_neg (by decide), if_pos (by first | trivial | rfl), if_neg (by decide), if_pos (by first | trivial | rfl), if_pos (by first | trivial | rfl)]
theorem all_l (l A B C : List Int) (v : Int) (hl : l.length ≤ 50) (hA : A.length = 4) (hB : B.length = 4) (hC : C.length = 4) (d : Nat) : ∀ (k i : Nat), i + d = 4 → 60 + 2 * d ≤ k →
    hodmanlaw15_MemAll.l0 k l v A B C (i : Int) = some true := by
  induction d with
  | zero =>
    intro k i hi hk
    obtain ⟨k, rfl⟩ : ∃ m, k = m + 1 := ⟨k - 1, by omega⟩
    rw [hodmanlaw15_MemAll.l0.eq_2, if_neg (by omega)]
  | succ d ih =>
    intro k i hi hk
    obtain ⟨k, rfl⟩ : ∃ m, k = m + 2 := ⟨k - 2, by omega⟩
    rw [hodmanlaw15_MemAll.l0.eq_2, if_pos (by omega), if_pos (by omega), if_pos (by omega), if_pos (by omega), zero_eq l (by omega), Option.bind_some, refzero l hl _ _ _ (by omega), Option.bind_some, if_pos (by omega), move_eq l (by omega), Option.bind_some, refmove l hl _ _ _ _ (by omega), Option.bind_some]
    simp only []
    by_cases h : rd A (i : Int) ≥ 0
    · rw [if_pos h, all_j l A B C v hl hA i k (by omega) _ _ _ _ _ (by rw [decide_eq_decide]; omega)]
      exact ih k (i + 1) (by omega) (by omega)
    · rw [if_neg h, all_j l A B C v hl hA i k (by omega) _ _ _ _ _ (by rw [decide_eq_false (by omega)])]
      exact ih k (i + 1) (by omega) (by omega)
theorem MemAll : hodmanlaw15_MemAll.Pure := by
  intro l a1 a2 a3 a4 a5 a6 a7 hm hy hw _ _ _ _ _ _ _
  obtain ⟨K, hK⟩ : ∃ K, K = 200 := ⟨_, rfl⟩
  refine ⟨K, ?_⟩
  unfold hodmanlaw15_MemAll.f
  rw [begun_eq, Option.bind_some, if_pos rfl]
  by_cases h50 : (l.length : Int) > 50
  · rw [if_pos h50]
  · rw [if_neg h50]
    exact all_l l _ _ _ a7 (by omega) rfl rfl rfl 4 K 0 (by omega) (by omega)

end Go.Proofs.Ytjjfcpffbooboaa.Pure
