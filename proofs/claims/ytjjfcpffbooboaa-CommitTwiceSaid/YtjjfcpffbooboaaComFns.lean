/- What the printed functions of packages pin (Count) and commit come to, in plain words on lists of bools. -/
import Derived.Test.YtjjfcpffbooboaaBits
import Derived.Test.YtjjfcpffbooboaaPComx1
import Derived.Test.YtjjfcpffbooboaaPComx2
import Derived.Test.YtjjfcpffbooboaaPComx3
import Derived.Test.YtjjfcpffbooboaaPComx4
import Derived.Test.YtjjfcpffbooboaaPComx5
import Derived.Test.YtjjfcpffbooboaaPComx6
import Derived.Test.YtjjfcpffbooboaaPComx7
import Derived.Test.YtjjfcpffbooboaaPComx9
import Derived.OpenShut
set_option linter.unusedVariables false
set_option linter.unusedSimpArgs false
namespace Go.Proofs.Ytjjfcpffbooboaa.CF
open Go.RowKit Go.Proofs.Ytjjfcpffbooboaa.PCom Go.Proofs.YtjjfcpffbooboaaW.PrintWords Go.Proofs.YtjjfcpffbooboaaW.PrintLast Go.Proofs.YtjjfcpffbooboaaW.PrintMore Go.Proofs.Ytjjfcpffbooboaa.Bt

theorem wrapi_in {n : Int} (h0 : -9223372036854775808 ≤ n) (h1 : n ≤ 9223372036854775807) : wrap64 n = n := by unfold wrap64; omega
theorem wrap1 (i : Nat) (h : i < 1000000) : wrap64 ((i : Int) + 1) = ((i + 1 : Nat) : Int) := by unfold wrap64; omega
/-- the bool at a place -/
def g (l : List Bool) (i : Nat) : Bool := l.getD i false
theorem rd_g (l : List Bool) (i : Nat) : rdOf false l (i : Int) = g l i := by unfold rdOf g; rw [Int.toNat_natCast]
theorem g_set (l : List Bool) (i j : Nat) (v : Bool) (hi : i < l.length) : g (l.set i v) j = if j = i then v else g l j := by
  unfold g
  rw [List.getD_eq_getElem?_getD, List.getD_eq_getElem?_getD, List.getElem?_set]
  by_cases h : i = j
  · subst h; simp [hi]
  · simp [h, show ¬ j = i from fun e => h e.symm]
theorem clone_b (l : List Bool) (h : l.length < 140737488355328) : slices_Clone_bool_bool.f l = some l := by
  unfold slices_Clone_bool_bool.f
  simp only [Option.bind_some]
  rw [if_pos (by simpa using h)]
  simp
theorem count_l (l : List Bool) (hl : l.length < 1000000) (d : Nat) : ∀ k i : Nat, i + d = l.length → d < k → pin_Count.l0 k ((cnt (g l) i : Nat) : Int) l (l.length : Int) (i : Int) = some ((cnt (g l) l.length : Nat) : Int) := by
  induction d with
  | zero =>
    intro k i hi hk
    obtain ⟨k, rfl⟩ : ∃ m, k = m + 1 := ⟨k - 1, by omega⟩
    simp only [pin_Count.l0]
    rw [if_neg (by omega), show i = l.length by omega]
  | succ d ih =>
    intro k i hi hk
    obtain ⟨k, rfl⟩ : ∃ m, k = m + 1 := ⟨k - 1, by omega⟩
    have hc := cnt_le (g l) i
    simp only [pin_Count.l0]
    rw [if_pos (by omega), if_pos (by omega), if_pos (by omega), rd_g, wrap1 i (by omega), wrap1 _ (by omega)]
    have := ih k (i + 1) (by omega) (by omega)
    rw [cnt_step] at this
    cases h : g l i with
    | true => rw [h] at this; rw [if_pos rfl]; exact this
    | false => rw [h] at this; rw [if_neg (by decide)]; exact this
theorem count (l : List Bool) (hl : l.length < 1000000) (k : Nat) (hk : l.length < k) : pin_Count.f k l = some ((cnt (g l) l.length : Nat) : Int) :=
  count_l l hl l.length k 0 (by omega) hk
/-- what Trim leaves of on, beside met -/
def Trimmed (on met x : List Bool) : Prop := x.length = on.length ∧ ∀ j, g x j = (g on j && g met j)
theorem g_out {l : List Bool} {i : Nat} (h : l.length ≤ i) : g l i = false := by
  unfold g
  rw [List.getD_eq_getElem?_getD, List.getElem?_eq_none h]
  rfl
theorem trim_l (on met : List Bool) (ho : on.length < 1000000) (d : Nat) : ∀ (k i : Nat) (x : List Bool), i + d = on.length → d < k → x.length = on.length → (∀ j, g x j = if j < i then (g on j && g met j) else g on j) →
    ∃ y, commit_Trim.l0 k met x ((cnt (fun j => g on j && !g met j) i : Nat) : Int) on (on.length : Int) (i : Int) = some (y, ((cnt (fun j => g on j && !g met j) on.length : Nat) : Int)) ∧ Trimmed on met y := by
  induction d with
  | zero =>
    intro k i x hi hk hx hb
    obtain ⟨k, rfl⟩ : ∃ m, k = m + 1 := ⟨k - 1, by omega⟩
    refine ⟨x, ?_, hx, fun j => ?_⟩
    · simp only [commit_Trim.l0]
      rw [if_neg (by omega), show i = on.length by omega]
    · rw [hb j]
      by_cases h : j < i
      · rw [if_pos h]
      · rw [if_neg h, g_out (l := on) (by omega)]; rfl
  | succ d ih =>
    intro k i x hi hk hx hb
    obtain ⟨k, rfl⟩ : ∃ m, k = m + 1 := ⟨k - 1, by omega⟩
    have hc := cnt_le (fun j => g on j && !g met j) i
    have hs := cnt_step (fun j => g on j && !g met j) i
    have hgo : ∀ (v : Bool), v = (g on i && g met i) → (∀ j, g (x.set i v) j = if j < i + 1 then (g on j && g met j) else g on j) := by
      intro v hv j
      rw [g_set _ _ _ _ (by omega), hb j]
      by_cases h1 : j = i
      · subst h1; rw [if_pos rfl, if_pos (by omega), hv]
      · rw [if_neg h1]
        by_cases h2 : j < i
        · rw [if_pos h2, if_pos (by omega)]
        · rw [if_neg h2, if_neg (by omega)]
    have hstay : g on i = (g on i && g met i) → (∀ j, g x j = if j < i + 1 then (g on j && g met j) else g on j) := by
      intro hv j
      rw [hb j]
      by_cases h1 : j = i
      · subst h1; rw [if_neg (by omega), if_pos (by omega), ← hv]
      · by_cases h2 : j < i
        · rw [if_pos h2, if_pos (by omega)]
        · rw [if_neg h2, if_neg (by omega)]
    simp only [commit_Trim.l0]
    rw [if_pos (by omega), if_pos (by omega), if_pos (by omega), rd_g, rd_g, wrap1 i (by omega), Int.toNat_natCast, wrap1 _ (by omega)]
    cases h1 : g on i with
    | false =>
      rw [if_neg (by decide)]
      have := ih k (i + 1) x (by omega) (by omega) hx (hstay (by rw [h1]; rfl))
      rw [hs, h1] at this
      exact this
    | true =>
      rw [if_pos rfl]
      by_cases h2 : met.length ≤ i
      · rw [if_pos (by omega), if_pos (by omega)]
        have := ih k (i + 1) (x.set i false) (by omega) (by omega) (by rw [List.length_set]; exact hx) (hgo false (by rw [g_out h2]; simp))
        rw [hs, h1, g_out h2] at this
        exact this
      · rw [if_neg (by omega), if_pos (by omega)]
        cases h3 : g met i with
        | true =>
          rw [if_pos rfl]
          have := ih k (i + 1) x (by omega) (by omega) hx (hstay (by rw [h1, h3]; rfl))
          rw [hs, h1, h3] at this
          exact this
        | false =>
          rw [if_neg (by decide), if_pos (by omega)]
          have := ih k (i + 1) (x.set i false) (by omega) (by omega) (by rw [List.length_set]; exact hx) (hgo false (by rw [h1, h3]; rfl))
          rw [hs, h1, h3] at this
          exact this
theorem trim (on met : List Bool) (ho : on.length < 1000000) (k : Nat) (hk : on.length < k) :
    ∃ y, commit_Trim.f k on met = some (y, ((cnt (fun j => g on j && !g met j) on.length : Nat) : Int)) ∧ Trimmed on met y := by
  unfold commit_Trim.f
  rw [clone_b on (by omega)]
  simp only [Option.bind_some]
  exact trim_l on met ho on.length k 0 on (by omega) hk rfl (fun j => by rw [if_neg (by omega)])
theorem same_l (a b : List Bool) (hn : a.length < 1000000) (hab : a.length = b.length) (hg : ∀ j, g a j = g b j) (d : Nat) : ∀ k i : Nat, i + d = a.length → d < k → hodmanref8_SameBools.l0 k a b (i : Int) = some true := by
  induction d with
  | zero =>
    intro k i hi hk
    obtain ⟨k, rfl⟩ : ∃ m, k = m + 1 := ⟨k - 1, by omega⟩
    simp only [hodmanref8_SameBools.l0]
    rw [if_neg (by omega)]
  | succ d ih =>
    intro k i hi hk
    obtain ⟨k, rfl⟩ : ∃ m, k = m + 1 := ⟨k - 1, by omega⟩
    simp only [hodmanref8_SameBools.l0]
    rw [if_pos (by omega), if_pos (by omega), if_pos (by omega), rd_g, rd_g, hg i, if_neg (by simp), wrap1 i (by omega)]
    exact ih k (i + 1) (by omega) (by omega)
theorem same (a b : List Bool) (hn : a.length < 1000000) (hab : a.length = b.length) (hg : ∀ j, g a j = g b j) (k : Nat) (hk : a.length < k) : hodmanref8_SameBools.f k a b = some true := by
  unfold hodmanref8_SameBools.f
  rw [if_pos (by omega)]
  exact same_l a b hn hab hg a.length k 0 (by omega) hk

end Go.Proofs.Ytjjfcpffbooboaa.CF
