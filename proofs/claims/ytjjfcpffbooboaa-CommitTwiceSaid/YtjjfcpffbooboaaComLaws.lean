/- Plain facts that the laws on commit share: what Commit comes to, the rows that the laws make, that commit answers at all. -/
import Derived.Test.YtjjfcpffbooboaaComFns
set_option linter.unusedVariables false
set_option linter.unusedSimpArgs false
namespace Go.Proofs.Ytjjfcpffbooboaa.CL
open Go.RowKit Go.Proofs.Ytjjfcpffbooboaa.PCom Go.Proofs.YtjjfcpffbooboaaW.PrintWords Go.Proofs.YtjjfcpffbooboaaW.PrintLast Go.Proofs.YtjjfcpffbooboaaW.PrintMore Go.Proofs.Ytjjfcpffbooboaa.Bt Go.Proofs.Ytjjfcpffbooboaa.CF

theorem comBegun_at : hodmanlaw13_begun.f 30 = some true := by decide +kernel
theorem comBegun (k : Nat) (hk : 30 ≤ k) : hodmanlaw13_begun.f k = some true := at_rounds hodmanlaw13_begun.mono hk comBegun_at

theorem rows_l (l : List Int) (hl : l.length < 1000) (d : Nat) : ∀ (k i : Nat) (a b : List Bool), i + d = l.length → d < k → a.length = i → b.length = i →
    ∃ x y : List Bool, hodmanlaw13_rows.l0 k l a b (i : Int) = some (x, y) ∧ x.length = l.length ∧ y.length = l.length := by
  induction d with
  | zero =>
    intro k i a b hi hk ha hb
    obtain ⟨k, rfl⟩ : ∃ m, k = m + 1 := ⟨k - 1, by omega⟩
    exact ⟨a, b, by simp only [hodmanlaw13_rows.l0]; rw [if_neg (by omega)], by omega, by omega⟩
  | succ d ih =>
    intro k i a b hi hk ha hb
    obtain ⟨k, rfl⟩ : ∃ m, k = m + 1 := ⟨k - 1, by omega⟩
    simp only [hodmanlaw13_rows.l0, Option.bind_some]
    rw [if_pos (by omega), if_pos (by omega), if_pos (by simp; omega), if_pos (by simp; omega), wrap1 i (by omega)]
    exact ih k (i + 1) _ _ (by omega) (by omega) (by simp; omega) (by simp; omega)
theorem rows (l : List Int) (hl : l.length < 1000) (k : Nat) (hk : l.length < k) : ∃ x y : List Bool, hodmanlaw13_rows.f k l = some (x, y) ∧ x.length = l.length ∧ y.length = l.length :=
  rows_l l hl l.length k 0 [] [] (by omega) hk rfl rfl

/-- on with the pages from f up to i -/
def With (on : List Bool) (f i : Nat) (x : List Bool) : Prop := x.length = on.length ∧ ∀ j, g x j = (g on j || (decide (f ≤ j) && decide (j < i)))
theorem With.start (on : List Bool) (f : Nat) : With on f f on := ⟨rfl, fun j => by
  have : (decide (f ≤ j) && decide (j < f)) = false := by
    by_cases h : f ≤ j
    · rw [decide_eq_false (show ¬ j < f by omega)]; simp
    · rw [decide_eq_false h]; rfl
  rw [this, Bool.or_false]⟩
theorem With.step {on x : List Bool} {f i : Nat} (h : With on f i x) (hf : f ≤ i) (hi : i < on.length) : With on f (i + 1) (x.set i true) := by
  refine ⟨by rw [List.length_set]; exact h.1, fun j => ?_⟩
  rw [g_set _ _ _ _ (by rw [h.1]; exact hi), h.2 j]
  by_cases e : j = i
  · subst e; simp [hf]
  · rw [if_neg e]
    have : decide (j < i + 1) = decide (j < i) := by simp; omega
    rw [this]
/-- what Commit's loop leaves, and where it goes on -/
theorem commit_l (on met : List Bool) (e f : Nat) (most : Int) (hn : on.length < 1000) (hm : met.length = on.length) (he : e ≤ on.length) (d : Nat) :
    ∀ (k i : Nat) (x need : List Bool) (fr : List Int), i + d = e → f ≤ i → With on f i x → With met f i need → fr.length ≤ i → ((∀ j, f ≤ j → j < i → g on j = true) → fr = []) →
    ∃ (x' need' : List Bool) (fr' : List Int), commit_Commit.l0 (k + d) on (e : Int) most x fr need (i : Int) = commit_Commit.l0 k on (e : Int) most x' fr' need' (e : Int) ∧ With on f e x' ∧ With met f e need' ∧ ((∀ j, f ≤ j → j < e → g on j = true) → fr' = []) := by
  induction d with
  | zero =>
    intro k i x need fr hi hf hx hnd hfr hfe
    obtain rfl : i = e := by omega
    exact ⟨x, need, fr, rfl, hx, hnd, hfe⟩
  | succ d ih =>
    intro k i x need fr hi hf hx hnd hfr hfe
    have h1 : With on f (i + 1) (x.set i true) := hx.step hf (by omega)
    have h2 : With met f (i + 1) (need.set i true) := hnd.step hf (by omega)
    have hxl := hx.1
    have hnl := hnd.1
    rw [show k + (d + 1) = (k + d) + 1 by omega, commit_Commit.l0.eq_2, if_pos (by omega), if_pos (by omega), if_pos (by omega), rd_g, Int.toNat_natCast, wrap1 i (by omega)]
    cases h : g on i with
    | true =>
      rw [if_pos rfl, if_pos (by omega), if_pos (by omega)]
      exact ih k (i + 1) _ _ fr (by omega) (by omega) h1 h2 (by omega) (fun hall => hfe fun j a b => hall j a (by omega))
    | false =>
      rw [if_neg (by decide), if_pos (by omega), if_pos (by omega), if_pos (by omega)]
      refine ih k (i + 1) _ _ (fr ++ [(i : Int)]) (by omega) (by omega) h1 h2 (by simp; omega) (fun hall => ?_)
      have := hall i hf (by omega)
      rw [h] at this
      cases this
/-- what Commit comes to, the pages from f up to e being wanted -/
theorem commit_ (on met : List Bool) (f e : Nat) (most : Int) (hn : on.length < 1000) (hm : met.length = on.length) (hfe : f ≤ e) (he : e ≤ on.length) (k : Nat) (hk : 2 * on.length + 10 ≤ k) :
    ∃ (x need : List Bool) (fr : List Int), With on f e x ∧ With met f e need ∧ ((∀ j, f ≤ j → j < e → g on j = true) → fr = []) ∧
      commit_Commit.f k on met (f : Int) (e : Int) most = if ((cnt (g need) need.length : Nat) : Int) > most then some ([], [], false) else if ((cnt (g x) x.length : Nat) : Int) > most then (commit_Trim.f (k - 2 - (e - f)) x need).bind fun b => some (b.1, fr, true) else some (x, fr, true) := by
  obtain ⟨x, need, fr, h, hx, hnd, hfr⟩ := commit_l on met e f most hn hm he (e - f) (k - 1 - (e - f)) f on met [] (by omega) (by omega) (With.start on f) (With.start met f) (Nat.zero_le _) (fun _ => rfl)
  refine ⟨x, need, fr, hx, hnd, hfr, ?_⟩
  have hxl := hx.1
  have hnl := hnd.1
  unfold commit_Commit.f
  rw [if_pos (by omega), if_neg (by omega), if_neg (by omega)]
  obtain ⟨k, rfl⟩ : ∃ m, k = m + 1 := ⟨k - 1, by omega⟩
  rw [commit_Commit.j0.eq_2, if_neg (by simp; omega), clone_b on (by omega), clone_b met (by omega)]
  simp only [Option.bind_some]
  rw [show k = (k + 1 - 1 - (e - f)) + (e - f) by omega, h, show k + 1 - 1 - (e - f) = (k - (e - f) - 1) + 1 by omega, commit_Commit.l0.eq_2, if_neg (by omega), count need (by omega) _ (by omega), count x (by omega) _ (by omega)]
  simp only [Option.bind_some]
  have e2 : k - (e - f) - 1 = (k - (e - f) - 1) + 1 + (e - f) + 1 - 2 - (e - f) := by omega
  rw [← e2]

end Go.Proofs.Ytjjfcpffbooboaa.CL
