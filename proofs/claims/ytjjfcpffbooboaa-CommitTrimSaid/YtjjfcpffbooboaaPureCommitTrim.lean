/- CommitTrim, the plain part: of those that were there just those that are met are left. -/
import Derived.Test.YtjjfcpffbooboaaComLaws
set_option linter.unusedVariables false
set_option linter.unusedSimpArgs false
namespace Go.Proofs.Ytjjfcpffbooboaa.Pure
open Go.RowKit Go.Proofs.Ytjjfcpffbooboaa.PCom Go.Proofs.YtjjfcpffbooboaaW.PrintWords Go.Proofs.YtjjfcpffbooboaaW.PrintLast Go.Proofs.YtjjfcpffbooboaaW.PrintMore Go.Proofs.Ytjjfcpffbooboaa.Bt Go.Proofs.Ytjjfcpffbooboaa.CF Go.Proofs.Ytjjfcpffbooboaa.CL

theorem trimLaw_end (l : List Int) (on met x : List Bool) (hn : l.length ≤ 20) (ho : on.length = l.length) (hx : Trimmed on met x) (c : Int) (k : Nat) (hk : 100 ≤ k) :
    hodmanlaw13_CommitTrim.l0 (k + 1) l on met x c c (l.length : Int) = some true := by
  have hxl := hx.1
  obtain ⟨y, hy, hty⟩ := trim x met (by omega) k (by omega)
  have hz : cnt (fun j => g x j && !g met j) x.length = 0 := cnt_zero _ fun j hj => by
    rw [hx.2 j]
    cases g on j <;> cases g met j <;> rfl
  rw [hz] at hy
  rw [hodmanlaw13_CommitTrim.l0.eq_2, if_neg (by omega), hy]
  simp only [Option.bind_some]
  rw [if_pos trivial, if_pos (by rfl), same x y (by omega) (by rw [hty.1]) (fun j => by rw [hty.2 j, hx.2 j]; cases g on j <;> cases g met j <;> rfl) k (by omega)]
  rfl
theorem trimLaw_l (l : List Int) (on met x : List Bool) (hn : l.length ≤ 20) (ho : on.length = l.length) (hm : met.length = l.length) (hx : Trimmed on met x) (d : Nat) : ∀ (k i : Nat), i + d = l.length → 100 + 2 * d ≤ k →
    hodmanlaw13_CommitTrim.l0 (k + 1) l on met x ((cnt (fun j => g on j && !g met j) on.length : Nat) : Int) ((cnt (fun j => g on j && !g met j) i : Nat) : Int) (i : Int) = some true := by
  have hxl := hx.1
  induction d with
  | zero =>
    intro k i hi hk
    rw [show i = on.length by omega]
    have := trimLaw_end l on met x hn ho hx ((cnt (fun j => g on j && !g met j) on.length : Nat) : Int) k (by omega)
    rw [ho] at this ⊢
    exact this
  | succ d ih =>
    intro k i hi hk
    obtain ⟨k, rfl⟩ : ∃ m, k = m + 2 := ⟨k - 2, by omega⟩
    have hc := cnt_le (fun j => g on j && !g met j) i
    have hs := cnt_step (fun j => g on j && !g met j) i
    have := ih k (i + 1) (by omega) (by omega)
    rw [hs] at this
    rw [hodmanlaw13_CommitTrim.l0.eq_2, if_pos (by omega), if_pos (by omega), if_pos (by omega), if_pos (by omega), rd_g, rd_g, rd_g, hx.2 i]
    cases h1 : g on i with
    | false =>
      rw [h1] at this
      rw [if_neg (by decide), hodmanlaw13_CommitTrim.j1.eq_2, if_neg (by cases g met i <;> decide), if_pos (by omega), if_pos (by omega), rd_g, h1, if_neg (by decide), wrap1 i (by omega)]
      exact this
    | true =>
      rw [h1] at this
      rw [if_pos rfl, if_pos (by omega), hodmanlaw13_CommitTrim.j1.eq_2, if_neg (by cases g met i <;> decide), if_pos (by omega), if_pos (by omega), rd_g, h1, if_pos rfl, if_pos (by omega), rd_g, wrap1 i (by omega), wrap1 _ (by omega)]
      cases h2 : g met i with
      | true => rw [h2] at this; rw [if_pos rfl]; exact this
      | false => rw [h2] at this; rw [if_neg (by decide)]; exact this
theorem CommitTrim : hodmanlaw13_CommitTrim.Pure := by
  intro l _ _ _
  refine ⟨201, ?_⟩
  unfold hodmanlaw13_CommitTrim.f
  rw [comBegun 201 (by omega)]
  simp only [Option.bind_some, if_true]
  by_cases hn : l.length > 20
  · rw [if_pos (by omega)]
  · rw [if_neg (by omega)]
    obtain ⟨on, met, hr, ho, hm⟩ := rows l (by omega) 201 (by omega)
    rw [hr]
    simp only [Option.bind_some]
    obtain ⟨x, hx, htx⟩ := trim on met (by omega) 201 (by omega)
    rw [hx]
    simp only [Option.bind_some]
    rw [if_pos (by have := htx.1; omega)]
    exact trimLaw_l l on met x (by omega) ho hm htx l.length 200 0 (by omega) (by omega)

end Go.Proofs.Ytjjfcpffbooboaa.Pure
