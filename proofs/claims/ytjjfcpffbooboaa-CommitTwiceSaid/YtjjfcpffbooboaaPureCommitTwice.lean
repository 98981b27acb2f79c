/- CommitTwice, the plain part: what is there and asked for again is there, nothing is fresh. -/
import Derived.Test.YtjjfcpffbooboaaComLaws
set_option linter.unusedVariables false
set_option linter.unusedSimpArgs false
namespace Go.Proofs.Ytjjfcpffbooboaa.Pure
open Go.RowKit Go.Proofs.Ytjjfcpffbooboaa.PCom Go.Proofs.YtjjfcpffbooboaaW.PrintWords Go.Proofs.YtjjfcpffbooboaaW.PrintLast Go.Proofs.YtjjfcpffbooboaaW.PrintMore Go.Proofs.Ytjjfcpffbooboaa.Bt Go.Proofs.Ytjjfcpffbooboaa.CF Go.Proofs.Ytjjfcpffbooboaa.CL

theorem cnt_same {a b : List Bool} (hl : a.length = b.length) (hg : ∀ j, g a j = g b j) : cnt (g a) a.length = cnt (g b) b.length := by
  rw [hl]
  exact cnt_congr _ fun j _ => hg j
/-- A row in which the wanted pages are, and that is no more than there may be, is let be as it is. -/
theorem again (z met : List Bool) (f e : Nat) (most : Int) (hn : z.length ≤ 20) (hm : met.length = z.length) (hfe : f ≤ e) (he : e ≤ z.length) (k : Nat) (hk : 200 ≤ k)
    (hin : ∀ j, f ≤ j → j < e → g z j = true) (need : List Bool) (hnd : With met f e need) (h1 : ((cnt (g need) need.length : Nat) : Int) ≤ most) (h2 : ((cnt (g z) z.length : Nat) : Int) ≤ most) :
    ∃ y, commit_Commit.f k z met (f : Int) (e : Int) most = some (y, [], true) ∧ y.length = z.length ∧ ∀ j, g z j = g y j := by
  obtain ⟨x, need', fr, hx, hnd', hfr, h⟩ := commit_ z met f e most (by omega) hm hfe he k (by omega)
  have hzx : ∀ j, g x j = g z j := fun j => by
    rw [hx.2 j]
    by_cases h3 : f ≤ j ∧ j < e
    · rw [hin j h3.1 h3.2]; rfl
    · have : (decide (f ≤ j) && decide (j < e)) = false := by simp; omega
      rw [this, Bool.or_false]
  have e1 : cnt (g need') need'.length = cnt (g need) need.length := cnt_same (by rw [hnd.1, hnd'.1]) (fun j => by rw [hnd.2, hnd'.2])
  have e2 : cnt (g x) x.length = cnt (g z) z.length := cnt_same hx.1 hzx
  rw [e1, e2, hfr hin, if_neg (by omega), if_neg (by omega)] at h
  exact ⟨x, h, hx.1, fun j => (hzx j).symm⟩
theorem tmod_n (a n : Nat) (h : n ≠ 0) : Int.tmod (a : Int) (n : Int) = ((a % n : Nat) : Int) := rfl
theorem CommitTwice : hodmanlaw13_CommitTwice.Pure := by
  intro l a b c _ _ _ ha hb hc
  have ha := bounds_u8 ha
  have hb := bounds_u8 hb
  have hc := bounds_u8 hc
  obtain ⟨a, rfl⟩ := Int.eq_ofNat_of_zero_le ha.1
  obtain ⟨b, rfl⟩ := Int.eq_ofNat_of_zero_le hb.1
  obtain ⟨c, rfl⟩ := Int.eq_ofNat_of_zero_le hc.1
  refine ⟨301, ?_⟩
  unfold hodmanlaw13_CommitTwice.f
  obtain ⟨K, hK⟩ : ∃ K : Nat, K = 301 := ⟨_, rfl⟩
  rw [← hK, comBegun K (by omega)]
  refine Eq.trans (Option.bind_some _ _) ?_
  rw [if_pos rfl]
  by_cases hn : l.length > 20
  · rw [if_pos (by omega)]
  · rw [if_neg (by omega)]
    obtain ⟨on, met, hr, ho, hm⟩ := rows l (by omega) K (by omega)
    rw [hr]
    refine Eq.trans (Option.bind_some _ _) ?_
    have w1 : wrap64 ((l.length : Int) + 1) = ((l.length + 1 : Nat) : Int) := wrap1 _ (by omega)
    have wa : wrap64 (a : Int) = (a : Int) := wrapi_in (by omega) (by omega)
    have wb : wrap64 (b : Int) = (b : Int) := wrapi_in (by omega) (by omega)
    rw [w1, wa, wb, tmod_n a _ (by omega), tmod_n b _ (by omega), if_neg (by omega)]
    have la := Nat.mod_lt a (show l.length + 1 > 0 by omega)
    have lb := Nat.mod_lt b (show l.length + 1 > 0 by omega)
    generalize a % (l.length + 1) = p at *
    generalize b % (l.length + 1) = q at *
    have hmn : mn (p : Int) (q : Int) = ((min p q : Nat) : Int) := by unfold mn; split <;> omega
    have hmx : mx (p : Int) (q : Int) = ((max p q : Nat) : Int) := by unfold mx; split <;> omega
    rw [hmn, hmx]
    have hfe : min p q ≤ max p q := by omega
    have he : max p q ≤ l.length := by omega
    generalize min p q = f at *
    generalize max p q = e at *
    generalize wrap64 (Int.tmod (c : Int) 22) = most
    clear hmn hmx w1 wa wb ha hb hc la lb
    obtain ⟨x, need, fr, hx, hnd, _, h⟩ := commit_ on met f e most (by omega) (by omega) hfe (by omega) K (by omega)
    rw [h]
    have hin : ∀ j, f ≤ j → j < e → g x j = true ∧ g need j = true := fun j h1 h2 => ⟨by rw [hx.2]; simp [h1, h2], by rw [hnd.2]; simp [h1, h2]⟩
    have hxl := hx.1
    have hnl := hnd.1
    by_cases h1 : ((cnt (g need) need.length : Nat) : Int) > most
    · rw [if_pos h1]
      refine Eq.trans (Option.bind_some _ _) ?_
      rw [if_neg (by decide)]
    · rw [if_neg h1]
      have fin : ∀ (z : List Bool) (fr : List Int), z.length = l.length → (∀ j, f ≤ j → j < e → g z j = true) → ((cnt (g z) z.length : Nat) : Int) ≤ most →
          ((some (z, fr, true)).bind fun bt303 : List Bool × List Int × Bool => if bt303.2.2 = true then ((commit_Commit.f K bt303.1 met (f : Int) (e : Int) most).bind fun bt310 => (if bt310.2.2 = true then (if (bt310.2.1.length : Int) = 0 then ((hodmanref8_SameBools.f K bt303.1 bt310.1).bind fun t317 => (some t317)) else (some false)) else (some false))) else (some true)) = some true := by
        intro z fr hz hzin hzm
        obtain ⟨y, hy, hyl, hyg⟩ := again z met f e most (by omega) (by omega) hfe (by omega) K (by omega) hzin need hnd (by omega) hzm
        simp only [Option.bind_some, if_true]
        rw [hy]
        simp only [Option.bind_some, if_true]
        rw [if_pos (by rfl), same z y (by omega) hyl.symm hyg K (by omega)]
        rfl
      by_cases h2 : ((cnt (g x) x.length : Nat) : Int) > most
      · rw [if_pos h2]
        obtain ⟨y, hy, hty⟩ := trim x need (by omega) (K - 2 - (e - f)) (by omega)
        rw [hy]
        rw [Option.bind_some (f := fun b : List Bool × Int => some (b.1, fr, true))]
        have hyl := hty.1
        refine fin y fr (by omega) (fun j h3 h4 => by rw [hty.2, (hin j h3 h4).1, (hin j h3 h4).2]; rfl) ?_
        have : cnt (g y) y.length ≤ cnt (g need) need.length := by
          have hle : ∀ n, cnt (g y) n ≤ cnt (g need) n := by
            intro n
            induction n with
            | zero => exact Nat.le_refl _
            | succ n ih =>
              rw [cnt_step, cnt_step, hty.2 n]
              cases g x n <;> cases g need n <;> simp <;> omega
          rw [show need.length = y.length by omega]
          exact hle _
        omega
      · rw [if_neg h2]
        exact fin x fr (by omega) (fun j h3 h4 => (hin j h3 h4).1) (by omega)

end Go.Proofs.Ytjjfcpffbooboaa.Pure
