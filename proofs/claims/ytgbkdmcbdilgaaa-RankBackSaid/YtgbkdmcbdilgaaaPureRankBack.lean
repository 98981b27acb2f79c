/- RankBack, the plain part: Below and Nth undo one another, and zeros are what is left. -/
import Derived.Test.YtgbkdmcbdilgaaaRankTree
import Derived.Test.YtgbkdmcbdilgaaaPRankMx12
set_option linter.unusedVariables false
set_option linter.unusedSimpArgs false
namespace Go.Proofs.Ytgbkdmcbdilgaaa.Pure
open Go.RowKit Go.Proofs.Ytgbkdmcbdilgaaa Go.Proofs.Ytgbkdmcbdilgaaa.PRankM Go.Proofs.YtgbkdmcbdilgaaaW.PrintWords Go.Proofs.YtgbkdmcbdilgaaaW.PrintLast Go.Proofs.YtgbkdmcbdilgaaaW.PrintMore Go.Proofs.Ytgbkdmcbdilgaaa.Bt Go.Proofs.Ytgbkdmcbdilgaaa.KF Go.Proofs.Ytgbkdmcbdilgaaa.KT

theorem backBegun_at : hodmanlaw6_begun.f 210 = some true := by decide +kernel
theorem backBegun (k : Nat) (hk : 210 ≤ k) : hodmanlaw6_begun.f k = some true := at_rounds hodmanlaw6_begun.mono hk backBegun_at
theorem back_size (u : Nat) (hu : u < 65536) : wrap64 (1 + wrap64 (Int.tmod (u : Int) 5000)) = ((1 + u % 5000 : Nat) : Int) := by
  have h : Int.tmod (u : Int) 5000 = ((u % 5000 : Nat) : Int) := rfl
  rw [h]
  have := Nat.mod_lt u (show 0 < 5000 by decide)
  generalize u % 5000 = v at this ⊢
  unfold wrap64
  omega
theorem below_nat (us : List Nat) (s i : Nat) (h : i ≤ s) : below us s (i : Int) = cnt (B us) i := by
  unfold below
  rw [Int.toNat_natCast, Nat.min_eq_left h]
theorem back_end (us : List Nat) (rest : List (List Int)) (hF : Fine us) (s : Nat) (h1 : 1 ≤ s) (hs : s ≤ 5000) (hl : us.length = (s + 63) / 64) (i k : Nat) (hi : i < s) (hk : 600 ≤ k) :
    hodmanlaw6_RankBack.j0 (k + 1) (i : Int) ((cnt (B us) i : Nat) : Int) false (s : Int) (W us :: rest) = some true := by
  have hc := cnt_le (B us) s
  have hci := cnt_le (B us) i
  have hm := cnt_le_of_le (B us) (show i ≤ s by omega)
  rw [hodmanlaw6_RankBack.j0.eq_2, if_neg (by decide), below_ us rest hF s h1 hs hl (s : Int) (by omega) (by omega) k (by omega), Option.bind_some, below_nat us s s (Nat.le_refl _), nth_f us rest hF s h1 hs hl _ (by omega) k (by omega), Option.bind_some, nthR_none us s _ (Nat.le_refl _)]
  rw [if_neg Bool.false_ne_true, zeros_ us rest hF s h1 hs hl k (by omega), Option.bind_some, if_pos (by unfold wrap64; omega), if_pos (by omega), decide_eq_true (by omega)]
theorem RankBack : hodmanlaw6_RankBack.Pure := by
  intro l a1 a2 _ _ hw h1 h2
  have b1 := bounds_u16 h1
  have b2 := bounds_u16 h2
  obtain ⟨u, rfl⟩ : ∃ u : Nat, a1 = (u : Int) := ⟨a1.toNat, by omega⟩
  obtain ⟨t, rfl⟩ : ∃ t : Nat, a2 = (t : Int) := ⟨a2.toNat, by omega⟩
  obtain ⟨K, hK⟩ : ∃ K, K = 13000 := ⟨_, rfl⟩
  refine ⟨K + 1, ?_⟩
  unfold hodmanlaw6_RankBack.f
  rw [backBegun (K + 1) (by omega), Option.bind_some, if_pos rfl]
  by_cases h20 : (l.length : Int) > 20
  · rw [if_pos h20]
  · have hm := Nat.mod_lt u (show 0 < 5000 by decide)
    rw [if_neg h20, back_size u (by omega)]
    generalize u % 5000 = v at hm ⊢
    obtain ⟨us, rest, q, ht, hF, hl⟩ := tree_ l hw (by omega) (1 + v) (by omega) (by omega) (K + 1) (by omega)
    obtain ⟨s, hse⟩ : ∃ s, s = 1 + v := ⟨_, rfl⟩
    rw [← hse] at ht hl ⊢
    have hs1 : 1 ≤ s := by omega
    have hs2 : s ≤ 5000 := by omega
    unfold hodmanplay_Made.f
    rw [Option.bind_some]
    dsimp only
    rw [ht, Option.bind_some]
    dsimp only
    clear ht hse
    have hi := Nat.mod_lt t (show 0 < s by omega)
    have e2 : Int.tmod (wrap64 (t : Int)) (s : Int) = ((t % s : Nat) : Int) := by rw [rn (m := t) rfl (by omega)]; rfl
    rw [if_neg (by omega), e2]
    clear e2
    generalize t % s = i at hi ⊢
    rw [below_ us rest hF s hs1 hs2 hl (i : Int) (by omega) (by omega) (K + 1) (by omega), Option.bind_some, below_nat us s i (by omega), nth_f us rest hF s hs1 hs2 hl _ (by have := cnt_le (B us) i; omega) (K + 1) (by omega), Option.bind_some]
    have hend := back_end us rest hF s hs1 hs2 hl i K hi (by omega)
    have hhi := has_ us hF (by omega) i (by omega)
    rcases nth_spec (B us) (cnt (B us) i) s with ⟨hx, hpx, hcx⟩ | ⟨_, hnone⟩
    · generalize nth (B us) (cnt (B us) i) s = x at hx hpx hcx
      rw [nthR_some us s _ x hx hpx hcx]
      have hix : i ≤ x := by
        rcases Nat.lt_or_ge x i with h | h
        · have := cnt_lt h hpx; omega
        · exact h
      have hbi : B us i = decide (x = i) := by
        by_cases hxi : x = i
        · rw [decide_eq_true hxi, ← hxi]; exact hpx
        · rw [decide_eq_false hxi]
          cases hb : B us i with
          | false => rfl
          | true => have := cnt_lt (show i < x by omega) hb; omega
      dsimp only
      rw [if_pos rfl, if_neg (by omega), below_ us rest hF s hs1 hs2 hl (x : Int) (by omega) (by omega) (K + 1) (by omega), Option.bind_some, below_nat us s x (by omega), hcx, if_pos rfl, if_pos (by simp), L0, has_ us hF (by omega) x (by omega), Option.bind_some, if_pos hpx, hhi, Option.bind_some, hbi]
      have hne : (decide (x = i) != ((x : Int) == (i : Int))) = false := by
        by_cases hxi : x = i
        · rw [decide_eq_true hxi, hxi, beq_self_eq_true]; rfl
        · rw [decide_eq_false hxi, show ((x : Int) == (i : Int)) = false from beq_eq_false_iff_ne.mpr (fun h => hxi (Int.ofNat.inj h))]; rfl
      rw [hne]
      exact hend
    · rw [nthR_none us s _ hnone]
      have hbi : B us i = false := by
        cases hb : B us i with
        | false => rfl
        | true => have := cnt_lt hi hb; omega
      dsimp only
      rw [if_neg Bool.false_ne_true, if_pos (by simp), L0, hhi, Option.bind_some, hbi]
      exact hend

end Go.Proofs.Ytgbkdmcbdilgaaa.Pure
