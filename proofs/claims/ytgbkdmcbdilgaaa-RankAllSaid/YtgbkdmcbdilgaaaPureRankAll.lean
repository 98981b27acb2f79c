/- RankAll, the plain part: rank answers what the document answers, for every tree and number. -/
import Derived.Test.YtgbkdmcbdilgaaaRankTree
import Derived.Test.YtgbkdmcbdilgaaaPRankMx11
set_option linter.unusedVariables false
set_option linter.unusedSimpArgs false
namespace Go.Proofs.Ytgbkdmcbdilgaaa.Pure
open Go.RowKit Go.Proofs.Ytgbkdmcbdilgaaa Go.Proofs.Ytgbkdmcbdilgaaa.PRankM Go.Proofs.YtgbkdmcbdilgaaaW.PrintWords Go.Proofs.YtgbkdmcbdilgaaaW.PrintLast Go.Proofs.YtgbkdmcbdilgaaaW.PrintMore Go.Proofs.Ytgbkdmcbdilgaaa.Bt Go.Proofs.Ytgbkdmcbdilgaaa.KF Go.Proofs.Ytgbkdmcbdilgaaa.KT

theorem rankBegun_at : hodmanlaw6_begun.f 210 = some true := by decide +kernel
theorem rankBegun (k : Nat) (hk : 210 ≤ k) : hodmanlaw6_begun.f k = some true := at_rounds hodmanlaw6_begun.mono hk rankBegun_at
theorem rank_size (u : Nat) (hu : u < 65536) : wrap64 (1 + wrap64 (Int.tmod (u : Int) 5000)) = ((1 + u % 5000 : Nat) : Int) := by
  have h : Int.tmod (u : Int) 5000 = ((u % 5000 : Nat) : Int) := rfl
  rw [h]
  have := Nat.mod_lt u (show 0 < 5000 by decide)
  generalize u % 5000 = v at this ⊢
  unfold wrap64
  omega
theorem all_l (us : List Nat) (rest : List (List Int)) (hF : Fine us) (s : Nat) (h1 : 1 ≤ s) (hs : s ≤ 5000) (hl : us.length = (s + 63) / 64) (g : List Int) (hg : g.length = 7) (hgr : ∀ i : Nat, i < 7 → -9223372036854775808 ≤ rd g (i : Int) ∧ rd g (i : Int) ≤ 9223372036854775807) (d : Nat) : ∀ (k i : Nat), i + d = 7 → 12000 + d ≤ k →
    hodmanlaw6_RankAll.l0 k g (i : Int) (s : Int) (W us :: rest) = some true := by
  induction d with
  | zero =>
    intro k i hi hk
    obtain ⟨k, rfl⟩ : ∃ m, k = m + 1 := ⟨k - 1, by omega⟩
    rw [hodmanlaw6_RankAll.l0.eq_2, if_neg (by omega), zeros_ us rest hF s h1 hs hl k (by omega), Option.bind_some, refbelow_ us rest hF s hs hl (s : Int) k (by omega), Option.bind_some]
    have : below us s (s : Int) = cnt (B us) s := by unfold below; rw [Int.toNat_natCast, Nat.min_self]
    rw [this]
    exact congrArg some (beq_self_eq_true _)
  | succ d ih =>
    intro k i hi hk
    obtain ⟨k, rfl⟩ : ∃ m, k = m + 1 := ⟨k - 1, by omega⟩
    obtain ⟨r0, r1⟩ := hgr i (by omega)
    rw [hodmanlaw6_RankAll.l0.eq_2, if_pos (by omega), if_pos (by omega), nth_f us rest hF s h1 hs hl _ r1 k (by omega), Option.bind_some, refnth_f us rest hF s hs hl _ r0 r1 k (by omega), Option.bind_some, below_ us rest hF s h1 hs hl _ r0 r1 k (by omega), Option.bind_some, refbelow_ us rest hF s hs hl _ k (by omega), Option.bind_some, if_pos rfl, if_pos rfl, if_neg (by simp), rn (n := (i : Int) + 1) (m := i + 1) (by omega) (by omega)]
    exact ih k (i + 1) (by omega) (by omega)
theorem RankAll : hodmanlaw6_RankAll.Pure := by
  intro l a1 a2 _ _ hw h1 h2
  have b1 := bounds_u16 h1
  have b2 := bounds_i64 h2
  obtain ⟨u, rfl⟩ : ∃ u : Nat, a1 = (u : Int) := ⟨a1.toNat, by omega⟩
  obtain ⟨K, hK⟩ : ∃ K, K = 13000 := ⟨_, rfl⟩
  refine ⟨K, ?_⟩
  unfold hodmanlaw6_RankAll.f
  rw [rankBegun K (by omega), Option.bind_some, if_pos rfl]
  by_cases h20 : (l.length : Int) > 20
  · rw [if_pos h20]
  · have hm := Nat.mod_lt u (show 0 < 5000 by decide)
    rw [if_neg h20, rank_size u (by omega)]
    generalize u % 5000 = v at hm ⊢
    obtain ⟨us, rest, q, ht, hF, hl⟩ := tree_ l hw (by omega) (1 + v) (by omega) (by omega) K (by omega)
    unfold hodmanplay_Made.f
    rw [Option.bind_some]
    dsimp only
    rw [ht, Option.bind_some]
    refine all_l us rest hF (1 + v) (by omega) (by omega) hl _ rfl (fun i hi => ?_) 7 K 0 (by omega) (by omega)
    have hcase : i = 0 ∨ i = 1 ∨ i = 2 ∨ i = 3 ∨ i = 4 ∨ i = 5 ∨ i = 6 := by omega
    rcases hcase with rfl | rfl | rfl | rfl | rfl | rfl | rfl
    · exact b2
    · show -9223372036854775808 ≤ (0 : Int) ∧ (0 : Int) ≤ 9223372036854775807
      decide
    · show -9223372036854775808 ≤ (64 : Int) ∧ (64 : Int) ≤ 9223372036854775807
      decide
    · show -9223372036854775808 ≤ (100 : Int) ∧ (100 : Int) ≤ 9223372036854775807
      decide
    · show -9223372036854775808 ≤ (4096 : Int) ∧ (4096 : Int) ≤ 9223372036854775807
      decide
    · show -9223372036854775808 ≤ (-1 : Int) ∧ (-1 : Int) ≤ 9223372036854775807
      decide
    · show -9223372036854775808 ≤ ((1 + v : Nat) : Int) ∧ ((1 + v : Nat) : Int) ≤ 9223372036854775807
      omega

end Go.Proofs.Ytgbkdmcbdilgaaa.Pure
