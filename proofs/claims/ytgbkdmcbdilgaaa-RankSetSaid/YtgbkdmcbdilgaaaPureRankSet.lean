/- RankSet, the plain part: a bit that is set is one more above it, and none below. -/
import Derived.Test.YtgbkdmcbdilgaaaRankSTree
import Derived.Test.YtgbkdmcbdilgaaaTreeHand8
set_option linter.unusedVariables false
set_option linter.unusedSimpArgs false
namespace Go.Proofs.Ytgbkdmcbdilgaaa.Pure
open Go.RowKit Go.Proofs.Ytgbkdmcbdilgaaa Go.Proofs.Ytgbkdmcbdilgaaa.PRankS Go.Proofs.YtgbkdmcbdilgaaaW.PrintWords Go.Proofs.YtgbkdmcbdilgaaaW.PrintLast Go.Proofs.YtgbkdmcbdilgaaaW.PrintMore Go.Proofs.Ytgbkdmcbdilgaaa.Bt Go.Proofs.Ytgbkdmcbdilgaaa.KWS Go.Proofs.Ytgbkdmcbdilgaaa.KFS Go.Proofs.Ytgbkdmcbdilgaaa.KTS

theorem setBegun_at : hodmanlaw6_begun.f 210 = some true := by decide +kernel
theorem setBegun (k : Nat) (hk : 210 ≤ k) : hodmanlaw6_begun.f k = some true := at_rounds hodmanlaw6_begun.mono hk setBegun_at
theorem set_size (u : Nat) (hu : u < 65536) : wrap64 (1 + wrap64 (Int.tmod (u : Int) 5000)) = ((1 + u % 5000 : Nat) : Int) := by
  have h : Int.tmod (u : Int) 5000 = ((u % 5000 : Nat) : Int) := rfl
  rw [h]
  have := Nat.mod_lt u (show 0 < 5000 by decide)
  generalize u % 5000 = v at this ⊢
  unfold wrap64
  omega
theorem set_below (us : List Nat) (s i : Nat) (h : i ≤ s) : below us s (i : Int) = cnt (B us) i := by
  unfold below
  rw [Int.toNat_natCast, Nat.min_eq_left h]
/-- one bit of a word -/
theorem set_word (u m : Nat) (hu : u < 2 ^ 64) (hm : m < 64) : ∃ v, Go.bits .or .u64 (Go.bits .andNot .u64 (u : Int) ((mask m 1 : Nat) : Int)) ((mask m 1 : Nat) : Int) = ((v : Nat) : Int) ∧ v < 2 ^ 64 ∧ ∀ t, t < 64 → v.testBit t = (u.testBit t || decide (t = m)) := by
  have hM := mask_lt m 1
  have hA : u &&& (18446744073709551615 - mask m 1) < 2 ^ 64 := Nat.lt_of_le_of_lt Nat.and_le_left hu
  refine ⟨(u &&& (18446744073709551615 - mask m 1)) ||| mask m 1, ?_, Nat.or_lt_two_pow hA hM, fun t ht => ?_⟩
  · rw [andNot_ hu hM, or_ hA hM]
  · have he : 18446744073709551615 - mask m 1 = 2 ^ 64 - (mask m 1 + 1) := by
      have : (2 : Nat) ^ 64 = 18446744073709551616 := rfl
      omega
    rw [Nat.testBit_or, Nat.testBit_and, he, Nat.testBit_two_pow_sub_succ hM, mask_bit]
    by_cases h : t = m
    · subst h
      rw [decide_eq_true ht, decide_eq_true (Nat.le_refl t), decide_eq_true (show t < t + 1 by omega), decide_eq_true (show t = t from rfl)]
      simp
    · rw [decide_eq_true ht, decide_eq_false h]
      by_cases h2 : m ≤ t
      · rw [decide_eq_true h2, decide_eq_false (show ¬ t < m + 1 by omega)]
        simp
      · rw [decide_eq_false h2]
        simp
theorem set_row (us : List Nat) (hF : Fine us) (f : Nat) (hf : f / 64 < us.length) (mk : Int) (hmk : mk = ((mask (f % 64) 1 : Nat) : Int)) : ∃ us2, (W us).set (f / 64) (Go.bits .or .u64 (Go.bits .andNot .u64 (rd (W us) ((f / 64 : Nat) : Int)) mk) mk) = W us2 ∧ Fine us2 ∧ us2.length = us.length ∧ ∀ j, j < 64 * us.length → B us2 j = (B us j || decide (j = f)) := by
  subst hmk
  obtain ⟨v, hv, hv2, hvb⟩ := set_word (us.getD (f / 64) 0) (f % 64) (hF.at _) (Nat.mod_lt _ (by decide))
  refine ⟨us.set (f / 64) v, by rw [rd_W us (f / 64) hf, hv, W_set], fun u hu => ?_, List.length_set, fun j hj => ?_⟩
  · rcases List.mem_or_eq_of_mem_set hu with h1 | h1
    · exact hF u h1
    · rw [h1]; exact hv2
  · unfold B
    rw [List.getD_eq_getElem?_getD, List.getElem?_set]
    by_cases h1 : f / 64 = j / 64
    · rw [if_pos h1, if_pos hf]
      show v.testBit (j % 64) = _
      rw [hvb _ (Nat.mod_lt _ (by decide)), h1]
      congr 1
      rw [decide_eq_decide]
      omega
    · rw [if_neg h1, ← List.getD_eq_getElem?_getD, decide_eq_false (show ¬ j = f by intro e; exact h1 (by rw [e])), Bool.or_false]
theorem set_cnt (p p2 : Nat → Bool) (f n : Nat) (h : ∀ j, j < n → p2 j = (p j || decide (j = f))) (hf : p2 f = true) : cnt p2 n = cnt p n + (if p f = false ∧ f < n then 1 else 0) := by
  by_cases hp : p f = true
  · rw [if_neg (fun h => by rw [hp] at h; exact Bool.noConfusion h.1), Nat.add_zero]
    refine cnt_congr n fun j hj => ?_
    rw [h j hj]
    by_cases hjf : j = f
    · rw [hjf, hp]; rfl
    · rw [decide_eq_false hjf, Bool.or_false]
  · have hp2 : p f = false := by simpa using hp
    have h1 := cnt_but hf n
    have h2 : cnt (fun j => p2 j && decide (j ≠ f)) n = cnt p n := by
      refine cnt_congr n fun j hj => ?_
      rw [h j hj]
      by_cases hjf : j = f
      · rw [hjf, hp2]; simp
      · simp [hjf]
    rw [h2] at h1
    rw [← h1]
    by_cases hfn : f < n
    · rw [if_pos ⟨hp2, hfn⟩, decide_eq_true hfn]; rfl
    · rw [if_neg (fun h => hfn h.2), decide_eq_false hfn]; rfl
set_option maxHeartbeats 2000000 in
theorem RankSet : hodmanlaw6_RankSet.Pure := by
  refine ⟨setBegun 1000 (by decide), ?_⟩
  intro l a1 a2 a3 h20 hw h1 h2 h3
  have b1 := bounds_u16 h1
  have b2 := bounds_u16 h2
  have b3 := bounds_u16 h3
  obtain ⟨u, rfl⟩ : ∃ u : Nat, a1 = (u : Int) := ⟨a1.toNat, by omega⟩
  obtain ⟨a, rfl⟩ : ∃ t : Nat, a2 = (t : Int) := ⟨a2.toNat, by omega⟩
  obtain ⟨b, rfl⟩ : ∃ t : Nat, a3 = (t : Int) := ⟨a3.toNat, by omega⟩
  clear h1 h2 h3
  obtain ⟨K, hK⟩ : ∃ K, K = 13000 := ⟨_, rfl⟩
  have hm := Nat.mod_lt u (show 0 < 5000 by decide)
  have hse := set_size u (by omega)
  obtain ⟨s, hs⟩ : ∃ s, s = 1 + u % 5000 := ⟨_, rfl⟩
  rw [← hs] at hse
  have hs1 : 1 ≤ s := by omega
  have hs2 : s ≤ 5000 := by omega
  clear hs hm
  obtain ⟨us, rest, pos, ht, hF, hl, hsm⟩ := tree_ l hw (by omega) s hs1 hs2 K (by omega)
  have hfe : Int.tmod (wrap64 (a : Int)) (s : Int) = ((a % s : Nat) : Int) := by rw [rn (m := a) rfl (by omega)]; rfl
  have hje : Int.tmod (wrap64 (b : Int)) (s : Int) = ((b % s : Nat) : Int) := by rw [rn (m := b) rfl (by omega)]; rfl
  have hf := Nat.mod_lt a (show 0 < s by omega)
  have hj := Nat.mod_lt b (show 0 < s by omega)
  obtain ⟨f, hfd⟩ : ∃ f, f = a % s := ⟨_, rfl⟩
  obtain ⟨j, hjd⟩ : ∃ j, j = b % s := ⟨_, rfl⟩
  rw [← hfd] at hfe hf
  rw [← hjd] at hje hj
  clear hfd hjd b1 b2 b3
  have HSE := Aside0.mk hse
  have HFE := Aside0.mk hfe
  have HJE := Aside0.mk hje
  have HT := Aside0.mk ht
  clear hse hfe hje ht
  have hK1 : 70 ≤ K := by omega
  have hK2 : 210 ≤ K := by omega
  have hK3 : 500 ≤ K := by omega
  clear hK
  have hq : f / 64 < us.length := by omega
  have hmk : word_Mask.f K ((f % 64 : Nat) : Int) 1 = some ((mask (f % 64) 1 : Nat) : Int) := by
    rw [mask_ ((f % 64 : Nat) : Int) 1 (by omega) (by decide) K hK1]
    exact congrArg (fun x : Nat => some (x : Int)) (maskI_nat (f % 64) 1)
  have hmade : hodmanplay_Made.f l = some (l, 0) := by
    unfold hodmanplay_Made.f
    rfl
  refine ⟨K, s, f, j, rest.length + 1, cnt (B us) j, B us f, ((mask (f % 64) 1 : Nat) : Int), pos, W us :: rest, setBegun K hK2, hmade, HT.out, HSE.out, hs1, hs2, HFE.out, hf, HJE.out, hj, rfl, by omega, by have := hsm.1; omega, fun i => ?_, by show f / 64 < (W us).length; rw [W_len]; exact hq, hmk, has_ us hF (by omega) f (by omega), by have := cnt_le (B us) j; omega, ?_, fun lv2 hlen h0 => ?_⟩
  · cases i with
    | zero =>
      show (W us).length ≤ 100000
      rw [W_len]
      omega
    | succ i =>
      show (rest.getD i []).length ≤ 100000
      rw [List.getD_eq_getElem?_getD]
      by_cases hi : i < rest.length
      · rw [List.getElem?_eq_getElem hi]
        exact hsm.2 _ (List.getElem_mem hi)
      · rw [List.getElem?_eq_none (by omega)]
        exact Nat.zero_le _
  · rw [below_ us rest hF s hs1 hs2 hl (j : Int) (by omega) (by omega) K hK3, set_below us s j (by omega)]
  · obtain ⟨us2, hu2, hF2, hl2, hB2⟩ := set_row us hF f hq _ rfl
    cases lv2 with
    | nil => exact absurd hlen (by simp)
    | cons x r =>
      have hx : x = W us2 := by
        have h0' : x = (W us).set (f / 64) (Go.bits .or .u64 (Go.bits .andNot .u64 (rd (W us) ((f / 64 : Nat) : Int)) ((mask (f % 64) 1 : Nat) : Int)) ((mask (f % 64) 1 : Nat) : Int)) := h0
        rw [h0', hu2]
      subst hx
      rw [below_ us2 r hF2 s hs1 hs2 (by rw [hl2]; exact hl) (j : Int) (by omega) (by omega) K hK3, set_below us2 s j (by omega)]
      rw [set_cnt (B us) (B us2) f j (fun i hi => hB2 i (by omega)) (by rw [hB2 f (by omega), decide_eq_true rfl, Bool.or_true])]
end Go.Proofs.Ytgbkdmcbdilgaaa.Pure
