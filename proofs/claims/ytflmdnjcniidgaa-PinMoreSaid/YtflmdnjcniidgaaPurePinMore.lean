/- PinMore, the plain part: with one more block no page less is met, and as many more at most as it has. -/
import Derived.Test.YtflmdnjcniidgaaPinFns
import Derived.Test.YtflmdnjcniidgaaPurePinBytes
set_option linter.unusedVariables false
set_option linter.unusedSimpArgs false
namespace Go.Proofs.Ytflmdnjcniidgaa.Pure
open Go.RowKit Go.Proofs.Ytflmdnjcniidgaa.PPin2 Go.Proofs.YtflmdnjcniidgaaW.PrintWords Go.Proofs.YtflmdnjcniidgaaW.PrintLast Go.Proofs.YtflmdnjcniidgaaW.PrintMore Go.Proofs.Ytflmdnjcniidgaa.Bt Go.Proofs.Ytflmdnjcniidgaa.PF

theorem cnt_more (x y : Nat → Bool) (f e : Nat) : ∀ n, (∀ j, j < n → y j = (x j || (decide (f ≤ j) && decide (j < e)))) → cnt x n ≤ cnt y n ∧ cnt y n ≤ cnt x n + (min n e - f)
  | 0, _ => by simp [cnt]
  | n + 1, hy => by
    obtain ⟨h1, h2⟩ := cnt_more x y f e n fun j hj => hy j (by omega)
    have h3 := hy n (by omega)
    rw [cnt_step, cnt_step, h3]
    by_cases h4 : f ≤ n ∧ n < e
    · have : (decide (f ≤ n) && decide (n < e)) = true := by simp [h4.1, h4.2]
      rw [this]
      cases x n <;> simp <;> omega
    · have : (decide (f ≤ n) && decide (n < e)) = false := by simp; omega
      rw [this]
      cases x n <;> simp <;> omega
theorem more_l (x y : List Bool) (f e N : Nat) (hN : N ≤ 320) (hx : x.length = N) (hy : y.length = N) (hfe : f ≤ e) (he : e < 1000) (hg : ∀ j, j < N → g y j = (g x j || (decide (f ≤ j) && decide (j < e)))) (d : Nat) : ∀ (k i : Nat), i + d = N → 1000 + d ≤ k →
    hodmanlaw12_PinMore.l0 k x y (f : Int) (e : Int) (i : Int) = some true := by
  induction d with
  | zero =>
    intro k i hi hk
    obtain ⟨k, rfl⟩ : ∃ n, k = n + 1 := ⟨k - 1, by omega⟩
    have hc := cnt_le (g x) N
    obtain ⟨h1, h2⟩ := cnt_more (g x) (g y) f e N hg
    have hk1 : N < k := by omega
    have hN1 : N < 1000000 := by omega
    have hi0 : ¬ (i : Int) < (x.length : Int) := by omega
    have cx0 : pin_Count.f k x = some ((cnt (g x) N : Nat) : Int) := by
      have := count x (by rw [hx]; exact hN1) k (by rw [hx]; exact hk1)
      rw [hx] at this
      exact this
    have cy0 : pin_Count.f k y = some ((cnt (g y) N : Nat) : Int) := by
      have := count y (by rw [hy]; exact hN1) k (by rw [hy]; exact hk1)
      rw [hy] at this
      exact this
    rw [hodmanlaw12_PinMore.l0.eq_2, if_neg hi0, cx0, cy0]
    clear cx0 cy0 hi0 hg
    generalize cnt (g x) N = cx at *
    generalize cnt (g y) N = cy at *
    have b1 : cx + e < 1000000 := by omega
    have b2 : cy ≤ cx + e - f := by omega
    have b3 : f ≤ cx + e := by omega
    have b4 : (cy : Int) ≤ ((cx + e : Nat) : Int) - (f : Int) := by omega
    have b5 : (cy : Int) ≥ (cx : Int) := by omega
    have w1 := wadd cx e b1
    refine Eq.trans (Option.bind_some _ _) ?_
    refine Eq.trans (Option.bind_some _ _) ?_
    rw [w1]
    clear w1
    have w2 : wrap64 (((cx + e : Nat) : Int) - (f : Int)) = ((cx + e : Nat) : Int) - (f : Int) := wrapi_in (by omega) (by omega)
    rw [w2]
    clear w2
    rw [if_pos b4]
    refine Eq.trans (Option.bind_some _ _) ?_
    refine Eq.trans (Option.bind_some _ _) ?_
    exact congrArg some (decide_eq_true b5)
  | succ d ih =>
    intro k i hi hk
    obtain ⟨k, rfl⟩ : ∃ n, k = n + 1 := ⟨k - 1, by omega⟩
    have := ih k (i + 1) (by omega) (by omega)
    rw [hodmanlaw12_PinMore.l0.eq_2, if_pos (by omega), if_pos (by omega), if_pos (by omega), rd_g, rd_g, hg i (by omega), wrap1 i (by omega)]
    cases h : g x i with
    | true => rw [if_pos rfl, if_neg (by simp)]; exact this
    | false =>
      rw [if_neg (by decide)]
      by_cases h1 : f ≤ i
      · rw [if_pos (by omega)]
        have e1 : decide ((i : Int) < (e : Int)) = decide (i < e) := by simp
        rw [e1, decide_eq_true h1, if_neg (by simp)]
        exact this
      · rw [if_neg (by omega), decide_eq_false h1, if_neg (by simp)]
        exact this
theorem PinMore : hodmanlaw12_PinMore.Pure := by
  intro a l b c ha _ _ hw hb hc
  have ha := bounds_u8 ha
  have hb := bounds_u8 hb
  have hc := bounds_u8 hc
  obtain ⟨a, rfl⟩ := Int.eq_ofNat_of_zero_le ha.1
  obtain ⟨b, rfl⟩ := Int.eq_ofNat_of_zero_le hb.1
  obtain ⟨c, rfl⟩ := Int.eq_ofNat_of_zero_le hc.1
  obtain ⟨K, hK⟩ : ∃ K : Nat, K = 6000 := ⟨_, rfl⟩
  refine ⟨K, ?_⟩
  unfold hodmanlaw12_PinMore.f
  rw [pinBegun K (by omega)]
  refine Eq.trans (Option.bind_some _ _) ?_
  rw [if_pos rfl]
  by_cases hn : l.length > 10
  · rw [if_pos (by omega)]
  · have hh : ¬ (l.length : Int) > 10 := by omega
    have hl10 : l.length ≤ 10 := by omega
    have hK11 : 11 ≤ K := by omega
    have hbl := blocks l hl10 hw K hK11
    rw [if_neg hh, hbl]
    clear hbl
    refine Eq.trans (Option.bind_some _ _) ?_
    have hL : (l.map pair).length ≤ 10 := by rw [List.length_map]; exact hl10
    have hf := pairs_fine l hw
    obtain ⟨L, hLe⟩ : ∃ L, L = l.map pair := ⟨_, rfl⟩
    rw [← hLe] at hL hf ⊢
    clear hLe hw
    have ht : Int.tmod (a : Int) 40 = ((a % 40 : Nat) : Int) := rfl
    have hm := Nat.mod_lt a (show 40 > 0 by omega)
    have htc : Int.tmod (c : Int) 40 = ((c % 40 : Nat) : Int) := rfl
    have hmc := Nat.mod_lt c (show 40 > 0 by omega)
    rw [ht, htc]
    clear ht ha htc hc
    generalize a % 40 = q at *
    generalize c % 40 = r at *
    have w1 : ∀ q : Nat, q < 40 → wrap64 (1 + wrap64 (q : Int)) = ((1 + q : Nat) : Int) := fun q hq => by rw [wrapn q (by omega), show (1 : Int) + (q : Int) = ((1 + q : Nat) : Int) by omega, wrapn _ (by omega)]
    have hb3 : b < 1000000 := by clear w1; omega
    rw [w1 q hm, w1 r hmc, wrapn b hb3]
    clear w1
    obtain ⟨p, hp⟩ : ∃ p, p = 1 + q := ⟨_, rfl⟩
    obtain ⟨n, hn⟩ : ∃ n, n = 1 + r := ⟨_, rfl⟩
    rw [← hp, ← hn]
    have hf2 : ∀ z ∈ L ++ [(b, n)], Fine z := fun z hz => by
      rcases List.mem_append.1 hz with h | h
      · exact hf z h
      · rw [List.mem_singleton.1 h]
        exact ⟨by simp only; omega, by simp only; omega, by simp only; omega⟩
    have happ : L.map blk ++ [(⟨(b : Int), (n : Int), 0⟩ : S48)] = (L ++ [(b, n)]).map blk := by simp [blk]
    have hp1 : 1 ≤ p := by omega
    have hp40 : p ≤ 40 := by omega
    have hL11 : L.length ≤ 11 := by omega
    have hL12 : (L ++ [(b, n)]).length ≤ 11 := by rw [List.length_append]; simp only [List.length_cons, List.length_nil]; omega
    have hK5 : 5000 ≤ K := by omega
    have hK2 : 2 ≤ K := by omega
    have hKM : 1320 ≤ K := by omega
    have hb1 : b < 1000 := by omega
    have hn1 : 1 ≤ n := by omega
    have hn2 : n < 1000 := by omega
    have hbn : b + n - 1 < 990 := by omega
    have hsz : (L.map blk).length + 1 < 5864062014805 := by rw [List.length_map]; omega
    clear hK hm hmc hh hl10 hK11 hn hp
    obtain ⟨x, h1, h2, h3⟩ := met p L hp1 hp40 hL11 hf K hK5
    obtain ⟨y, y1, y2, y3⟩ := met p (L ++ [(b, n)]) hp1 hp40 hL12 hf2 K hK5
    rw [h1]
    refine Eq.trans (Option.bind_some _ _) ?_
    refine Eq.trans (Option.bind_some _ _) ?_
    refine Eq.trans (Option.bind_some _ _) ?_
    rw [List.length_cons, List.length_nil, Nat.zero_add, if_pos hsz, happ, y1, pages p b n hp1 hb1 hn1 hn2 K hK2]
    refine Eq.trans (Option.bind_some _ _) ?_
    refine Eq.trans (Option.bind_some _ _) ?_
    have hxy : (x.length : Int) = (y.length : Int) := by rw [h2, y2]
    rw [if_pos hxy]
    have h5 : 320 / p ≤ 320 := Nat.div_le_self _ _
    have h6 : b / p ≤ (b + n - 1) / p := Nat.div_le_div_right (by omega)
    have h7 : (b + n - 1) / p ≤ b + n - 1 := Nat.div_le_self _ _
    clear h1 y1 happ
    refine more_l x y (b / p) ((b + n - 1) / p + 1) (320 / p) h5 h2 y2 (Nat.le_succ_of_le h6) ?_ (fun j hj => ?_) (320 / p) K 0 (Nat.zero_add _) ?_
    · exact Nat.lt_of_le_of_lt (Nat.succ_le_succ h7) (by omega)
    · rw [h3 j hj, y3 j hj]
      unfold metB hit
      simp only [List.any_append, List.any_cons, List.any_nil, Bool.or_false]
      congr 2
      generalize (b + n - 1) / p = z
      simp
      omega
    · generalize 320 / p = z at *
      omega

end Go.Proofs.Ytflmdnjcniidgaa.Pure
