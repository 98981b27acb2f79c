/- PinBytes, the plain part: a page is met just if a byte of it is a block's. -/
import Derived.Test.YtflmdnjcniidgaaPinFns
set_option linter.unusedVariables false
set_option linter.unusedSimpArgs false
namespace Go.Proofs.Ytflmdnjcniidgaa.Pure
open Go.RowKit Go.Proofs.Ytflmdnjcniidgaa.PPin2 Go.Proofs.YtflmdnjcniidgaaW.PrintWords Go.Proofs.YtflmdnjcniidgaaW.PrintLast Go.Proofs.YtflmdnjcniidgaaW.PrintMore Go.Proofs.Ytflmdnjcniidgaa.Bt Go.Proofs.Ytflmdnjcniidgaa.PF

theorem pinBegun_at : hodmanlaw12_begun.f 30 = some true := by decide +kernel
theorem pinBegun (k : Nat) (hk : 30 ≤ k) : hodmanlaw12_begun.f k = some true := at_rounds hodmanlaw12_begun.mono hk pinBegun_at
/-- the pages of the bytes from a up to b -/
def cov (p a b j : Nat) : Bool := decide (a < b) && (decide (a / p ≤ j) && decide (j ≤ (b - 1) / p))
theorem cov_step (p a b j : Nat) (hp : 1 ≤ p) (hab : a ≤ b) : cov p a (b + 1) j = (cov p a b j || decide (j = b / p)) := by
  unfold cov
  rw [Nat.add_sub_cancel]
  have h1 : a / p ≤ b / p := Nat.div_le_div_right hab
  by_cases h : a < b
  · have h2 : (b - 1) / p ≤ b / p := Nat.div_le_div_right (by omega)
    have h3 : b / p ≤ (b - 1) / p + 1 := by
      rw [← Nat.add_div_right _ (by omega)]
      exact Nat.div_le_div_right (by omega)
    generalize b / p = y at *
    generalize (b - 1) / p = z at *
    generalize a / p = x at *
    rw [Bool.eq_iff_iff]
    simp
    omega
  · have e : a = b := by omega
    subst e
    generalize a / p = x at *
    rw [Bool.eq_iff_iff]
    simp
    omega
theorem bytes_in (p : Nat) (L : List (Nat × Nat)) (m : List Bool) (i a c : Nat) (hp : 1 ≤ p) (f1 : a ≤ 255) (f2 : 1 ≤ c) (f3 : c ≤ 40) (hlt : i < L.length) (hrd : rd_T48 (L.map blk) (i : Int) = blk (a, c)) (N : Nat) (old : Nat → Bool) (d : Nat) :
    ∀ (k b : Nat) (w : List Bool), w.length = N → b + d = a + c → a ≤ b → (∀ j, j < N → g w j = (old j || cov p a b j)) →
    ∃ w', hodmanlaw12_PinBytes.l1 (k + d + 1) (p : Int) (L.map blk) m w 0 (i : Int) (b : Int) = hodmanlaw12_PinBytes.l0 k (p : Int) (L.map blk) m w' 0 (wrap64 ((i : Int) + 1)) ∧ w'.length = N ∧ ∀ j, j < N → g w' j = (old j || cov p a (a + c) j) := by
  have hac : wrap64 ((a : Int) + (c : Int)) = ((a + c : Nat) : Int) := by rw [wrapi_in (by omega) (by omega)]; omega
  induction d with
  | zero =>
    intro k b w hw hb hab hg
    obtain rfl : b = a + c := by omega
    refine ⟨w, ?_, hw, hg⟩
    rw [hodmanlaw12_PinBytes.l1.eq_2, if_pos (by omega), if_pos (by rw [List.length_map]; omega), hrd]
    unfold blk
    simp only
    rw [hac, if_neg (by omega)]
  | succ d ih =>
    intro k b w hw hb hab hg
    have ht := tdiv_n b p (by omega)
    have hb1 := wrap1 b (by omega)
    have hstep := fun j => cov_step p a b j hp hab
    rw [show k + (d + 1) + 1 = (k + d + 1) + 1 by omega, hodmanlaw12_PinBytes.l1.eq_2, if_pos (by omega), if_pos (by rw [List.length_map]; omega), hrd]
    unfold blk
    simp only
    rw [hac, if_pos (by omega), if_neg (by omega), ht, hb1]
    generalize b / p = q at *
    clear ht hb1 hac
    by_cases h : q < w.length
    · rw [if_pos (by omega), if_pos (by omega), Int.toNat_natCast]
      refine ih k (b + 1) (w.set q true) (by rw [List.length_set]; exact hw) (by omega) (by omega) fun j hj => ?_
      rw [g_set _ _ _ _ h, hstep j]
      by_cases e : j = q
      · subst e; simp
      · rw [if_neg e, hg j hj]; simp [e]
    · rw [if_neg (by omega)]
      refine ih k (b + 1) w hw (by omega) (by omega) fun j hj => ?_
      rw [hg j hj, hstep j]
      have e : ¬ j = q := by omega
      simp [e]
theorem bytes_l2 (m w : List Bool) (hm : m.length = w.length) (hn : w.length ≤ 320) (hg : ∀ j, j < w.length → g m j = g w j) (d : Nat) : ∀ (k i : Nat), i + d = w.length → 1000 + d ≤ k →
    hodmanlaw12_PinBytes.l2 k m w ((cnt (g w) i : Nat) : Int) (i : Int) = some true := by
  induction d with
  | zero =>
    intro k i hi hk
    obtain ⟨k, rfl⟩ : ∃ n, k = n + 1 := ⟨k - 1, by omega⟩
    rw [hodmanlaw12_PinBytes.l2.eq_2, if_neg (by omega), count m (by omega) k (by omega)]
    simp only [Option.bind_some]
    have h1 : cnt (g m) m.length = cnt (g w) i := by
      rw [hm, show i = w.length by omega]
      exact cnt_congr _ hg
    rw [h1]
    exact congrArg some (beq_self_eq_true _)
  | succ d ih =>
    intro k i hi hk
    obtain ⟨k, rfl⟩ : ∃ n, k = n + 1 := ⟨k - 1, by omega⟩
    have hc := cnt_le (g w) i
    have hs := cnt_step (g w) i
    have := ih k (i + 1) (by omega) (by omega)
    rw [hs] at this
    rw [hodmanlaw12_PinBytes.l2.eq_2, if_pos (by omega), if_pos (by omega), if_pos (by omega), rd_g, rd_g, hg i (by omega), if_neg (by simp), wrap1 i (by omega), wrap1 _ (by omega)]
    cases h : g w i with
    | true => rw [h] at this; rw [if_pos rfl]; exact this
    | false => rw [h] at this; rw [if_neg (by decide)]; exact this
/-- up to the bytes of one block -/
theorem bytes_begin (p : Nat) (L : List (Nat × Nat)) (m : List Bool) (i a c : Nat) (hp : 1 ≤ p) (f1 : a ≤ 255) (f2 : 1 ≤ c) (f3 : c ≤ 40) (hlt : i < L.length) (hrd : rd_T48 (L.map blk) (i : Int) = blk (a, c)) (k : Nat) (w : List Bool) :
    hodmanlaw12_PinBytes.l0 (k + 2) (p : Int) (L.map blk) m w 0 (i : Int) = hodmanlaw12_PinBytes.l1 k (p : Int) (L.map blk) m w 0 (i : Int) (a : Int) ∨ k = 0 := by
  by_cases hk : k = 0
  · exact Or.inr hk
  left
  have hlen : (L.map blk).length = L.length := List.length_map ..
  have hi0 : (i : Int) < (L.length : Int) := by omega
  have hi1 : (0 : Int) ≤ (i : Int) := by omega
  have hp0 : ¬ (p : Int) = 0 := by omega
  have b1 : a < 1000 := by omega
  have b2 : c < 1000 := by omega
  have b3 : 2 ≤ k + 1 := by omega
  have b4 : a < 1000000 := by omega
  have b5 : a + c - 1 < 1000000 := by omega
  have b6 : a + c < 1000000 := by omega
  have b7 : 1 ≤ a + c := by omega
  have hpg := pages p a c hp b1 f2 b2 (k + 1) b3
  have t1 := tdiv_n a p b4
  have t2 := tdiv_n (a + c - 1) p b5
  have w3 := wadd a c b6
  have w4 := wsub1 (a + c) b6 b7
  have hle : (a + c - 1) / p ≤ a + c - 1 := Nat.div_le_self _ _
  have w5 : wrap64 (((a + c - 1) / p : Nat) + 1 : Int) = (((a + c - 1) / p + 1 : Nat) : Int) := wrap1 _ (Nat.lt_of_le_of_lt hle b5)
  have f0 : (blk (a, c)).f0 = (a : Int) := rfl
  have f1' : (blk (a, c)).f1 = (c : Int) := rfl
  have hb : ((((a + c - 1) / p + 1 : Nat) : Int) != (((a + c - 1) / p + 1 : Nat) : Int)) = false := by simp
  rw [hodmanlaw12_PinBytes.l0.eq_2, hlen, if_pos hi0, if_pos hi1, hrd, f0, f1', hpg]
  simp only [Option.bind_some]
  rw [if_neg hp0, t1, if_pos rfl, w3, w4, t2, w5, hb, hodmanlaw12_PinBytes.j1.eq_2, if_neg (by decide), if_pos hi1, hlen, if_pos hi0, hrd, f0]
theorem bytes_l (p : Nat) (L : List (Nat × Nat)) (m : List Bool) (hp : 1 ≤ p) (hL : L.length ≤ 10) (hf : ∀ q ∈ L, Fine q) (N : Nat) (hN : N ≤ 320) (hm : m.length = N) (hg : ∀ j, j < N → g m j = metB p L j) (d : Nat) :
    ∀ (k i : Nat) (w : List Bool), i + d = L.length → 1400 + 50 * d ≤ k → w.length = N → (∀ j, j < N → g w j = metB p (L.take i) j) → hodmanlaw12_PinBytes.l0 k (p : Int) (L.map blk) m w 0 (i : Int) = some true := by
  induction d with
  | zero =>
    intro k i w hi hk hw hgw
    obtain ⟨k, rfl⟩ : ∃ n, k = n + 1 := ⟨k - 1, by omega⟩
    rw [hodmanlaw12_PinBytes.l0.eq_2, if_neg (by rw [List.length_map]; omega)]
    refine bytes_l2 m w (by omega) (by omega) (fun j hj => ?_) w.length k 0 (by omega) (by omega)
    rw [hg j (by omega), hgw j (by omega), List.take_of_length_le (by omega)]
  | succ d ih =>
    intro k i w hi hk hw hgw
    have hlt : i < L.length := by omega
    have hfi := hf L[i] (List.getElem_mem hlt)
    have htk : L.take (i + 1) = L.take i ++ [L[i]] := List.take_succ_eq_append_getElem hlt
    have hrd := rd48 L i hlt
    obtain ⟨q, hq⟩ : ∃ q, L[i] = q := ⟨_, rfl⟩
    rw [hq] at hfi htk hrd
    obtain ⟨a, c⟩ := q
    obtain ⟨f1, f2, f3⟩ := hfi
    simp only at f1 f2 f3
    have hbk : ∀ j, metB p (L.take (i + 1)) j = (metB p (L.take i) j || hit p (a, c) j) := fun j => by
      rw [htk]
      unfold metB
      simp
    obtain ⟨k, rfl⟩ : ∃ n, k = n + c + 1 + 2 := ⟨k - c - 3, by omega⟩
    obtain ⟨w', h1, h2, h3⟩ := bytes_in p L m i a c hp f1 f2 f3 hlt hrd N (metB p (L.take i)) c k a w hw rfl (Nat.le_refl _) (fun j hj => by
      rw [hgw j hj]
      have : cov p a a j = false := by unfold cov; simp
      rw [this, Bool.or_false])
    rcases bytes_begin p L m i a c hp f1 f2 f3 hlt hrd (k + c + 1) w with hz | hz
    case inr => omega
    refine hz.trans (h1.trans ?_)
    rw [wrap1 i (by omega)]
    refine ih k (i + 1) w' (by omega) (by omega) h2 fun j hj => ?_
    rw [h3 j hj, hbk j]
    congr 1
    unfold cov hit
    simp only
    rw [decide_eq_true (show a < a + c by omega), Bool.true_and]
theorem PinBytes : hodmanlaw12_PinBytes.Pure := by
  intro a l ha _ _ hw
  have ha := bounds_u8 ha
  obtain ⟨a, rfl⟩ := Int.eq_ofNat_of_zero_le ha.1
  obtain ⟨K, hK⟩ : ∃ K : Nat, K = 6000 := ⟨_, rfl⟩
  refine ⟨K, ?_⟩
  unfold hodmanlaw12_PinBytes.f
  rw [pinBegun K (by omega)]
  refine Eq.trans (Option.bind_some _ _) ?_
  rw [if_pos rfl]
  by_cases hn : l.length > 10
  · rw [if_pos (by omega)]
  · have hh : ¬ (l.length : Int) > 10 := by omega
    have hl10 : l.length ≤ 10 := by omega
    have hK11 : 11 ≤ K := by omega
    have hb := blocks l hl10 hw K hK11
    rw [if_neg hh, hb]
    clear hb
    refine Eq.trans (Option.bind_some _ _) ?_
    have hL : (l.map pair).length ≤ 10 := by rw [List.length_map]; exact hl10
    have hf := pairs_fine l hw
    obtain ⟨L, hLe⟩ : ∃ L, L = l.map pair := ⟨_, rfl⟩
    rw [← hLe] at hL hf ⊢
    clear hLe hw
    have ht : Int.tmod (a : Int) 40 = ((a % 40 : Nat) : Int) := rfl
    have hm := Nat.mod_lt a (show 40 > 0 by omega)
    rw [ht]
    clear ht ha
    generalize a % 40 = q at *
    have w1 : wrap64 (1 + wrap64 (q : Int)) = ((1 + q : Nat) : Int) := by rw [wrapn q (by omega), show (1 : Int) + (q : Int) = ((1 + q : Nat) : Int) by omega, wrapn _ (by omega)]
    rw [w1]
    clear w1
    obtain ⟨p, hp⟩ : ∃ p, p = 1 + q := ⟨_, rfl⟩
    rw [← hp]
    have hp1 : 1 ≤ p := by omega
    have hp40 : p ≤ 40 := by omega
    have hp0 : ¬ (p : Int) = 0 := by omega
    have hL11 : L.length ≤ 11 := by omega
    have hK5 : 5000 ≤ K := by omega
    have hKL : 1400 + 50 * L.length ≤ K := by omega
    clear hK hm hn
    obtain ⟨m, h1, h2, h3⟩ := met p L hp1 hp40 hL11 hf K hK5
    rw [h1]
    refine Eq.trans (Option.bind_some _ _) ?_
    have h4 : (320 : Int) / (p : Int) = ((320 / p : Nat) : Int) := by rw [Int.natCast_ediv]; rfl
    have h5 : 320 / p ≤ 320 := Nat.div_le_self _ _
    have h6 : wrap64 ((320 / p : Nat) : Int) = ((320 / p : Nat) : Int) := wrapn _ (Nat.lt_of_le_of_lt h5 (by decide))
    have h7 : 320 / p ≤ 281474976710656 := Nat.le_trans h5 (by decide)
    rw [if_neg hp0, h4, h2, h6, if_pos rfl, if_pos (Int.natCast_nonneg _), Int.toNat_natCast, if_pos h7]
    exact bytes_l p L m hp1 hL hf (320 / p) h5 h2 h3 L.length K 0 _ (Nat.zero_add _) hKL (List.length_replicate ..) (fun j hj => by rw [g_rep]; rfl)

end Go.Proofs.Ytflmdnjcniidgaa.Pure
