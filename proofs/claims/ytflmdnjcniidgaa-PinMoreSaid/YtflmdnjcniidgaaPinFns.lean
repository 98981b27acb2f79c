/- What the printed functions of package pin, and the blocks that its laws make, come to, in plain words on lists. -/
import Derived.Test.YtflmdnjcniidgaaBits
import Derived.Test.YtflmdnjcniidgaaPPin2x
import Derived.OpenShut
set_option linter.unusedVariables false
set_option linter.unusedSimpArgs false
namespace Go.Proofs.Ytflmdnjcniidgaa.PF
open Go.RowKit Go.Proofs.Ytflmdnjcniidgaa.PPin2 Go.Proofs.YtflmdnjcniidgaaW.PrintWords Go.Proofs.YtflmdnjcniidgaaW.PrintLast Go.Proofs.YtflmdnjcniidgaaW.PrintMore Go.Proofs.Ytflmdnjcniidgaa.Bt

theorem wrapi_in {n : Int} (h0 : -9223372036854775808 ≤ n) (h1 : n ≤ 9223372036854775807) : wrap64 n = n := by unfold wrap64; omega
theorem wrapn (n : Nat) (h : n < 1000000) : wrap64 (n : Int) = (n : Int) := wrapi_in (by omega) (by omega)
theorem wrap1 (i : Nat) (h : i < 1000000) : wrap64 ((i : Int) + 1) = ((i + 1 : Nat) : Int) := by unfold wrap64; omega
theorem wadd (a b : Nat) (h : a + b < 1000000) : wrap64 ((a : Int) + (b : Int)) = ((a + b : Nat) : Int) := by rw [wrapi_in (by omega) (by omega)]; omega
theorem wsub1 (a : Nat) (h : a < 1000000) (h1 : 1 ≤ a) : wrap64 ((a : Int) - 1) = ((a - 1 : Nat) : Int) := by rw [wrapi_in (by omega) (by omega)]; omega
theorem tdiv_n (a b : Nat) (h : a < 1000000) : wrap64 (Int.tdiv (a : Int) (b : Int)) = ((a / b : Nat) : Int) := by
  have h1 : Int.tdiv (a : Int) (b : Int) = ((a / b : Nat) : Int) := rfl
  have h2 : a / b ≤ a := Nat.div_le_self _ _
  rw [h1]
  exact wrapn _ (by omega)
/-- the bool at a place -/
def g (l : List Bool) (i : Nat) : Bool := l.getD i false
theorem rd_g (l : List Bool) (i : Nat) : rdOf false l (i : Int) = g l i := by unfold rdOf g; rw [Int.toNat_natCast]
theorem g_set (l : List Bool) (i j : Nat) (v : Bool) (hi : i < l.length) : g (l.set i v) j = if j = i then v else g l j := by
  unfold g
  rw [List.getD_eq_getElem?_getD, List.getD_eq_getElem?_getD, List.getElem?_set]
  by_cases h : i = j
  · subst h; simp [hi]
  · simp [h, show ¬ j = i from fun e => h e.symm]
theorem g_rep (n j : Nat) : g (List.replicate n false) j = false := by
  unfold g
  rw [List.getD_eq_getElem?_getD, List.getElem?_replicate]
  split <;> rfl
theorem count_l (l : List Bool) (hl : l.length < 1000000) (d : Nat) : ∀ k i : Nat, i + d = l.length → d < k → pin_Count.l0 k ((cnt (g l) i : Nat) : Int) l (l.length : Int) (i : Int) = some ((cnt (g l) l.length : Nat) : Int) := by
  induction d with
  | zero =>
    intro k i hi hk
    obtain ⟨k, rfl⟩ : ∃ m, k = m + 1 := ⟨k - 1, by omega⟩
    simp only [pin_Count.l0]
    rw [if_neg (by omega), show i = l.length by omega]
  | succ d ih =>
    intro k i hi hk
    obtain ⟨k, rfl⟩ : ∃ m, k = m + 1 := ⟨k - 1, by omega⟩
    have hc := cnt_le (g l) i
    simp only [pin_Count.l0]
    rw [if_pos (by omega), if_pos (by omega), if_pos (by omega), rd_g, wrap1 i (by omega), wrap1 _ (by omega)]
    have := ih k (i + 1) (by omega) (by omega)
    rw [cnt_step] at this
    cases h : g l i with
    | true => rw [h] at this; rw [if_pos rfl]; exact this
    | false => rw [h] at this; rw [if_neg (by decide)]; exact this
theorem count (l : List Bool) (hl : l.length < 1000000) (k : Nat) (hk : l.length < k) : pin_Count.f k l = some ((cnt (g l) l.length : Nat) : Int) :=
  count_l l hl l.length k 0 (by omega) hk

/-- a block: where, how much -/
def blk (q : Nat × Nat) : S48 := ⟨(q.1 : Int), (q.2 : Int), 0⟩
/-- blocks as the laws make them -/
def Fine (q : Nat × Nat) : Prop := q.1 ≤ 255 ∧ 1 ≤ q.2 ∧ q.2 ≤ 40
/-- does block q lie in page j? -/
def hit (p : Nat) (q : Nat × Nat) (j : Nat) : Bool := decide (q.1 / p ≤ j) && decide (j ≤ (q.1 + q.2 - 1) / p)
/-- does one of them? -/
def metB (p : Nat) (L : List (Nat × Nat)) (j : Nat) : Bool := L.any fun q => hit p q j
/-- what Blocks makes of numbers -/
def pair (x : S54) : Nat × Nat := (x.f0.toNat, 1 + x.f1.toNat % 40)
theorem rd54 (l : List S54) (i : Nat) (h : i < l.length) : rd_T54 l (i : Int) = l[i] := by
  unfold rd_T54
  rw [Int.toNat_natCast, List.getD_eq_getElem?_getD, List.getElem?_eq_getElem h]
  rfl
theorem rd48 (L : List (Nat × Nat)) (i : Nat) (h : i < L.length) : rd_T48 (L.map blk) (i : Int) = blk L[i] := by
  unfold rd_T48
  rw [Int.toNat_natCast, List.getD_eq_getElem?_getD, List.getElem?_map, List.getElem?_eq_getElem h]
  rfl
theorem elem54 (x : S54) (h0 : (Lit.int .u8 x.f0).wf = true) (h1 : (Lit.int .u8 x.f1).wf = true) : (⟨wrap64 x.f0, wrap64 (1 + wrap64 (Int.tmod x.f1 40)), 0⟩ : S48) = blk (pair x) ∧ Fine (pair x) := by
  have b0 := bounds_u8 h0
  have b1 := bounds_u8 h1
  obtain ⟨f0, f1⟩ := x
  simp only at *
  obtain ⟨a, rfl⟩ := Int.eq_ofNat_of_zero_le b0.1
  obtain ⟨c, rfl⟩ := Int.eq_ofNat_of_zero_le b1.1
  have hm := Nat.mod_lt c (show 40 > 0 by omega)
  have ht : Int.tmod (c : Int) 40 = ((c % 40 : Nat) : Int) := rfl
  unfold pair blk Fine
  simp only [Int.toNat_natCast]
  rw [ht]
  clear ht h0 h1
  generalize c % 40 = m at *
  rw [wrapn a (by omega), wrapn m (by omega), show (1 : Int) + (m : Int) = ((1 + m : Nat) : Int) by omega, wrapn (1 + m) (by omega)]
  exact ⟨rfl, by omega, by omega, by omega⟩
theorem blocks_l (l : List S54) (hl : l.length ≤ 10) (hw : ∀ x ∈ l, (Lit.int .u8 x.f0).wf = true ∧ (Lit.int .u8 x.f1).wf = true) (d : Nat) : ∀ (k i : Nat) (o : List S48), i + d = l.length → d < k → o = ((l.take i).map pair).map blk →
    hodmanlaw12_Blocks.l0 k l o (i : Int) = some ((l.map pair).map blk) := by
  induction d with
  | zero =>
    intro k i o hi hk ho
    obtain ⟨k, rfl⟩ : ∃ m, k = m + 1 := ⟨k - 1, by omega⟩
    simp only [hodmanlaw12_Blocks.l0]
    rw [if_neg (by omega), ho, List.take_of_length_le (by omega)]
  | succ d ih =>
    intro k i o hi hk ho
    obtain ⟨k, rfl⟩ : ∃ m, k = m + 1 := ⟨k - 1, by omega⟩
    have hlt : i < l.length := by omega
    have hx := hw l[i] (List.getElem_mem hlt)
    have hol : o.length = i := by rw [ho]; simp; omega
    simp only [hodmanlaw12_Blocks.l0]
    rw [if_pos (by omega), if_pos (by omega), if_pos (by omega), wrap1 i (by omega), rd54 l i hlt, (elem54 _ hx.1 hx.2).1]
    refine ih k (i + 1) _ (by omega) (by omega) ?_
    rw [ho, List.take_succ_eq_append_getElem hlt, List.map_append, List.map_append]
    rfl
theorem blocks (l : List S54) (hl : l.length ≤ 10) (hw : ∀ x ∈ l, (Lit.int .u8 x.f0).wf = true ∧ (Lit.int .u8 x.f1).wf = true) (k : Nat) (hk : 11 ≤ k) : hodmanlaw12_Blocks.f k l = some ((l.map pair).map blk) :=
  blocks_l l hl hw l.length k 0 [] (by omega) (by omega) rfl
theorem pairs_fine (l : List S54) (hw : ∀ x ∈ l, (Lit.int .u8 x.f0).wf = true ∧ (Lit.int .u8 x.f1).wf = true) : ∀ q ∈ l.map pair, Fine q := by
  intro q hq
  obtain ⟨x, hx, rfl⟩ := List.mem_map.1 hq
  exact (elem54 x (hw x hx).1 (hw x hx).2).2

theorem pages (p a n : Nat) (hp : 1 ≤ p) (ha : a < 1000) (hn : 1 ≤ n) (hn2 : n < 1000) (k : Nat) (hk : 2 ≤ k) : pin_Pages.f k (p : Int) (a : Int) (n : Int) = some (((a / p : Nat) : Int), (((a + n - 1) / p + 1 : Nat) : Int)) := by
  obtain ⟨k, rfl⟩ : ∃ m, k = m + 1 := ⟨k - 1, by omega⟩
  have h2 : (a + n - 1) / p ≤ a + n - 1 := Nat.div_le_self _ _
  have w1 : wrap64 ((n : Int) - 1) = ((n - 1 : Nat) : Int) := by rw [wrapi_in (by omega) (by omega)]; omega
  have w2 : wrap64 (9223372036854775807 - (a : Int)) = 9223372036854775807 - (a : Int) := wrapi_in (by omega) (by omega)
  have w3 : wrap64 ((a : Int) + (n : Int)) = ((a + n : Nat) : Int) := by rw [wrapi_in (by omega) (by omega)]; omega
  have w4 : wrap64 (((a + n : Nat) : Int) - 1) = ((a + n - 1 : Nat) : Int) := by rw [wrapi_in (by omega) (by omega)]; omega
  unfold pin_Pages.f
  rw [if_neg (by omega), if_neg (by omega), pin_Pages.j0.eq_2, if_neg (by simp), if_neg (by omega), if_neg (by omega), w1, w2, if_pos (by omega), w3, w4, tdiv_n a p (by omega), tdiv_n _ p (by omega)]
  clear w1 w2 w3 w4
  generalize (a + n - 1) / p = q at *
  rw [wrap1 q (by omega)]

/-- the pages of one block, marked one by one -/
theorem met_in (p : Nat) (L : List (Nat × Nat)) (i e hi : Nat) (hp : 1 ≤ p) (he1 : 1 ≤ e) (he : e ≤ 320) (hhi : hi = (e - 1) / p) (d : Nat) : ∀ (k j : Nat) (x : List Bool), x.length = 320 / p → j + d = hi + 1 → d ≤ k →
    ∃ (y : List Bool) (k' : Nat), pin_Met.l1 (k + 1) (p : Int) 320 x (e : Int) (j : Int) (L.map blk) (L.length : Int) (i : Int) = pin_Met.l0 k' (p : Int) 320 y (L.map blk) (L.length : Int) (wrap64 ((i : Int) + 1)) ∧ k ≤ k' + d ∧ y.length = 320 / p ∧ ∀ m, m < 320 / p → g y m = (g x m || (decide (j ≤ m) && decide (m ≤ hi))) := by
  have hle : hi ≤ 319 := by
    have := Nat.div_le_self (e - 1) p
    omega
  have hn : 320 / p ≤ 320 := Nat.div_le_self _ _
  have w1 : wrap64 ((e : Int) - 1) = ((e - 1 : Nat) : Int) := by rw [wrapi_in (by omega) (by omega)]; omega
  have w2 : wrap64 (Int.tdiv ((e - 1 : Nat) : Int) (p : Int)) = (hi : Int) := by rw [tdiv_n _ p (by omega), hhi]
  generalize 320 / p = N at *
  clear hhi
  induction d with
  | zero =>
    intro k j x hx hj hk
    refine ⟨x, k, ?_, by omega, hx, fun m hm => ?_⟩
    · rw [pin_Met.l1.eq_2, if_neg (by omega), w1, w2, if_neg (by omega)]
    · have : (decide (j ≤ m) && decide (m ≤ hi)) = false := by simp; omega
      rw [this, Bool.or_false]
  | succ d ih =>
    intro k j x hx hj hk
    obtain ⟨k, rfl⟩ : ∃ m, k = m + 1 := ⟨k - 1, by omega⟩
    rw [pin_Met.l1.eq_2, if_neg (by omega), w1, w2, if_pos (by omega)]
    by_cases h : j < x.length
    · rw [if_pos (by omega), if_pos (by omega), Int.toNat_natCast, wrap1 j (by omega)]
      obtain ⟨y, k', h1, h2, h3, h4⟩ := ih k (j + 1) (x.set j true) (by rw [List.length_set]; exact hx) (by omega) (by omega)
      refine ⟨y, k', h1, by omega, h3, fun m hm => ?_⟩
      rw [h4 m hm, g_set _ _ _ _ h]
      by_cases e1 : m = j
      · subst e1
        have : (decide (m ≤ m) && decide (m ≤ hi)) = true := by simp; omega
        rw [if_pos rfl, this]
        simp
      · rw [if_neg e1]
        have : (decide (j + 1 ≤ m)) = decide (j ≤ m) := by simp; omega
        rw [this]
    · rw [if_neg (by omega)]
      refine ⟨x, k + 1, rfl, by omega, hx, fun m hm => ?_⟩
      have : (decide (j ≤ m) && decide (m ≤ hi)) = false := by simp; omega
      rw [this, Bool.or_false]

theorem le319 {p m : Nat} (hp : 1 ≤ p) (h : m < 320 / p) : m ≤ 319 / p := by
  rw [Nat.le_div_iff_mul_le (by omega)]
  have h1 : m + 1 ≤ 320 / p := h
  rw [Nat.le_div_iff_mul_le (by omega), Nat.succ_mul] at h1
  omega
/-- one block's end, and where its pages begin -/
theorem met_begin (p : Nat) (L : List (Nat × Nat)) (i a c : Nat) (hp : 1 ≤ p) (hL : L.length ≤ 11) (f1 : a ≤ 255) (f2 : 1 ≤ c) (f3 : c ≤ 40) (hlt : i < L.length) (hrd : rd_T48 (L.map blk) (i : Int) = blk (a, c)) (k : Nat) (x : List Bool) :
    pin_Met.l0 (k + 5) (p : Int) 320 x (L.map blk) (L.length : Int) (i : Int) = pin_Met.l1 (k + 1) (p : Int) 320 x ((min (a + c) 320 : Nat) : Int) ((a / p : Nat) : Int) (L.map blk) (L.length : Int) (i : Int) := by
  have hlen : (L.map blk).length = L.length := List.length_map ..
  have hw : wrap64 (320 - (a : Int)) = 320 - (a : Int) := wrapi_in (by omega) (by omega)
  have hmx : mx (a : Int) 0 = (a : Int) := by unfold mx; split <;> omega
  have hac : wrap64 ((a : Int) + (c : Int)) = ((a + c : Nat) : Int) := by rw [wrapi_in (by omega) (by omega)]; omega
  have hmn : mn ((a + c : Nat) : Int) 320 = ((min (a + c) 320 : Nat) : Int) := by unfold mn; split <;> omega
  have ha := tdiv_n a p (by omega)
  have hc1 : ¬ (c : Int) < 1 := by omega
  have hp0 : ¬ (p : Int) = 0 := by omega
  have hi0 : (i : Int) < (L.length : Int) := by omega
  have hi1 : (0 : Int) ≤ (i : Int) := by omega
  have hd : decide ((a : Int) ≥ ((min (a + c) 320 : Nat) : Int)) = false := decide_eq_false (by omega)
  have hd0 : decide ((a : Int) < 0) = false := decide_eq_false (by omega)
  have h3 : ∀ e : Int, decide ((a : Int) ≥ e) = false → pin_Met.j3 (k + 3) (p : Int) 320 x (a : Int) e (L.map blk) (L.length : Int) (i : Int) (a : Int) (c : Int) 0 = pin_Met.l1 (k + 1) (p : Int) 320 x e ((a / p : Nat) : Int) (L.map blk) (L.length : Int) (i : Int) := by
    intro e he
    rw [pin_Met.j3.eq_2, if_neg hc1, he, pin_Met.j4.eq_2, if_neg (by decide), if_neg hp0, ha]
  have f0 : (blk (a, c)).f0 = (a : Int) := rfl
  have f1' : (blk (a, c)).f1 = (c : Int) := rfl
  have f2' : (blk (a, c)).f2 = 0 := rfl
  rw [pin_Met.l0.eq_2, if_pos hi0, if_pos hi1, hlen, if_pos hi0, hrd, f0, f1', f2', hw, hmx]
  clear hw hmx ha
  by_cases h : a + c < 320
  · have hlt2 : (c : Int) < 320 - (a : Int) := by omega
    rw [if_pos hlt2, pin_Met.j2.eq_2, if_pos rfl, hac, hmn]
    exact h3 _ hd
  · have hlt2 : ¬ (c : Int) < 320 - (a : Int) := by omega
    have hm : min (a + c) 320 = 320 := by omega
    rw [hm] at hd ⊢
    rw [if_neg hlt2, hd0, pin_Met.j2.eq_2, if_neg (by decide)]
    exact h3 _ hd
/-- one block's pages -/
theorem met_step (p : Nat) (L : List (Nat × Nat)) (i a c : Nat) (hp : 1 ≤ p) (hL : L.length ≤ 11) (f1 : a ≤ 255) (f2 : 1 ≤ c) (f3 : c ≤ 40) (hlt : i < L.length) (hrd : rd_T48 (L.map blk) (i : Int) = blk (a, c)) (k : Nat) (x : List Bool) (hx : x.length = 320 / p) (hk : 330 ≤ k) :
    ∃ (y : List Bool) (k' : Nat), pin_Met.l0 (k + 5) (p : Int) 320 x (L.map blk) (L.length : Int) (i : Int) = pin_Met.l0 k' (p : Int) 320 y (L.map blk) (L.length : Int) ((i + 1 : Nat) : Int) ∧ k ≤ k' + 330 ∧ y.length = 320 / p ∧ ∀ m, m < 320 / p → g y m = (g x m || hit p (a, c) m) := by
  have key := met_begin p L i a c hp hL f1 f2 f3 hlt hrd k x
  have hi1 := wrap1 i (by omega)
  clear hrd
  obtain ⟨e, he⟩ : ∃ e, e = min (a + c) 320 := ⟨_, rfl⟩
  rw [← he] at key
  have hle : (e - 1) / p ≤ 319 := by
    have := Nat.div_le_self (e - 1) p
    omega
  have hmono : a / p ≤ (e - 1) / p := Nat.div_le_div_right (by omega)
  have hd : a / p + ((e - 1) / p + 1 - a / p) = (e - 1) / p + 1 := by omega
  have hd2 : (e - 1) / p + 1 - a / p ≤ 330 := Nat.le_trans (Nat.sub_le _ _) (Nat.le_trans (Nat.succ_le_succ hle) (by decide))
  obtain ⟨y, k', h1, h2, h3, h4⟩ := met_in p L i e ((e - 1) / p) hp (by omega) (by omega) rfl _ k (a / p) x hx hd (Nat.le_trans hd2 hk)
  refine ⟨y, k', key.trans (h1.trans (by rw [hi1])), Nat.le_trans h2 (Nat.add_le_add_left hd2 _), h3, fun m hm => ?_⟩
  rw [h4 m hm]
  congr 1
  unfold hit
  simp only
  congr 1
  by_cases h : a + c ≤ 320
  · rw [he, Nat.min_eq_left h]
  · rw [he, Nat.min_eq_right (by omega)]
    have h5 := le319 hp hm
    have h6 : 319 / p ≤ (a + c - 1) / p := Nat.div_le_div_right (by omega)
    have h7 : m ≤ (a + c - 1) / p := Nat.le_trans h5 h6
    rw [decide_eq_true h7]
    exact decide_eq_true h5

/-- every page of every block -/
theorem met_l (p : Nat) (L : List (Nat × Nat)) (hp : 1 ≤ p) (hL : L.length ≤ 11) (hf : ∀ q ∈ L, Fine q) (d : Nat) : ∀ (k i : Nat) (x : List Bool), i + d = L.length → 400 * d + 2 ≤ k → x.length = 320 / p → (∀ m, m < 320 / p → g x m = metB p (L.take i) m) →
    ∃ y, pin_Met.l0 k (p : Int) 320 x (L.map blk) (L.length : Int) (i : Int) = some y ∧ y.length = 320 / p ∧ ∀ m, m < 320 / p → g y m = metB p L m := by
  induction d with
  | zero =>
    intro k i x hi hk hx hb
    obtain ⟨k, rfl⟩ : ∃ m, k = m + 1 := ⟨k - 1, by omega⟩
    refine ⟨x, ?_, hx, fun m hm => ?_⟩
    · rw [pin_Met.l0.eq_2, if_neg (by omega)]
    · rw [hb m hm, List.take_of_length_le (by omega)]
  | succ d ih =>
    intro k i x hi hk hx hb
    obtain ⟨k, rfl⟩ : ∃ m, k = m + 5 := ⟨k - 5, by omega⟩
    have hlt : i < L.length := by omega
    have hfi := hf L[i] (List.getElem_mem hlt)
    have htk : L.take (i + 1) = L.take i ++ [L[i]] := List.take_succ_eq_append_getElem hlt
    have hrd := rd48 L i hlt
    obtain ⟨q, hq⟩ : ∃ q, L[i] = q := ⟨_, rfl⟩
    rw [hq] at hfi htk hrd
    obtain ⟨a, c⟩ := q
    obtain ⟨f1, f2, f3⟩ := hfi
    simp only at f1 f2 f3
    have hbk : ∀ m, metB p (L.take (i + 1)) m = (metB p (L.take i) m || hit p (a, c) m) := fun m => by
      rw [htk]
      unfold metB
      simp
    have step := met_step p L i a c hp hL f1 f2 f3 hlt hrd k x hx
    obtain ⟨y, k', h1, h2, h3, h4⟩ := step (by omega)
    obtain ⟨z, z1, z2, z3⟩ := ih k' (i + 1) y (by omega) (by omega) h3 (fun m hm => by rw [h4 m hm, hb m hm, hbk m])
    exact ⟨z, h1.trans z1, z2, z3⟩
theorem met (p : Nat) (L : List (Nat × Nat)) (hp : 1 ≤ p) (hp2 : p ≤ 40) (hL : L.length ≤ 11) (hf : ∀ q ∈ L, Fine q) (k : Nat) (hk : 5000 ≤ k) :
    ∃ y, pin_Met.f k (p : Int) 320 (L.map blk) = some y ∧ y.length = 320 / p ∧ ∀ m, m < 320 / p → g y m = metB p L m := by
  obtain ⟨k, rfl⟩ : ∃ m, k = m + 1 := ⟨k - 1, by omega⟩
  have h1 : wrap64 (Int.tdiv (320 : Int) (p : Int)) = ((320 / p : Nat) : Int) := tdiv_n 320 p (by omega)
  have h2 : 320 / p ≤ 320 := Nat.div_le_self _ _
  have h3 : 8 ≤ 320 / p := (Nat.le_div_iff_mul_le (by omega)).2 (by omega)
  obtain ⟨y, y1, y2, y3⟩ := met_l p L hp hL hf L.length k 0 (List.replicate (320 / p) false) (by omega) (by omega) (by simp) (fun m hm => by rw [g_rep]; rfl)
  refine ⟨y, ?_, y2, y3⟩
  unfold pin_Met.f
  rw [if_neg (by omega), if_neg (by decide), if_neg (by decide), if_neg (by omega), h1]
  have hb : (((320 / p : Nat) : Int) == 0) = false := beq_eq_false_iff_ne.mpr (fun h => by
    have := Int.ofNat_inj.1 h
    omega)
  rw [hb, pin_Met.j0.eq_2, if_neg (by decide), if_neg (by omega), h1, if_pos (Int.natCast_nonneg _), Int.toNat_natCast, if_pos (by omega), List.length_map]
  exact y1

end Go.Proofs.Ytflmdnjcniidgaa.PF
