/- The trees that the statements speak of: what Made, SetTree and Tree make, in plain words on bits. -/
import Derived.Test.YtgbkdmcbdilgaaaRankSFns
import Derived.Test.YtgbkdmcbdilgaaaPRankSx5
import Derived.Test.YtgbkdmcbdilgaaaPRankSx7
import Derived.Test.YtgbkdmcbdilgaaaPRankSx9
set_option linter.unusedVariables false
set_option linter.unusedSimpArgs false
namespace Go.Proofs.Ytgbkdmcbdilgaaa.KTS
open Go.RowKit Go.Proofs.Ytgbkdmcbdilgaaa Go.Proofs.Ytgbkdmcbdilgaaa.PRankS Go.Proofs.YtgbkdmcbdilgaaaW.PrintWords Go.Proofs.YtgbkdmcbdilgaaaW.PrintLast Go.Proofs.YtgbkdmcbdilgaaaW.PrintMore Go.Proofs.Ytgbkdmcbdilgaaa.Bt Go.Proofs.Ytgbkdmcbdilgaaa.KWS Go.Proofs.Ytgbkdmcbdilgaaa.KFS

/-! ### Made -/
theorem W_set (us : List Nat) (i v : Nat) : (W us).set i (v : Int) = W (us.set i v) := by
  unfold W
  rw [List.map_set]
theorem fill_W (b : List Bool) (n : Nat) (hn : n ≤ 2000) (i : Nat) (hi : i ≤ 64 * n) : ∃ us : List Nat, fillTo b (List.replicate n 0) i = W us ∧ Fine us ∧ us.length = n ∧ ∀ j, j < 64 * n → B us j = (decide (j < i) && b.getD j true) := by
  induction i with
  | zero =>
    refine ⟨List.replicate n 0, by unfold W; rw [List.map_replicate]; rfl, fun u hu => by rw [List.eq_of_mem_replicate hu]; decide, List.length_replicate, fun j hj => ?_⟩
    unfold B
    rw [List.getD_eq_getElem?_getD, List.getElem?_replicate, if_pos (by omega)]
    simp
  | succ i ih =>
    obtain ⟨us, he, hF, hl, hb⟩ := ih (by omega)
    by_cases hv : b.getD i true = true
    · have hfo := fill_on b (List.replicate n 0) i (i / 64) (i % 64) _ rfl rfl rfl hv
      have hlt : 2 ^ (i % 64) < 2 ^ 64 := Nat.pow_lt_pow_right (by decide) (by omega)
      have hsh : shl .u64 1 ((i % 64 : Nat) : Int) = ((2 ^ (i % 64) : Nat) : Int) := by
        have h1 := shl_nat 1 (i % 64) (by omega)
        rw [Nat.one_mul, Nat.mod_eq_of_lt hlt] at h1
        exact h1
      have hor : us.getD (i / 64) 0 ||| 2 ^ (i % 64) < 2 ^ 64 := Nat.or_lt_two_pow (hF.at _) hlt
      refine ⟨us.set (i / 64) (us.getD (i / 64) 0 ||| 2 ^ (i % 64)), ?_, fun u hu => ?_, by rw [List.length_set]; exact hl, fun j hj => ?_⟩
      · rw [hfo, he, rd_W us (i / 64) (by omega), hsh, or_ (hF.at _) hlt, W_set]
      · rcases List.mem_or_eq_of_mem_set hu with h1 | h1
        · exact hF u h1
        · rw [h1]; exact hor
      · have hold := hb j hj
        unfold B at hold ⊢
        rw [List.getD_eq_getElem?_getD, List.getElem?_set]
        by_cases h1 : i / 64 = j / 64
        · rw [if_pos h1, if_pos (by omega)]
          show (us.getD (i / 64) 0 ||| 2 ^ (i % 64)).testBit (j % 64) = _
          rw [Nat.testBit_or, h1, hold, Nat.testBit_two_pow]
          by_cases h2 : i = j
          · subst h2
            rw [hv, decide_eq_true rfl, decide_eq_true (show i < i + 1 by omega), Bool.or_true]
            rfl
          · rw [decide_eq_false (show ¬ i % 64 = j % 64 by omega), Bool.or_false]
            congr 1
            rw [decide_eq_decide]
            omega
        · rw [if_neg h1, ← List.getD_eq_getElem?_getD, hold]
          congr 1
          rw [decide_eq_decide]
          omega
    · have hv2 : b.getD i true = false := by simpa using hv
      refine ⟨us, by rw [fill_off b _ i hv2]; exact he, hF, hl, fun j hj => ?_⟩
      rw [hb j hj]
      by_cases h2 : j = i
      · subst h2
        rw [hv2, Bool.and_false, Bool.and_false]
      · congr 1
        rw [decide_eq_decide]
        omega
/-- few levels, none too long -/
def Small (l : List (List Int)) : Prop := l.length ≤ 10 ∧ ∀ x ∈ l, x.length ≤ 100000
theorem made_some (k : Nat) : ∀ (b : List Bool) (lv : List (List Int)), 1 ≤ b.length → b.length ≤ 64 ^ (k + 1) → b.length ≤ 6000 → ∃ rest, made_l (k + 1) b lv = some (lv ++ fillTo b (List.replicate ((b.length + 63) / 64) 0) (64 * ((b.length + 63) / 64)) :: rest) ∧ rest.length ≤ k ∧ ∀ x ∈ rest, x.length ≤ 100000 := by
  induction k with
  | zero =>
    intro b lv h1 h2 h3
    rw [made_step 0 b lv _ rfl, if_pos (by omega)]
    exact ⟨[], rfl, Nat.le_refl _, fun x hx => by cases hx⟩
  | succ k ih =>
    intro b lv h1 h2 h3
    rw [made_step (k + 1) b lv _ rfl]
    by_cases h : (b.length + 63) / 64 = 1
    · rw [if_pos h]
      exact ⟨[], rfl, Nat.zero_le _, fun x hx => by cases hx⟩
    · rw [if_neg h]
      have hl : (fullTo (fillTo b (List.replicate ((b.length + 63) / 64) 0) (64 * ((b.length + 63) / 64))) ((b.length + 63) / 64)).length = (b.length + 63) / 64 := by rw [fullTo_len, fillTo_len, List.length_replicate]
      have hp : 64 ^ (k + 1 + 1) = 64 * 64 ^ (k + 1) := by rw [Nat.pow_succ, Nat.mul_comm]
      obtain ⟨rest, hr, hr1, hr2⟩ := ih (fullTo (fillTo b (List.replicate ((b.length + 63) / 64) 0) (64 * ((b.length + 63) / 64))) ((b.length + 63) / 64)) (lv ++ [fillTo b (List.replicate ((b.length + 63) / 64) 0) (64 * ((b.length + 63) / 64))]) (by rw [hl]; omega) (by rw [hl]; omega) (by rw [hl]; omega)
      rw [hr, List.append_assoc]
      refine ⟨_ :: rest, rfl, by rw [List.length_cons]; omega, fun x hx => ?_⟩
      rcases List.mem_cons.1 hx with rfl | hx
      · rw [fillTo_len, List.length_replicate, hl]
        omega
      · exact hr2 x hx
/-- a tree of so many bits -/
def Tree (s : Nat) (p : Nat → Bool) (t : Int × List (List Int)) : Prop := ∃ us rest, t = ((s : Int), W us :: rest) ∧ Fine us ∧ us.length = (s + 63) / 64 ∧ Small rest ∧ ∀ j, j < s → B us j = p j
theorem made_ (s : Nat) (h1 : 1 ≤ s) (hs : s ≤ 5000) (b : List Bool) (hb : b.length = s) : ∃ t, hodmanref3_Made.f (s : Int) b = some t ∧ Tree s (fun j => b.getD j false) t := by
  obtain ⟨rest, hr, hr1, hr2⟩ := made_some 5 b [] (by omega) (by rw [hb]; exact Nat.le_trans hs (by decide)) (by omega)
  obtain ⟨us, he, hF, hl, hbb⟩ := fill_W b ((b.length + 63) / 64) (by omega) (64 * ((b.length + 63) / 64)) (Nat.le_refl _)
  rw [List.nil_append, he] at hr
  refine ⟨((s : Int), W us :: rest), ?_, us, rest, rfl, hF, by rw [hl, hb], ⟨by omega, hr2⟩, fun j hj => ?_⟩
  · unfold hodmanref3_Made.f
    rw [if_neg (by omega), if_neg (by omega), if_neg (by omega), if_neg (by omega), hr]
    rfl
  · show B us j = b.getD j false
    rw [hbb j (by omega), decide_eq_true (by omega), Bool.true_and, List.getD_eq_getElem?_getD, List.getD_eq_getElem?_getD, List.getElem?_eq_getElem (show j < b.length by omega)]
    rfl

/-! ### SetTree -/
theorem set_l (s : Nat) (hs : s ≤ 5000) (f n : Nat) (hf : f ≤ 1000000) (hn : n ≤ 1000000) (on : Bool) (x0 : Int) (x1 : List (List Int)) (d : Nat) : ∀ (k i : Nat) (b : List Bool), i + d = s → d < k → b.length = s →
    ∃ c : List Bool, c.length = s ∧ (∀ j, j < s → c.getD j false = if i ≤ j ∧ f ≤ j ∧ j < f + n then on else b.getD j false) ∧ hodmanref3_SetTree.l0 k (f : Int) (n : Int) on b (i : Int) x0 x1 = (hodmanref3_Made.f x0 c).bind fun bt => some (bt.1, bt.2) := by
  induction d with
  | zero =>
    intro k i b hi hk hb
    obtain ⟨k, rfl⟩ : ∃ m, k = m + 1 := ⟨k - 1, by omega⟩
    exact ⟨b, hb, fun j hj => by rw [if_neg (by omega)], by rw [hodmanref3_SetTree.l0.eq_2, if_neg (by omega)]⟩
  | succ d ih =>
    intro k i b hi hk hb
    obtain ⟨k, rfl⟩ : ∃ m, k = m + 1 := ⟨k - 1, by omega⟩
    have hstep : hodmanref3_SetTree.l0 (k + 1) (f : Int) (n : Int) on b (i : Int) x0 x1 = if f ≤ i ∧ i < f + n then hodmanref3_SetTree.l0 k (f : Int) (n : Int) on (b.set i on) ((i + 1 : Nat) : Int) x0 x1 else hodmanref3_SetTree.l0 k (f : Int) (n : Int) on b ((i + 1 : Nat) : Int) x0 x1 := by
      rw [hodmanref3_SetTree.l0.eq_2, if_pos (by omega), if_pos (by omega), if_pos (by omega), show wrap64 ((i : Int) + 1) = ((i + 1 : Nat) : Int) from by unfold wrap64; omega]
      by_cases h1 : f ≤ i
      · rw [if_pos (by omega), show wrap64 ((i : Int) - (f : Int)) = ((i - f : Nat) : Int) from by unfold wrap64; omega]
        by_cases h2 : i < f + n
        · rw [if_pos (by omega), if_pos (by omega), if_pos ⟨h1, h2⟩, Int.toNat_natCast]
        · rw [if_neg (by omega), if_neg (by omega)]
      · rw [if_neg (by omega), if_neg (by omega)]
    rw [hstep]
    by_cases h : f ≤ i ∧ i < f + n
    · obtain ⟨c, hc, hcc, he⟩ := ih k (i + 1) (b.set i on) (by omega) (by omega) (by rw [List.length_set]; exact hb)
      refine ⟨c, hc, fun j hj => ?_, by rw [if_pos h]; exact he⟩
      rw [hcc j hj]
      by_cases h2 : i = j
      · subst h2
        rw [if_neg (by omega), if_pos (by omega), List.getD_eq_getElem?_getD, List.getElem?_set, if_pos rfl, if_pos (by omega)]
        rfl
      · rw [List.getD_eq_getElem?_getD, List.getElem?_set, if_neg h2, ← List.getD_eq_getElem?_getD]
        by_cases h3 : i + 1 ≤ j ∧ f ≤ j ∧ j < f + n
        · rw [if_pos h3, if_pos (by omega)]
        · rw [if_neg h3, if_neg (by omega)]
    · obtain ⟨c, hc, hcc, he⟩ := ih k (i + 1) b (by omega) (by omega) hb
      refine ⟨c, hc, fun j hj => ?_, by rw [if_neg h]; exact he⟩
      rw [hcc j hj]
      by_cases h3 : i + 1 ≤ j ∧ f ≤ j ∧ j < f + n
      · rw [if_pos h3, if_pos (by omega)]
      · rw [if_neg h3, if_neg (by omega)]
theorem bl_getD (us : List Nat) (s j : Nat) (h : j < s) : (bl us s).getD j false = B us j := by
  have := bl_at us s j h
  unfold rdOf at this
  rwa [Int.toNat_natCast] at this
theorem settree_ (s : Nat) (h1 : 1 ≤ s) (hs : s ≤ 5000) (p : Nat → Bool) (t : Int × List (List Int)) (ht : Tree s p t) (f n : Nat) (hf : f ≤ 1000000) (hn : n ≤ 1000000) (on : Bool) (k : Nat) (hk : s < k) :
    ∃ t2, hodmanref3_SetTree.f k t.1 t.2 (f : Int) (n : Int) on = some t2 ∧ Tree s (fun j => if f ≤ j ∧ j < f + n then on else p j) t2 := by
  obtain ⟨us, rest, rfl, hF, hl, hsm, hp⟩ := ht
  unfold hodmanref3_SetTree.f
  rw [bits_ us rest hF (by omega) s (by omega) k hk, Option.bind_some]
  obtain ⟨c, hc, hcc, he⟩ := set_l s hs f n hf hn on (s : Int) (W us :: rest) s k 0 (bl us s) (by omega) hk (bl_len us s)
  obtain ⟨t2, hm, us2, rest2, rfl, hF2, hl2, hsm2, hp2⟩ := made_ s h1 hs c hc
  refine ⟨_, by show hodmanref3_SetTree.l0 k (f : Int) (n : Int) on (bl us s) 0 (s : Int) (W us :: rest) = _; exact he.trans (by rw [hm]; rfl), us2, rest2, rfl, hF2, hl2, hsm2, fun j hj => ?_⟩
  show B us2 j = if f ≤ j ∧ j < f + n then on else p j
  rw [show B us2 j = c.getD j false from hp2 j hj, hcc j hj]
  by_cases h3 : f ≤ j ∧ j < f + n
  · rw [if_pos h3, if_pos ⟨Nat.zero_le _, h3⟩]
  · rw [if_neg h3, if_neg (fun h => h3 h.2), bl_getD us s j hj, hp j hj]

/-! ### the statements' trees -/
theorem num_ (l : List Int) (hw : ∀ x ∈ l, (Lit.int .u8 x).wf = true) (hl : l.length ≤ 1000) (pos m : Nat) (M : Int) (hM : M = (m : Int)) (hp : pos ≤ l.length) (hm1 : 1 ≤ m) (hm : m ≤ 1000) : ∃ v q : Nat, hodmanplay_Picks_Num.f l (pos : Int) M = some ((v : Int), (q : Int)) ∧ v < m ∧ q ≤ l.length := by
  subst hM
  unfold hodmanplay_Picks_Num.f
  by_cases h : (pos : Int) ≥ (l.length : Int)
  · rw [if_pos h]
    exact ⟨0, pos, rfl, hm1, hp⟩
  · have hlt : pos < l.length := by omega
    have hx : rd l (pos : Int) ∈ l := by
      unfold rd
      rw [Int.toNat_natCast, List.getD_eq_getElem?_getD, List.getElem?_eq_getElem hlt]
      exact List.getElem_mem hlt
    have hb := bounds_u8 (hw _ hx)
    obtain ⟨u, hu⟩ : ∃ u : Nat, rd l (pos : Int) = (u : Int) := ⟨(rd l (pos : Int)).toNat, by omega⟩
    rw [if_neg h, if_neg (by omega), show wrap64 ((pos : Int) + 1) = ((pos + 1 : Nat) : Int) from by unfold wrap64; omega, show wrap64 (((pos + 1 : Nat) : Int) - 1) = (pos : Int) from by unfold wrap64; omega, if_pos (by omega), if_pos (by omega), if_neg (by omega), hu, show wrap64 (u : Int) = (u : Int) from by unfold wrap64; omega]
    exact ⟨u % m, pos + 1, rfl, Nat.mod_lt _ hm1, hlt⟩
theorem wrap_mul (a m : Nat) (h : a * m ≤ 6400) : wrap64 ((a : Int) * (m : Int)) = ((a * m : Nat) : Int) := by rw [← Int.natCast_mul]; unfold wrap64; omega
theorem wrap_two (b d : Nat) (hb : b < 200) (hd : d < 5) : wrap64 ((b : Int) + wrap64 ((d : Int) * 64)) = ((b + d * 64 : Nat) : Int) := by unfold wrap64; omega
theorem tree_l (l : List Int) (hw : ∀ x ∈ l, (Lit.int .u8 x).wf = true) (hl : l.length ≤ 1000) (s : Nat) (h1 : 1 ≤ s) (hs : s ≤ 5000) (c : Nat) : ∀ (k pos : Nat) (t : Int × List (List Int)), c ≤ 1000 → pos ≤ l.length → 6000 + c ≤ k → (∃ p, Tree s p t) →
    ∃ t2 q, hodmanplay_Picks_Tree.l0 k (s : Int) (c : Int) l (pos : Int) t.1 t.2 = some (t2.1, t2.2, q) ∧ ∃ p, Tree s p t2 := by
  induction c with
  | zero =>
    intro k pos t hc hp hk ht
    obtain ⟨k, rfl⟩ : ∃ m, k = m + 1 := ⟨k - 1, by omega⟩
    rw [hodmanplay_Picks_Tree.l0.eq_2, if_neg (by omega)]
    exact ⟨t, _, rfl, ht⟩
  | succ c ih =>
    intro k pos t hc hp hk ht
    obtain ⟨k, rfl⟩ : ∃ m, k = m + 1 := ⟨k - 1, by omega⟩
    obtain ⟨p, ht⟩ := ht
    obtain ⟨a, q1, e1, ha, hq1⟩ := num_ l hw hl pos 16 16 rfl hp (by omega) (by omega)
    obtain ⟨b, q2, e2, hb, hq2⟩ := num_ l hw hl q1 200 200 rfl hq1 (by omega) (by omega)
    obtain ⟨d, q3, e3, hd, hq3⟩ := num_ l hw hl q2 5 5 rfl hq2 (by omega) (by omega)
    obtain ⟨g, q4, e4, hg, hq4⟩ := num_ l hw hl q3 3 3 rfl hq3 (by omega) (by omega)
    have hdv : Int.tdiv (s : Int) 16 = ((s / 16 : Nat) : Int) := rfl
    obtain ⟨m, hm, hm2⟩ : ∃ m : Nat, mx (wrap64 (Int.tdiv (s : Int) 16)) 1 = (m : Int) ∧ m ≤ 400 := by
      rw [hdv, show wrap64 ((s / 16 : Nat) : Int) = ((s / 16 : Nat) : Int) from by unfold wrap64; omega]
      unfold mx
      split
      · exact ⟨1, rfl, by omega⟩
      · exact ⟨s / 16, rfl, by omega⟩
    have ham : a * m ≤ 6400 := by
      have := Nat.mul_le_mul (show a ≤ 16 by omega) hm2
      omega
    obtain ⟨f, hf, hf2⟩ : ∃ f : Nat, wrap64 ((a : Int) * (m : Int)) = (f : Int) ∧ f ≤ 1000000 := ⟨a * m, wrap_mul a m ham, by omega⟩
    obtain ⟨n, hn, hn2⟩ : ∃ n : Nat, wrap64 ((b : Int) + wrap64 ((d : Int) * 64)) = (n : Int) ∧ n ≤ 1000000 := ⟨b + d * 64, wrap_two b d hb hd, by omega⟩
    obtain ⟨t2, hset, ht2⟩ := settree_ s h1 hs p t ht f n hf2 hn2 (decide ((g : Int) > 0)) k (by omega)
    obtain ⟨t3, q, he, hp3⟩ := ih k q4 t2 (by omega) hq4 (by omega) ⟨_, ht2⟩
    refine ⟨t3, q, ?_, hp3⟩
    rw [hodmanplay_Picks_Tree.l0.eq_2, if_pos (by omega), e1, Option.bind_some]
    dsimp only
    rw [e2, Option.bind_some]
    dsimp only
    rw [e3, Option.bind_some]
    dsimp only
    rw [e4, Option.bind_some]
    dsimp only
    rw [hm, hf, hn, hset, Option.bind_some, show wrap64 (((c + 1 : Nat) : Int) - 1) = (c : Int) from by unfold wrap64; omega]
    exact he
theorem tree_ (l : List Int) (hw : ∀ x ∈ l, (Lit.int .u8 x).wf = true) (hl : l.length ≤ 1000) (s : Nat) (h1 : 1 ≤ s) (hs : s ≤ 5000) (k : Nat) (hk : 6100 ≤ k) :
    ∃ (us : List Nat) (rest : List (List Int)) (q : Int), hodmanplay_Picks_Tree.f k l 0 (s : Int) = some ((s : Int), W us :: rest, q) ∧ Fine us ∧ us.length = (s + 63) / 64 ∧ Small rest := by
  have hm : mx (s : Int) 0 = (s : Int) := by unfold mx; split <;> omega
  obtain ⟨t, ht, hT⟩ := made_ s h1 hs (List.replicate s false) (List.length_replicate ..)
  obtain ⟨a, q1, e1, ha, hq1⟩ := num_ l hw hl 0 5 5 rfl (Nat.zero_le _) (by omega) (by omega)
  obtain ⟨t2, q, he, p, us, rest, rfl, hF, hu, hsm, hp⟩ := tree_l l hw hl s h1 hs a k q1 t (by omega) hq1 (by omega) ⟨_, hT⟩
  refine ⟨us, rest, q, ?_, hF, hu, hsm⟩
  unfold hodmanplay_Picks_Tree.f
  rw [hm, if_pos (by omega), Int.toNat_natCast, if_pos (by omega), ht, Option.bind_some]
  have e1' : hodmanplay_Picks_Num.f l 0 5 = _ := e1
  rw [e1', Option.bind_some]
  exact he

end Go.Proofs.Ytgbkdmcbdilgaaa.KTS
