/- tree.Set by hand, for one bit that is set: its walk. -/
import Derived.Test.YtgbkdmcbdilgaaaTreeHand6
namespace Go.Proofs.Ytgbkdmcbdilgaaa.PRankS
open Go.RowKit Go.Proofs.YtgbkdmcbdilgaaaW.PrintWords Go.Proofs.YtgbkdmcbdilgaaaW.PrintLast Go.Proofs.YtgbkdmcbdilgaaaW.PrintMore
attribute [local go_sem] max2_int min2_int max_two min_two max_three min_three max_four min_four
set_option linter.unusedVariables false
set_option linter.unusedSimpArgs false

theorem twin_n (size : Int) (A : Option Addr) (c n : Nat) (lv : List (List Int)) (w : World) (hC : Kd.C (Kd.slice 53 (Kd.int .u64)) w A n lv) (hn : lv.length = n) (hc : n ≤ c) (hp : 0 < n) (hm : n ≤ 1000) (hl : ∀ j, (lv.getD j []).length ≤ 100000) :
    Calls Try.prog 43 #[.agg #[.int .i64 size, .slice A n c]] w fun e w' => ∃ g c', e = .returned (.agg #[.int .i64 size, .slice (some ⟨g, 0, none⟩) n c']) ∧ w.heap.size ≤ g ∧ Kd.S (Kd.slice 53 (Kd.int .u64)) 38 w' w.heap.size (fun _ => True) (.slice (some ⟨g, 0, none⟩) n c') lv ∧ Below w.heap.size w w' := by
  subst hn
  refine (tree_twin_calls size A c lv w hC hc hp hm hl).mono ?_
  rintro e w' ⟨v, rfl, hS, hb⟩
  obtain ⟨g, c', rfl, h1, _, _⟩ := Kd.S_form hS hp
  exact ⟨g, c', rfl, h1, hS, hb⟩
/-- the tree's box, the result's, the tree's words -/
def SW (w W : World) (size : Int) (g n c : Nat) (lv : List (List Int)) : Prop :=
  W.heap[w.heap.size]? = some (.cells #[.int .i64 size, .slice (some ⟨g, 0, none⟩) n c] 27 (0, 0)) ∧ W.heap[w.heap.size + 1]? = some (.cells #[.int .i64 0, .slice none 0 0] 27 (0, 0)) ∧ Below w.heap.size w W ∧ lv.length = n ∧ Kd.S (Kd.slice 53 (Kd.int .u64)) 38 W w.heap.size (fun _ => True) (.slice (some ⟨g, 0, none⟩) n c) lv
theorem SW.drewN {w W : World} {size : Int} {g n c : Nat} {lv : List (List Int)} (h : SW w W size g n c lv) (m : Nat) : SW w (W.drewN m) size g n c lv :=
  ⟨blk_drewN h.1 m, blk_drewN h.2.1 m, pw_below_drewN h.2.2.1 m, h.2.2.2.1, Kd.S_drewN h.2.2.2.2 m⟩
theorem SW.below {w W w1 : World} {size : Int} {g n c : Nat} {lv : List (List Int)} (h : SW w W size g n c lv) (hb : Below W.heap.size W w1) : SW w w1 size g n c lv :=
  ⟨blk_below h.1 hb, blk_below h.2.1 hb, below_step h.2.2.1 hb, h.2.2.2.1, Kd.S_below h.2.2.2.2 hb⟩
theorem SW.fr {w W w1 : World} {size : Int} {g n c : Nat} {lv lv1 : List (List Int)} (h : SW w W size g n c lv) (hf : Fr w.heap.size W w1) (hS : Kd.S (Kd.slice 53 (Kd.int .u64)) 38 w1 w.heap.size (fun _ => True) (.slice (some ⟨g, 0, none⟩) n c) lv1) (hl : lv1.length = lv.length) : SW w w1 size g n c lv1 :=
  ⟨hf.2 _ _ h.1, hf.2 _ _ h.2.1, h.2.2.1.trans hf.1, hl.trans h.2.2.2.1, hS⟩
theorem sw_start {w w1 : World} {size : Int} {A : Option Addr} {n0 c0 : Nat} {g n c : Nat} {lv : List (List Int)} (hb : Below ((w.alloc (.cells #[.int .i64 size, .slice A n0 c0] 27)).alloc (.cells #[.int .i64 0, .slice none 0 0] 27)).heap.size ((w.alloc (.cells #[.int .i64 size, .slice A n0 c0] 27)).alloc (.cells #[.int .i64 0, .slice none 0 0] 27)) w1)
    (hS : Kd.S (Kd.slice 53 (Kd.int .u64)) 38 w1 ((w.alloc (.cells #[.int .i64 size, .slice A n0 c0] 27)).alloc (.cells #[.int .i64 0, .slice none 0 0] 27)).heap.size (fun _ => True) (.slice (some ⟨g, 0, none⟩) n c) lv) (hl : lv.length = n) :
    SW w ((w1.setCell ⟨w.heap.size, 0, none⟩ (.int .i64 size)).setCell ⟨w.heap.size, 1, none⟩ (.slice (some ⟨g, 0, none⟩) n c)) size g n c lv ∧ w1.heap[w.heap.size]? = some (.cells #[.int .i64 size, .slice A n0 c0] 27 (0, 0)) := by
  have e1 : (w.alloc (.cells #[.int .i64 size, .slice A n0 c0] 27)).heap.size = w.heap.size + 1 := by simp
  have e2 : ((w.alloc (.cells #[.int .i64 size, .slice A n0 c0] 27)).alloc (.cells #[.int .i64 0, .slice none 0 0] 27)).heap.size = w.heap.size + 2 := by simp
  have h1 := blk_below (blk_alloc (blk_new w (.cells #[.int .i64 size, .slice A n0 c0] 27)) (.cells #[.int .i64 0, .slice none 0 0] 27)) hb
  have h2 := blk_below (blk_new (w.alloc (.cells #[.int .i64 size, .slice A n0 c0] 27)) (.cells #[.int .i64 0, .slice none 0 0] 27)) hb
  rw [e1] at h2
  have hbb : Below w.heap.size w w1 := below_step (((Below.refl w.heap.size w).alloc (Nat.le_refl _) (.cells #[.int .i64 size, .slice A n0 c0] 27)).alloc (by simp) (.cells #[.int .i64 0, .slice none 0 0] 27)) hb
  have hS2 := Kd.S_lower hS (show w.heap.size ≤ _ by rw [e2]; omega)
  obtain ⟨_, _, x3, x4⟩ := tw_result hS2 h1 hbb (Nat.le_refl _) (.int .i64 size) (.slice (some ⟨g, 0, none⟩) n c)
  refine ⟨⟨blk_put (blk_put h1 0 _ rfl) 1 _ rfl, ?_, x4, hl, x3⟩, h1⟩
  exact blk_far (blk_far h2 (p := ⟨w.heap.size, 0, none⟩) (by show w.heap.size + 1 ≠ w.heap.size; omega) _) (p := ⟨w.heap.size, 1, none⟩) (by show w.heap.size + 1 ≠ w.heap.size; omega) _
/-- where the lowest level lies -/
theorem s_head {W : World} {base g n c : Nat} {lv : List (List Int)} (hS : Kd.S (Kd.slice 53 (Kd.int .u64)) 38 W base (fun _ => True) (.slice (some ⟨g, 0, none⟩) n c) lv) (hp : 0 < n) : ∃ A0 c0, W.cell? ⟨g, 0, none⟩ = some (.slice A0 (lv.getD 0 []).length c0) := by
  obtain ⟨oki, cs, hcl, hM, hcell, hoki, hH⟩ := Kd.S_lend hS [] 0 (Int.le_refl _) (by omega)
  obtain ⟨v, rfl, hR⟩ := hM
  obtain ⟨A2, c2, rfl⟩ := Kd.R_slice hR
  exact ⟨A2, c2, hcell 0 _ rfl⟩
theorem tree_at_0 (size : Int) (A : Option Addr) (c n : Nat) (lv : List (List Int)) (i : Nat) (w : World) (base : Nat) (hS : Kd.S (Kd.slice 53 (Kd.int .u64)) 38 w base (fun _ => True) (.slice A n c) lv) (hp : 0 < n) (hi : i < (lv.getD 0 []).length) :
    Calls Try.prog 44 #[.agg #[.int .i64 size, .slice A n c], .int .i64 0, .int .i64 (i : Int)] w fun e w' => e = .returned (.int .u64 (rd (lv.getD 0 []) (i : Int))) ∧ Below w.heap.size w w' := by
  have h := tree_at_w size A c n lv 0 i w base hS
  have hl := (Kd.S_reads' hS).1
  have he : atw lv 0 i = rd (lv.getD 0 []) (i : Int) := by unfold atw; rw [if_pos ⟨by omega, hi⟩]
  rw [he] at h
  exact h
theorem tree_put_0 (size : Int) (A : Option Addr) (c n : Nat) (lv : List (List Int)) (i : Nat) (u : Int) (w : World) (base : Nat) (hS : Kd.S (Kd.slice 53 (Kd.int .u64)) 38 w base (fun _ => True) (.slice A n c) lv) (hk : 0 < n) (hb : base ≤ w.heap.size) (hi : i < (lv.getD 0 []).length) :
    Calls Try.prog 45 #[.agg #[.int .i64 size, .slice A n c], .int .i64 0, .int .i64 (i : Int), .int .u64 u] w fun e w' => e = .returned (.tuple #[]) ∧ Fr base w w' ∧ Kd.S (Kd.slice 53 (Kd.int .u64)) 38 w' base (fun _ => True) (.slice A n c) (lv.set 0 ((lv.getD 0 []).set i u)) := by
  have h := tree_put_w size A c n lv 0 i u w base hS hk hb
  rw [if_pos hi] at h
  exact h
theorem sums_n (size : Int) (A : Option Addr) (c n : Nat) (lv : List (List Int)) (k q : Nat) (w : World) (base : Nat) (hS : Kd.S (Kd.slice 53 (Kd.int .u64)) 38 w base (fun _ => True) (.slice A n c) lv) (hk : k < n) (hk1 : 1 ≤ k) (hkm : n ≤ 1000) (hq : q ≤ 100000) (hb : base ≤ w.heap.size) :
    Calls Try.prog 46 #[.agg #[.int .i64 size, .slice A n c], .int .i64 (k : Int), .int .i64 (q : Int), .int .i64 (q : Int)] w fun e w' => e = .returned (.tuple #[]) ∧ Fr base w w' ∧ ∃ lv', Like lv lv' ∧ Kd.S (Kd.slice 53 (Kd.int .u64)) 38 w' base (fun _ => True) (.slice A n c) lv' := by
  obtain ⟨rfl, h1, h2⟩ := Kd.S_reads' hS
  exact tree_sums_calls size A c lv k q w base hS hk hk1 hkm hq hb
set_option maxHeartbeats 16000000 in
theorem tree_Set_calls (s : Nat) (A : Option Addr) (c n : Nat) (lv : List (List Int)) (f : Nat) (k0 : Nat) (mk : Int) (w : World) (hC : Kd.C (Kd.slice 53 (Kd.int .u64)) w A n lv) (hn : lv.length = n) (hc : n ≤ c) (hp : 0 < n) (hm : n ≤ 1000) (hl : ∀ j, (lv.getD j []).length ≤ 100000) (hf : f < s) (hs : s ≤ 100000) (h0 : f / 64 < (lv.getD 0 []).length) (hmask : word_Mask.f k0 ((f % 64 : Nat) : Int) 1 = some mk) :
    Calls Try.prog 28 #[.agg #[.int .i64 (s : Int), .slice A n c], .int .i64 (f : Int), .int .i64 1, .bool true] w fun e w' => ∃ v lv', e = .returned (.agg #[.int .i64 (s : Int), v]) ∧ lv'.length = n ∧ lv'.getD 0 [] = (lv.getD 0 []).set (f / 64) (Go.bits .or .u64 (Go.bits .andNot .u64 (rd (lv.getD 0 []) ((f / 64 : Nat) : Int)) mk) mk) ∧ Kd.S (Kd.slice 53 (Kd.int .u64)) 38 w' w.heap.size (fun _ => True) v lv' ∧ Below w.heap.size w w' := by
  obtain ⟨q, hq⟩ : ∃ q, q = f / 64 := ⟨_, rfl⟩
  obtain ⟨m, hme⟩ : ∃ m, m = f % 64 := ⟨_, rfl⟩
  rw [← hq] at h0
  rw [← hme] at hmask
  rw [← hq]
  obtain ⟨n0, hn0⟩ : ∃ n0, n0 = (lv.getD 0 []).length := ⟨_, rfl⟩
  have hn0m : n0 ≤ 100000 := by rw [hn0]; exact hl 0
  rw [← hn0] at h0
  have hwq : (f : Int) / 64 = (q : Int) := by rw [hq]; omega
  have hwm : (f : Int) - (q : Int) * 64 = (m : Int) := by rw [hq, hme]; omega
  have hm64 : m < 64 := by omega
  have HC := Aside0.mk hC
  have HL := Aside0.mk hl
  have HN := Aside0.mk hn
  have HN0 := Aside0.mk hn0
  have HMASK := Aside0.mk hmask
  clear hC hl hn hn0 hmask hq hme
  have c1 := eq_false (show ¬ (f : Int) < 0 by omega)
  have c1c := decide_eq_false (show ¬ (f : Int) < 0 by omega)
  have c2 := eq_false (show ¬ (f : Int) ≥ (s : Int) by omega)
  have c2c := decide_eq_false (show ¬ (f : Int) ≥ (s : Int) by omega)
  have c3 := eq_false (show ¬ (n : Int) = 0 by omega)
  have c3c : ((n : Int) == 0) = false := beq_eq_false_iff_ne.mpr (by omega)
  go_enter Try.func28, Try.ntmps28
  go_wp2_with (first | (go_at_call 43; (with_reducible refine (twin_n (s : Int) A c n lv _ (Kd.C_alloc (Kd.C_alloc HC.out _) _) HN.out hc hp hm HL.out).mono ?_); rintro e w1 ⟨g, c', rfl, hg, hS, hb⟩; have hT := sw_start hb hS HN.out; have HSW := Aside0.mk hT.1; have z1 := blk_cell hT.2 0; have z2 := blk_cell hT.2 1; have z3 := blk_frozen hT.2 0; have z4 := blk_frozen hT.2 1; clear hS hb hg hT))
  obtain ⟨U, hU⟩ : ∃ U, U = Go.bits .or .u64 (Go.bits .andNot .u64 (rd (lv.getD 0 []) (q : Int)) mk) mk := ⟨_, rfl⟩
  have HU := Aside0.mk hU

  clear hU
  go_loopg [10] 1 (fun t v10 wr => ∃ (j : Nat) (l1 : List (List Int)), v10 = .int .i64 ((q + j : Nat) : Int) ∧ t = 1 - j ∧ j ≤ 1 ∧ l1 = (if j = 0 then lv else lv.set 0 ((lv.getD 0 []).set q U)) ∧ SW w wr (s : Int) g n c' l1)
  case atStart => exact ⟨0, lv, rfl, rfl, Nat.zero_le _, rfl, HSW.out⟩
  case round =>
    clear HSW z1 z2 z3 z4
    obtain ⟨j, l1, hv10, hgk, hj, hl1, hW⟩ := hrel
    have HG := Aside0.mk hgk
    have HW := Aside0.mk hW
    have z1 := blk_cell hW.1 0
    have z2 := blk_cell hW.1 1
    obtain ⟨A0, c0, s1⟩ := s_head hW.2.2.2.2 hp
    have hlen : (l1.getD 0 []).length = n0 := by
      rw [hl1]
      by_cases hj0 : j = 0
      · rw [if_pos hj0]
        exact HN0.out.symm
      · rw [if_neg hj0, List.getD_eq_getElem?_getD, List.getElem?_set_self (by rw [HN.out]; exact hp)]
        show ((lv.getD 0 []).set q U).length = n0
        rw [List.length_set]
        exact HN0.out.symm
    rw [hlen] at s1
    clear hgk hW
    have hz0 : (0 : Int) < (n : Int) := by omega
    by_cases c4 : j = 0
    · subst c4
      replace hv10 := (show _ = Value.int .i64 (q : Int) from hv10)
      subst hv10
      rw [if_pos rfl] at hl1
      subst hl1
      have HI := Aside0.mk (show q < (l1.getD 0 []).length by rw [hlen]; exact h0)
      clear hlen
      have hmin : min (q : Int) ((n0 : Int) - 1) = (q : Int) := by omega
      have hmax : max (m : Int) 0 = (m : Int) := by omega
      have hmin2 : min (m : Int) 63 = (m : Int) := by omega
      have hone : (m : Int) - (m : Int) + 1 = 1 := by omega
      go_wp2_with (first | (go_at_call 35; (with_reducible refine (word_Mask.calls k0 (m : Int) 1 mk _ HMASK.out).mono ?_); rintro e w2 ⟨rfl, ⟨nd, rfl⟩⟩; have HW2 := Aside0.mk (HW.out.drewN nd); have HS2 := Aside0.mk HW2.out.2.2.2.2) | (go_at_call 44; (with_reducible refine (tree_at_0 (s : Int) (some ⟨g, 0, none⟩) c' n l1 q _ w.heap.size HS2.out hp HI.out).mono ?_); rintro e w3 ⟨rfl, hb⟩; have HW3 := Aside0.mk (HW2.out.below hb); have HS3 := Aside0.mk HW3.out.2.2.2.2; have HL3 := Aside0.mk (below_size HW3.out.2.2.1); have z5 := blk_cell HW3.out.1 0; have z6 := blk_cell HW3.out.1 1; clear hb) | (go_at_call 45; (with_reducible refine (tree_put_0 (s : Int) (some ⟨g, 0, none⟩) c' n l1 q _ _ w.heap.size HS3.out hp HL3.out HI.out).mono ?_); rintro e w4 ⟨rfl, hF, hS⟩; have HW4 := Aside0.mk (HW3.out.fr hF hS List.length_set); clear hF hS))
      go_roundg 0
      case measure => have := HG.out; omega
      case rel => exact ⟨1, l1.set 0 ((l1.getD 0 []).set q U), by first | rfl | (rw [tree_wrap q (by omega)]; done), rfl, Nat.le_refl _, rfl, by rw [HU.out]; exact HW4.out⟩
    · obtain rfl : j = 1 := by omega
      subst hv10
      rw [if_neg c4] at hl1
      subst hl1
      clear hlen
      have hmin : min (q : Int) ((n0 : Int) - 1) = (q : Int) := by omega
      have c5 := eq_false (show ¬ ((q + 1 : Nat) : Int) ≤ (q : Int) by omega)
      have c5c := decide_eq_false (show ¬ ((q + 1 : Nat) : Int) ≤ (q : Int) by omega)
      go_wp2
      go_quiet (fail)
      go_wp2
      have HL1 := Aside0.mk (show (lv.set 0 ((lv.getD 0 []).set q U)).getD 0 [] = (lv.getD 0 []).set q U from by rw [List.getD_eq_getElem?_getD, List.getElem?_set_self (by rw [HN.out]; exact hp)]; rfl)
      clear s1 hmin c5 c5c z1 z2 c1 c1c c2 c2c c3 c3c hwq hwm
      go_loopg [14, 15, 16] (n - 1) (fun t v14 v15 v16 wr2 => ∃ (x k : Nat) (l2 : List (List Int)), v14 = .int .i64 (x : Int) ∧ v15 = .int .i64 (x : Int) ∧ v16 = .int .i64 (k : Int) ∧ t = n - k ∧ 1 ≤ k ∧ k ≤ n ∧ x ≤ 100000 ∧ l2.getD 0 [] = (lv.getD 0 []).set q U ∧ SW w wr2 (s : Int) g n c' l2)
      case atStart => exact ⟨q, 1, _, rfl, rfl, rfl, rfl, Nat.le_refl _, hp, by omega, HL1.out, HW.out.drewN _⟩
      case round =>
        clear HW HL1 HG
        obtain ⟨x, k, l2, rfl, rfl, rfl, hgk2, hk1, hkn, hx, hl2, hW2⟩ := hrel
        have HG := Aside0.mk hgk2
        have HW := Aside0.mk hW2
        have HS := Aside0.mk hW2.2.2.2.2
        have HBB := Aside0.mk (below_size hW2.2.2.1)
        have HL2 := Aside0.mk hl2
        have z1 := blk_cell hW2.1 0
        have z2 := blk_cell hW2.1 1
        have z3 := blk_cell hW2.2.1 0
        have z4 := blk_cell hW2.2.1 1
        have z5 := blk_frozen hW2.2.1 0
        have z6 := blk_frozen hW2.2.1 1
        clear hgk2 hl2 hW2
        by_cases c6 : k < n
        · have c6b := eq_true (show (k : Int) < (n : Int) by omega)
          have c6c := decide_eq_true (show (k : Int) < (n : Int) by omega)
          obtain ⟨xd, hxd⟩ : ∃ xd, xd = x / 64 := ⟨_, rfl⟩
          have hwx : (x : Int) / 64 = (xd : Int) := by rw [hxd]; omega
          have hxd2 : xd ≤ 100000 := by omega
          clear hxd
          go_wp2_with (first | (go_at_call 46; (with_reducible refine (sums_n (s : Int) (some ⟨g, 0, none⟩) c' n l2 k x _ w.heap.size HS.out c6 hk1 hm hx HBB.out).mono ?_); rintro e w5 ⟨rfl, hF, l3, hLk, hS3⟩; have HW5 := Aside0.mk (HW.out.fr hF hS3 hLk.1); have HL5 := Aside0.mk (hLk.2.2.trans HL2.out); clear hF hLk hS3))
          go_roundg (n - (k + 1))
          case measure => have := HG.out; omega
          case rel => exact ⟨xd, k + 1, l3, rfl, rfl, by first | rfl | (rw [tree_wrap k (by omega)]; done), rfl, by omega, by omega, hxd2, HL5.out, HW5.out⟩
        · obtain rfl : k = n := by omega
          have c6b := eq_false (show ¬ (k : Int) < (k : Int) by omega)
          have c6c := decide_eq_false (show ¬ (k : Int) < (k : Int) by omega)
          go_wp2
          obtain ⟨x1, x2, x3, x4⟩ := tw_result HS.out HW.out.2.1 HW.out.2.2.1 (Nat.le_succ _) (.int .i64 (s : Int)) (.slice (some ⟨g, 0, none⟩) k c')
          exact bodyPost_ret (v := .agg #[.int .i64 (s : Int), .slice (some ⟨g, 0, none⟩) k c']) (by simp [results, Try.results28, go_sem, x1, x2]) rfl ⟨_, _, rfl, HW.out.2.2.2.1, by rw [HL2.out, HU.out], x3, x4⟩
end Go.Proofs.Ytgbkdmcbdilgaaa.PRankS
