/- RankSet by hand: its walk. -/
import Derived.Test.YtgbkdmcbdilgaaaTreeHand7
namespace Go.Proofs.Ytgbkdmcbdilgaaa.PRankS
open Go.RowKit Go.Proofs.YtgbkdmcbdilgaaaW.PrintWords Go.Proofs.YtgbkdmcbdilgaaaW.PrintLast Go.Proofs.YtgbkdmcbdilgaaaW.PrintMore
attribute [local go_sem] max2_int min2_int max_two min_two max_three min_three max_four min_four
set_option linter.unusedVariables false
set_option linter.unusedSimpArgs false

theorem rs_box (W : World) (a b x y : Value) : (((W.alloc (.cells #[a, b] 27)).setCell ⟨W.heap.size, 0, none⟩ x).setCell ⟨W.heap.size, 1, none⟩ y).heap[W.heap.size]? = some (.cells #[x, y] 27 (0, 0)) ∧ Below W.heap.size W (((W.alloc (.cells #[a, b] 27)).setCell ⟨W.heap.size, 0, none⟩ x).setCell ⟨W.heap.size, 1, none⟩ y) :=
  ⟨blk_put (blk_put (blk_new W (.cells #[a, b] 27)) 0 x rfl) 1 y rfl, (((Below.refl _ _).alloc (Nat.le_refl _) _).setCell (p := ⟨W.heap.size, 0, none⟩) (Nat.le_refl _) x).setCell (p := ⟨W.heap.size, 1, none⟩) (Nat.le_refl _) y⟩
/-- what the plain part has to show -/
def SetOk (l0 : List Int) (a1 a2 a3 : Int) : Prop := ∃ (k s f j n x : Nat) (b : Bool) (mk pos : Int) (lv : List (List Int)),
  hodmanlaw6_begun.f k = some true ∧ hodmanplay_Made.f l0 = some (l0, 0) ∧ hodmanplay_Picks_Tree.f k l0 0 (s : Int) = some ((s : Int), lv, pos) ∧ wrap64 (1 + wrap64 (Int.tmod a1 5000)) = (s : Int) ∧ 1 ≤ s ∧ s ≤ 5000 ∧ Int.tmod (wrap64 a2) (s : Int) = (f : Int) ∧ f < s ∧ Int.tmod (wrap64 a3) (s : Int) = (j : Int) ∧ j < s ∧ lv.length = n ∧ 0 < n ∧ n ≤ 1000 ∧ (∀ i, (lv.getD i []).length ≤ 100000) ∧ f / 64 < (lv.getD 0 []).length ∧ word_Mask.f k ((f % 64 : Nat) : Int) 1 = some mk ∧ hodmanref3_Has.f (lv.getD 0 []) (f : Int) = some b ∧ x ≤ 5000 ∧ rank_Below.f k (s : Int) lv (j : Int) = some (x : Int) ∧
  ∀ lv' : List (List Int), lv'.length = n → lv'.getD 0 [] = (lv.getD 0 []).set (f / 64) (Go.bits .or .u64 (Go.bits .andNot .u64 (rd (lv.getD 0 []) ((f / 64 : Nat) : Int)) mk) mk) → rank_Below.f k (s : Int) lv' (j : Int) = some ((x + (if b = false ∧ f < j then 1 else 0) : Nat) : Int)
def hodmanlaw6_RankSet.Pure : Prop := hodmanlaw6_begun.f 1000 = some true ∧ ∀ (l0 : List Int) (a1 a2 a3 : Int), l0.length ≤ 20 → (∀ x ∈ l0, (Lit.int .u8 x).wf = true) → (Lit.int .u16 a1).wf = true → (Lit.int .u16 a2).wf = true → (Lit.int .u16 a3).wf = true → SetOk l0 a1 a2 a3
set_option maxHeartbeats 4000000 in
theorem rs_many (hbeg : hodmanlaw6_begun.f 1000 = some true) (A0 : Option Addr) (c0 : Nat) (l0 : List Int) (a1 a2 a3 : Int) (w : World) (h20 : (l0.length : Int) > 20) :
    Calls Try.prog 8 #[.slice A0 l0.length c0, .int .u16 a1, .int .u16 a2, .int .u16 a3] w fun e w' => e = .returned (.bool true) ∧ Below w.heap.size w w' := by
  have HBEG := Aside0.mk hbeg
  clear hbeg
  have c1 : decide (20 < (l0.length : Int)) = true := decide_eq_true h20
  have c2 : decide (20 < l0.length) = true := decide_eq_true (by omega)
  clear h20
  go_enter Try.func8, Try.ntmps8
  go_wp2_with (first | (go_at_call 9; (with_reducible refine (hodmanlaw6_begun.calls 1000 true _ HBEG.out).mono ?_); rintro e w1 ⟨rfl, hb⟩; have HB1 := Aside0.mk hb; clear hb))
  go_ret
  exact ⟨rfl, HB1.out⟩
/-- the lowest level, where it lies, as a row that is read -/
theorem s_head_C {W : World} {base g n c : Nat} {lv : List (List Int)} (hS : Kd.S (Kd.slice 53 (Kd.int .u64)) 38 W base (fun _ => True) (.slice (some ⟨g, 0, none⟩) n c) lv) (hp : 0 < n) : ∃ A0 c0, W.cell? ⟨g, 0, none⟩ = some (.slice A0 (lv.getD 0 []).length c0) ∧ (lv.getD 0 []).length ≤ c0 ∧ Kd.C (Kd.int .u64) W A0 (lv.getD 0 []).length (lv.getD 0 []) := by
  obtain ⟨oki, cs, hcl, hM, hcell, hoki, hH⟩ := Kd.S_lend hS [] 0 (Int.le_refl _) (by omega)
  obtain ⟨v, rfl, hR⟩ := hM
  obtain ⟨A2, c2, rfl⟩ := Kd.R_slice hR
  obtain ⟨_, h1, h2⟩ := Kd.R_reads' hR
  exact ⟨A2, c2, hcell 0 _ rfl, h1, h2⟩
theorem below_n (k : Nat) (a : Int) (A : Option Addr) (c n : Nat) (lv : List (List Int)) (i r : Int) (w : World) (base : Nat) (hS : Kd.S (Kd.slice 53 (Kd.int .u64)) 38 w base (fun _ => True) (.slice A n c) lv) (h : rank_Below.f k a lv i = some r) :
    Calls Try.prog 14 #[.agg #[.int .i64 a, .slice A n c], .int .i64 i] w fun e w' => e = .returned (.int .i64 r) ∧ Below w.heap.size w w' := by
  obtain ⟨rfl, h1, h2⟩ := Kd.S_reads' hS
  exact rank_Below.calls k a A c lv i r w h2 h1 h
set_option maxHeartbeats 16000000 in
set_option maxRecDepth 100000 in
theorem rs_main (A0 : Option Addr) (c0 : Nat) (l0 : List Int) (a1 a2 a3 : Int) (w : World) (hr0 : Kd.C (Kd.int .u8) w A0 l0.length l0) (hc0 : l0.length ≤ c0) (h20 : l0.length ≤ 20) (hok : SetOk l0 a1 a2 a3) :
    Calls Try.prog 8 #[.slice A0 l0.length c0, .int .u16 a1, .int .u16 a2, .int .u16 a3] w fun e w' => e = .returned (.bool true) ∧ Below w.heap.size w w' := by
  obtain ⟨k, s, f, j, n, x, b, mk, pos, lv, hbeg, hmd, htr, hse, hs1, hs2, hfe, hfs, hje, hjs, hn, hn1, hn2, hl, hq, hmask, hhas, hx, hbel, hbel2⟩ := hok
  have HBEG := Aside0.mk hbeg
  have HMD := Aside0.mk hmd
  have HTR := Aside0.mk htr
  have HR0 := Aside0.mk hr0
  have HC0 := Aside0.mk hc0
  have HN := Aside0.mk hn
  have HL := Aside0.mk hl
  have HMASK := Aside0.mk hmask
  have HHAS := Aside0.mk hhas
  have HBEL := Aside0.mk hbel
  have HBEL2 := Aside0.mk hbel2
  have HQ := Aside0.mk hq
  have c1 : decide (20 < (l0.length : Int)) = false := decide_eq_false (by omega)
  have c2 : decide (20 < l0.length) = false := decide_eq_false (by omega)
  clear hbeg hmd htr hr0 hc0 h20 hn hl hmask hhas hbel hbel2 hq
  have c3 : ((s : Int) == 0) = false := beq_eq_false_iff_ne.mpr (by omega)
  have c3b := eq_false (show ¬ (s : Int) = 0 by omega)
  go_enter Try.func8, Try.ntmps8
  go_wp2_with (first | (go_at_call 9; (with_reducible refine (hodmanlaw6_begun.calls k true _ HBEG.out).mono ?_); rintro e w1 ⟨rfl, hb⟩; have HB1 := Aside0.mk hb; clear hb) | (go_at_call 10; (with_reducible refine (hodmanplay_Made.calls A0 c0 l0 l0 0 w _ HB1.out HR0.out HC0.out HMD.out).mono ?_); rintro e w2 ⟨gp, rfl, hi, hb, hb2⟩; have HI2 := Aside0.mk hi; have HB2 := Aside0.mk hb; clear hi hb hb2) | (go_at_call 11; (with_reducible refine (hodmanplay_Picks_Tree.calls k gp l0 0 (s : Int) (s : Int) lv pos w _ HI2.out HB2.out HTR.out).mono ?_); rintro e w3 ⟨v, rfl, hS, hi, hb, hk⟩; obtain ⟨g, c, rfl, hg1, _, _⟩ := Kd.S_form hS (by rw [HN.out]; exact hn1); rw [HN.out] at hS ⊢; have HS3 := Aside0.mk (Kd.S_lower hS (below_size HB2.out)); have HB3 := Aside0.mk hb; clear hS hi hb hk hg1))
  go_quiet (fail)
  have HCT := Aside0.mk (Kd.C_drewN (Kd.C_alloc (Kd.S_reads' HS3.out).2.2 (.cells #[.int .i64 (s : Int), .slice (some ⟨g, 0, none⟩) n c] 27)) nq)
  have HCL := Aside0.mk (Kd.S_reads' HS3.out).2.1
  rw [HN.out] at HCT
  have hs3 : s ≤ 100000 := by omega
  go_upto_region 9 with (first | (go_at_call 28; (with_reducible refine (tree_Set_calls s (some ⟨g, 0, none⟩) c n lv f k mk _ HCT.out HN.out HCL.out hn1 hn2 HL.out hfs hs3 HQ.out HMASK.out).mono ?_); rintro e w5 ⟨v2, lv2, rfl, hl2, h02, hS2, hb5⟩; obtain ⟨g2, c2, rfl, hg2, _, _⟩ := Kd.S_form hS2 (by rw [hl2]; exact hn1); rw [hl2] at hS2 ⊢; have HW5 := Aside0.mk hb5; have HS5 := Aside0.mk hS2; have HL2 := Aside0.mk hl2; have H02 := Aside0.mk h02; clear hb5 hS2 hl2 h02 hg2))
  have HBX0 := Aside0.mk (blk_new w3 (.cells #[.int .i64 (s : Int), .slice (some ⟨g, 0, none⟩) n c] 27))
  have HB35 := Aside0.mk (below_step (pw_below_drewN ((Below.refl w3.heap.size w3).alloc (Nat.le_refl _) (.cells #[.int .i64 (s : Int), .slice (some ⟨g, 0, none⟩) n c] 27)) nq) HW5.out)
  have HBXT := Aside0.mk (blk_alloc (blk_below (blk_drewN HBX0.out nq) HW5.out) (.cells #[.int .i64 (s : Int), .slice (some ⟨g2, 0, none⟩) n c2] 27))
  have HBXU := Aside0.mk (blk_new w5 (.cells #[.int .i64 (s : Int), .slice (some ⟨g2, 0, none⟩) n c2] 27))
  have HST := Aside0.mk (Kd.S_alloc (Kd.S_below HS3.out HB35.out) (.cells #[.int .i64 (s : Int), .slice (some ⟨g2, 0, none⟩) n c2] 27))
  have HSU := Aside0.mk (Kd.S_lower (Kd.S_alloc HS5.out (.cells #[.int .i64 (s : Int), .slice (some ⟨g2, 0, none⟩) n c2] 27)) (show w3.heap.size ≤ _ by simp))
  have HBW := Aside0.mk (below_alloc (below_step HB3.out HB35.out) (.cells #[.int .i64 (s : Int), .slice (some ⟨g2, 0, none⟩) n c2] 27))
  go_cut [50] (fun v50 wc => ∃ t : Bool, v50 = .bool t ∧ Aside0 (t = decide (b = false ∧ f < j)) ∧ Aside0 (wc.heap[w3.heap.size]? = some (.cells #[.int .i64 (s : Int), .slice (some ⟨g, 0, none⟩) n c] 27 (0, 0))) ∧ Aside0 (wc.heap[w5.heap.size]? = some (.cells #[.int .i64 (s : Int), .slice (some ⟨g2, 0, none⟩) n c2] 27 (0, 0))) ∧ Aside0 (Kd.S (Kd.slice 53 (Kd.int .u64)) 38 wc w.heap.size (fun _ => True) (.slice (some ⟨g, 0, none⟩) n c) lv) ∧ Aside0 (Kd.S (Kd.slice 53 (Kd.int .u64)) 38 wc w3.heap.size (fun _ => True) (.slice (some ⟨g2, 0, none⟩) n c2) lv2) ∧ Aside0 (Below w.heap.size w wc))
  case first =>
    obtain ⟨A9, c9, h9, hle9, hC9⟩ := s_head_C HST.out hn1
    have hhas2 := HHAS.out
    obtain ⟨L0, hL0⟩ : ∃ L0, L0 = lv.getD 0 [] := ⟨_, rfl⟩
    rw [← hL0] at h9 hle9 hC9 hhas2
    clear hL0
    have HHAS2 := Aside0.mk hhas2
    clear hhas2
    have HC9 := Aside0.mk hC9
    have HLE9 := Aside0.mk hle9
    have z1 := blk_cell HBXT.out 0
    have z2 := blk_cell HBXT.out 1
    have z3 : (0 : Int) < (n : Int) := by omega
    clear hC9 hle9
    cases b with
    | true =>
      have c4 : ¬ ((true = false) ∧ f < j) := fun h => Bool.noConfusion h.1
      have C4 := Aside0.mk c4
      clear c4
      go_wp2_with (first | (go_at_call 17; (with_reducible refine (hodmanref3_Has.calls A9 c9 L0 (f : Int) true _ HC9.out HLE9.out HHAS2.out).mono ?_); rintro e w7 ⟨rfl, ⟨nd, rfl⟩⟩))
      go_meet
      exact ⟨false, rfl, ⟨(decide_eq_false C4.out).symm⟩, ⟨blk_drewN HBXT.out _⟩, ⟨blk_drewN HBXU.out _⟩, ⟨Kd.S_drewN HST.out _⟩, ⟨Kd.S_drewN HSU.out _⟩, ⟨pw_below_drewN HBW.out _⟩⟩
    | false =>
      by_cases c4 : f < j
      · have c4b := eq_true (show (j : Int) > (f : Int) by omega)
        have c4c := decide_eq_true (show (j : Int) > (f : Int) by omega)
        have c4d := eq_true (show (f : Int) < (j : Int) by omega)
        have c4e := decide_eq_true (show (f : Int) < (j : Int) by omega)
        have C4 := Aside0.mk (show (false = false) ∧ f < j from ⟨rfl, c4⟩)
        go_wp2_with (first | (go_at_call 17; (with_reducible refine (hodmanref3_Has.calls A9 c9 L0 (f : Int) false _ HC9.out HLE9.out HHAS2.out).mono ?_); rintro e w7 ⟨rfl, ⟨nd, rfl⟩⟩))
        go_meet
        exact ⟨true, rfl, ⟨(decide_eq_true C4.out).symm⟩, ⟨blk_drewN HBXT.out _⟩, ⟨blk_drewN HBXU.out _⟩, ⟨Kd.S_drewN HST.out _⟩, ⟨Kd.S_drewN HSU.out _⟩, ⟨pw_below_drewN HBW.out _⟩⟩
      · have c4b := eq_false (show ¬ (j : Int) > (f : Int) by omega)
        have c4c := decide_eq_false (show ¬ (j : Int) > (f : Int) by omega)
        have c4d := eq_false (show ¬ (f : Int) < (j : Int) by omega)
        have c4e := decide_eq_false (show ¬ (f : Int) < (j : Int) by omega)
        have C4 := Aside0.mk (show ¬ ((false = false) ∧ f < j) from fun h => c4 h.2)
        go_wp2_with (first | (go_at_call 17; (with_reducible refine (hodmanref3_Has.calls A9 c9 L0 (f : Int) false _ HC9.out HLE9.out HHAS2.out).mono ?_); rintro e w7 ⟨rfl, ⟨nd, rfl⟩⟩))
        go_meet
        exact ⟨false, rfl, ⟨(decide_eq_false C4.out).symm⟩, ⟨blk_drewN HBXT.out _⟩, ⟨blk_drewN HBXU.out _⟩, ⟨Kd.S_drewN HST.out _⟩, ⟨Kd.S_drewN HSU.out _⟩, ⟨pw_below_drewN HBW.out _⟩⟩
  case rest =>
    clear HBXT HBXU HST HSU HBW
    obtain ⟨t, rfl, HT, HBXT, HBXU, HST, HSU, HBW⟩ := hcut
    go_upto_if 50 with fail
    go_cut [13] (fun v13 wc => ∃ m : Nat, v13 = .int .i64 (m : Int) ∧ Aside0 (m = if b = false ∧ f < j then 1 else 0) ∧ Aside0 (wc.heap[w3.heap.size]? = some (.cells #[.int .i64 (s : Int), .slice (some ⟨g, 0, none⟩) n c] 27 (0, 0))) ∧ Aside0 (wc.heap[w5.heap.size]? = some (.cells #[.int .i64 (s : Int), .slice (some ⟨g2, 0, none⟩) n c2] 27 (0, 0))) ∧ Aside0 (Kd.S (Kd.slice 53 (Kd.int .u64)) 38 wc w.heap.size (fun _ => True) (.slice (some ⟨g, 0, none⟩) n c) lv) ∧ Aside0 (Kd.S (Kd.slice 53 (Kd.int .u64)) 38 wc w3.heap.size (fun _ => True) (.slice (some ⟨g2, 0, none⟩) n c2) lv2) ∧ Aside0 (Below w.heap.size w wc))
    case first =>
      cases t with
      | true =>
        go_wp2
        go_meet
        exact ⟨1, rfl, ⟨(if_pos (of_decide_eq_true HT.out.symm)).symm⟩, HBXT, HBXU, HST, HSU, HBW⟩
      | false =>
        go_wp2
        go_meet
        exact ⟨0, rfl, ⟨(if_neg (of_decide_eq_false HT.out.symm)).symm⟩, HBXT, HBXU, HST, HSU, HBW⟩
    case rest =>
     clear HBXT HBXU HST HSU HBW HT
     obtain ⟨m, rfl, HM, HBXT, HBXU, HST, HSU, HBW⟩ := hcut
     obtain ⟨y, hy⟩ : ∃ y, y = x + m := ⟨_, rfl⟩
     have hm1 : m ≤ 1 := by rw [HM.out]; split <;> omega
     have hadd : (x : Int) + (m : Int) = (y : Int) := by omega
     have hwy : wrap64 (y : Int) = (y : Int) := by unfold wrap64; omega
     have hb2 := HBEL2.out lv2 HL2.out H02.out
     rw [← HM.out, ← hy] at hb2
     have HBU := Aside0.mk hb2
     clear hb2 hy
     go_wp2
     refine start_ (n := 17) (S := fun w' => w'.cell? ⟨w5.heap.size, 0, none⟩ = some (.int .i64 (s : Int)) ∧ w'.cell? ⟨w5.heap.size, 1, none⟩ = some (.slice (some ⟨g2, 0, none⟩) n c2) ∧ w'.cell? ⟨w3.heap.size, 0, none⟩ = some (.int .i64 (s : Int)) ∧ w'.cell? ⟨w3.heap.size, 1, none⟩ = some (.slice (some ⟨g, 0, none⟩) n c)) (ds := []) #[false, false, false, false, false, false, false, false, false, false, false, false, false, false, false, false, false] (by kernel_rfl) rfl rfl ⟨blk_cell HBXU.out 0, blk_cell HBXU.out 1, blk_cell HBXT.out 0, blk_cell HBXT.out 1⟩ (fun hHeld => ?_)
     refine pure_ (i := 0) (N := some 51) (v := ?_) (a' := ?_) #[true, false, false, false, false, false, false, false, false, false, false, false, false, false, false, false, false] rfl rfl (by kernel_rfl) (fun _ _ _ h => h) (Or.inl ⟨by rfl, ?_⟩) ?_ ?_
     rotate_left
     · intro w'
       go_simp
       with_reducible rfl
     rotate_left
     · simp only [Act.put, List.setIfInBounds_toArray, List.set_cons_zero, List.set_cons_succ, i64_w, i32_w]
       rfl
     refine take_ (i := 1) (N := some 52) (v := ?_) (a' := ?_) #[true, true, false, false, false, false, false, false, false, false, false, false, false, false, false, false, false] rfl rfl (by kernel_rfl) (fun _ _ _ h => h) (Or.inl ⟨by rfl, ?_⟩) hHeld ?_ ?_
     rotate_left
     · intro w' hw'_
       obtain ⟨hq1, hq2, hq3, hq4⟩ := hw'_
       go_simp
       with_reducible rfl
     rotate_left
     · simp only [Act.put, List.setIfInBounds_toArray, List.set_cons_zero, List.set_cons_succ, i64_w, i32_w]
       rfl
     refine pure_ (i := 2) (N := some 53) (v := ?_) (a' := ?_) #[true, true, true, false, false, false, false, false, false, false, false, false, false, false, false, false, false] rfl rfl (by kernel_rfl) (fun _ _ _ h => h) (Or.inl ⟨by rfl, ?_⟩) ?_ ?_
     rotate_left
     · intro w'
       go_simp
       with_reducible rfl
     rotate_left
     · simp only [Act.put, List.setIfInBounds_toArray, List.set_cons_zero, List.set_cons_succ, i64_w, i32_w]
       rfl
     refine take_ (i := 3) (N := some 54) (v := ?_) (a' := ?_) #[true, true, true, true, false, false, false, false, false, false, false, false, false, false, false, false, false] rfl rfl (by kernel_rfl) (fun _ _ _ h => h) (Or.inl ⟨by rfl, ?_⟩) hHeld ?_ ?_
     rotate_left
     · intro w' hw'_
       obtain ⟨hq1, hq2, hq3, hq4⟩ := hw'_
       go_simp
       with_reducible rfl
     rotate_left
     · simp only [Act.put, List.setIfInBounds_toArray, List.set_cons_zero, List.set_cons_succ, i64_w, i32_w]
       rfl
     refine pure_ (i := 4) (N := some 55) (v := ?_) (a' := ?_) #[true, true, true, true, true, false, false, false, false, false, false, false, false, false, false, false, false] rfl rfl (by kernel_rfl) (fun _ _ _ h => h) (Or.inl ⟨by rfl, ?_⟩) ?_ ?_
     rotate_left
     · intro w'
       go_simp
       with_reducible rfl
     rotate_left
     · simp only [Act.put, List.setIfInBounds_toArray, List.set_cons_zero, List.set_cons_succ, i64_w, i32_w]
       rfl
     refine pure_ (i := 5) (N := some 56) (v := ?_) (a' := ?_) #[true, true, true, true, true, true, false, false, false, false, false, false, false, false, false, false, false] rfl rfl (by kernel_rfl) (fun _ _ _ h => h) (Or.inl ⟨by rfl, ?_⟩) ?_ ?_
     rotate_left
     · intro w'
       go_simp
       with_reducible rfl
     rotate_left
     · simp only [Act.put, List.setIfInBounds_toArray, List.set_cons_zero, List.set_cons_succ, i64_w, i32_w]
       rfl
     refine take_ (i := 6) (N := some 57) (v := ?_) (a' := ?_) #[true, true, true, true, true, true, true, false, false, false, false, false, false, false, false, false, false] rfl rfl (by kernel_rfl) (fun _ _ _ h => h) (Or.inl ⟨by rfl, ?_⟩) hHeld ?_ ?_
     rotate_left
     · intro w' hw'_
       obtain ⟨hq1, hq2, hq3, hq4⟩ := hw'_
       go_simp
       with_reducible rfl
     rotate_left
     · simp only [Act.put, List.setIfInBounds_toArray, List.set_cons_zero, List.set_cons_succ, i64_w, i32_w]
       rfl
     refine pure_ (i := 7) (N := some 58) (v := ?_) (a' := ?_) #[true, true, true, true, true, true, true, true, false, false, false, false, false, false, false, false, false] rfl rfl (by kernel_rfl) (fun _ _ _ h => h) (Or.inl ⟨by rfl, ?_⟩) ?_ ?_
     rotate_left
     · intro w'
       go_simp
       with_reducible rfl
     rotate_left
     · simp only [Act.put, List.setIfInBounds_toArray, List.set_cons_zero, List.set_cons_succ, i64_w, i32_w]
       rfl
     refine take_ (i := 9) (N := some 60) (v := ?_) (a' := ?_) #[true, true, true, true, true, true, true, true, false, true, false, false, false, false, false, false, false] rfl rfl (by kernel_rfl) (fun _ _ _ h => h) (Or.inl ⟨by rfl, ?_⟩) hHeld ?_ ?_
     rotate_left
     · intro w' hw'_
       obtain ⟨hq1, hq2, hq3, hq4⟩ := hw'_
       go_simp
       with_reducible rfl
     rotate_left
     · simp only [Act.put, List.setIfInBounds_toArray, List.set_cons_zero, List.set_cons_succ, i64_w, i32_w]
       rfl
     refine pure_ (i := 10) (N := some 61) (v := ?_) (a' := ?_) #[true, true, true, true, true, true, true, true, false, true, true, false, false, false, false, false, false] rfl rfl (by kernel_rfl) (fun _ _ _ h => h) (Or.inl ⟨by rfl, ?_⟩) ?_ ?_
     rotate_left
     · intro w'
       go_simp
       with_reducible rfl
     rotate_left
     · simp only [Act.put, List.setIfInBounds_toArray, List.set_cons_zero, List.set_cons_succ, i64_w, i32_w]
       rfl
     refine pure_ (i := 12) (N := some 63) (v := ?_) (a' := ?_) #[true, true, true, true, true, true, true, true, false, true, true, false, true, false, false, false, false] rfl rfl (by kernel_rfl) (fun _ _ _ h => h) (Or.inl ⟨by rfl, ?_⟩) ?_ ?_
     rotate_left
     · intro w'
       go_simp
       with_reducible rfl
     rotate_left
     · simp only [Act.put, List.setIfInBounds_toArray, List.set_cons_zero, List.set_cons_succ, i64_w, i32_w]
       rfl
     refine one_ (i := 8) (N := some 59) #[true, true, true, true, true, true, true, true, true, true, true, false, true, false, false, false, false] rfl rfl (by kernel_rfl) (by decide) (fun K hK => ?_)
     refine goes_ Try.func14 (by kernel_rfl) rfl #[.agg #[.int .i64 (s : Int), .slice (some ⟨g2, 0, none⟩) n c2], .int .i64 (j : Int)] (by rfl) rfl rfl (by (try simp only [List.map_toArray, List.map_cons, List.map_nil]); first | done | rfl) ?_
     with_reducible refine (below_n k (s : Int) (some ⟨g2, 0, none⟩) c2 n lv2 (j : Int) (y : Int) _ w3.heap.size (Kd.S_drew HSU.out) HBU.out).mono ?_
     rintro e w59 ⟨rfl, hb⟩
     refine ⟨_, rfl, ?_⟩
     have HW1 := Aside0.mk hb
     have HU1 := Aside0.mk (blk_below (blk_drew HBXU.out) hb)
     have HT1 := Aside0.mk (blk_below (blk_drew HBXT.out) hb)
     have HST1 := Aside0.mk (Kd.S_below (Kd.S_drew HST.out) hb)
     clear hb
     refine hK.out _ _ ⟨blk_cell HU1.out 0, blk_cell HU1.out 1, blk_cell HT1.out 0, blk_cell HT1.out 1⟩ (fun hHeld => ?_)
     clear hK K
     refine norm_ (a' := ?_) ?_ ?_
     rotate_left
     · show Act.put _ (some 59) _ = _
       simp only [Act.put, List.setIfInBounds_toArray, List.set_cons_zero, List.set_cons_succ, i64_w, i32_w]
       rfl
     refine one_ (i := 11) (N := some 62) #[true, true, true, true, true, true, true, true, true, true, true, true, true, false, false, false, false] rfl rfl (by kernel_rfl) (by decide) (fun K hK => ?_)
     refine goes_ Try.func14 (by kernel_rfl) rfl #[.agg #[.int .i64 (s : Int), .slice (some ⟨g, 0, none⟩) n c], .int .i64 (j : Int)] (by rfl) rfl rfl (by (try simp only [List.map_toArray, List.map_cons, List.map_nil]); first | done | rfl) ?_
     with_reducible refine (below_n k (s : Int) (some ⟨g, 0, none⟩) c n lv (j : Int) (x : Int) _ w.heap.size HST1.out HBEL.out).mono ?_
     rintro e w62 ⟨rfl, hb⟩
     refine ⟨_, rfl, ?_⟩
     have HW2 := Aside0.mk hb
     have HU2 := Aside0.mk (blk_below HU1.out hb)
     have HT2 := Aside0.mk (blk_below HT1.out hb)
     clear hb
     refine hK.out _ _ ⟨blk_cell HU2.out 0, blk_cell HU2.out 1, blk_cell HT2.out 0, blk_cell HT2.out 1⟩ (fun hHeld => ?_)
     clear hK K
     refine norm_ (a' := ?_) ?_ ?_
     rotate_left
     · show Act.put _ (some 62) _ = _
       simp only [Act.put, List.setIfInBounds_toArray, List.set_cons_zero, List.set_cons_succ, i64_w, i32_w]
       rfl
     refine pure_ (i := 13) (N := some 64) (v := ?_) (a' := ?_) #[true, true, true, true, true, true, true, true, true, true, true, true, true, true, false, false, false] rfl rfl (by kernel_rfl) (fun _ _ _ h => h) (Or.inl ⟨by rfl, ?_⟩) ?_ ?_
     rotate_left
     · intro w'
       go_simp
       with_reducible rfl
     rotate_left
     · simp only [Act.put, List.setIfInBounds_toArray, List.set_cons_zero, List.set_cons_succ, i64_w, i32_w]
       rfl
     refine pure_ (i := 14) (N := some 65) (v := ?_) (a' := ?_) #[true, true, true, true, true, true, true, true, true, true, true, true, true, true, true, false, false] rfl rfl (by kernel_rfl) (fun _ _ _ h => h) (Or.inl ⟨by rfl, ?_⟩) ?_ ?_
     rotate_left
     · intro w'
       go_simp
       with_reducible rfl
     rotate_left
     · simp only [Act.put, List.setIfInBounds_toArray, List.set_cons_zero, List.set_cons_succ, i64_w, i32_w]
       rfl
     refine pure_ (i := 15) (N := some 66) (v := ?_) (a' := ?_) #[true, true, true, true, true, true, true, true, true, true, true, true, true, true, true, true, false] rfl rfl (by kernel_rfl) (fun _ _ _ h => h) (Or.inl ⟨by rfl, ?_⟩) ?_ ?_
     rotate_left
     · intro w'
       go_simp
       with_reducible rfl
     rotate_left
     · simp only [Act.put, List.setIfInBounds_toArray, List.set_cons_zero, List.set_cons_succ, i64_w, i32_w]
       rfl
     refine pure_ (i := 16) (N := some 8) (v := ?_) (a' := ?_) #[true, true, true, true, true, true, true, true, true, true, true, true, true, true, true, true, true] rfl rfl (by kernel_rfl) (fun _ _ _ h => h) (Or.inl ⟨by rfl, ?_⟩) ?_ ?_
     rotate_left
     · intro w'
       go_simp
       with_reducible rfl
     rotate_left
     · simp only [Act.put, List.setIfInBounds_toArray, List.set_cons_zero, List.set_cons_succ, i64_w, i32_w]
       rfl
     refine done_ (by kernel_rfl) ?_
     go_wp2
     go_ret
     exact ⟨rfl, below_step (below_step (pw_below_drewN HBW.out 1) HW1.out) HW2.out⟩
theorem hodmanlaw6_RankSet.walk (P : hodmanlaw6_RankSet.Pure) (a0 : Option Addr) (len0 cap0 : Nat) (z0 : List Int) (a1 : Int) (a2 : Int) (a3 : Int) (w : World) (w0 : (a0 = none ∧ len0 = 0 ∧ cap0 = 0 ∧ z0 = []) ∨ ∃ x, a0 = some x ∧ len0 ≤ cap0 ∧ cap0 ≤ maxLen ∧ z0.length = cap0 ∧ (∀ i, i < z0.length → w.cell? (x.add i) = some (.int .u8 (z0.getD i 0))) ∧ ∀ n ∈ z0, (Lit.int .u8 n).wf = true) (y0 : len0 * 1 ≤ 140737488351232) (w1 : (Lit.int .u16 a1).wf = true) (w2 : (Lit.int .u16 a2).wf = true) (w3 : (Lit.int .u16 a3).wf = true) :
    Calls Try.prog 8 #[.slice a0 len0 cap0, .int .u16 a1, .int .u16 a2, .int .u16 a3] w fun e w' => e = .returned (.bool true) ∧ Below w.heap.size w w' := by
  obtain ⟨l0, rfl, hr0, hm0, hw0, hc0⟩ := ReadsInt.ofRowC w0
  have hr := Kd.C_of_reads (d := (0 : Int)) (h1 := fun _ => rfl) hr0
  by_cases h : l0.length ≤ 20
  · exact rs_main a0 cap0 l0 a1 a2 a3 w hr hc0 h (P.2 l0 a1 a2 a3 h hw0 w1 w2 w3)
  · exact rs_many P.1 a0 cap0 l0 a1 a2 a3 w (by omega)
end Go.Proofs.Ytgbkdmcbdilgaaa.PRankS
