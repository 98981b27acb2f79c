/- tree.twin by hand: its walk. -/
import Derived.Test.YtgbkdmcbdilgaaaTreeHand4
namespace Go.Proofs.Ytgbkdmcbdilgaaa.PRankS
open Go.RowKit Go.Proofs.YtgbkdmcbdilgaaaW.PrintWords Go.Proofs.YtgbkdmcbdilgaaaW.PrintLast Go.Proofs.YtgbkdmcbdilgaaaW.PrintMore
set_option linter.unusedVariables false
set_option linter.unusedSimpArgs false

theorem clone_heads (A : Option Addr) (c n : Nat) (h0 : List Hd) (hn : h0.length = n) (hp : 0 < n) (hm : n < 1000000) (w : World) (hC : Kd.C (Kd.raw 1) w A (encs hdEnc h0).length ((encs hdEnc h0).map fun x => [x])) (hc : n ≤ c) :
    Calls Try.prog 48 #[.slice A n c] w fun e w' => ∃ g c', e = .returned (.slice (some ⟨g, 0, none⟩) n c') ∧ w.heap.size ≤ g ∧ hd.R 38 w' w.heap.size (fun _ => True) (.slice (some ⟨g, 0, none⟩) n c') h0 ∧ Below w.heap.size w w' := by
  have hl : (encs hdEnc h0).length = n := by rw [encs, List.length_map]; exact hn
  have h := clone48_calls A c (encs hdEnc h0) w hC (by omega) (by omega)
  rw [hl] at h
  refine h.mono ?_
  rintro e w' ⟨v, rfl, ho, hb⟩
  rw [← hn] at ho
  have hr : hd.R 38 w' w.heap.size (fun _ => True) v h0 := Kd.R_of_own ho (fun _ _ => trivial)
  obtain ⟨g, c', rfl, h1, _, _⟩ := Kd.R_form hr (by omega)
  rw [hn] at hr ⊢
  exact ⟨g, c', rfl, h1, hr, hb⟩
theorem clone41_f (l : List Int) (h : l.length ≤ 100000) : slices_Clone_uint64_uint64_41.f l = some l := by
  unfold slices_Clone_uint64_uint64_41.f
  refine Eq.trans (Option.bind_some _ _) ?_
  rw [if_pos (by simp; omega), List.nil_append]
theorem tw_start {w w1 : World} {size : Int} {A : Option Addr} {n0 c0 : Nat} {g n c : Nat} {h0 : List Hd} {lv : List (List Int)} (hb : Below ((w.alloc (.cells #[.int .i64 size, .slice A n0 c0] 27)).alloc (.cells #[.int .i64 0, .slice none 0 0] 27)).heap.size ((w.alloc (.cells #[.int .i64 size, .slice A n0 c0] 27)).alloc (.cells #[.int .i64 0, .slice none 0 0] 27)) w1)
    (hg : ((w.alloc (.cells #[.int .i64 size, .slice A n0 c0] 27)).alloc (.cells #[.int .i64 0, .slice none 0 0] 27)).heap.size ≤ g) (hR : hd.R 38 w1 ((w.alloc (.cells #[.int .i64 size, .slice A n0 c0] 27)).alloc (.cells #[.int .i64 0, .slice none 0 0] 27)).heap.size (fun _ => True) (.slice (some ⟨g, 0, none⟩) n c) h0) (hl : h0.length = n) (hn : 0 < n) :
    TW w (w1.setCell ⟨w.heap.size, 1, none⟩ (.slice (some ⟨g, 0, none⟩) n c)) size g n c h0 h0 lv 0 ∧ w1.heap[w.heap.size]? = some (.cells #[.int .i64 size, .slice A n0 c0] 27 (0, 0)) := by
  have e1 : (w.alloc (.cells #[.int .i64 size, .slice A n0 c0] 27)).heap.size = w.heap.size + 1 := by simp
  have e2 : ((w.alloc (.cells #[.int .i64 size, .slice A n0 c0] 27)).alloc (.cells #[.int .i64 0, .slice none 0 0] 27)).heap.size = w.heap.size + 2 := by simp
  have h1 := blk_below (blk_alloc (blk_new w (.cells #[.int .i64 size, .slice A n0 c0] 27)) (.cells #[.int .i64 0, .slice none 0 0] 27)) hb
  have h2 := blk_below (blk_new (w.alloc (.cells #[.int .i64 size, .slice A n0 c0] 27)) (.cells #[.int .i64 0, .slice none 0 0] 27)) hb
  rw [e1] at h2
  have hbb : Below w.heap.size w w1 := below_step (((Below.refl w.heap.size w).alloc (Nat.le_refl _) (.cells #[.int .i64 size, .slice A n0 c0] 27)).alloc (by simp) (.cells #[.int .i64 0, .slice none 0 0] 27)) hb
  have hs1 : (w1.setCell ⟨w.heap.size, 1, none⟩ (.slice (some ⟨g, 0, none⟩) n c)).heap.size = w1.heap.size := by simp
  obtain ⟨b1, _⟩ := hd_typed (Kd.R_lower hR (base' := 0) (Nat.zero_le _)) hn
  rw [e2] at hg
  refine ⟨⟨blk_put h1 1 _ rfl, blk_far h2 (p := ⟨w.heap.size, 1, none⟩) (by show w.heap.size + 1 ≠ w.heap.size; omega) _, hbb.setCell (p := ⟨w.heap.size, 1, none⟩) (Nat.le_refl _) _, hl, by omega, ?_, fun _ _ => rfl, fun _ => g + 1, Nat.lt_succ_self _, fun _ _ => Nat.le_refl _, by show g + 1 ≤ _; rw [hs1]; omega, fun j p hj => absurd hj (by omega)⟩, h1⟩
  exact Kd.R_lower (Kd.R_mono (Kd.R_far (Kd.R_mono (Kd.R_bound hR) (fun k hk => hk.2)) (p := ⟨w.heap.size, 1, none⟩) (fun k hk => by have := hk.1; rw [e2] at this; show k ≠ w.heap.size; omega) _) (fun _ _ => trivial)) (by rw [e2]; omega)
/-- the result's block is filled -/
theorem tw_result {w W : World} {v : Value} {lv : List (List Int)} {a b : Value} {r : Nat} (h : Kd.S (Kd.slice 53 (Kd.int .u64)) 38 W w.heap.size (fun _ => True) v lv) (hr : W.heap[r]? = some (.cells #[a, b] 27 (0, 0))) (hb : Below w.heap.size w W) (hrb : w.heap.size ≤ r) (x y : Value) :
    ((W.setCell ⟨r, 0, none⟩ x).setCell ⟨r, 1, none⟩ y).cell? ⟨r, 0, none⟩ = some x ∧ ((W.setCell ⟨r, 0, none⟩ x).setCell ⟨r, 1, none⟩ y).cell? ⟨r, 1, none⟩ = some y ∧ Kd.S (Kd.slice 53 (Kd.int .u64)) 38 ((W.setCell ⟨r, 0, none⟩ x).setCell ⟨r, 1, none⟩ y) w.heap.size (fun _ => True) v lv ∧ Below w.heap.size w ((W.setCell ⟨r, 0, none⟩ x).setCell ⟨r, 1, none⟩ y) := by
  have h1 : (W.setCell ⟨r, 0, none⟩ x).heap[r]? = some (.cells #[x, b] 27 (0, 0)) := blk_put hr 0 x rfl
  have h2 : ((W.setCell ⟨r, 0, none⟩ x).setCell ⟨r, 1, none⟩ y).heap[r]? = some (.cells #[x, y] 27 (0, 0)) := blk_put h1 1 y rfl
  exact ⟨blk_cell h2 0, blk_cell h2 1, Kd.S_set (Kd.S_set h hr (by decide) 0 x) h1 (by decide) 1 y, (hb.setCell (p := ⟨r, 0, none⟩) hrb x).setCell (p := ⟨r, 1, none⟩) hrb y⟩
theorem tree_wrap (j : Nat) (h : j < 1000000) : wrap64 ((j : Int) + 1) = ((j + 1 : Nat) : Int) := by unfold wrap64; omega
set_option maxHeartbeats 8000000 in
theorem tree_twin_calls (size : Int) (A : Option Addr) (c : Nat) (lv : List (List Int)) (w : World) (hC : Kd.C (Kd.slice 53 (Kd.int .u64)) w A lv.length lv) (hc : lv.length ≤ c) (hp : 0 < lv.length) (hm : lv.length ≤ 1000) (hl : ∀ j, (lv.getD j []).length ≤ 100000) :
    Calls Try.prog 43 #[.agg #[.int .i64 size, .slice A lv.length c]] w fun e w' => ∃ v, e = .returned (.agg #[.int .i64 size, v]) ∧ Kd.S (Kd.slice 53 (Kd.int .u64)) 38 w' w.heap.size (fun _ => True) v lv ∧ Below w.heap.size w w' := by
  obtain ⟨h0, hh0, hhC, hhj⟩ := heads_of hC
  obtain ⟨n, hn⟩ : ∃ n, n = lv.length := ⟨_, rfl⟩
  rw [← hn] at hc hp hm hh0 ⊢
  have HC := Aside0.mk hhC
  have HJ := Aside0.mk hhj
  have HN := Aside0.mk hn
  have HL := Aside0.mk hl
  clear hC hhC hhj hn hl
  go_enter Try.func43, Try.ntmps43
  go_wp2_with (first | (go_at_call 48; (with_reducible refine (clone_heads A c n h0 hh0 hp (by omega) _ (Kd.C_alloc (Kd.C_alloc HC.out _) _) hc).mono ?_); rintro e w1 ⟨g, c', rfl, hg, hr, hb⟩; have hT := tw_start (lv := lv) hb hg hr hh0 hp; have HT := Aside0.mk hT.1; have z1 := blk_cell hT.2 0; have z2 := blk_cell hT.2 1; have z3 := blk_frozen hT.2 0; have z4 := blk_frozen hT.2 1; clear hr hb hg hT))
  go_loopg [12] n (fun k v12 wr => ∃ (j : Nat) (hs : List Hd), v12 = .int .i64 (j : Int) ∧ k = n - j ∧ j ≤ n ∧ TW w wr size g n c' h0 hs lv j)
  case atStart => exact ⟨0, h0, rfl, rfl, Nat.zero_le _, HT.out⟩
  case round =>
    clear HT z1 z2 z3 z4
    obtain ⟨j, hs, rfl, hgk, hj, hT⟩ := hrel
    have hT1 := Aside0.mk hT
    have HG := Aside0.mk hgk
    clear hT hgk
    by_cases c1 : j < n
    · have c1b := eq_true (show (j : Int) < (n : Int) by omega)
      have c1c := decide_eq_true (show (j : Int) < (n : Int) by omega)
      have c1d : (j : Int) < (n : Int) := by omega
      obtain ⟨Aj, cj, hj0, hle, hCj⟩ := HJ.out j (by rw [← HN.out]; exact c1)
      obtain ⟨s1, s2⟩ := Kd.R_celln (none, 0, 0) hT1.out.2.2.2.2.2.1 (j : Int) (by omega) (by omega)
      have hrd : rdOf (none, 0, 0) hs (j : Int) = (Aj, (lv.getD j []).length, cj) := by
        unfold rdOf
        rw [Int.toNat_natCast, List.getD_eq_getElem?_getD, hT1.out.2.2.2.2.2.2.1 j (Nat.le_refl _), hj0]
        rfl
      rw [hrd, Int.toNat_natCast] at s1
      rw [Int.toNat_natCast] at s2
      replace s1 : wr.cell? ⟨g, j, none⟩ = some (.slice Aj (lv.getD j []).length cj) := s1
      have HC2 := Aside0.mk (Kd.C_below hCj hT1.out.2.2.1)
      have HLE := Aside0.mk hle
      have HLL := Aside0.mk (HL.out j)
      clear hrd hj0 hCj hle
      go_wp2
      refine start_ (n := 7) (S := fun w' => w'.cell? ⟨w.heap.size, 1, none⟩ = some (.slice (some ⟨g, 0, none⟩) n c')) (ds := [6]) #[false, false, false, false, false, false, false] (by kernel_rfl) rfl rfl (blk_cell hT1.out.1 1) (fun hHeld => ?_)
      refine pure_ (i := 0) (N := some 17) (v := ?_) (a' := ?_) #[true, false, false, false, false, false, false] rfl rfl (by kernel_rfl) (fun _ _ _ h => h) (Or.inl ⟨by rfl, ?_⟩) ?_ ?_
      rotate_left
      · intro w'
        go_simp
        with_reducible rfl
      rotate_left
      · simp only [Act.put, List.setIfInBounds_toArray, List.set_cons_zero, List.set_cons_succ, i64_w, i32_w]
        rfl
      refine take_ (i := 1) (N := some 18) (v := ?_) (a' := ?_) #[true, true, false, false, false, false, false] rfl rfl (by kernel_rfl) (fun _ _ _ h => h) (Or.inl ⟨by rfl, ?_⟩) hHeld ?_ ?_
      rotate_left
      · intro w' hw'_
        obtain hq1 := hw'_
        go_simp
        with_reducible rfl
      rotate_left
      · simp only [Act.put, List.setIfInBounds_toArray, List.set_cons_zero, List.set_cons_succ, i64_w, i32_w]
        rfl
      refine pure_ (i := 2) (N := some 19) (v := ?_) (a' := ?_) #[true, true, true, false, false, false, false] rfl rfl (by kernel_rfl) (fun _ _ _ h => h) (Or.inl ⟨by rfl, ?_⟩) ?_ ?_
      rotate_left
      · intro w'
        go_simp
        with_reducible rfl
      rotate_left
      · simp only [Act.put, List.setIfInBounds_toArray, List.set_cons_zero, List.set_cons_succ, i64_w, i32_w]
        rfl
      refine pure_ (i := 3) (N := some 20) (v := ?_) (a' := ?_) #[true, true, true, true, false, false, false] rfl rfl (by kernel_rfl) (fun _ _ _ h => h) (Or.inl ⟨by rfl, ?_⟩) ?_ ?_
      rotate_left
      · intro w'
        go_simp
        with_reducible rfl
      rotate_left
      · simp only [Act.put, List.setIfInBounds_toArray, List.set_cons_zero, List.set_cons_succ, i64_w, i32_w]
        rfl
      refine one_ (i := 4) (N := some 21) #[true, true, true, true, true, false, false] rfl rfl (by kernel_rfl) (by decide) (fun K hK => ?_)
      refine goes_ Try.func41 (by kernel_rfl) rfl #[.slice Aj (lv.getD j []).length cj] (by rfl) rfl rfl (by (try simp only [List.map_toArray, List.map_cons, List.map_nil]); first | done | rfl) ?_
      with_reducible refine (slices_Clone_uint64_uint64_41.calls Aj cj (lv.getD j []) (lv.getD j []) _ (Kd.C_drew HC2.out) HLE.out (clone41_f _ HLL.out)).mono ?_
      rintro e w1 ⟨v, rfl, hr, hb⟩
      obtain ⟨Aq, cq, eq_⟩ := Kd.R_slice hr
      subst eq_
      refine ⟨_, rfl, ?_⟩
      have hT := tw_step (hT1.out.drewN 1) c1 (Aq, (lv.getD j []).length, cq) hr hb
      have HT := Aside0.mk hT
      have t1 := blk_cell (blk_below (blk_drewN hT1.out.1 1) hb) 1
      have t2 := Kd.R_celln (d := (none, 0, 0)) (Kd.R_below (Kd.R_drewN hT1.out.2.2.2.2.2.1 1) hb) (j : Int) (by omega) (by omega)
      have T2 := Aside0.mk t2
      clear hT t2
      refine hK.out _ _ t1 (fun hHeld => ?_)
      clear hK K
      refine norm_ (a' := ?_) ?_ ?_
      rotate_left
      · show Act.put _ (some 21) _ = _
        simp only [Act.put, List.setIfInBounds_toArray, List.set_cons_zero, List.set_cons_succ, i64_w, i32_w]
        rfl
      refine pure_ (i := 5) (N := some 22) (v := ?_) (a' := ?_) #[true, true, true, true, true, true, false] rfl rfl (by kernel_rfl) (fun _ _ _ h => h) (Or.inl ⟨by rfl, ?_⟩) ?_ ?_
      rotate_left
      · intro w'
        go_simp
        with_reducible rfl
      rotate_left
      · simp only [Act.put, List.setIfInBounds_toArray, List.set_cons_zero, List.set_cons_succ, i64_w, i32_w]
        rfl
      refine last_ (i := 6) (N := none) #[true, true, true, true, true, true, true] rfl rfl (by kernel_rfl) (by decide) (fun K hK => ?_)
      refine skip_ (w1 := w1.setCell ⟨g, j, none⟩ (hdEnc (Aq, (lv.getD j []).length, cq))) (by rfl) rfl ?_ ?_
      · have hq1 := T2.out.1
        have hq2 := T2.out.2
        rw [Int.toNat_natCast] at hq1 hq2
        go_simp
        rfl
      refine hK.out _ _ ?_
      clear hK K
      refine done_ (by kernel_rfl) ?_
      have HT2 := Aside0.mk HT.out
      clear HT
      go_wp2
      go_roundg (n - (j + 1))
      case measure => have := HG.out; omega
      case rel => exact ⟨j + 1, _, by first | rfl | (rw [tree_wrap j (by omega)]; done), rfl, by omega, HT2.out⟩
    · obtain rfl : j = n := by omega
      have c1b := eq_false (show ¬ (j : Int) < (j : Int) by omega)
      have c1c := decide_eq_false (show ¬ (j : Int) < (j : Int) by omega)
      have z1 := blk_cell hT1.out.1 0
      have z2 := blk_cell hT1.out.1 1
      have z3 := blk_cell hT1.out.2.1 0
      have z4 := blk_cell hT1.out.2.1 1
      have z5 := blk_frozen hT1.out.2.1 0
      have z6 := blk_frozen hT1.out.2.1 1
      go_wp2
      have hS := tw_end hT1.out HN.out.symm
      obtain ⟨x1, x2, x3, x4⟩ := tw_result hS hT1.out.2.1 hT1.out.2.2.1 (Nat.le_succ _) (.int .i64 size) (.slice (some ⟨g, 0, none⟩) j c')
      exact bodyPost_ret (v := .agg #[.int .i64 size, .slice (some ⟨g, 0, none⟩) j c']) (by simp [results, Try.results43, go_sem, x1, x2]) rfl ⟨_, rfl, x3, x4⟩
end Go.Proofs.Ytgbkdmcbdilgaaa.PRankS
