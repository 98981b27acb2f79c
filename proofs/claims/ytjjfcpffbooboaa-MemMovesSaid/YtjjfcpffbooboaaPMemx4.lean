/- Written by a program of this session (wip/tools/ext.py) out of the translation: Go functions told as Lean functions, with their walks; or the row of a law out of its plain part. Lean checks it. -/
import Derived.Test.YtjjfcpffbooboaaPMemx0
import Derived.Test.YtjjfcpffbooboaaPMemx2
import Derived.Test.YtjjfcpffbooboaaPMemx3
namespace Go.Proofs.Ytjjfcpffbooboaa.PMem
open Go.RowKit Go.Proofs.YtjjfcpffbooboaaW.PrintWords Go.Proofs.YtjjfcpffbooboaaW.PrintLast Go.Proofs.YtjjfcpffbooboaaW.PrintMore
attribute [local go_sem] max2_int min2_int max_two min_two max_three min_three max_four min_four   -- for this text's walks alone
set_option linter.unusedVariables false
set_option linter.unusedSimpArgs false

/-! ### hodmanlaw15_MemMoves: function 4 -/
mutual
def hodmanlaw15_MemMoves.j0 : Nat → List Int → Int → Int → Int → Bool → Option (Bool)
  | 0, _, _, _, _, _ => none
  | k + 1, x0, x1, x2, x3, x27 => if x27 = true then (some true) else (if (x0.length : Int) = 0 then (none) else (if (wrap64 ((wrap64 ((x0.length : Int) - (mx (Int.tmod (wrap64 (x1)) (x0.length : Int)) (Int.tmod (wrap64 (x2)) (x0.length : Int))))) + 1)) = 0 then (none) else ((mem_Move.f x0 (Int.tmod (wrap64 (x1)) (x0.length : Int)) (Int.tmod (wrap64 (x2)) (x0.length : Int)) (Int.tmod (wrap64 (x3)) (wrap64 ((wrap64 ((x0.length : Int) - (mx (Int.tmod (wrap64 (x1)) (x0.length : Int)) (Int.tmod (wrap64 (x2)) (x0.length : Int))))) + 1)))).bind fun bt135 => (if bt135.2 = true then (hodmanlaw15_MemMoves.j1 k x0 (Int.tmod (wrap64 (x1)) (x0.length : Int)) (Int.tmod (wrap64 (x2)) (x0.length : Int)) (Int.tmod (wrap64 (x3)) (wrap64 ((wrap64 ((x0.length : Int) - (mx (Int.tmod (wrap64 (x1)) (x0.length : Int)) (Int.tmod (wrap64 (x2)) (x0.length : Int))))) + 1))) bt135.1 ((bt135.1.length : Int) != (x0.length : Int))) else (hodmanlaw15_MemMoves.j1 k x0 (Int.tmod (wrap64 (x1)) (x0.length : Int)) (Int.tmod (wrap64 (x2)) (x0.length : Int)) (Int.tmod (wrap64 (x3)) (wrap64 ((wrap64 ((x0.length : Int) - (mx (Int.tmod (wrap64 (x1)) (x0.length : Int)) (Int.tmod (wrap64 (x2)) (x0.length : Int))))) + 1))) bt135.1 true)))))
def hodmanlaw15_MemMoves.j1 : Nat → List Int → Int → Int → Int → List Int → Bool → Option (Bool)
  | 0, _, _, _, _, _, _ => none
  | k + 1, x0, x9, x10, x11, x12, x64 => if x64 = true then (some false) else (hodmanlaw15_MemMoves.l0 k x0 x9 x10 x11 x12 0)
def hodmanlaw15_MemMoves.l0 : Nat → List Int → Int → Int → Int → List Int → Int → Option (Bool)
  | 0, _, _, _, _, _, _ => none
  | k + 1, x0, x9, x10, x11, x12, x14 => if x14 < (x0.length : Int) then (if 0 ≤ x14 then (if x14 ≥ x10 then (hodmanlaw15_MemMoves.j3 k x0 x9 x10 x11 x12 x14 (rd x0 x14) (decide (x14 < (wrap64 (x10 + x11))))) else (hodmanlaw15_MemMoves.j3 k x0 x9 x10 x11 x12 x14 (rd x0 x14) false)) else (none)) else ((mem_Move.f x0 x9 x10 (wrap64 ((x0.length : Int) + 1))).bind fun bt139 => (some (!bt139.2)))
def hodmanlaw15_MemMoves.j3 : Nat → List Int → Int → Int → Int → List Int → Int → Int → Bool → Option (Bool)
  | 0, _, _, _, _, _, _, _, _ => none
  | k + 1, x0, x9, x10, x11, x12, x14, x15, x84 => if x84 = true then (if 0 ≤ (wrap64 ((wrap64 (x14 - x10)) + x9)) then (if (wrap64 ((wrap64 (x14 - x10)) + x9)) < (x0.length : Int) then (if 0 ≤ x14 then (if x14 < (x12.length : Int) then (if (rd x12 x14) = (rd x0 (wrap64 ((wrap64 (x14 - x10)) + x9))) then (hodmanlaw15_MemMoves.l0 k x0 x9 x10 x11 x12 (wrap64 (x14 + 1))) else (some false)) else (none)) else (none)) else (none)) else (none)) else (if 0 ≤ x14 then (if x14 < (x12.length : Int) then (if (rd x12 x14) = x15 then (hodmanlaw15_MemMoves.l0 k x0 x9 x10 x11 x12 (wrap64 (x14 + 1))) else (some false)) else (none)) else (none))
end
def hodmanlaw15_MemMoves.f (k : Nat) (l0 : List Int) (a1 : Int) (a2 : Int) (a3 : Int) : Option (Bool) := (hodmanlaw15_begun.f).bind fun t134 => (if t134 = true then (if (l0.length : Int) > 50 then (hodmanlaw15_MemMoves.j0 k l0 a1 a2 a3 true) else (hodmanlaw15_MemMoves.j0 k l0 a1 a2 a3 ((l0.length : Int) == 0))) else (some false))
theorem hodmanlaw15_MemMoves.mono_l : ∀ k, (∀ y0 y1 y2 y3 y4, LeO (hodmanlaw15_MemMoves.j0 k y0 y1 y2 y3 y4) (hodmanlaw15_MemMoves.j0 (k + 1) y0 y1 y2 y3 y4)) ∧ (∀ y0 y1 y2 y3 y4 y5, LeO (hodmanlaw15_MemMoves.j1 k y0 y1 y2 y3 y4 y5) (hodmanlaw15_MemMoves.j1 (k + 1) y0 y1 y2 y3 y4 y5)) ∧ (∀ y0 y1 y2 y3 y4 y5, LeO (hodmanlaw15_MemMoves.l0 k y0 y1 y2 y3 y4 y5) (hodmanlaw15_MemMoves.l0 (k + 1) y0 y1 y2 y3 y4 y5)) ∧ (∀ y0 y1 y2 y3 y4 y5 y6 y7, LeO (hodmanlaw15_MemMoves.j3 k y0 y1 y2 y3 y4 y5 y6 y7) (hodmanlaw15_MemMoves.j3 (k + 1) y0 y1 y2 y3 y4 y5 y6 y7))
  | 0 => ⟨fun _ _ _ _ _ r h => by simp [hodmanlaw15_MemMoves.j0] at h, fun _ _ _ _ _ _ r h => by simp [hodmanlaw15_MemMoves.j1] at h, fun _ _ _ _ _ _ r h => by simp [hodmanlaw15_MemMoves.l0] at h, fun _ _ _ _ _ _ _ _ r h => by simp [hodmanlaw15_MemMoves.j3] at h⟩
  | k + 1 => by
    obtain ⟨ih0, ih1, ih2, ih3⟩ := hodmanlaw15_MemMoves.mono_l k
    refine ⟨?_, ?_, ?_, ?_⟩
    · intro y0 y1 y2 y3 y4
      unfold hodmanlaw15_MemMoves.j0
      repeat' first
      | (with_reducible exact ih0 _ _ _ _ _)
      | (with_reducible exact ih1 _ _ _ _ _ _)
      | (with_reducible exact ih2 _ _ _ _ _ _)
      | (with_reducible exact ih3 _ _ _ _ _ _ _ _)
      | (with_reducible exact LeO.refl _)
      | (with_reducible exact LeO.none _)
      | (with_reducible refine LeO.ite ?_ ?_)
      | (with_reducible refine LeO.bind ?_ (fun _ => ?_))
      | exact ih0 _ _ _ _ _
      | exact ih1 _ _ _ _ _ _
      | exact ih2 _ _ _ _ _ _
      | exact ih3 _ _ _ _ _ _ _ _
      | exact LeO.none _
      | refine LeO.ite ?_ ?_
      | refine LeO.bind ?_ (fun _ => ?_)
    · intro y0 y1 y2 y3 y4 y5
      unfold hodmanlaw15_MemMoves.j1
      repeat' first
      | (with_reducible exact ih0 _ _ _ _ _)
      | (with_reducible exact ih1 _ _ _ _ _ _)
      | (with_reducible exact ih2 _ _ _ _ _ _)
      | (with_reducible exact ih3 _ _ _ _ _ _ _ _)
      | (with_reducible exact LeO.refl _)
      | (with_reducible exact LeO.none _)
      | (with_reducible refine LeO.ite ?_ ?_)
      | (with_reducible refine LeO.bind ?_ (fun _ => ?_))
      | exact ih0 _ _ _ _ _
      | exact ih1 _ _ _ _ _ _
      | exact ih2 _ _ _ _ _ _
      | exact ih3 _ _ _ _ _ _ _ _
      | exact LeO.none _
      | refine LeO.ite ?_ ?_
      | refine LeO.bind ?_ (fun _ => ?_)
    · intro y0 y1 y2 y3 y4 y5
      unfold hodmanlaw15_MemMoves.l0
      repeat' first
      | (with_reducible exact ih0 _ _ _ _ _)
      | (with_reducible exact ih1 _ _ _ _ _ _)
      | (with_reducible exact ih2 _ _ _ _ _ _)
      | (with_reducible exact ih3 _ _ _ _ _ _ _ _)
      | (with_reducible exact LeO.refl _)
      | (with_reducible exact LeO.none _)
      | (with_reducible refine LeO.ite ?_ ?_)
      | (with_reducible refine LeO.bind ?_ (fun _ => ?_))
      | exact ih0 _ _ _ _ _
      | exact ih1 _ _ _ _ _ _
      | exact ih2 _ _ _ _ _ _
      | exact ih3 _ _ _ _ _ _ _ _
      | exact LeO.none _
      | refine LeO.ite ?_ ?_
      | refine LeO.bind ?_ (fun _ => ?_)
    · intro y0 y1 y2 y3 y4 y5 y6 y7
      unfold hodmanlaw15_MemMoves.j3
      repeat' first
      | (with_reducible exact ih0 _ _ _ _ _)
      | (with_reducible exact ih1 _ _ _ _ _ _)
      | (with_reducible exact ih2 _ _ _ _ _ _)
      | (with_reducible exact ih3 _ _ _ _ _ _ _ _)
      | (with_reducible exact LeO.refl _)
      | (with_reducible exact LeO.none _)
      | (with_reducible refine LeO.ite ?_ ?_)
      | (with_reducible refine LeO.bind ?_ (fun _ => ?_))
      | exact ih0 _ _ _ _ _
      | exact ih1 _ _ _ _ _ _
      | exact ih2 _ _ _ _ _ _
      | exact ih3 _ _ _ _ _ _ _ _
      | exact LeO.none _
      | refine LeO.ite ?_ ?_
      | refine LeO.bind ?_ (fun _ => ?_)
theorem hodmanlaw15_MemMoves.mono : ∀ a0 a1 a2 a3 k, LeO (hodmanlaw15_MemMoves.f k a0 a1 a2 a3) (hodmanlaw15_MemMoves.f (k + 1) a0 a1 a2 a3) := by
  intro a0 a1 a2 a3 k
  obtain ⟨ih0, ih1, ih2, ih3⟩ := hodmanlaw15_MemMoves.mono_l k
  unfold hodmanlaw15_MemMoves.f
  repeat' first
      | (with_reducible exact ih0 _ _ _ _ _)
      | (with_reducible exact ih1 _ _ _ _ _ _)
      | (with_reducible exact ih2 _ _ _ _ _ _)
      | (with_reducible exact ih3 _ _ _ _ _ _ _ _)
      | (with_reducible exact LeO.refl _)
      | (with_reducible exact LeO.none _)
      | (with_reducible refine LeO.ite ?_ ?_)
      | (with_reducible refine LeO.bind ?_ (fun _ => ?_))
      | exact ih0 _ _ _ _ _
      | exact ih1 _ _ _ _ _ _
      | exact ih2 _ _ _ _ _ _
      | exact ih3 _ _ _ _ _ _ _ _
      | exact LeO.none _
      | refine LeO.ite ?_ ?_
      | refine LeO.bind ?_ (fun _ => ?_)
set_option maxHeartbeats 8000000 in
set_option maxRecDepth 100000 in
theorem hodmanlaw15_MemMoves.calls (k : Nat) (A0 : Option Addr) (c0 : Nat) (l0 : List Int) (a1 : Int) (a2 : Int) (a3 : Int) (r : Bool) (w : World) (hr0 : Kd.C (Kd.int .u8) w A0 l0.length l0) (hc0 : l0.length ≤ c0) (h : hodmanlaw15_MemMoves.f k l0 a1 a2 a3 = some r) (hrt_ : r = true) :
    Calls Try.prog 4 #[.slice A0 l0.length c0, .int .u8 a1, .int .u8 a2, .int .u8 a3] w fun e w' => e = .returned (.bool r) ∧ Below w.heap.size w w' := by
  have HR0 := Aside0.mk hr0
  have HC0 := Aside0.mk hc0
  clear hr0 hc0
  have HB := Aside0.mk (Below.refl w.heap.size w)
  have H : ((hodmanlaw15_begun.f).bind fun t134 => (if t134 = true then (if (l0.length : Int) > 50 then (hodmanlaw15_MemMoves.j0 k l0 a1 a2 a3 true) else (hodmanlaw15_MemMoves.j0 k l0 a1 a2 a3 ((l0.length : Int) == 0))) else (some false))) = some r := h
  clear h
  have HRT := Aside0.mk hrt_
  clear hrt_
  replace H := Option.bind_eq_some_iff.mp H
  obtain ⟨t134, A50, H⟩ := H
  replace H : (if t134 = true then (if (l0.length : Int) > 50 then (hodmanlaw15_MemMoves.j0 k l0 a1 a2 a3 true) else (hodmanlaw15_MemMoves.j0 k l0 a1 a2 a3 ((l0.length : Int) == 0))) else (some false)) = some r := H
  have A5 := Aside0.mk A50
  clear A50
  by_cases c6 : t134 = true
  · subst c6
    have H1 : (if (l0.length : Int) > 50 then (hodmanlaw15_MemMoves.j0 k l0 a1 a2 a3 true) else (hodmanlaw15_MemMoves.j0 k l0 a1 a2 a3 ((l0.length : Int) == 0))) = some r := by rw [if_pos rfl] at H; exact H
    clear H
    have H := H1
    clear H1
    have HC7 := Aside0.mk H
    clear H
    go_enter Try.func4, Try.ntmps4
    go_upto_region 3 with (first | (go_at_call 11; (with_reducible refine (hodmanlaw15_begun.calls  true _ A5.out).mono ?_); rintro e w8 ⟨rfl, hb⟩; have n0_ := Aside0.mk (below_step (by repeat (first | (with_reducible first | exact HB.out | apply below_alloc | apply pw_below_drewN | apply below_drew1) | exact HB.out)) hb); clear HB; have HB := n0_; clear n0_; (try clear hb); (try clear hb2); (try clear hk); (try clear hi)))
    repeat (go_quiet (first | (go_at_call 11; (with_reducible refine (hodmanlaw15_begun.calls  true _ A5.out).mono ?_); rintro e w8 ⟨rfl, hb⟩; have n0_ := Aside0.mk (below_step (by repeat (first | (with_reducible first | exact HB.out | apply below_alloc | apply pw_below_drewN | apply below_drew1) | exact HB.out)) hb); clear HB; have HB := n0_; clear n0_; (try clear hb); (try clear hb2); (try clear hk); (try clear hi))); go_upto_region 3 with (first | (go_at_call 11; (with_reducible refine (hodmanlaw15_begun.calls  true _ A5.out).mono ?_); rintro e w8 ⟨rfl, hb⟩; have n0_ := Aside0.mk (below_step (by repeat (first | (with_reducible first | exact HB.out | apply below_alloc | apply pw_below_drewN | apply below_drew1) | exact HB.out)) hb); clear HB; have HB := n0_; clear n0_; (try clear hb); (try clear hb2); (try clear hk); (try clear hi))))
    (try simp only [Act.put, List.setIfInBounds_toArray, List.set_cons_zero, List.set_cons_succ])
    go_cut [27] (fun v27 wc => ∃ (kq : Nat) (x27_6 : Bool), v27 = .bool x27_6 ∧ Aside0 (hodmanlaw15_MemMoves.j0 kq l0 a1 a2 a3 x27_6 = some r) ∧ Aside0 (kq ≤ k) ∧ Aside0 (Below w.heap.size w wc))
    case first =>
      have H := HC7.out
      clear HC7
      by_cases c9 : (l0.length : Int) > 50
      · rw [if_pos c9] at H
        have c9b0 : decide (50 < (l0.length : Int)) = true := decide_eq_true c9
        have c9b1 : decide (50 < l0.length) = true := decide_eq_true (by omega)
        clear c9
        (first | rw [c9b0] | (simp only [i64_w, i32_w]; rw [c9b0]) | skip)
        have H' := Aside0.mk H
        clear H
        go_wp2
        repeat (go_quiet (fail); try go_wp2)
        go_meet
        case rel => exact ⟨_, (true), (by first | rfl | (simp; done) | (simp [*]; done)), H', ⟨by first | omega | exact Nat.le_refl _⟩, ⟨by repeat (first | (with_reducible first | exact HB.out | apply below_alloc | apply pw_below_drewN | apply below_drew1) | exact HB.out)⟩⟩
      · rw [if_neg c9] at H
        have c9b0 : decide (50 < (l0.length : Int)) = false := decide_eq_false c9
        have c9b1 : decide (50 < l0.length) = false := decide_eq_false (by omega)
        clear c9
        (first | rw [c9b0] | (simp only [i64_w, i32_w]; rw [c9b0]) | skip)
        have H' := Aside0.mk H
        clear H
        go_wp2
        repeat (go_quiet (fail); try go_wp2)
        go_meet
        case rel => exact ⟨_, (((l0.length : Int) == 0)), (by first | rfl | (simp; done) | (simp [*]; done)), H', ⟨by first | omega | exact Nat.le_refl _⟩, ⟨by repeat (first | (with_reducible first | exact HB.out | apply below_alloc | apply pw_below_drewN | apply below_drew1) | exact HB.out)⟩⟩
    case rest =>
      clear HC7
      try clear p2
      try clear c4
      try clear c6
      try clear c9
      try clear c9b0
      try clear c9b1
      obtain ⟨kq, x27_6, rfl, HA, HJ6, HB⟩ := hcut
      cases kq with
      | zero => exact absurd HA.out (by simp [hodmanlaw15_MemMoves.j0])
      | succ kj6 =>
        have H := HA.out
        clear HA
        simp only [hodmanlaw15_MemMoves.j0] at H
        by_cases c10 : x27_6 = true
        · subst c10
          have H1 : (some true) = some r := by rw [if_pos rfl] at H; exact H
          clear H
          have H := H1
          clear H1
          obtain rfl := Option.some.inj H
          go_wp2
          repeat (go_quiet (fail); try go_wp2)
          go_ret
          exact ⟨by first | rfl | (simp [errW_none, errW_some] <;> rfl) | (simp [*, errW_none, errW_some] <;> rfl), by repeat (first | (with_reducible first | exact HB.out | apply below_alloc | apply pw_below_drewN | apply below_drew1) | exact HB.out)⟩
        · replace c10 := Bool.eq_false_iff.mpr c10
          subst c10
          have H1 : (if (l0.length : Int) = 0 then (none) else (if (wrap64 ((wrap64 ((l0.length : Int) - (mx (Int.tmod (wrap64 (a1)) (l0.length : Int)) (Int.tmod (wrap64 (a2)) (l0.length : Int))))) + 1)) = 0 then (none) else ((mem_Move.f l0 (Int.tmod (wrap64 (a1)) (l0.length : Int)) (Int.tmod (wrap64 (a2)) (l0.length : Int)) (Int.tmod (wrap64 (a3)) (wrap64 ((wrap64 ((l0.length : Int) - (mx (Int.tmod (wrap64 (a1)) (l0.length : Int)) (Int.tmod (wrap64 (a2)) (l0.length : Int))))) + 1)))).bind fun bt135 => (if bt135.2 = true then (hodmanlaw15_MemMoves.j1 kj6 l0 (Int.tmod (wrap64 (a1)) (l0.length : Int)) (Int.tmod (wrap64 (a2)) (l0.length : Int)) (Int.tmod (wrap64 (a3)) (wrap64 ((wrap64 ((l0.length : Int) - (mx (Int.tmod (wrap64 (a1)) (l0.length : Int)) (Int.tmod (wrap64 (a2)) (l0.length : Int))))) + 1))) bt135.1 ((bt135.1.length : Int) != (l0.length : Int))) else (hodmanlaw15_MemMoves.j1 kj6 l0 (Int.tmod (wrap64 (a1)) (l0.length : Int)) (Int.tmod (wrap64 (a2)) (l0.length : Int)) (Int.tmod (wrap64 (a3)) (wrap64 ((wrap64 ((l0.length : Int) - (mx (Int.tmod (wrap64 (a1)) (l0.length : Int)) (Int.tmod (wrap64 (a2)) (l0.length : Int))))) + 1))) bt135.1 true))))) = some r := by rw [if_neg (show ¬ (false = true) by decide)] at H; exact H
          clear H
          have H := H1
          clear H1
          by_cases c11 : (l0.length : Int) = 0
          · rw [if_pos c11] at H
            exact absurd H (by simp)
          · rw [if_neg c11] at H
            have c11b0 : ((l0.length : Int) == 0) = false := beq_eq_false_iff_ne.mpr c11
            have c11b1 : ((l0.length : Int) != 0) = true := bne_iff_ne.mpr c11
            have c11b2 : ¬ (l0 = []) := fun h_ => c11 (by rw [h_]; rfl)
            obtain ⟨ji12, hji12⟩ : ∃ j_ : Int, (mx (Int.tmod (wrap64 (a1)) (l0.length : Int)) (Int.tmod (wrap64 (a2)) (l0.length : Int))) = j_ := ⟨_, rfl⟩
            (try rw [hji12] at c6)
            (try rw [hji12] at c9)
            (try rw [hji12] at c10)
            (try rw [hji12] at c11)
            replace H : (if (wrap64 ((wrap64 ((l0.length : Int) - (ji12))) + 1)) = 0 then (none) else ((mem_Move.f l0 (Int.tmod (wrap64 (a1)) (l0.length : Int)) (Int.tmod (wrap64 (a2)) (l0.length : Int)) (Int.tmod (wrap64 (a3)) (wrap64 ((wrap64 ((l0.length : Int) - (ji12))) + 1)))).bind fun bt135 => (if bt135.2 = true then (hodmanlaw15_MemMoves.j1 kj6 l0 (Int.tmod (wrap64 (a1)) (l0.length : Int)) (Int.tmod (wrap64 (a2)) (l0.length : Int)) (Int.tmod (wrap64 (a3)) (wrap64 ((wrap64 ((l0.length : Int) - (ji12))) + 1))) bt135.1 ((bt135.1.length : Int) != (l0.length : Int))) else (hodmanlaw15_MemMoves.j1 kj6 l0 (Int.tmod (wrap64 (a1)) (l0.length : Int)) (Int.tmod (wrap64 (a2)) (l0.length : Int)) (Int.tmod (wrap64 (a3)) (wrap64 ((wrap64 ((l0.length : Int) - (ji12))) + 1))) bt135.1 true)))) = some r := by first | (rw [hji12] at H; exact H) | (simp only [hji12] at H ⊢; exact H)
            have hji12_ : (if (Int.tmod (wrap64 (a1)) (l0.length : Int)) < (Int.tmod (wrap64 (a2)) (l0.length : Int)) then (Int.tmod (wrap64 (a2)) (l0.length : Int)) else (Int.tmod (wrap64 (a1)) (l0.length : Int))) = ji12 := hji12
            by_cases c13 : (wrap64 ((wrap64 ((l0.length : Int) - (ji12))) + 1)) = 0
            · rw [if_pos c13] at H
              exact absurd H (by simp)
            · rw [if_neg c13] at H
              have c13b0 : ((wrap64 ((wrap64 ((l0.length : Int) - (ji12))) + 1)) == 0) = false := beq_eq_false_iff_ne.mpr c13
              have c13b1 : ((wrap64 ((wrap64 ((l0.length : Int) - (ji12))) + 1)) != 0) = true := bne_iff_ne.mpr c13
              replace H := Option.bind_eq_some_iff.mp H
              obtain ⟨⟨t135, t136⟩, A140, H⟩ := H
              replace H : (if t136 = true then (hodmanlaw15_MemMoves.j1 kj6 l0 (Int.tmod (wrap64 (a1)) (l0.length : Int)) (Int.tmod (wrap64 (a2)) (l0.length : Int)) (Int.tmod (wrap64 (a3)) (wrap64 ((wrap64 ((l0.length : Int) - (ji12))) + 1))) t135 ((t135.length : Int) != (l0.length : Int))) else (hodmanlaw15_MemMoves.j1 kj6 l0 (Int.tmod (wrap64 (a1)) (l0.length : Int)) (Int.tmod (wrap64 (a2)) (l0.length : Int)) (Int.tmod (wrap64 (a3)) (wrap64 ((wrap64 ((l0.length : Int) - (ji12))) + 1))) t135 true)) = some r := H
              have A14 := Aside0.mk A140
              clear A140
              have HC15 := Aside0.mk H
              clear H
              go_upto_region 8 with (first | (go_at_call 14; (with_reducible refine (mem_Move.calls _ _ l0 (Int.tmod (wrap64 (a1)) (l0.length : Int)) (Int.tmod (wrap64 (a2)) (l0.length : Int)) (Int.tmod (wrap64 (a3)) (wrap64 ((wrap64 ((l0.length : Int) - (ji12))) + 1))) t135 t136 _ ?side1 ?side2 A14.out).mono ?_); (case side1 => repeat (first | exact (Kd.C_below HR0.out HB.out) | (with_reducible refine Kd.C_alloc ?_ _) | (with_reducible refine Kd.C_drewN ?_ _) | (with_reducible refine Kd.C_drew ?_))); (case side2 => exact HC0.out); rintro e w16 ⟨v137, rfl, ho0, hb⟩; have n0_ := Aside0.mk (Kd.R_lower ho0 (below_size (by repeat (first | (with_reducible first | exact HB.out | apply below_alloc | apply pw_below_drewN | apply below_drew1) | exact HB.out)))); have n1_ := Aside0.mk (below_step (by repeat (first | (with_reducible first | exact HB.out | apply below_alloc | apply pw_below_drewN | apply below_drew1) | exact HB.out)) hb); clear HB; have HO138 := n0_; have HB := n1_; clear n0_ n1_; (try clear hb); (try clear hb2); (try clear hk); (try clear hi); (try clear ho0)))
              repeat (go_quiet (first | (go_at_call 14; (with_reducible refine (mem_Move.calls _ _ l0 (Int.tmod (wrap64 (a1)) (l0.length : Int)) (Int.tmod (wrap64 (a2)) (l0.length : Int)) (Int.tmod (wrap64 (a3)) (wrap64 ((wrap64 ((l0.length : Int) - (ji12))) + 1))) t135 t136 _ ?side1 ?side2 A14.out).mono ?_); (case side1 => repeat (first | exact (Kd.C_below HR0.out HB.out) | (with_reducible refine Kd.C_alloc ?_ _) | (with_reducible refine Kd.C_drewN ?_ _) | (with_reducible refine Kd.C_drew ?_))); (case side2 => exact HC0.out); rintro e w16 ⟨v137, rfl, ho0, hb⟩; have n0_ := Aside0.mk (Kd.R_lower ho0 (below_size (by repeat (first | (with_reducible first | exact HB.out | apply below_alloc | apply pw_below_drewN | apply below_drew1) | exact HB.out)))); have n1_ := Aside0.mk (below_step (by repeat (first | (with_reducible first | exact HB.out | apply below_alloc | apply pw_below_drewN | apply below_drew1) | exact HB.out)) hb); clear HB; have HO138 := n0_; have HB := n1_; clear n0_ n1_; (try clear hb); (try clear hb2); (try clear hk); (try clear hi); (try clear ho0))); go_upto_region 8 with (first | (go_at_call 14; (with_reducible refine (mem_Move.calls _ _ l0 (Int.tmod (wrap64 (a1)) (l0.length : Int)) (Int.tmod (wrap64 (a2)) (l0.length : Int)) (Int.tmod (wrap64 (a3)) (wrap64 ((wrap64 ((l0.length : Int) - (ji12))) + 1))) t135 t136 _ ?side1 ?side2 A14.out).mono ?_); (case side1 => repeat (first | exact (Kd.C_below HR0.out HB.out) | (with_reducible refine Kd.C_alloc ?_ _) | (with_reducible refine Kd.C_drewN ?_ _) | (with_reducible refine Kd.C_drew ?_))); (case side2 => exact HC0.out); rintro e w16 ⟨v137, rfl, ho0, hb⟩; have n0_ := Aside0.mk (Kd.R_lower ho0 (below_size (by repeat (first | (with_reducible first | exact HB.out | apply below_alloc | apply pw_below_drewN | apply below_drew1) | exact HB.out)))); have n1_ := Aside0.mk (below_step (by repeat (first | (with_reducible first | exact HB.out | apply below_alloc | apply pw_below_drewN | apply below_drew1) | exact HB.out)) hb); clear HB; have HO138 := n0_; have HB := n1_; clear n0_ n1_; (try clear hb); (try clear hb2); (try clear hk); (try clear hi); (try clear ho0))))
              (try simp only [Act.put, List.setIfInBounds_toArray, List.set_cons_zero, List.set_cons_succ])
              go_cut [64] (fun v64 wc => ∃ (kq : Nat) (x64_14 : Bool), v64 = .bool x64_14 ∧ Aside0 (hodmanlaw15_MemMoves.j1 kq l0 (Int.tmod (wrap64 (a1)) (l0.length : Int)) (Int.tmod (wrap64 (a2)) (l0.length : Int)) (Int.tmod (wrap64 (a3)) (wrap64 ((wrap64 ((l0.length : Int) - (ji12))) + 1))) t135 x64_14 = some r) ∧ Aside0 (kq ≤ kj6) ∧ Aside0 (Kd.R (Kd.int .u8) 5 wc w.heap.size (fun _ => True) v137 t135) ∧ Aside0 (Below w.heap.size w wc))
              case first =>
                have H := HC15.out
                clear HC15
                by_cases c17 : t136 = true
                · subst c17
                  have H1 : (hodmanlaw15_MemMoves.j1 kj6 l0 (Int.tmod (wrap64 (a1)) (l0.length : Int)) (Int.tmod (wrap64 (a2)) (l0.length : Int)) (Int.tmod (wrap64 (a3)) (wrap64 ((wrap64 ((l0.length : Int) - (ji12))) + 1))) t135 ((t135.length : Int) != (l0.length : Int))) = some r := by rw [if_pos rfl] at H; exact H
                  clear H
                  have H := H1
                  clear H1
                  have H' := Aside0.mk H
                  clear H
                  obtain ⟨Ao18, co18, eo18⟩ := Kd.R_slice HO138.out
                  subst eo18
                  go_wp2
                  repeat (go_quiet (fail); try go_wp2)
                  go_meet
                  case rel => exact ⟨_, (((t135.length : Int) != (l0.length : Int))), (by first | rfl | (simp; done) | (simp [*]; done)), H', ⟨by have := HJ6.out; first | omega | exact Nat.le_refl _⟩, ⟨by (with_reducible repeat (first | apply Kd.R_alloc | apply Kd.R_drewN | apply Kd.R_drew)); exact HO138.out⟩, ⟨by repeat (first | (with_reducible first | exact HB.out | apply below_alloc | apply pw_below_drewN | apply below_drew1) | exact HB.out)⟩⟩
                · replace c17 := Bool.eq_false_iff.mpr c17
                  subst c17
                  have H1 : (hodmanlaw15_MemMoves.j1 kj6 l0 (Int.tmod (wrap64 (a1)) (l0.length : Int)) (Int.tmod (wrap64 (a2)) (l0.length : Int)) (Int.tmod (wrap64 (a3)) (wrap64 ((wrap64 ((l0.length : Int) - (ji12))) + 1))) t135 true) = some r := by rw [if_neg (show ¬ (false = true) by decide)] at H; exact H
                  clear H
                  have H := H1
                  clear H1
                  have H' := Aside0.mk H
                  clear H
                  go_wp2
                  repeat (go_quiet (fail); try go_wp2)
                  go_meet
                  case rel => exact ⟨_, (true), (by first | rfl | (simp; done) | (simp [*]; done)), H', ⟨by have := HJ6.out; first | omega | exact Nat.le_refl _⟩, ⟨by (with_reducible repeat (first | apply Kd.R_alloc | apply Kd.R_drewN | apply Kd.R_drew)); exact HO138.out⟩, ⟨by repeat (first | (with_reducible first | exact HB.out | apply below_alloc | apply pw_below_drewN | apply below_drew1) | exact HB.out)⟩⟩
              case rest =>
                clear HC15
                try clear c1
                try clear p2
                try clear c4
                try clear c6
                try clear p6
                try clear c9
                try clear c9b0
                try clear c9b1
                try clear c10
                try clear c11
                try clear c11b0
                try clear c11b1
                try clear c11b2
                try clear c13
                try clear c13b0
                try clear c13b1
                try clear c17
                try clear p2
                obtain ⟨kq, x64_14, rfl, HA, HJ14, HO_12, HB⟩ := hcut
                cases kq with
                | zero => exact absurd HA.out (by simp [hodmanlaw15_MemMoves.j1])
                | succ kj14 =>
                  have H := HA.out
                  clear HA
                  simp only [hodmanlaw15_MemMoves.j1] at H
                  by_cases c19 : x64_14 = true
                  · subst c19
                    have H1 : (some false) = some r := by rw [if_pos rfl] at H; exact H
                    clear H
                    have H := H1
                    clear H1
                    exact absurd ((Option.some.inj H).trans HRT.out) (by decide)
                  · replace c19 := Bool.eq_false_iff.mpr c19
                    subst c19
                    have H1 : (hodmanlaw15_MemMoves.l0 kj14 l0 (Int.tmod (wrap64 (a1)) (l0.length : Int)) (Int.tmod (wrap64 (a2)) (l0.length : Int)) (Int.tmod (wrap64 (a3)) (wrap64 ((wrap64 ((l0.length : Int) - (ji12))) + 1))) t135 0) = some r := by rw [if_neg (show ¬ (false = true) by decide)] at H; exact H
                    clear H
                    have H := H1
                    clear H1
                    have H' := Aside0.mk H
                    clear H
                    go_wp2
                    repeat (go_quiet (fail); try go_wp2)
                    go_loopg [14] kj14 (fun kq v14 w' => ∃ (x14_3 : Int), v14 = .int .i64 x14_3 ∧ Aside0 (hodmanlaw15_MemMoves.l0 kq l0 (Int.tmod (wrap64 (a1)) (l0.length : Int)) (Int.tmod (wrap64 (a2)) (l0.length : Int)) (Int.tmod (wrap64 (a3)) (wrap64 ((wrap64 ((l0.length : Int) - (ji12))) + 1))) t135 x14_3 = some r) ∧ Aside0 (kq ≤ kj14) ∧ Aside0 (Kd.R (Kd.int .u8) 5 w' w.heap.size (fun _ => True) v137 t135) ∧ Aside0 (Below w.heap.size w w'))
                    case atStart => exact ⟨(0), (by first | rfl | (simp; done) | (simp [*]; done)), H', ⟨Nat.le_refl _⟩, ⟨by (with_reducible repeat (first | apply Kd.R_alloc | apply Kd.R_drewN | apply Kd.R_drew)); exact HO_12.out⟩, ⟨by repeat (first | (with_reducible first | exact HB.out | apply below_alloc | apply pw_below_drewN | apply below_drew1) | exact HB.out)⟩⟩
                    case round =>
                      clear H'
                      try clear c1
                      try clear p2
                      try clear c4
                      try clear c6
                      try clear p6
                      try clear c9
                      try clear c9b0
                      try clear c9b1
                      try clear c10
                      try clear c11
                      try clear c11b0
                      try clear c11b1
                      try clear c11b2
                      try clear c13
                      try clear c13b0
                      try clear c13b1
                      try clear c17
                      try clear c19
                      try clear p2
                      try clear p6
                      obtain ⟨x14_3, rfl, HA, HK3, HO_12, HB⟩ := hrel
                      cases gk with
                      | zero => exact absurd HA.out (by simp [hodmanlaw15_MemMoves.l0])
                      | succ k3 =>
                        have H := HA.out
                        clear HA
                        simp only [hodmanlaw15_MemMoves.l0] at H
                        by_cases c20 : x14_3 < (l0.length : Int)
                        · rw [if_pos c20] at H
                          have c20b0 : decide (x14_3 < (l0.length : Int)) = true := decide_eq_true c20
                          clear c20
                          by_cases c21 : 0 ≤ x14_3
                          · rw [if_pos c21] at H
                            have c21b0 : decide (0 ≤ x14_3) = true := decide_eq_true c21
                            clear c21
                            have HC22 := Aside0.mk H
                            clear H
                            have p143 : 0 ≤ (x14_3 : Int) := of_decide_eq_true (by first | (with_reducible assumption) | assumption)
                            have q143 : x14_3 < (l0.length : Int) := of_decide_eq_true (by first | (with_reducible assumption) | assumption)
                            obtain ⟨ad143, e143, hx143_0⟩ := Kd.at_int HR0.out x14_3 p143 q143
                            cases e143
                            replace hx143_0 := (HB.out.cell (World.block_lt_of_cell? w _ hx143_0)).trans hx143_0
                            replace p143 := eq_true p143
                            replace q143 := eq_true q143
                            go_upto_region 14 with (fail)
                            repeat (go_quiet (fail); go_upto_region 14 with (fail))
                            go_cut [84] (fun v84 wc => ∃ (kq : Nat) (x84_21 : Bool), v84 = .bool x84_21 ∧ Aside0 (hodmanlaw15_MemMoves.j3 kq l0 (Int.tmod (wrap64 (a1)) (l0.length : Int)) (Int.tmod (wrap64 (a2)) (l0.length : Int)) (Int.tmod (wrap64 (a3)) (wrap64 ((wrap64 ((l0.length : Int) - (ji12))) + 1))) t135 x14_3 (rd l0 x14_3) x84_21 = some r) ∧ Aside0 (kq ≤ k3) ∧ Aside0 (Kd.R (Kd.int .u8) 5 wc w.heap.size (fun _ => True) v137 t135) ∧ Aside0 (Below w.heap.size w wc))
                            case first =>
                              have H := HC22.out
                              clear HC22
                              by_cases c23 : x14_3 ≥ (Int.tmod (wrap64 (a2)) (l0.length : Int))
                              · rw [if_pos c23] at H
                                have c23b0 : decide ((Int.tmod (wrap64 (a2)) (l0.length : Int)) ≤ x14_3) = true := decide_eq_true c23
                                clear c23
                                (first | rw [c23b0] | (simp only [i64_w, i32_w]; rw [c23b0]) | skip)
                                have H' := Aside0.mk H
                                clear H
                                go_wp2
                                repeat (go_quiet (fail); try go_wp2)
                                go_meet
                                case rel => exact ⟨_, (decide (x14_3 < (wrap64 ((Int.tmod (wrap64 (a2)) (l0.length : Int)) + (Int.tmod (wrap64 (a3)) (wrap64 ((wrap64 ((l0.length : Int) - (ji12))) + 1))))))), (by first | rfl | (simp; done) | (simp only [← hji12] <;> (first | rfl | simp)) | (simp [*]; done)), H', ⟨by have := HJ6.out; have := HJ14.out; have := HK3.out; first | omega | exact Nat.le_refl _⟩, ⟨by (with_reducible repeat (first | apply Kd.R_alloc | apply Kd.R_drewN | apply Kd.R_drew)); exact HO_12.out⟩, ⟨by repeat (first | (with_reducible first | exact HB.out | apply below_alloc | apply pw_below_drewN | apply below_drew1) | exact HB.out)⟩⟩
                              · rw [if_neg c23] at H
                                have c23b0 : decide ((Int.tmod (wrap64 (a2)) (l0.length : Int)) ≤ x14_3) = false := decide_eq_false c23
                                clear c23
                                (first | rw [c23b0] | (simp only [i64_w, i32_w]; rw [c23b0]) | skip)
                                have H' := Aside0.mk H
                                clear H
                                go_wp2
                                repeat (go_quiet (fail); try go_wp2)
                                go_meet
                                case rel => exact ⟨_, (false), (by first | rfl | (simp; done) | (simp [*]; done)), H', ⟨by have := HJ6.out; have := HJ14.out; have := HK3.out; first | omega | exact Nat.le_refl _⟩, ⟨by (with_reducible repeat (first | apply Kd.R_alloc | apply Kd.R_drewN | apply Kd.R_drew)); exact HO_12.out⟩, ⟨by repeat (first | (with_reducible first | exact HB.out | apply below_alloc | apply pw_below_drewN | apply below_drew1) | exact HB.out)⟩⟩
                            case rest =>
                              clear HC22
                              try clear c1
                              try clear p1
                              try clear q1
                              try clear hx1
                              try clear c2
                              try clear p2
                              try clear c4
                              try clear c6
                              try clear p6
                              try clear c9
                              try clear c9b0
                              try clear c9b1
                              try clear c10
                              try clear c11
                              try clear c11b0
                              try clear c11b1
                              try clear c11b2
                              try clear c13
                              try clear c13b0
                              try clear c13b1
                              try clear p14
                              try clear q14
                              try clear hx14
                              try clear c17
                              try clear c19
                              try clear c20
                              try clear c20b0
                              try clear c21
                              try clear c21b0
                              try clear c23
                              try clear c23b0
                              try clear hx143_0
                              try clear p143
                              try clear p2
                              try clear p6
                              try clear q143
                              obtain ⟨kq, x84_21, rfl, HA, HJ21, HO_12, HB⟩ := hcut
                              cases kq with
                              | zero => exact absurd HA.out (by simp [hodmanlaw15_MemMoves.j3])
                              | succ kj21 =>
                                have H := HA.out
                                clear HA
                                simp only [hodmanlaw15_MemMoves.j3] at H
                                by_cases c24 : x84_21 = true
                                · subst c24
                                  have H1 : (if 0 ≤ (wrap64 ((wrap64 (x14_3 - (Int.tmod (wrap64 (a2)) (l0.length : Int)))) + (Int.tmod (wrap64 (a1)) (l0.length : Int)))) then (if (wrap64 ((wrap64 (x14_3 - (Int.tmod (wrap64 (a2)) (l0.length : Int)))) + (Int.tmod (wrap64 (a1)) (l0.length : Int)))) < (l0.length : Int) then (if 0 ≤ x14_3 then (if x14_3 < (t135.length : Int) then (if (rd t135 x14_3) = (rd l0 (wrap64 ((wrap64 (x14_3 - (Int.tmod (wrap64 (a2)) (l0.length : Int)))) + (Int.tmod (wrap64 (a1)) (l0.length : Int))))) then (hodmanlaw15_MemMoves.l0 kj21 l0 (Int.tmod (wrap64 (a1)) (l0.length : Int)) (Int.tmod (wrap64 (a2)) (l0.length : Int)) (Int.tmod (wrap64 (a3)) (wrap64 ((wrap64 ((l0.length : Int) - (ji12))) + 1))) t135 (wrap64 (x14_3 + 1))) else (some false)) else (none)) else (none)) else (none)) else (none)) = some r := by rw [if_pos rfl] at H; exact H
                                  clear H
                                  have H := H1
                                  clear H1
                                  obtain ⟨ji25, hji25⟩ : ∃ j_ : Int, (wrap64 ((wrap64 (x14_3 - (Int.tmod (wrap64 (a2)) (l0.length : Int)))) + (Int.tmod (wrap64 (a1)) (l0.length : Int)))) = j_ := ⟨_, rfl⟩
                                  (try rw [hji25] at c6)
                                  (try rw [hji25] at c9)
                                  (try rw [hji25] at c10)
                                  (try rw [hji25] at c11)
                                  (try rw [hji25] at hji12)
                                  (try rw [hji25] at hji12w)
                                  (try rw [hji25] at c13)
                                  (try rw [hji25] at c17)
                                  (try rw [hji25] at c19)
                                  (try rw [hji25] at c20)
                                  (try rw [hji25] at c21)
                                  (try rw [hji25] at c23)
                                  (try rw [hji25] at c24)
                                  replace H : (if 0 ≤ (ji25) then (if (ji25) < (l0.length : Int) then (if 0 ≤ x14_3 then (if x14_3 < (t135.length : Int) then (if (rd t135 x14_3) = (rd l0 (ji25)) then (hodmanlaw15_MemMoves.l0 kj21 l0 (Int.tmod (wrap64 (a1)) (l0.length : Int)) (Int.tmod (wrap64 (a2)) (l0.length : Int)) (Int.tmod (wrap64 (a3)) (wrap64 ((wrap64 ((l0.length : Int) - (ji12))) + 1))) t135 (wrap64 (x14_3 + 1))) else (some false)) else (none)) else (none)) else (none)) else (none)) = some r := by first | (rw [hji25] at H; exact H) | (simp only [hji25] at H ⊢; exact H)
                                  have hji25w : (IntKind.i64.wrap ((wrap64 (x14_3 - (Int.tmod (wrap64 (a2)) (l0.length : Int)))) + (Int.tmod (wrap64 (a1)) (l0.length : Int)))) = ji25 := (i64_w _).trans hji25
                                  by_cases c26 : 0 ≤ (ji25)
                                  · rw [if_pos c26] at H
                                    have c26b0 : decide (0 ≤ (ji25)) = true := decide_eq_true c26
                                    clear c26
                                    by_cases c27 : (ji25) < (l0.length : Int)
                                    · rw [if_pos c27] at H
                                      have c27b0 : decide ((ji25) < (l0.length : Int)) = true := decide_eq_true c27
                                      clear c27
                                      by_cases c28 : 0 ≤ x14_3
                                      · rw [if_pos c28] at H
                                        have c28b0 : decide (0 ≤ x14_3) = true := decide_eq_true c28
                                        clear c28
                                        by_cases c29 : x14_3 < (t135.length : Int)
                                        · rw [if_pos c29] at H
                                          have c29b0 : decide (x14_3 < (t135.length : Int)) = true := decide_eq_true c29
                                          clear c29
                                          by_cases c30 : (rd t135 x14_3) = (rd l0 (ji25))
                                          · rw [if_pos c30] at H
                                            have c30b0 : ((rd t135 x14_3) == (rd l0 (ji25))) = true := beq_iff_eq.mpr c30
                                            have c30b1 : ((rd t135 x14_3) != (rd l0 (ji25))) = false := bne_eq_false_iff_eq.mpr c30
                                            clear c30
                                            have H' := Aside0.mk H
                                            clear H
                                            have p144 : 0 ≤ ((ji25) : Int) := of_decide_eq_true (by first | (with_reducible assumption) | assumption)
                                            have q144 : (ji25) < (l0.length : Int) := of_decide_eq_true (by first | (with_reducible assumption) | assumption)
                                            obtain ⟨ad144, e144, hx144_0⟩ := Kd.at_int HR0.out (ji25) p144 q144
                                            obtain rfl : ad143 = ad144 := (by injection e144)
                                            replace hx144_0 := (HB.out.cell (World.block_lt_of_cell? w _ hx144_0)).trans hx144_0
                                            replace p144 := eq_true p144
                                            replace q144 := eq_true q144
                                            obtain ⟨Ao31, co31, eo31⟩ := Kd.R_slice HO_12.out
                                            subst eo31
                                            have p145 : 0 ≤ (x14_3 : Int) := of_decide_eq_true (by first | (with_reducible assumption) | assumption)
                                            have q145 : x14_3 < (t135.length : Int) := of_decide_eq_true (by first | (with_reducible assumption) | assumption)
                                            obtain ⟨ad145, e145, hx145_0⟩ := Kd.at_int (Kd.R_reads' HO_12.out).2.2 x14_3 p145 q145
                                            cases e145
                                            replace p145 := eq_true p145
                                            replace q145 := eq_true q145
                                            go_wp2
                                            repeat (go_quiet (fail); try go_wp2)
                                            go_roundg kj21
                                            case measure => have := HJ6.out; have := HJ14.out; have := HK3.out; have := HJ21.out; omega
                                            case rel => exact ⟨(wrap64 (x14_3 + 1)), (by first | rfl | (simp; done) | (simp [*]; done)), H', ⟨by have := HJ6.out; have := HJ14.out; have := HK3.out; have := HJ21.out; omega⟩, ⟨by (with_reducible repeat (first | apply Kd.R_alloc | apply Kd.R_drewN | apply Kd.R_drew)); exact HO_12.out⟩, ⟨by repeat (first | (with_reducible first | exact HB.out | apply below_alloc | apply pw_below_drewN | apply below_drew1) | exact HB.out)⟩⟩
                                          · rw [if_neg c30] at H
                                            have c30b0 : ((rd t135 x14_3) == (rd l0 (ji25))) = false := beq_eq_false_iff_ne.mpr c30
                                            have c30b1 : ((rd t135 x14_3) != (rd l0 (ji25))) = true := bne_iff_ne.mpr c30
                                            exact absurd ((Option.some.inj H).trans HRT.out) (by decide)
                                        · rw [if_neg c29] at H
                                          exact absurd H (by simp)
                                      · rw [if_neg c28] at H
                                        exact absurd H (by simp)
                                    · rw [if_neg c27] at H
                                      exact absurd H (by simp)
                                  · rw [if_neg c26] at H
                                    exact absurd H (by simp)
                                · replace c24 := Bool.eq_false_iff.mpr c24
                                  subst c24
                                  have H1 : (if 0 ≤ x14_3 then (if x14_3 < (t135.length : Int) then (if (rd t135 x14_3) = (rd l0 x14_3) then (hodmanlaw15_MemMoves.l0 kj21 l0 (Int.tmod (wrap64 (a1)) (l0.length : Int)) (Int.tmod (wrap64 (a2)) (l0.length : Int)) (Int.tmod (wrap64 (a3)) (wrap64 ((wrap64 ((l0.length : Int) - (ji12))) + 1))) t135 (wrap64 (x14_3 + 1))) else (some false)) else (none)) else (none)) = some r := by rw [if_neg (show ¬ (false = true) by decide)] at H; exact H
                                  clear H
                                  have H := H1
                                  clear H1
                                  by_cases c32 : 0 ≤ x14_3
                                  · rw [if_pos c32] at H
                                    have c32b0 : decide (0 ≤ x14_3) = true := decide_eq_true c32
                                    clear c32
                                    by_cases c33 : x14_3 < (t135.length : Int)
                                    · rw [if_pos c33] at H
                                      have c33b0 : decide (x14_3 < (t135.length : Int)) = true := decide_eq_true c33
                                      clear c33
                                      by_cases c34 : (rd t135 x14_3) = (rd l0 x14_3)
                                      · rw [if_pos c34] at H
                                        have c34b0 : ((rd t135 x14_3) == (rd l0 x14_3)) = true := beq_iff_eq.mpr c34
                                        have c34b1 : ((rd t135 x14_3) != (rd l0 x14_3)) = false := bne_eq_false_iff_eq.mpr c34
                                        clear c34
                                        have H' := Aside0.mk H
                                        clear H
                                        obtain ⟨Ao35, co35, eo35⟩ := Kd.R_slice HO_12.out
                                        subst eo35
                                        have p146 : 0 ≤ (x14_3 : Int) := of_decide_eq_true (by first | (with_reducible assumption) | assumption)
                                        have q146 : x14_3 < (t135.length : Int) := of_decide_eq_true (by first | (with_reducible assumption) | assumption)
                                        obtain ⟨ad146, e146, hx146_0⟩ := Kd.at_int (Kd.R_reads' HO_12.out).2.2 x14_3 p146 q146
                                        cases e146
                                        replace p146 := eq_true p146
                                        replace q146 := eq_true q146
                                        go_wp2
                                        repeat (go_quiet (fail); try go_wp2)
                                        go_roundg kj21
                                        case measure => have := HJ6.out; have := HJ14.out; have := HK3.out; have := HJ21.out; omega
                                        case rel => exact ⟨(wrap64 (x14_3 + 1)), (by first | rfl | (simp; done) | (simp [*]; done)), H', ⟨by have := HJ6.out; have := HJ14.out; have := HK3.out; have := HJ21.out; omega⟩, ⟨by (with_reducible repeat (first | apply Kd.R_alloc | apply Kd.R_drewN | apply Kd.R_drew)); exact HO_12.out⟩, ⟨by repeat (first | (with_reducible first | exact HB.out | apply below_alloc | apply pw_below_drewN | apply below_drew1) | exact HB.out)⟩⟩
                                      · rw [if_neg c34] at H
                                        have c34b0 : ((rd t135 x14_3) == (rd l0 x14_3)) = false := beq_eq_false_iff_ne.mpr c34
                                        have c34b1 : ((rd t135 x14_3) != (rd l0 x14_3)) = true := bne_iff_ne.mpr c34
                                        exact absurd ((Option.some.inj H).trans HRT.out) (by decide)
                                    · rw [if_neg c33] at H
                                      exact absurd H (by simp)
                                  · rw [if_neg c32] at H
                                    exact absurd H (by simp)
                          · rw [if_neg c21] at H
                            exact absurd H (by simp)
                        · rw [if_neg c20] at H
                          have c20b0 : decide (x14_3 < (l0.length : Int)) = false := decide_eq_false c20
                          clear c20
                          replace H := Option.bind_eq_some_iff.mp H
                          obtain ⟨⟨t139, t140⟩, A360, H⟩ := H
                          replace H : (some (!t140)) = some r := H
                          have A36 := Aside0.mk A360
                          clear A360
                          obtain rfl := Option.some.inj H
                          go_wp2_with (first | (go_at_call 14; (with_reducible refine (mem_Move.calls _ _ l0 (Int.tmod (wrap64 (a1)) (l0.length : Int)) (Int.tmod (wrap64 (a2)) (l0.length : Int)) (wrap64 ((l0.length : Int) + 1)) t139 t140 _ ?side1 ?side2 A36.out).mono ?_); (case side1 => repeat (first | exact (Kd.C_below HR0.out HB.out) | (with_reducible refine Kd.C_alloc ?_ _) | (with_reducible refine Kd.C_drewN ?_ _) | (with_reducible refine Kd.C_drew ?_))); (case side2 => exact HC0.out); rintro e w37 ⟨v141, rfl, ho0, hb⟩; have n0_ := Aside0.mk (Kd.R_elder' (by (with_reducible repeat (first | apply Kd.R_alloc | apply Kd.R_drewN | apply Kd.R_drew)); exact HO_12.out) (Kd.R_base ho0) hb); have n1_ := Aside0.mk (Kd.R_lower (Kd.R_new' ho0 (Kd.R_lt (by (with_reducible repeat (first | apply Kd.R_alloc | apply Kd.R_drewN | apply Kd.R_drew)); exact HO_12.out))) (below_size (by repeat (first | (with_reducible first | exact HB.out | apply below_alloc | apply pw_below_drewN | apply below_drew1) | exact HB.out)))); have n2_ := Aside0.mk (below_step (by repeat (first | (with_reducible first | exact HB.out | apply below_alloc | apply pw_below_drewN | apply below_drew1) | exact HB.out)) hb); clear HO_12; clear HB; have HO_12 := n0_; have HO142 := n1_; have HB := n2_; clear n0_ n1_ n2_; (try clear hb); (try clear hb2); (try clear hk); (try clear hi); (try clear ho0)))
                          repeat (go_quiet (first | (go_at_call 14; (with_reducible refine (mem_Move.calls _ _ l0 (Int.tmod (wrap64 (a1)) (l0.length : Int)) (Int.tmod (wrap64 (a2)) (l0.length : Int)) (wrap64 ((l0.length : Int) + 1)) t139 t140 _ ?side1 ?side2 A36.out).mono ?_); (case side1 => repeat (first | exact (Kd.C_below HR0.out HB.out) | (with_reducible refine Kd.C_alloc ?_ _) | (with_reducible refine Kd.C_drewN ?_ _) | (with_reducible refine Kd.C_drew ?_))); (case side2 => exact HC0.out); rintro e w37 ⟨v141, rfl, ho0, hb⟩; have n0_ := Aside0.mk (Kd.R_elder' (by (with_reducible repeat (first | apply Kd.R_alloc | apply Kd.R_drewN | apply Kd.R_drew)); exact HO_12.out) (Kd.R_base ho0) hb); have n1_ := Aside0.mk (Kd.R_lower (Kd.R_new' ho0 (Kd.R_lt (by (with_reducible repeat (first | apply Kd.R_alloc | apply Kd.R_drewN | apply Kd.R_drew)); exact HO_12.out))) (below_size (by repeat (first | (with_reducible first | exact HB.out | apply below_alloc | apply pw_below_drewN | apply below_drew1) | exact HB.out)))); have n2_ := Aside0.mk (below_step (by repeat (first | (with_reducible first | exact HB.out | apply below_alloc | apply pw_below_drewN | apply below_drew1) | exact HB.out)) hb); clear HO_12; clear HB; have HO_12 := n0_; have HO142 := n1_; have HB := n2_; clear n0_ n1_ n2_; (try clear hb); (try clear hb2); (try clear hk); (try clear hi); (try clear ho0))); try go_wp2_with (first | (go_at_call 14; (with_reducible refine (mem_Move.calls _ _ l0 (Int.tmod (wrap64 (a1)) (l0.length : Int)) (Int.tmod (wrap64 (a2)) (l0.length : Int)) (wrap64 ((l0.length : Int) + 1)) t139 t140 _ ?side1 ?side2 A36.out).mono ?_); (case side1 => repeat (first | exact (Kd.C_below HR0.out HB.out) | (with_reducible refine Kd.C_alloc ?_ _) | (with_reducible refine Kd.C_drewN ?_ _) | (with_reducible refine Kd.C_drew ?_))); (case side2 => exact HC0.out); rintro e w37 ⟨v141, rfl, ho0, hb⟩; have n0_ := Aside0.mk (Kd.R_elder' (by (with_reducible repeat (first | apply Kd.R_alloc | apply Kd.R_drewN | apply Kd.R_drew)); exact HO_12.out) (Kd.R_base ho0) hb); have n1_ := Aside0.mk (Kd.R_lower (Kd.R_new' ho0 (Kd.R_lt (by (with_reducible repeat (first | apply Kd.R_alloc | apply Kd.R_drewN | apply Kd.R_drew)); exact HO_12.out))) (below_size (by repeat (first | (with_reducible first | exact HB.out | apply below_alloc | apply pw_below_drewN | apply below_drew1) | exact HB.out)))); have n2_ := Aside0.mk (below_step (by repeat (first | (with_reducible first | exact HB.out | apply below_alloc | apply pw_below_drewN | apply below_drew1) | exact HB.out)) hb); clear HO_12; clear HB; have HO_12 := n0_; have HO142 := n1_; have HB := n2_; clear n0_ n1_ n2_; (try clear hb); (try clear hb2); (try clear hk); (try clear hi); (try clear ho0))))
                          go_ret
                          exact ⟨by first | rfl | (simp [errW_none, errW_some] <;> rfl) | (simp only [← hji12]; first | rfl | (simp [errW_none, errW_some] <;> rfl)) | (simp [*, errW_none, errW_some] <;> rfl), by repeat (first | (with_reducible first | exact HB.out | apply below_alloc | apply pw_below_drewN | apply below_drew1) | exact HB.out)⟩
  · replace c6 := Bool.eq_false_iff.mpr c6
    subst c6
    have H1 : (some false) = some r := by rw [if_neg (show ¬ (false = true) by decide)] at H; exact H
    clear H
    have H := H1
    clear H1
    exact absurd ((Option.some.inj H).trans HRT.out) (by decide)

/-- THE ONE PURE STATEMENT of hodmanlaw15_MemMoves: yours. -/
def hodmanlaw15_MemMoves.Pure : Prop := ∀ (l0 : List Int) (a1 : Int) (a2 : Int) (a3 : Int), l0.length ≤ maxLen → l0.length * 1 ≤ 140737488351232 → (∀ x ∈ l0, (Lit.int .u8 x).wf = true) → (Lit.int .u8 a1).wf = true → (Lit.int .u8 a2).wf = true → (Lit.int .u8 a3).wf = true → ∃ k, hodmanlaw15_MemMoves.f k l0 a1 a2 a3 = some true
theorem hodmanlaw15_MemMoves.walk (P : hodmanlaw15_MemMoves.Pure) (a0 : Option Addr) (len0 cap0 : Nat) (z0 : List Int) (a1 : Int) (a2 : Int) (a3 : Int) (w : World) (w0 : (a0 = none ∧ len0 = 0 ∧ cap0 = 0 ∧ z0 = []) ∨ ∃ x, a0 = some x ∧ len0 ≤ cap0 ∧ cap0 ≤ maxLen ∧ z0.length = cap0 ∧ (∀ i, i < z0.length → w.cell? (x.add i) = some (.int .u8 (z0.getD i 0))) ∧ ∀ n ∈ z0, (Lit.int .u8 n).wf = true) (y0 : len0 * 1 ≤ 140737488351232) (w1 : (Lit.int .u8 a1).wf = true) (w2 : (Lit.int .u8 a2).wf = true) (w3 : (Lit.int .u8 a3).wf = true) :
    Calls Try.prog 4 #[.slice a0 len0 cap0, .int .u8 a1, .int .u8 a2, .int .u8 a3] w fun e w' => e = .returned (.bool true) ∧ Below w.heap.size w w' := by
  obtain ⟨l0, rfl, hr0, hm0, hw0, hc0⟩ := ReadsInt.ofRowC w0
  obtain ⟨k, h⟩ := P l0 a1 a2 a3 hm0 y0 hw0 w1 w2 w3
  refine (hodmanlaw15_MemMoves.calls k _ _ l0 a1 a2 a3 true w (Kd.C_of_reads (d := (0 : Int)) (h1 := fun _ => rfl) hr0) hc0 h rfl).mono ?_
  rintro e w' ⟨rfl, hd⟩
  exact ⟨rfl, hd⟩

end Go.Proofs.Ytjjfcpffbooboaa.PMem
