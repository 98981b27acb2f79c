/- Written by a program of this session (wip/tools/ext.py) out of the translation: Go functions told as Lean functions, with their walks; or the row of a law out of its plain part. Lean checks it. -/
import Derived.Test.YtflmdnjcniidgaaPWordx0
import Derived.Test.YtflmdnjcniidgaaPWordx1
import Derived.Test.YtflmdnjcniidgaaPWordx2
namespace Go.Proofs.Ytflmdnjcniidgaa.PWord
open Go.RowKit Go.Proofs.YtflmdnjcniidgaaW.PrintWords Go.Proofs.YtflmdnjcniidgaaW.PrintLast Go.Proofs.YtflmdnjcniidgaaW.PrintMore
attribute [local go_sem] max2_int min2_int max_two min_two max_three min_three max_four min_four   -- for this text's walks alone
set_option linter.unusedVariables false
set_option linter.unusedSimpArgs false

/-! ### hodmanlaw3_WordCounts: function 7 -/
mutual
def hodmanlaw3_WordCounts.l0 : Nat → Int → Int → Int → Option (Bool)
  | 0, _, _, _ => none
  | k + 1, x0, x3, x4 => if x4 < 66 then ((word_Nth.f k x0 x4).bind fun t134 => (if ((t134 == 64) != (decide (x4 ≥ x3))) = true then (hodmanlaw3_WordCounts.j1 k x0 x3 x4 t134 true) else (if t134 < 0 then (hodmanlaw3_WordCounts.j1 k x0 x3 x4 t134 true) else (hodmanlaw3_WordCounts.j1 k x0 x3 x4 t134 (decide (t134 > 64)))))) else ((word_Nth.f k x0 0).bind fun t137 => ((word_LowOne.f k x0).bind fun t138 => (if t137 = t138 then ((word_LowZero.f k x0).bind fun t139 => ((word_LowOne.f k (Go.bits .xor .u64 IntKind.u64.max x0)).bind fun t140 => (if t139 = t140 then ((word_Ones.f k (Go.bits .xor .u64 IntKind.u64.max x0)).bind fun t141 => (some ((wrap64 (x3 + t141)) == 64))) else (some false)))) else (some false))))
def hodmanlaw3_WordCounts.j1 : Nat → Int → Int → Int → Int → Bool → Option (Bool)
  | 0, _, _, _, _, _ => none
  | k + 1, x0, x3, x4, x5, x30 => if x30 = true then (some false) else (if x5 < 64 then (if 0 ≤ x5 then (if (Go.bits .and .u64 (shr .u64 x0 x5) 1) = 1 then ((word_Mask.f k 0 x5).bind fun t135 => ((word_Ones.f k (Go.bits .and .u64 x0 t135)).bind fun t136 => (if t136 = x4 then (hodmanlaw3_WordCounts.l0 k x0 x3 (wrap64 (x4 + 1))) else (some false)))) else (some false)) else (none)) else (hodmanlaw3_WordCounts.l0 k x0 x3 (wrap64 (x4 + 1))))
end
def hodmanlaw3_WordCounts.f (k : Nat) (a0 : Int) : Option (Bool) := (hodmanlaw3_begun.f k).bind fun t132 => (if t132 = true then ((word_Ones.f k a0).bind fun t133 => (hodmanlaw3_WordCounts.l0 k a0 t133 0)) else (some false))
theorem hodmanlaw3_WordCounts.mono_l : ∀ k, (∀ y0 y1 y2, LeO (hodmanlaw3_WordCounts.l0 k y0 y1 y2) (hodmanlaw3_WordCounts.l0 (k + 1) y0 y1 y2)) ∧ (∀ y0 y1 y2 y3 y4, LeO (hodmanlaw3_WordCounts.j1 k y0 y1 y2 y3 y4) (hodmanlaw3_WordCounts.j1 (k + 1) y0 y1 y2 y3 y4))
  | 0 => ⟨fun _ _ _ r h => by simp [hodmanlaw3_WordCounts.l0] at h, fun _ _ _ _ _ r h => by simp [hodmanlaw3_WordCounts.j1] at h⟩
  | k + 1 => by
    obtain ⟨ih0, ih1⟩ := hodmanlaw3_WordCounts.mono_l k
    refine ⟨?_, ?_⟩
    · intro y0 y1 y2
      unfold hodmanlaw3_WordCounts.l0
      repeat' first
      | (with_reducible exact ih0 _ _ _)
      | (with_reducible exact ih1 _ _ _ _ _)
      | (with_reducible exact hodmanlaw3_begun.mono _)
      | (with_reducible exact word_LowOne.mono _ _)
      | (with_reducible exact word_LowZero.mono _ _)
      | (with_reducible exact word_Mask.mono _ _ _)
      | (with_reducible exact word_Nth.mono _ _ _)
      | (with_reducible exact word_Ones.mono _ _)
      | (with_reducible exact LeO.refl _)
      | (with_reducible exact LeO.none _)
      | (with_reducible refine LeO.ite ?_ ?_)
      | (with_reducible refine LeO.bind ?_ (fun _ => ?_))
      | exact ih0 _ _ _
      | exact ih1 _ _ _ _ _
      | exact hodmanlaw3_begun.mono _
      | exact word_LowOne.mono _ _
      | exact word_LowZero.mono _ _
      | exact word_Mask.mono _ _ _
      | exact word_Nth.mono _ _ _
      | exact word_Ones.mono _ _
      | exact LeO.none _
      | refine LeO.ite ?_ ?_
      | refine LeO.bind ?_ (fun _ => ?_)
    · intro y0 y1 y2 y3 y4
      unfold hodmanlaw3_WordCounts.j1
      repeat' first
      | (with_reducible exact ih0 _ _ _)
      | (with_reducible exact ih1 _ _ _ _ _)
      | (with_reducible exact hodmanlaw3_begun.mono _)
      | (with_reducible exact word_LowOne.mono _ _)
      | (with_reducible exact word_LowZero.mono _ _)
      | (with_reducible exact word_Mask.mono _ _ _)
      | (with_reducible exact word_Nth.mono _ _ _)
      | (with_reducible exact word_Ones.mono _ _)
      | (with_reducible exact LeO.refl _)
      | (with_reducible exact LeO.none _)
      | (with_reducible refine LeO.ite ?_ ?_)
      | (with_reducible refine LeO.bind ?_ (fun _ => ?_))
      | exact ih0 _ _ _
      | exact ih1 _ _ _ _ _
      | exact hodmanlaw3_begun.mono _
      | exact word_LowOne.mono _ _
      | exact word_LowZero.mono _ _
      | exact word_Mask.mono _ _ _
      | exact word_Nth.mono _ _ _
      | exact word_Ones.mono _ _
      | exact LeO.none _
      | refine LeO.ite ?_ ?_
      | refine LeO.bind ?_ (fun _ => ?_)
theorem hodmanlaw3_WordCounts.mono : ∀ a0 k, LeO (hodmanlaw3_WordCounts.f k a0) (hodmanlaw3_WordCounts.f (k + 1) a0) := by
  intro a0 k
  obtain ⟨ih0, ih1⟩ := hodmanlaw3_WordCounts.mono_l k
  unfold hodmanlaw3_WordCounts.f
  repeat' first
      | (with_reducible exact ih0 _ _ _)
      | (with_reducible exact ih1 _ _ _ _ _)
      | (with_reducible exact hodmanlaw3_begun.mono _)
      | (with_reducible exact word_LowOne.mono _ _)
      | (with_reducible exact word_LowZero.mono _ _)
      | (with_reducible exact word_Mask.mono _ _ _)
      | (with_reducible exact word_Nth.mono _ _ _)
      | (with_reducible exact word_Ones.mono _ _)
      | (with_reducible exact LeO.refl _)
      | (with_reducible exact LeO.none _)
      | (with_reducible refine LeO.ite ?_ ?_)
      | (with_reducible refine LeO.bind ?_ (fun _ => ?_))
      | exact ih0 _ _ _
      | exact ih1 _ _ _ _ _
      | exact hodmanlaw3_begun.mono _
      | exact word_LowOne.mono _ _
      | exact word_LowZero.mono _ _
      | exact word_Mask.mono _ _ _
      | exact word_Nth.mono _ _ _
      | exact word_Ones.mono _ _
      | exact LeO.none _
      | refine LeO.ite ?_ ?_
      | refine LeO.bind ?_ (fun _ => ?_)
set_option maxHeartbeats 8000000 in
set_option maxRecDepth 100000 in
theorem hodmanlaw3_WordCounts.calls (k : Nat) (a0 : Int) (r : Bool) (w : World) (h : hodmanlaw3_WordCounts.f k a0 = some r) :
    Calls Try.prog 7 #[.int .u64 a0] w fun e w' => e = .returned (.bool r) ∧ Drawn0 w w' := by
  have H : ((hodmanlaw3_begun.f k).bind fun t132 => (if t132 = true then ((word_Ones.f k a0).bind fun t133 => (hodmanlaw3_WordCounts.l0 k a0 t133 0)) else (some false))) = some r := h
  clear h
  replace H := Option.bind_eq_some_iff.mp H
  obtain ⟨t132, A20, H⟩ := H
  replace H : (if t132 = true then ((word_Ones.f k a0).bind fun t133 => (hodmanlaw3_WordCounts.l0 k a0 t133 0)) else (some false)) = some r := H
  have A2 := Aside0.mk A20
  clear A20
  by_cases c3 : t132 = true
  · subst c3
    have H1 : ((word_Ones.f k a0).bind fun t133 => (hodmanlaw3_WordCounts.l0 k a0 t133 0)) = some r := by rw [if_pos rfl] at H; exact H
    clear H
    have H := H1
    clear H1
    replace H := Option.bind_eq_some_iff.mp H
    obtain ⟨t133, A40, H⟩ := H
    replace H : (hodmanlaw3_WordCounts.l0 k a0 t133 0) = some r := H
    have A4 := Aside0.mk A40
    clear A40
    have H' := Aside0.mk H
    clear H
    go_enter Try.func7, Try.ntmps7
    go_wp2_with (first | ((with_reducible refine gate_callee (f := 19) rfl ?_); refine goesL_ (some 6) rfl rfl Try.func19 (by kernel_rfl) rfl #[] rfl (by (try simp only [List.map_toArray, List.map_cons, List.map_nil]); first | done | rfl | (simp only [List.length_drop, List.length_take]; rfl)) ?_; (with_reducible refine (hodmanlaw3_begun.calls k  true _ A2.out).mono ?_); rintro e w' ⟨rfl, ⟨nd, rfl⟩⟩; refine ⟨_, rfl, ?_⟩) | ((with_reducible refine gate_callee (f := 24) rfl ?_); refine goesL_ (some 9) rfl rfl Try.func24 (by kernel_rfl) rfl #[.int .u64 a0] rfl (by (try simp only [List.map_toArray, List.map_cons, List.map_nil]); first | done | rfl | (simp only [List.length_drop, List.length_take]; rfl)) ?_; (with_reducible refine (word_Ones.calls k a0 t133 _ A4.out).mono ?_); rintro e w' ⟨rfl, ⟨nd, rfl⟩⟩; refine ⟨_, rfl, ?_⟩))
    go_loopg [4] k (fun kq v4 w' => ∃ (x4_1 : Int), v4 = .int .i64 x4_1 ∧ Aside0 (hodmanlaw3_WordCounts.l0 kq a0 t133 x4_1 = some r) ∧ Aside0 (kq ≤ k) ∧ Drawn0 w w')
    case atStart => exact ⟨(0), (by first | rfl | (simp; done) | (simp [*]; done)), H', ⟨Nat.le_refl _⟩, by repeat (first | exact Drawn0.refl _ | apply Drawn0.step)⟩
    case round =>
      clear H'
      try clear c1
      try clear c2
      try clear p2
      try clear c3
      obtain ⟨x4_1, rfl, HA, HK1, ⟨m1, rfl⟩⟩ := hrel
      cases gk with
      | zero => exact absurd HA.out (by simp [hodmanlaw3_WordCounts.l0])
      | succ k1 =>
        have H := HA.out
        clear HA
        simp only [hodmanlaw3_WordCounts.l0] at H
        by_cases c5 : x4_1 < 66
        · rw [if_pos c5] at H
          have c5b0 : decide (x4_1 < 66) = true := decide_eq_true c5
          clear c5
          replace H := Option.bind_eq_some_iff.mp H
          obtain ⟨t134, A60, H⟩ := H
          replace H : (if ((t134 == 64) != (decide (x4_1 ≥ t133))) = true then (hodmanlaw3_WordCounts.j1 k1 a0 t133 x4_1 t134 true) else (if t134 < 0 then (hodmanlaw3_WordCounts.j1 k1 a0 t133 x4_1 t134 true) else (hodmanlaw3_WordCounts.j1 k1 a0 t133 x4_1 t134 (decide (t134 > 64))))) = some r := H
          have A6 := Aside0.mk A60
          clear A60
          have HC7 := Aside0.mk H
          clear H
          go_upto_region 8 with (first | ((with_reducible refine gate_callee (f := 26) rfl ?_); refine goesL_ (some 16) rfl rfl Try.func26 (by kernel_rfl) rfl #[.int .u64 a0, .int .i64 x4_1] rfl (by (try simp only [List.map_toArray, List.map_cons, List.map_nil]); first | done | rfl | (simp only [List.length_drop, List.length_take]; rfl)) ?_; (with_reducible refine (word_Nth.calls k1 a0 x4_1 t134 _ A6.out).mono ?_); rintro e w' ⟨rfl, ⟨nd, rfl⟩⟩; refine ⟨_, rfl, ?_⟩))
          (try simp only [Act.put, List.setIfInBounds_toArray, List.set_cons_zero, List.set_cons_succ])
          go_cut [30] (fun v30 wc => ∃ (kq : Nat) (x30_6 : Bool), v30 = .bool x30_6 ∧ Aside0 (hodmanlaw3_WordCounts.j1 kq a0 t133 x4_1 t134 x30_6 = some r) ∧ Aside0 (kq ≤ k1) ∧ Drawn0 w wc)
          case first =>
            have H := HC7.out
            clear HC7
            by_cases c8 : ((t134 == 64) != (decide (x4_1 ≥ t133))) = true
            · rw [if_pos c8] at H
              have c8b0 : ((t134 == 64) != (decide (x4_1 ≥ t133))) = true := c8
              (try (have c8b1 : decide ((t134 == 64) = (decide (x4_1 ≥ t133))) = false := by simpa using c8))
              (try (have c8b2 : ((t134 == 64) == (decide (x4_1 ≥ t133))) = false := by simpa using c8))
              (try (have c8b3 : ¬ ((t134 == 64) = (decide (x4_1 ≥ t133))) := by simpa using c8))
              clear c8
              (first | rw [c8b0] | (simp only [i64_w, i32_w]; rw [c8b0]) | skip)
              have H' := Aside0.mk H
              clear H
              go_wp2
              go_meet
              case rel => exact ⟨_, (true), (by first | rfl | (simp; done) | (simp [*]; done)), H', ⟨by have := HK1.out; first | omega | exact Nat.le_refl _⟩, by repeat (first | exact Drawn0.refl _ | apply Drawn0.step)⟩
            · rw [if_neg c8] at H
              have c8b0 : ((t134 == 64) != (decide (x4_1 ≥ t133))) = false := by simpa using c8
              (try (have c8b1 : decide ((t134 == 64) = (decide (x4_1 ≥ t133))) = true := by simpa using c8))
              (try (have c8b2 : ((t134 == 64) == (decide (x4_1 ≥ t133))) = true := by simpa using c8))
              clear c8
              (first | rw [c8b0] | (simp only [i64_w, i32_w]; rw [c8b0]) | skip)
              by_cases c9 : t134 < 0
              · rw [if_pos c9] at H
                have c9b0 : decide (t134 < 0) = true := decide_eq_true c9
                clear c9
                have H' := Aside0.mk H
                clear H
                go_wp2
                go_meet
                case rel => exact ⟨_, (true), (by first | rfl | (simp; done) | (simp [*]; done)), H', ⟨by have := HK1.out; first | omega | exact Nat.le_refl _⟩, by repeat (first | exact Drawn0.refl _ | apply Drawn0.step)⟩
              · rw [if_neg c9] at H
                have c9b0 : decide (t134 < 0) = false := decide_eq_false c9
                clear c9
                have H' := Aside0.mk H
                clear H
                go_wp2
                go_meet
                case rel => exact ⟨_, (decide (t134 > 64)), (by first | rfl | (simp; done) | (simp [*]; done)), H', ⟨by have := HK1.out; first | omega | exact Nat.le_refl _⟩, by repeat (first | exact Drawn0.refl _ | apply Drawn0.step)⟩
          case rest =>
            clear HC7
            try clear c1
            try clear c2
            try clear p2
            try clear c3
            try clear c5
            try clear c5b0
            try clear c7
            try clear c8
            try clear c8b0
            try clear c8b1
            try clear c8b2
            try clear c9
            try clear c9b0
            try clear p2
            obtain ⟨kq, x30_6, rfl, HA, HJ6, ⟨mc6, rfl⟩⟩ := hcut
            cases kq with
            | zero => exact absurd HA.out (by simp [hodmanlaw3_WordCounts.j1])
            | succ kj6 =>
              have H := HA.out
              clear HA
              simp only [hodmanlaw3_WordCounts.j1] at H
              by_cases c10 : x30_6 = true
              · subst c10
                have H1 : (some false) = some r := by rw [if_pos rfl] at H; exact H
                clear H
                have H := H1
                clear H1
                obtain rfl := Option.some.inj H
                go_wp2
                go_ret
                exact ⟨by first | rfl | (simp; done) | (simp [*]; done), by repeat (first | exact Drawn0.refl _ | apply Drawn0.step)⟩
              · replace c10 := Bool.eq_false_iff.mpr c10
                subst c10
                have H1 : (if t134 < 64 then (if 0 ≤ t134 then (if (Go.bits .and .u64 (shr .u64 a0 t134) 1) = 1 then ((word_Mask.f kj6 0 t134).bind fun t135 => ((word_Ones.f kj6 (Go.bits .and .u64 a0 t135)).bind fun t136 => (if t136 = x4_1 then (hodmanlaw3_WordCounts.l0 kj6 a0 t133 (wrap64 (x4_1 + 1))) else (some false)))) else (some false)) else (none)) else (hodmanlaw3_WordCounts.l0 kj6 a0 t133 (wrap64 (x4_1 + 1)))) = some r := by rw [if_neg (show ¬ (false = true) by decide)] at H; exact H
                clear H
                have H := H1
                clear H1
                by_cases c11 : t134 < 64
                · rw [if_pos c11] at H
                  have c11b0 : decide (t134 < 64) = true := decide_eq_true c11
                  clear c11
                  by_cases c12 : 0 ≤ t134
                  · rw [if_pos c12] at H
                    have c12b0 := eq_true c12
                    have c12b1 : decide (0 ≤ t134) = true := decide_eq_true c12
                    clear c12
                    obtain ⟨ji13, hji13⟩ : ∃ j_ : Int, (shr .u64 a0 t134) = j_ := ⟨_, rfl⟩
                    replace H : (if (Go.bits .and .u64 (ji13) 1) = 1 then ((word_Mask.f kj6 0 t134).bind fun t135 => ((word_Ones.f kj6 (Go.bits .and .u64 a0 t135)).bind fun t136 => (if t136 = x4_1 then (hodmanlaw3_WordCounts.l0 kj6 a0 t133 (wrap64 (x4_1 + 1))) else (some false)))) else (some false)) = some r := by first | (rw [hji13] at H; exact H) | (simp only [hji13] at H ⊢; exact H)
                    have hji13_ : (a0 / 2 ^ min t134.toNat 64) = ji13 := hji13
                    have hji13z : t134 ≤ 64 → (a0 / 2 ^ t134.toNat) = ji13 := shr_small hji13
                    by_cases c14 : (Go.bits .and .u64 (ji13) 1) = 1
                    · rw [if_pos c14] at H
                      have c14b0 : ((Go.bits .and .u64 (ji13) 1) == 1) = true := beq_iff_eq.mpr c14
                      have c14b1 : ((Go.bits .and .u64 (ji13) 1) != 1) = false := bne_eq_false_iff_eq.mpr c14
                      clear c14
                      replace H := Option.bind_eq_some_iff.mp H
                      obtain ⟨t135, A150, H⟩ := H
                      replace H : ((word_Ones.f kj6 (Go.bits .and .u64 a0 t135)).bind fun t136 => (if t136 = x4_1 then (hodmanlaw3_WordCounts.l0 kj6 a0 t133 (wrap64 (x4_1 + 1))) else (some false))) = some r := H
                      have A15 := Aside0.mk A150
                      clear A150
                      replace H := Option.bind_eq_some_iff.mp H
                      obtain ⟨t136, A160, H⟩ := H
                      replace H : (if t136 = x4_1 then (hodmanlaw3_WordCounts.l0 kj6 a0 t133 (wrap64 (x4_1 + 1))) else (some false)) = some r := H
                      have A16 := Aside0.mk A160
                      clear A160
                      by_cases c17 : t136 = x4_1
                      · rw [if_pos c17] at H
                        have c17b0 : (t136 == x4_1) = true := beq_iff_eq.mpr c17
                        have c17b1 : (t136 != x4_1) = false := bne_eq_false_iff_eq.mpr c17
                        clear c17
                        have H' := Aside0.mk H
                        clear H
                        go_wp2_with (first | (go_at_call 28; (with_reducible refine (word_Mask.calls kj6 0 t134 t135 _ A15.out).mono ?_); rintro e w' ⟨rfl, ⟨nd, rfl⟩⟩) | (go_at_call 24; (with_reducible refine (word_Ones.calls kj6 (Go.bits .and .u64 a0 t135) t136 _ A16.out).mono ?_); rintro e w' ⟨rfl, ⟨nd, rfl⟩⟩))
                        go_roundg kj6
                        case measure => have := HK1.out; have := HJ6.out; omega
                        case rel => exact ⟨(wrap64 (x4_1 + 1)), (by first | rfl | (simp; done) | (simp [*]; done)), H', ⟨by have := HK1.out; have := HJ6.out; omega⟩, by repeat (first | exact Drawn0.refl _ | apply Drawn0.step)⟩
                      · rw [if_neg c17] at H
                        have c17b0 : (t136 == x4_1) = false := beq_eq_false_iff_ne.mpr c17
                        have c17b1 : (t136 != x4_1) = true := bne_iff_ne.mpr c17
                        obtain rfl := Option.some.inj H
                        go_wp2_with (first | (go_at_call 28; (with_reducible refine (word_Mask.calls kj6 0 t134 t135 _ A15.out).mono ?_); rintro e w' ⟨rfl, ⟨nd, rfl⟩⟩) | (go_at_call 24; (with_reducible refine (word_Ones.calls kj6 (Go.bits .and .u64 a0 t135) t136 _ A16.out).mono ?_); rintro e w' ⟨rfl, ⟨nd, rfl⟩⟩))
                        go_ret
                        exact ⟨by first | rfl | (simp; done) | (simp only [← hji13] <;> (first | rfl | simp)) | (simp [*]; done), by repeat (first | exact Drawn0.refl _ | apply Drawn0.step)⟩
                    · rw [if_neg c14] at H
                      have c14b0 : ((Go.bits .and .u64 (ji13) 1) == 1) = false := beq_eq_false_iff_ne.mpr c14
                      have c14b1 : ((Go.bits .and .u64 (ji13) 1) != 1) = true := bne_iff_ne.mpr c14
                      obtain rfl := Option.some.inj H
                      go_wp2
                      go_ret
                      exact ⟨by first | rfl | (simp; done) | (simp only [← hji13] <;> (first | rfl | simp)) | (simp [*]; done), by repeat (first | exact Drawn0.refl _ | apply Drawn0.step)⟩
                  · rw [if_neg c12] at H
                    exact absurd H (by simp)
                · rw [if_neg c11] at H
                  have c11b0 : decide (t134 < 64) = false := decide_eq_false c11
                  clear c11
                  have H' := Aside0.mk H
                  clear H
                  go_wp2
                  go_roundg kj6
                  case measure => have := HK1.out; have := HJ6.out; omega
                  case rel => exact ⟨(wrap64 (x4_1 + 1)), (by first | rfl | (simp; done) | (simp [*]; done)), H', ⟨by have := HK1.out; have := HJ6.out; omega⟩, by repeat (first | exact Drawn0.refl _ | apply Drawn0.step)⟩
        · rw [if_neg c5] at H
          have c5b0 : decide (x4_1 < 66) = false := decide_eq_false c5
          clear c5
          replace H := Option.bind_eq_some_iff.mp H
          obtain ⟨t137, A180, H⟩ := H
          replace H : ((word_LowOne.f k1 a0).bind fun t138 => (if t137 = t138 then ((word_LowZero.f k1 a0).bind fun t139 => ((word_LowOne.f k1 (Go.bits .xor .u64 IntKind.u64.max a0)).bind fun t140 => (if t139 = t140 then ((word_Ones.f k1 (Go.bits .xor .u64 IntKind.u64.max a0)).bind fun t141 => (some ((wrap64 (t133 + t141)) == 64))) else (some false)))) else (some false))) = some r := H
          have A18 := Aside0.mk A180
          clear A180
          replace H := Option.bind_eq_some_iff.mp H
          obtain ⟨t138, A190, H⟩ := H
          replace H : (if t137 = t138 then ((word_LowZero.f k1 a0).bind fun t139 => ((word_LowOne.f k1 (Go.bits .xor .u64 IntKind.u64.max a0)).bind fun t140 => (if t139 = t140 then ((word_Ones.f k1 (Go.bits .xor .u64 IntKind.u64.max a0)).bind fun t141 => (some ((wrap64 (t133 + t141)) == 64))) else (some false)))) else (some false)) = some r := H
          have A19 := Aside0.mk A190
          clear A190
          by_cases c20 : t137 = t138
          · rw [if_pos c20] at H
            have c20b0 : (t137 == t138) = true := beq_iff_eq.mpr c20
            have c20b1 : (t137 != t138) = false := bne_eq_false_iff_eq.mpr c20
            clear c20
            replace H := Option.bind_eq_some_iff.mp H
            obtain ⟨t139, A210, H⟩ := H
            replace H : ((word_LowOne.f k1 (Go.bits .xor .u64 IntKind.u64.max a0)).bind fun t140 => (if t139 = t140 then ((word_Ones.f k1 (Go.bits .xor .u64 IntKind.u64.max a0)).bind fun t141 => (some ((wrap64 (t133 + t141)) == 64))) else (some false))) = some r := H
            have A21 := Aside0.mk A210
            clear A210
            replace H := Option.bind_eq_some_iff.mp H
            obtain ⟨t140, A220, H⟩ := H
            replace H : (if t139 = t140 then ((word_Ones.f k1 (Go.bits .xor .u64 IntKind.u64.max a0)).bind fun t141 => (some ((wrap64 (t133 + t141)) == 64))) else (some false)) = some r := H
            have A22 := Aside0.mk A220
            clear A220
            by_cases c23 : t139 = t140
            · rw [if_pos c23] at H
              have c23b0 : (t139 == t140) = true := beq_iff_eq.mpr c23
              have c23b1 : (t139 != t140) = false := bne_eq_false_iff_eq.mpr c23
              clear c23
              replace H := Option.bind_eq_some_iff.mp H
              obtain ⟨t141, A240, H⟩ := H
              replace H : (some ((wrap64 (t133 + t141)) == 64)) = some r := H
              have A24 := Aside0.mk A240
              clear A240
              obtain rfl := Option.some.inj H
              go_wp2_with (first | ((with_reducible refine gate_callee (f := 26) rfl ?_); refine goesL_ (some 50) rfl rfl Try.func26 (by kernel_rfl) rfl #[.int .u64 a0, .int .i64 0] rfl (by (try simp only [List.map_toArray, List.map_cons, List.map_nil]); first | done | rfl | (simp only [List.length_drop, List.length_take]; rfl)) ?_; (with_reducible refine (word_Nth.calls k1 a0 0 t137 _ A18.out).mono ?_); rintro e w' ⟨rfl, ⟨nd, rfl⟩⟩; refine ⟨_, rfl, ?_⟩) | ((with_reducible refine gate_callee (f := 20) rfl ?_); refine goesL_ (some 52) rfl rfl Try.func20 (by kernel_rfl) rfl #[.int .u64 a0] rfl (by (try simp only [List.map_toArray, List.map_cons, List.map_nil]); first | done | rfl | (simp only [List.length_drop, List.length_take]; rfl)) ?_; (with_reducible refine (word_LowOne.calls k1 a0 t138 _ A19.out).mono ?_); rintro e w' ⟨rfl, ⟨nd, rfl⟩⟩; refine ⟨_, rfl, ?_⟩) | (go_at_call 22; (with_reducible refine (word_LowZero.calls k1 a0 t139 _ A21.out).mono ?_); rintro e w' ⟨rfl, ⟨nd, rfl⟩⟩) | (go_at_call 20; (with_reducible refine (word_LowOne.calls k1 (Go.bits .xor .u64 IntKind.u64.max a0) t140 _ A22.out).mono ?_); rintro e w' ⟨rfl, ⟨nd, rfl⟩⟩) | (go_at_call 24; (with_reducible refine (word_Ones.calls k1 (Go.bits .xor .u64 IntKind.u64.max a0) t141 _ A24.out).mono ?_); rintro e w' ⟨rfl, ⟨nd, rfl⟩⟩))
              go_ret
              exact ⟨by first | rfl | (simp; done) | (simp [*]; done), by repeat (first | exact Drawn0.refl _ | apply Drawn0.step)⟩
            · rw [if_neg c23] at H
              have c23b0 : (t139 == t140) = false := beq_eq_false_iff_ne.mpr c23
              have c23b1 : (t139 != t140) = true := bne_iff_ne.mpr c23
              obtain rfl := Option.some.inj H
              go_wp2_with (first | ((with_reducible refine gate_callee (f := 26) rfl ?_); refine goesL_ (some 50) rfl rfl Try.func26 (by kernel_rfl) rfl #[.int .u64 a0, .int .i64 0] rfl (by (try simp only [List.map_toArray, List.map_cons, List.map_nil]); first | done | rfl | (simp only [List.length_drop, List.length_take]; rfl)) ?_; (with_reducible refine (word_Nth.calls k1 a0 0 t137 _ A18.out).mono ?_); rintro e w' ⟨rfl, ⟨nd, rfl⟩⟩; refine ⟨_, rfl, ?_⟩) | ((with_reducible refine gate_callee (f := 20) rfl ?_); refine goesL_ (some 52) rfl rfl Try.func20 (by kernel_rfl) rfl #[.int .u64 a0] rfl (by (try simp only [List.map_toArray, List.map_cons, List.map_nil]); first | done | rfl | (simp only [List.length_drop, List.length_take]; rfl)) ?_; (with_reducible refine (word_LowOne.calls k1 a0 t138 _ A19.out).mono ?_); rintro e w' ⟨rfl, ⟨nd, rfl⟩⟩; refine ⟨_, rfl, ?_⟩) | (go_at_call 22; (with_reducible refine (word_LowZero.calls k1 a0 t139 _ A21.out).mono ?_); rintro e w' ⟨rfl, ⟨nd, rfl⟩⟩) | (go_at_call 20; (with_reducible refine (word_LowOne.calls k1 (Go.bits .xor .u64 IntKind.u64.max a0) t140 _ A22.out).mono ?_); rintro e w' ⟨rfl, ⟨nd, rfl⟩⟩))
              go_ret
              exact ⟨by first | rfl | (simp; done) | (simp [*]; done), by repeat (first | exact Drawn0.refl _ | apply Drawn0.step)⟩
          · rw [if_neg c20] at H
            have c20b0 : (t137 == t138) = false := beq_eq_false_iff_ne.mpr c20
            have c20b1 : (t137 != t138) = true := bne_iff_ne.mpr c20
            obtain rfl := Option.some.inj H
            go_wp2_with (first | ((with_reducible refine gate_callee (f := 26) rfl ?_); refine goesL_ (some 50) rfl rfl Try.func26 (by kernel_rfl) rfl #[.int .u64 a0, .int .i64 0] rfl (by (try simp only [List.map_toArray, List.map_cons, List.map_nil]); first | done | rfl | (simp only [List.length_drop, List.length_take]; rfl)) ?_; (with_reducible refine (word_Nth.calls k1 a0 0 t137 _ A18.out).mono ?_); rintro e w' ⟨rfl, ⟨nd, rfl⟩⟩; refine ⟨_, rfl, ?_⟩) | ((with_reducible refine gate_callee (f := 20) rfl ?_); refine goesL_ (some 52) rfl rfl Try.func20 (by kernel_rfl) rfl #[.int .u64 a0] rfl (by (try simp only [List.map_toArray, List.map_cons, List.map_nil]); first | done | rfl | (simp only [List.length_drop, List.length_take]; rfl)) ?_; (with_reducible refine (word_LowOne.calls k1 a0 t138 _ A19.out).mono ?_); rintro e w' ⟨rfl, ⟨nd, rfl⟩⟩; refine ⟨_, rfl, ?_⟩))
            go_ret
            exact ⟨by first | rfl | (simp; done) | (simp [*]; done), by repeat (first | exact Drawn0.refl _ | apply Drawn0.step)⟩
  · replace c3 := Bool.eq_false_iff.mpr c3
    subst c3
    have H1 : (some false) = some r := by rw [if_neg (show ¬ (false = true) by decide)] at H; exact H
    clear H
    have H := H1
    clear H1
    obtain rfl := Option.some.inj H
    go_enter Try.func7, Try.ntmps7
    go_wp2_with (first | ((with_reducible refine gate_callee (f := 19) rfl ?_); refine goesL_ (some 6) rfl rfl Try.func19 (by kernel_rfl) rfl #[] rfl (by (try simp only [List.map_toArray, List.map_cons, List.map_nil]); first | done | rfl | (simp only [List.length_drop, List.length_take]; rfl)) ?_; (with_reducible refine (hodmanlaw3_begun.calls k  false _ A2.out).mono ?_); rintro e w' ⟨rfl, ⟨nd, rfl⟩⟩; refine ⟨_, rfl, ?_⟩))
    go_ret
    exact ⟨by first | rfl | (simp; done) | (simp [*]; done), by repeat (first | exact Drawn0.refl _ | apply Drawn0.step)⟩

/-- THE ONE PURE STATEMENT of hodmanlaw3_WordCounts: yours. -/
def hodmanlaw3_WordCounts.Pure : Prop := ∀ (a0 : Int), (Lit.int .u64 a0).wf = true → ∃ k, hodmanlaw3_WordCounts.f k a0 = some true
theorem hodmanlaw3_WordCounts.walk (P : hodmanlaw3_WordCounts.Pure) (a0 : Int) (w : World) (w0 : (Lit.int .u64 a0).wf = true) :
    Calls Try.prog 7 #[.int .u64 a0] w fun e w' => e = .returned (.bool true) ∧ Below w.heap.size w w' := by
  obtain ⟨k, h⟩ := P a0 w0
  refine (hodmanlaw3_WordCounts.calls k a0 true w h).mono ?_
  rintro e w' ⟨rfl, hd⟩
  exact ⟨rfl, hd.below⟩

end Go.Proofs.Ytflmdnjcniidgaa.PWord
