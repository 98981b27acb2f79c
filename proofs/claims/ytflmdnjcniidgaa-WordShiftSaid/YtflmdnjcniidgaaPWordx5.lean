/- Written by a program of this session (wip/tools/ext.py) out of the translation: Go functions told as Lean functions, with their walks; or the row of a law out of its plain part. Lean checks it. -/
import Derived.Test.YtflmdnjcniidgaaPWordx0
import Derived.Test.YtflmdnjcniidgaaPWordx1
import Derived.Test.YtflmdnjcniidgaaPWordx2
import Derived.Test.YtflmdnjcniidgaaPWordx3
import Derived.Test.YtflmdnjcniidgaaPWordx4
namespace Go.Proofs.Ytflmdnjcniidgaa.PWord
open Go.RowKit Go.Proofs.YtflmdnjcniidgaaW.PrintWords Go.Proofs.YtflmdnjcniidgaaW.PrintLast Go.Proofs.YtflmdnjcniidgaaW.PrintMore
attribute [local go_sem] max2_int min2_int max_two min_two max_three min_three max_four min_four   -- for this text's walks alone
set_option linter.unusedVariables false
set_option linter.unusedSimpArgs false

/-! ### hodmanlaw3_WordAll: function 6 -/
def hodmanlaw3_WordAll.l0 : Nat → Int → Int → List Int → Int → Option (Bool)
  | 0, _, _, _, _ => none
  | k + 1, x1, x2, x7, x8 => if x8 < 5 then (if 0 ≤ x8 then (if x8 < (x7.length : Int) then ((word_LowOne.f k (rd x7 x8)).bind fun t118 => ((hodmanref3_LowOne.f k (rd x7 x8)).bind fun t119 => (if t118 = t119 then ((word_LowZero.f k (rd x7 x8)).bind fun t120 => ((hodmanref3_LowZero.f k (rd x7 x8)).bind fun t121 => (if t120 = t121 then ((word_Ones.f k (rd x7 x8)).bind fun t122 => ((hodmanref3_Ones.f k (rd x7 x8)).bind fun t123 => (if t122 = t123 then ((word_Nth.f k (rd x7 x8) x2).bind fun t124 => ((hodmanref3_Nth.f k (rd x7 x8) x2).bind fun t125 => (if t124 = t125 then ((word_Nth.f k (rd x7 x8) (wrap64 (x8 * 9))).bind fun t126 => ((hodmanref3_Nth.f k (rd x7 x8) (wrap64 (x8 * 9))).bind fun t127 => (if t126 = t127 then (hodmanlaw3_WordAll.l0 k x1 x2 x7 (wrap64 (x8 + 1))) else (some false)))) else (some false)))) else (some false)))) else (some false)))) else (some false)))) else (none)) else (none)) else ((word_Mask.f k x1 x2).bind fun t128 => ((hodmanref3_Mask.f k x1 x2).bind fun t129 => (if t128 = t129 then ((word_Mask.f k (Go.bits .and .i64 x1 63) (Go.bits .and .i64 x2 127)).bind fun t130 => ((hodmanref3_Mask.f k (Go.bits .and .i64 x1 63) (Go.bits .and .i64 x2 127)).bind fun t131 => (some (t130 == t131)))) else (some false))))
def hodmanlaw3_WordAll.f (k : Nat) (a0 : Int) (a1 : Int) (a2 : Int) : Option (Bool) := (hodmanlaw3_begun.f k).bind fun t113 => (if t113 = true then (hodmanlaw3_WordAll.l0 k a1 a2 (([a0, Go.bits .xor .u64 IntKind.u64.max a0, Go.bits .and .u64 a0 255, IntKind.u64.wrap (a0 * 1152921504606846976), a0 / 1152921504606846976] : List Int)) 0) else (some false))
theorem hodmanlaw3_WordAll.mono_l : ∀ k, (∀ y0 y1 y2 y3, LeO (hodmanlaw3_WordAll.l0 k y0 y1 y2 y3) (hodmanlaw3_WordAll.l0 (k + 1) y0 y1 y2 y3))
  | 0 => fun _ _ _ _ r h => by simp [hodmanlaw3_WordAll.l0] at h
  | k + 1 => by
    have ih0 := hodmanlaw3_WordAll.mono_l k
    · intro y0 y1 y2 y3
      unfold hodmanlaw3_WordAll.l0
      repeat' first
      | (with_reducible exact ih0 _ _ _ _)
      | (with_reducible exact hodmanlaw3_begun.mono _)
      | (with_reducible exact hodmanref3_LowOne.mono _ _)
      | (with_reducible exact hodmanref3_LowZero.mono _ _)
      | (with_reducible exact hodmanref3_Mask.mono _ _ _)
      | (with_reducible exact hodmanref3_Nth.mono _ _ _)
      | (with_reducible exact hodmanref3_Ones.mono _ _)
      | (with_reducible exact word_LowOne.mono _ _)
      | (with_reducible exact word_LowZero.mono _ _)
      | (with_reducible exact word_Mask.mono _ _ _)
      | (with_reducible exact word_Nth.mono _ _ _)
      | (with_reducible exact word_Ones.mono _ _)
      | (with_reducible exact LeO.refl _)
      | (with_reducible exact LeO.none _)
      | (with_reducible refine LeO.ite ?_ ?_)
      | (with_reducible refine LeO.bind ?_ (fun _ => ?_))
      | exact ih0 _ _ _ _
      | exact hodmanlaw3_begun.mono _
      | exact hodmanref3_LowOne.mono _ _
      | exact hodmanref3_LowZero.mono _ _
      | exact hodmanref3_Mask.mono _ _ _
      | exact hodmanref3_Nth.mono _ _ _
      | exact hodmanref3_Ones.mono _ _
      | exact word_LowOne.mono _ _
      | exact word_LowZero.mono _ _
      | exact word_Mask.mono _ _ _
      | exact word_Nth.mono _ _ _
      | exact word_Ones.mono _ _
      | exact LeO.none _
      | refine LeO.ite ?_ ?_
      | refine LeO.bind ?_ (fun _ => ?_)
theorem hodmanlaw3_WordAll.mono : ∀ a0 a1 a2 k, LeO (hodmanlaw3_WordAll.f k a0 a1 a2) (hodmanlaw3_WordAll.f (k + 1) a0 a1 a2) := by
  intro a0 a1 a2 k
  have ih0 := hodmanlaw3_WordAll.mono_l k
  unfold hodmanlaw3_WordAll.f
  repeat' first
      | (with_reducible exact ih0 _ _ _ _)
      | (with_reducible exact hodmanlaw3_begun.mono _)
      | (with_reducible exact hodmanref3_LowOne.mono _ _)
      | (with_reducible exact hodmanref3_LowZero.mono _ _)
      | (with_reducible exact hodmanref3_Mask.mono _ _ _)
      | (with_reducible exact hodmanref3_Nth.mono _ _ _)
      | (with_reducible exact hodmanref3_Ones.mono _ _)
      | (with_reducible exact word_LowOne.mono _ _)
      | (with_reducible exact word_LowZero.mono _ _)
      | (with_reducible exact word_Mask.mono _ _ _)
      | (with_reducible exact word_Nth.mono _ _ _)
      | (with_reducible exact word_Ones.mono _ _)
      | (with_reducible exact LeO.refl _)
      | (with_reducible exact LeO.none _)
      | (with_reducible refine LeO.ite ?_ ?_)
      | (with_reducible refine LeO.bind ?_ (fun _ => ?_))
      | exact ih0 _ _ _ _
      | exact hodmanlaw3_begun.mono _
      | exact hodmanref3_LowOne.mono _ _
      | exact hodmanref3_LowZero.mono _ _
      | exact hodmanref3_Mask.mono _ _ _
      | exact hodmanref3_Nth.mono _ _ _
      | exact hodmanref3_Ones.mono _ _
      | exact word_LowOne.mono _ _
      | exact word_LowZero.mono _ _
      | exact word_Mask.mono _ _ _
      | exact word_Nth.mono _ _ _
      | exact word_Ones.mono _ _
      | exact LeO.none _
      | refine LeO.ite ?_ ?_
      | refine LeO.bind ?_ (fun _ => ?_)
set_option maxHeartbeats 8000000 in
set_option maxRecDepth 100000 in
theorem hodmanlaw3_WordAll.calls (k : Nat) (a0 : Int) (a1 : Int) (a2 : Int) (r : Bool) (w : World) (h : hodmanlaw3_WordAll.f k a0 a1 a2 = some r) :
    Calls Try.prog 6 #[.int .u64 a0, .int .i64 a1, .int .i64 a2] w fun e w' => e = .returned (.bool r) ∧ Below w.heap.size w w' := by
  have HB := Aside0.mk (Below.refl w.heap.size w)
  have H : ((hodmanlaw3_begun.f k).bind fun t113 => (if t113 = true then (hodmanlaw3_WordAll.l0 k a1 a2 (([a0, Go.bits .xor .u64 IntKind.u64.max a0, Go.bits .and .u64 a0 255, IntKind.u64.wrap (a0 * 1152921504606846976), a0 / 1152921504606846976] : List Int)) 0) else (some false))) = some r := h
  clear h
  replace H := Option.bind_eq_some_iff.mp H
  obtain ⟨t113, A40, H⟩ := H
  replace H : (if t113 = true then (hodmanlaw3_WordAll.l0 k a1 a2 (([a0, Go.bits .xor .u64 IntKind.u64.max a0, Go.bits .and .u64 a0 255, IntKind.u64.wrap (a0 * 1152921504606846976), a0 / 1152921504606846976] : List Int)) 0) else (some false)) = some r := H
  have A4 := Aside0.mk A40
  clear A40
  by_cases c5 : t113 = true
  · subst c5
    have H1 : (hodmanlaw3_WordAll.l0 k a1 a2 (([a0, Go.bits .xor .u64 IntKind.u64.max a0, Go.bits .and .u64 a0 255, IntKind.u64.wrap (a0 * 1152921504606846976), a0 / 1152921504606846976] : List Int)) 0) = some r := by rw [if_pos rfl] at H; exact H
    clear H
    have H := H1
    clear H1
    obtain ⟨y114, hy114⟩ : ∃ y_ : List Int, y_ = (([a0, Go.bits .xor .u64 IntKind.u64.max a0, Go.bits .and .u64 a0 255, IntKind.u64.wrap (a0 * 1152921504606846976), a0 / 1152921504606846976] : List Int)) := ⟨_, rfl⟩
    replace H : (hodmanlaw3_WordAll.l0 k a1 a2 y114 0) = some r := by first | (rw [hy114]; with_reducible exact H) | (have H2_ := (Option.bind_some _ _).symm.trans H; rw [hy114]; with_reducible exact H2_) | (have H2_ := (Option.bind_some _ _).symm.trans H; with_reducible exact H2_) | with_reducible exact H | (rw [hy114]; exact H) | exact H
    have Ny114 := Aside0.mk hy114
    clear hy114
    have H' := Aside0.mk H
    clear H
    go_enter Try.func6, Try.ntmps6
    go_wp2_with (first | ((with_reducible refine gate_callee (f := 19) rfl ?_); refine goesL_ (some 10) rfl rfl Try.func19 (by kernel_rfl) rfl #[] rfl (by (try simp only [List.map_toArray, List.map_cons, List.map_nil]); first | done | rfl | (simp only [List.length_drop, List.length_take]; rfl)) ?_; (with_reducible refine (hodmanlaw3_begun.calls k  true _ A4.out).mono ?_); rintro e w' ⟨rfl, ⟨nd, rfl⟩⟩; refine ⟨_, rfl, ?_⟩) | ((with_reducible refine gate_dst (N := 21) rfl ?_); refine Kd.R_lit (Kd.int .u64) _ 30 ?hg (N := 21) ?hd (xs := ([a0, Go.bits .xor .u64 IntKind.u64.max a0, Go.bits .and .u64 a0 255, IntKind.u64.wrap (a0 * 1152921504606846976), a0 / 1152921504606846976] : List Int)) (inner := [.int .u64 a0, .int .u64 (Go.bits .xor .u64 IntKind.u64.max a0), .int .u64 (Go.bits .and .u64 a0 255), .int .u64 (IntKind.u64.wrap (a0 * 1152921504606846976)), .int .u64 (a0 / 1152921504606846976)]) (ok := fun _ => True) (okp := fun _ => True) ?hr ?hp (fun _ hk => hk) trivial (Below.refl _ _) (Nat.le_refl _) (by simp) ?_; (case hd => rfl); (case hg => rfl); (case hr => first | (go_simp; done) | (go_simp; rfl)); (case hp => exact (Reps.one (show Kd.M (Kd.int .u64) _ _ _ a0 [.int .u64 a0] from rfl) (Reps.one (show Kd.M (Kd.int .u64) _ _ _ (Go.bits .xor .u64 IntKind.u64.max a0) [.int .u64 (Go.bits .xor .u64 IntKind.u64.max a0)] from rfl) (Reps.one (show Kd.M (Kd.int .u64) _ _ _ (Go.bits .and .u64 a0 255) [.int .u64 (Go.bits .and .u64 a0 255)] from rfl) (Reps.one (show Kd.M (Kd.int .u64) _ _ _ (IntKind.u64.wrap (a0 * 1152921504606846976)) [.int .u64 (IntKind.u64.wrap (a0 * 1152921504606846976))] from rfl) (Reps.one (show Kd.M (Kd.int .u64) _ _ _ (a0 / 1152921504606846976) [.int .u64 (a0 / 1152921504606846976)] from rfl) (Reps.none _ _))))))); intro v115 w6 ho7 hb hg_ hnew_; clear hg_ hnew_; (first | rw [← Ny114.out] at ho7 | (simp only [Int.reduceToNat] at ho7; rw [← Ny114.out] at ho7)); have n0_ := Aside0.mk (Kd.R_lower ho7 (below_size (by repeat (first | (with_reducible first | exact HB.out | apply below_alloc | apply pw_below_drewN | apply below_drew1) | exact HB.out)))); have n1_ := Aside0.mk (below_step (by repeat (first | (with_reducible first | exact HB.out | apply below_alloc | apply pw_below_drewN | apply below_drew1) | exact HB.out)) hb); clear HB; have HO116 := n0_; have HB := n1_; clear n0_ n1_; clear hb ho7))
    go_loopg [8] k (fun kq v8 w' => ∃ (x8_1 : Int), v8 = .int .i64 x8_1 ∧ Aside0 (hodmanlaw3_WordAll.l0 kq a1 a2 y114 x8_1 = some r) ∧ Aside0 (kq ≤ k) ∧ Aside0 (Kd.R (Kd.int .u64) 30 w' w.heap.size (fun _ => True) v115 y114) ∧ Aside0 (Below w.heap.size w w'))
    case atStart => exact ⟨(0), (by first | rfl | (simp; done) | (simp [*]; done)), H', ⟨Nat.le_refl _⟩, ⟨by (with_reducible repeat (first | apply Kd.R_alloc | apply Kd.R_drewN | apply Kd.R_drew)); exact HO116.out⟩, ⟨by repeat (first | (with_reducible first | exact HB.out | apply below_alloc | apply pw_below_drewN | apply below_drew1) | exact HB.out)⟩⟩
    case round =>
      clear H'
      try clear c1
      try clear p2
      try clear c5
      try clear c6
      obtain ⟨x8_1, rfl, HA, HK1, HO_7, HB⟩ := hrel
      cases gk with
      | zero => exact absurd HA.out (by simp [hodmanlaw3_WordAll.l0])
      | succ k1 =>
        have H := HA.out
        clear HA
        simp only [hodmanlaw3_WordAll.l0] at H
        by_cases c8 : x8_1 < 5
        · rw [if_pos c8] at H
          have c8b0 : decide (x8_1 < 5) = true := decide_eq_true c8
          clear c8
          by_cases c9 : 0 ≤ x8_1
          · rw [if_pos c9] at H
            have c9b0 : decide (0 ≤ x8_1) = true := decide_eq_true c9
            clear c9
            by_cases c10 : x8_1 < (y114.length : Int)
            · rw [if_pos c10] at H
              have c10b0 : decide (x8_1 < (y114.length : Int)) = true := decide_eq_true c10
              clear c10
              replace H := Option.bind_eq_some_iff.mp H
              obtain ⟨t118, A110, H⟩ := H
              replace H : ((hodmanref3_LowOne.f k1 (rd y114 x8_1)).bind fun t119 => (if t118 = t119 then ((word_LowZero.f k1 (rd y114 x8_1)).bind fun t120 => ((hodmanref3_LowZero.f k1 (rd y114 x8_1)).bind fun t121 => (if t120 = t121 then ((word_Ones.f k1 (rd y114 x8_1)).bind fun t122 => ((hodmanref3_Ones.f k1 (rd y114 x8_1)).bind fun t123 => (if t122 = t123 then ((word_Nth.f k1 (rd y114 x8_1) a2).bind fun t124 => ((hodmanref3_Nth.f k1 (rd y114 x8_1) a2).bind fun t125 => (if t124 = t125 then ((word_Nth.f k1 (rd y114 x8_1) (wrap64 (x8_1 * 9))).bind fun t126 => ((hodmanref3_Nth.f k1 (rd y114 x8_1) (wrap64 (x8_1 * 9))).bind fun t127 => (if t126 = t127 then (hodmanlaw3_WordAll.l0 k1 a1 a2 y114 (wrap64 (x8_1 + 1))) else (some false)))) else (some false)))) else (some false)))) else (some false)))) else (some false))) = some r := H
              have A11 := Aside0.mk A110
              clear A110
              replace H := Option.bind_eq_some_iff.mp H
              obtain ⟨t119, A120, H⟩ := H
              replace H : (if t118 = t119 then ((word_LowZero.f k1 (rd y114 x8_1)).bind fun t120 => ((hodmanref3_LowZero.f k1 (rd y114 x8_1)).bind fun t121 => (if t120 = t121 then ((word_Ones.f k1 (rd y114 x8_1)).bind fun t122 => ((hodmanref3_Ones.f k1 (rd y114 x8_1)).bind fun t123 => (if t122 = t123 then ((word_Nth.f k1 (rd y114 x8_1) a2).bind fun t124 => ((hodmanref3_Nth.f k1 (rd y114 x8_1) a2).bind fun t125 => (if t124 = t125 then ((word_Nth.f k1 (rd y114 x8_1) (wrap64 (x8_1 * 9))).bind fun t126 => ((hodmanref3_Nth.f k1 (rd y114 x8_1) (wrap64 (x8_1 * 9))).bind fun t127 => (if t126 = t127 then (hodmanlaw3_WordAll.l0 k1 a1 a2 y114 (wrap64 (x8_1 + 1))) else (some false)))) else (some false)))) else (some false)))) else (some false)))) else (some false)) = some r := H
              have A12 := Aside0.mk A120
              clear A120
              by_cases c13 : t118 = t119
              · rw [if_pos c13] at H
                have c13b0 : (t118 == t119) = true := beq_iff_eq.mpr c13
                have c13b1 : (t118 != t119) = false := bne_eq_false_iff_eq.mpr c13
                clear c13
                replace H := Option.bind_eq_some_iff.mp H
                obtain ⟨t120, A140, H⟩ := H
                replace H : ((hodmanref3_LowZero.f k1 (rd y114 x8_1)).bind fun t121 => (if t120 = t121 then ((word_Ones.f k1 (rd y114 x8_1)).bind fun t122 => ((hodmanref3_Ones.f k1 (rd y114 x8_1)).bind fun t123 => (if t122 = t123 then ((word_Nth.f k1 (rd y114 x8_1) a2).bind fun t124 => ((hodmanref3_Nth.f k1 (rd y114 x8_1) a2).bind fun t125 => (if t124 = t125 then ((word_Nth.f k1 (rd y114 x8_1) (wrap64 (x8_1 * 9))).bind fun t126 => ((hodmanref3_Nth.f k1 (rd y114 x8_1) (wrap64 (x8_1 * 9))).bind fun t127 => (if t126 = t127 then (hodmanlaw3_WordAll.l0 k1 a1 a2 y114 (wrap64 (x8_1 + 1))) else (some false)))) else (some false)))) else (some false)))) else (some false))) = some r := H
                have A14 := Aside0.mk A140
                clear A140
                replace H := Option.bind_eq_some_iff.mp H
                obtain ⟨t121, A150, H⟩ := H
                replace H : (if t120 = t121 then ((word_Ones.f k1 (rd y114 x8_1)).bind fun t122 => ((hodmanref3_Ones.f k1 (rd y114 x8_1)).bind fun t123 => (if t122 = t123 then ((word_Nth.f k1 (rd y114 x8_1) a2).bind fun t124 => ((hodmanref3_Nth.f k1 (rd y114 x8_1) a2).bind fun t125 => (if t124 = t125 then ((word_Nth.f k1 (rd y114 x8_1) (wrap64 (x8_1 * 9))).bind fun t126 => ((hodmanref3_Nth.f k1 (rd y114 x8_1) (wrap64 (x8_1 * 9))).bind fun t127 => (if t126 = t127 then (hodmanlaw3_WordAll.l0 k1 a1 a2 y114 (wrap64 (x8_1 + 1))) else (some false)))) else (some false)))) else (some false)))) else (some false)) = some r := H
                have A15 := Aside0.mk A150
                clear A150
                by_cases c16 : t120 = t121
                · rw [if_pos c16] at H
                  have c16b0 : (t120 == t121) = true := beq_iff_eq.mpr c16
                  have c16b1 : (t120 != t121) = false := bne_eq_false_iff_eq.mpr c16
                  clear c16
                  replace H := Option.bind_eq_some_iff.mp H
                  obtain ⟨t122, A170, H⟩ := H
                  replace H : ((hodmanref3_Ones.f k1 (rd y114 x8_1)).bind fun t123 => (if t122 = t123 then ((word_Nth.f k1 (rd y114 x8_1) a2).bind fun t124 => ((hodmanref3_Nth.f k1 (rd y114 x8_1) a2).bind fun t125 => (if t124 = t125 then ((word_Nth.f k1 (rd y114 x8_1) (wrap64 (x8_1 * 9))).bind fun t126 => ((hodmanref3_Nth.f k1 (rd y114 x8_1) (wrap64 (x8_1 * 9))).bind fun t127 => (if t126 = t127 then (hodmanlaw3_WordAll.l0 k1 a1 a2 y114 (wrap64 (x8_1 + 1))) else (some false)))) else (some false)))) else (some false))) = some r := H
                  have A17 := Aside0.mk A170
                  clear A170
                  replace H := Option.bind_eq_some_iff.mp H
                  obtain ⟨t123, A180, H⟩ := H
                  replace H : (if t122 = t123 then ((word_Nth.f k1 (rd y114 x8_1) a2).bind fun t124 => ((hodmanref3_Nth.f k1 (rd y114 x8_1) a2).bind fun t125 => (if t124 = t125 then ((word_Nth.f k1 (rd y114 x8_1) (wrap64 (x8_1 * 9))).bind fun t126 => ((hodmanref3_Nth.f k1 (rd y114 x8_1) (wrap64 (x8_1 * 9))).bind fun t127 => (if t126 = t127 then (hodmanlaw3_WordAll.l0 k1 a1 a2 y114 (wrap64 (x8_1 + 1))) else (some false)))) else (some false)))) else (some false)) = some r := H
                  have A18 := Aside0.mk A180
                  clear A180
                  by_cases c19 : t122 = t123
                  · rw [if_pos c19] at H
                    have c19b0 : (t122 == t123) = true := beq_iff_eq.mpr c19
                    have c19b1 : (t122 != t123) = false := bne_eq_false_iff_eq.mpr c19
                    clear c19
                    replace H := Option.bind_eq_some_iff.mp H
                    obtain ⟨t124, A200, H⟩ := H
                    replace H : ((hodmanref3_Nth.f k1 (rd y114 x8_1) a2).bind fun t125 => (if t124 = t125 then ((word_Nth.f k1 (rd y114 x8_1) (wrap64 (x8_1 * 9))).bind fun t126 => ((hodmanref3_Nth.f k1 (rd y114 x8_1) (wrap64 (x8_1 * 9))).bind fun t127 => (if t126 = t127 then (hodmanlaw3_WordAll.l0 k1 a1 a2 y114 (wrap64 (x8_1 + 1))) else (some false)))) else (some false))) = some r := H
                    have A20 := Aside0.mk A200
                    clear A200
                    replace H := Option.bind_eq_some_iff.mp H
                    obtain ⟨t125, A210, H⟩ := H
                    replace H : (if t124 = t125 then ((word_Nth.f k1 (rd y114 x8_1) (wrap64 (x8_1 * 9))).bind fun t126 => ((hodmanref3_Nth.f k1 (rd y114 x8_1) (wrap64 (x8_1 * 9))).bind fun t127 => (if t126 = t127 then (hodmanlaw3_WordAll.l0 k1 a1 a2 y114 (wrap64 (x8_1 + 1))) else (some false)))) else (some false)) = some r := H
                    have A21 := Aside0.mk A210
                    clear A210
                    by_cases c22 : t124 = t125
                    · rw [if_pos c22] at H
                      have c22b0 : (t124 == t125) = true := beq_iff_eq.mpr c22
                      have c22b1 : (t124 != t125) = false := bne_eq_false_iff_eq.mpr c22
                      clear c22
                      replace H := Option.bind_eq_some_iff.mp H
                      obtain ⟨t126, A230, H⟩ := H
                      replace H : ((hodmanref3_Nth.f k1 (rd y114 x8_1) (wrap64 (x8_1 * 9))).bind fun t127 => (if t126 = t127 then (hodmanlaw3_WordAll.l0 k1 a1 a2 y114 (wrap64 (x8_1 + 1))) else (some false))) = some r := H
                      have A23 := Aside0.mk A230
                      clear A230
                      replace H := Option.bind_eq_some_iff.mp H
                      obtain ⟨t127, A240, H⟩ := H
                      replace H : (if t126 = t127 then (hodmanlaw3_WordAll.l0 k1 a1 a2 y114 (wrap64 (x8_1 + 1))) else (some false)) = some r := H
                      have A24 := Aside0.mk A240
                      clear A240
                      by_cases c25 : t126 = t127
                      · rw [if_pos c25] at H
                        have c25b0 : (t126 == t127) = true := beq_iff_eq.mpr c25
                        have c25b1 : (t126 != t127) = false := bne_eq_false_iff_eq.mpr c25
                        clear c25
                        have H' := Aside0.mk H
                        clear H
                        obtain ⟨Ao26, co26, eo26⟩ := Kd.R_slice HO_7.out
                        subst eo26
                        have p117 : 0 ≤ (x8_1 : Int) := of_decide_eq_true (by first | (with_reducible assumption) | assumption)
                        have q117 : x8_1 < (y114.length : Int) := of_decide_eq_true (by first | (with_reducible assumption) | assumption)
                        obtain ⟨ad117, e117, hx117_0⟩ := Kd.at_int (Kd.R_reads' HO_7.out).2.2 x8_1 p117 q117
                        cases e117
                        replace p117 := eq_true p117
                        replace q117 := eq_true q117
                        go_wp2_with (first | ((with_reducible refine gate_callee (f := 20) rfl ?_); refine goesL_ (some 31) rfl rfl Try.func20 (by kernel_rfl) rfl #[.int .u64 (rd y114 x8_1)] rfl (by (try simp only [List.map_toArray, List.map_cons, List.map_nil]); first | done | rfl | (simp only [List.length_drop, List.length_take]; rfl)) ?_; (with_reducible refine (word_LowOne.calls k1 (rd y114 x8_1) t118 _ A11.out).mono ?_); rintro e w' ⟨rfl, ⟨nd, rfl⟩⟩; refine ⟨_, rfl, ?_⟩) | ((with_reducible refine gate_callee (f := 21) rfl ?_); refine goesL_ (some 33) rfl rfl Try.func21 (by kernel_rfl) rfl #[.int .u64 (rd y114 x8_1)] rfl (by (try simp only [List.map_toArray, List.map_cons, List.map_nil]); first | done | rfl | (simp only [List.length_drop, List.length_take]; rfl)) ?_; (with_reducible refine (hodmanref3_LowOne.calls k1 (rd y114 x8_1) t119 _ A12.out).mono ?_); rintro e w' ⟨rfl, ⟨nd, rfl⟩⟩; refine ⟨_, rfl, ?_⟩) | (go_at_call 22; (with_reducible refine (word_LowZero.calls k1 (rd y114 x8_1) t120 _ A14.out).mono ?_); rintro e w' ⟨rfl, ⟨nd, rfl⟩⟩) | (go_at_call 23; (with_reducible refine (hodmanref3_LowZero.calls k1 (rd y114 x8_1) t121 _ A15.out).mono ?_); rintro e w' ⟨rfl, ⟨nd, rfl⟩⟩) | (go_at_call 24; (with_reducible refine (word_Ones.calls k1 (rd y114 x8_1) t122 _ A17.out).mono ?_); rintro e w' ⟨rfl, ⟨nd, rfl⟩⟩) | (go_at_call 25; (with_reducible refine (hodmanref3_Ones.calls k1 (rd y114 x8_1) t123 _ A18.out).mono ?_); rintro e w' ⟨rfl, ⟨nd, rfl⟩⟩) | (go_at_call 26; (with_reducible refine (word_Nth.calls k1 (rd y114 x8_1) a2 t124 _ A20.out).mono ?_); rintro e w' ⟨rfl, ⟨nd, rfl⟩⟩) | (go_at_call 27; (with_reducible refine (hodmanref3_Nth.calls k1 (rd y114 x8_1) a2 t125 _ A21.out).mono ?_); rintro e w' ⟨rfl, ⟨nd, rfl⟩⟩) | (go_at_call 26; (with_reducible refine (word_Nth.calls k1 (rd y114 x8_1) (wrap64 (x8_1 * 9)) t126 _ A23.out).mono ?_); rintro e w' ⟨rfl, ⟨nd, rfl⟩⟩) | (go_at_call 27; (with_reducible refine (hodmanref3_Nth.calls k1 (rd y114 x8_1) (wrap64 (x8_1 * 9)) t127 _ A24.out).mono ?_); rintro e w' ⟨rfl, ⟨nd, rfl⟩⟩))
                        go_roundg k1
                        case measure => have := HK1.out; omega
                        case rel => exact ⟨(wrap64 (x8_1 + 1)), (by first | rfl | (simp; done) | (simp [*]; done)), H', ⟨by have := HK1.out; omega⟩, ⟨by (with_reducible repeat (first | apply Kd.R_alloc | apply Kd.R_drewN | apply Kd.R_drew)); exact HO_7.out⟩, ⟨by repeat (first | (with_reducible first | exact HB.out | apply below_alloc | apply pw_below_drewN | apply below_drew1) | exact HB.out)⟩⟩
                      · rw [if_neg c25] at H
                        have c25b0 : (t126 == t127) = false := beq_eq_false_iff_ne.mpr c25
                        have c25b1 : (t126 != t127) = true := bne_iff_ne.mpr c25
                        obtain rfl := Option.some.inj H
                        obtain ⟨Ao27, co27, eo27⟩ := Kd.R_slice HO_7.out
                        subst eo27
                        have p117 : 0 ≤ (x8_1 : Int) := of_decide_eq_true (by first | (with_reducible assumption) | assumption)
                        have q117 : x8_1 < (y114.length : Int) := of_decide_eq_true (by first | (with_reducible assumption) | assumption)
                        obtain ⟨ad117, e117, hx117_0⟩ := Kd.at_int (Kd.R_reads' HO_7.out).2.2 x8_1 p117 q117
                        cases e117
                        replace p117 := eq_true p117
                        replace q117 := eq_true q117
                        go_wp2_with (first | ((with_reducible refine gate_callee (f := 20) rfl ?_); refine goesL_ (some 31) rfl rfl Try.func20 (by kernel_rfl) rfl #[.int .u64 (rd y114 x8_1)] rfl (by (try simp only [List.map_toArray, List.map_cons, List.map_nil]); first | done | rfl | (simp only [List.length_drop, List.length_take]; rfl)) ?_; (with_reducible refine (word_LowOne.calls k1 (rd y114 x8_1) t118 _ A11.out).mono ?_); rintro e w' ⟨rfl, ⟨nd, rfl⟩⟩; refine ⟨_, rfl, ?_⟩) | ((with_reducible refine gate_callee (f := 21) rfl ?_); refine goesL_ (some 33) rfl rfl Try.func21 (by kernel_rfl) rfl #[.int .u64 (rd y114 x8_1)] rfl (by (try simp only [List.map_toArray, List.map_cons, List.map_nil]); first | done | rfl | (simp only [List.length_drop, List.length_take]; rfl)) ?_; (with_reducible refine (hodmanref3_LowOne.calls k1 (rd y114 x8_1) t119 _ A12.out).mono ?_); rintro e w' ⟨rfl, ⟨nd, rfl⟩⟩; refine ⟨_, rfl, ?_⟩) | (go_at_call 22; (with_reducible refine (word_LowZero.calls k1 (rd y114 x8_1) t120 _ A14.out).mono ?_); rintro e w' ⟨rfl, ⟨nd, rfl⟩⟩) | (go_at_call 23; (with_reducible refine (hodmanref3_LowZero.calls k1 (rd y114 x8_1) t121 _ A15.out).mono ?_); rintro e w' ⟨rfl, ⟨nd, rfl⟩⟩) | (go_at_call 24; (with_reducible refine (word_Ones.calls k1 (rd y114 x8_1) t122 _ A17.out).mono ?_); rintro e w' ⟨rfl, ⟨nd, rfl⟩⟩) | (go_at_call 25; (with_reducible refine (hodmanref3_Ones.calls k1 (rd y114 x8_1) t123 _ A18.out).mono ?_); rintro e w' ⟨rfl, ⟨nd, rfl⟩⟩) | (go_at_call 26; (with_reducible refine (word_Nth.calls k1 (rd y114 x8_1) a2 t124 _ A20.out).mono ?_); rintro e w' ⟨rfl, ⟨nd, rfl⟩⟩) | (go_at_call 27; (with_reducible refine (hodmanref3_Nth.calls k1 (rd y114 x8_1) a2 t125 _ A21.out).mono ?_); rintro e w' ⟨rfl, ⟨nd, rfl⟩⟩) | (go_at_call 26; (with_reducible refine (word_Nth.calls k1 (rd y114 x8_1) (wrap64 (x8_1 * 9)) t126 _ A23.out).mono ?_); rintro e w' ⟨rfl, ⟨nd, rfl⟩⟩) | (go_at_call 27; (with_reducible refine (hodmanref3_Nth.calls k1 (rd y114 x8_1) (wrap64 (x8_1 * 9)) t127 _ A24.out).mono ?_); rintro e w' ⟨rfl, ⟨nd, rfl⟩⟩))
                        go_ret
                        exact ⟨by first | rfl | (simp [errW_none, errW_some] <;> rfl) | (simp [*, errW_none, errW_some] <;> rfl), by repeat (first | (with_reducible first | exact HB.out | apply below_alloc | apply pw_below_drewN | apply below_drew1) | exact HB.out)⟩
                    · rw [if_neg c22] at H
                      have c22b0 : (t124 == t125) = false := beq_eq_false_iff_ne.mpr c22
                      have c22b1 : (t124 != t125) = true := bne_iff_ne.mpr c22
                      obtain rfl := Option.some.inj H
                      obtain ⟨Ao28, co28, eo28⟩ := Kd.R_slice HO_7.out
                      subst eo28
                      have p117 : 0 ≤ (x8_1 : Int) := of_decide_eq_true (by first | (with_reducible assumption) | assumption)
                      have q117 : x8_1 < (y114.length : Int) := of_decide_eq_true (by first | (with_reducible assumption) | assumption)
                      obtain ⟨ad117, e117, hx117_0⟩ := Kd.at_int (Kd.R_reads' HO_7.out).2.2 x8_1 p117 q117
                      cases e117
                      replace p117 := eq_true p117
                      replace q117 := eq_true q117
                      go_wp2_with (first | ((with_reducible refine gate_callee (f := 20) rfl ?_); refine goesL_ (some 31) rfl rfl Try.func20 (by kernel_rfl) rfl #[.int .u64 (rd y114 x8_1)] rfl (by (try simp only [List.map_toArray, List.map_cons, List.map_nil]); first | done | rfl | (simp only [List.length_drop, List.length_take]; rfl)) ?_; (with_reducible refine (word_LowOne.calls k1 (rd y114 x8_1) t118 _ A11.out).mono ?_); rintro e w' ⟨rfl, ⟨nd, rfl⟩⟩; refine ⟨_, rfl, ?_⟩) | ((with_reducible refine gate_callee (f := 21) rfl ?_); refine goesL_ (some 33) rfl rfl Try.func21 (by kernel_rfl) rfl #[.int .u64 (rd y114 x8_1)] rfl (by (try simp only [List.map_toArray, List.map_cons, List.map_nil]); first | done | rfl | (simp only [List.length_drop, List.length_take]; rfl)) ?_; (with_reducible refine (hodmanref3_LowOne.calls k1 (rd y114 x8_1) t119 _ A12.out).mono ?_); rintro e w' ⟨rfl, ⟨nd, rfl⟩⟩; refine ⟨_, rfl, ?_⟩) | (go_at_call 22; (with_reducible refine (word_LowZero.calls k1 (rd y114 x8_1) t120 _ A14.out).mono ?_); rintro e w' ⟨rfl, ⟨nd, rfl⟩⟩) | (go_at_call 23; (with_reducible refine (hodmanref3_LowZero.calls k1 (rd y114 x8_1) t121 _ A15.out).mono ?_); rintro e w' ⟨rfl, ⟨nd, rfl⟩⟩) | (go_at_call 24; (with_reducible refine (word_Ones.calls k1 (rd y114 x8_1) t122 _ A17.out).mono ?_); rintro e w' ⟨rfl, ⟨nd, rfl⟩⟩) | (go_at_call 25; (with_reducible refine (hodmanref3_Ones.calls k1 (rd y114 x8_1) t123 _ A18.out).mono ?_); rintro e w' ⟨rfl, ⟨nd, rfl⟩⟩) | (go_at_call 26; (with_reducible refine (word_Nth.calls k1 (rd y114 x8_1) a2 t124 _ A20.out).mono ?_); rintro e w' ⟨rfl, ⟨nd, rfl⟩⟩) | (go_at_call 27; (with_reducible refine (hodmanref3_Nth.calls k1 (rd y114 x8_1) a2 t125 _ A21.out).mono ?_); rintro e w' ⟨rfl, ⟨nd, rfl⟩⟩))
                      go_ret
                      exact ⟨by first | rfl | (simp [errW_none, errW_some] <;> rfl) | (simp [*, errW_none, errW_some] <;> rfl), by repeat (first | (with_reducible first | exact HB.out | apply below_alloc | apply pw_below_drewN | apply below_drew1) | exact HB.out)⟩
                  · rw [if_neg c19] at H
                    have c19b0 : (t122 == t123) = false := beq_eq_false_iff_ne.mpr c19
                    have c19b1 : (t122 != t123) = true := bne_iff_ne.mpr c19
                    obtain rfl := Option.some.inj H
                    obtain ⟨Ao29, co29, eo29⟩ := Kd.R_slice HO_7.out
                    subst eo29
                    have p117 : 0 ≤ (x8_1 : Int) := of_decide_eq_true (by first | (with_reducible assumption) | assumption)
                    have q117 : x8_1 < (y114.length : Int) := of_decide_eq_true (by first | (with_reducible assumption) | assumption)
                    obtain ⟨ad117, e117, hx117_0⟩ := Kd.at_int (Kd.R_reads' HO_7.out).2.2 x8_1 p117 q117
                    cases e117
                    replace p117 := eq_true p117
                    replace q117 := eq_true q117
                    go_wp2_with (first | ((with_reducible refine gate_callee (f := 20) rfl ?_); refine goesL_ (some 31) rfl rfl Try.func20 (by kernel_rfl) rfl #[.int .u64 (rd y114 x8_1)] rfl (by (try simp only [List.map_toArray, List.map_cons, List.map_nil]); first | done | rfl | (simp only [List.length_drop, List.length_take]; rfl)) ?_; (with_reducible refine (word_LowOne.calls k1 (rd y114 x8_1) t118 _ A11.out).mono ?_); rintro e w' ⟨rfl, ⟨nd, rfl⟩⟩; refine ⟨_, rfl, ?_⟩) | ((with_reducible refine gate_callee (f := 21) rfl ?_); refine goesL_ (some 33) rfl rfl Try.func21 (by kernel_rfl) rfl #[.int .u64 (rd y114 x8_1)] rfl (by (try simp only [List.map_toArray, List.map_cons, List.map_nil]); first | done | rfl | (simp only [List.length_drop, List.length_take]; rfl)) ?_; (with_reducible refine (hodmanref3_LowOne.calls k1 (rd y114 x8_1) t119 _ A12.out).mono ?_); rintro e w' ⟨rfl, ⟨nd, rfl⟩⟩; refine ⟨_, rfl, ?_⟩) | (go_at_call 22; (with_reducible refine (word_LowZero.calls k1 (rd y114 x8_1) t120 _ A14.out).mono ?_); rintro e w' ⟨rfl, ⟨nd, rfl⟩⟩) | (go_at_call 23; (with_reducible refine (hodmanref3_LowZero.calls k1 (rd y114 x8_1) t121 _ A15.out).mono ?_); rintro e w' ⟨rfl, ⟨nd, rfl⟩⟩) | (go_at_call 24; (with_reducible refine (word_Ones.calls k1 (rd y114 x8_1) t122 _ A17.out).mono ?_); rintro e w' ⟨rfl, ⟨nd, rfl⟩⟩) | (go_at_call 25; (with_reducible refine (hodmanref3_Ones.calls k1 (rd y114 x8_1) t123 _ A18.out).mono ?_); rintro e w' ⟨rfl, ⟨nd, rfl⟩⟩))
                    go_ret
                    exact ⟨by first | rfl | (simp [errW_none, errW_some] <;> rfl) | (simp [*, errW_none, errW_some] <;> rfl), by repeat (first | (with_reducible first | exact HB.out | apply below_alloc | apply pw_below_drewN | apply below_drew1) | exact HB.out)⟩
                · rw [if_neg c16] at H
                  have c16b0 : (t120 == t121) = false := beq_eq_false_iff_ne.mpr c16
                  have c16b1 : (t120 != t121) = true := bne_iff_ne.mpr c16
                  obtain rfl := Option.some.inj H
                  obtain ⟨Ao30, co30, eo30⟩ := Kd.R_slice HO_7.out
                  subst eo30
                  have p117 : 0 ≤ (x8_1 : Int) := of_decide_eq_true (by first | (with_reducible assumption) | assumption)
                  have q117 : x8_1 < (y114.length : Int) := of_decide_eq_true (by first | (with_reducible assumption) | assumption)
                  obtain ⟨ad117, e117, hx117_0⟩ := Kd.at_int (Kd.R_reads' HO_7.out).2.2 x8_1 p117 q117
                  cases e117
                  replace p117 := eq_true p117
                  replace q117 := eq_true q117
                  go_wp2_with (first | ((with_reducible refine gate_callee (f := 20) rfl ?_); refine goesL_ (some 31) rfl rfl Try.func20 (by kernel_rfl) rfl #[.int .u64 (rd y114 x8_1)] rfl (by (try simp only [List.map_toArray, List.map_cons, List.map_nil]); first | done | rfl | (simp only [List.length_drop, List.length_take]; rfl)) ?_; (with_reducible refine (word_LowOne.calls k1 (rd y114 x8_1) t118 _ A11.out).mono ?_); rintro e w' ⟨rfl, ⟨nd, rfl⟩⟩; refine ⟨_, rfl, ?_⟩) | ((with_reducible refine gate_callee (f := 21) rfl ?_); refine goesL_ (some 33) rfl rfl Try.func21 (by kernel_rfl) rfl #[.int .u64 (rd y114 x8_1)] rfl (by (try simp only [List.map_toArray, List.map_cons, List.map_nil]); first | done | rfl | (simp only [List.length_drop, List.length_take]; rfl)) ?_; (with_reducible refine (hodmanref3_LowOne.calls k1 (rd y114 x8_1) t119 _ A12.out).mono ?_); rintro e w' ⟨rfl, ⟨nd, rfl⟩⟩; refine ⟨_, rfl, ?_⟩) | (go_at_call 22; (with_reducible refine (word_LowZero.calls k1 (rd y114 x8_1) t120 _ A14.out).mono ?_); rintro e w' ⟨rfl, ⟨nd, rfl⟩⟩) | (go_at_call 23; (with_reducible refine (hodmanref3_LowZero.calls k1 (rd y114 x8_1) t121 _ A15.out).mono ?_); rintro e w' ⟨rfl, ⟨nd, rfl⟩⟩))
                  go_ret
                  exact ⟨by first | rfl | (simp [errW_none, errW_some] <;> rfl) | (simp [*, errW_none, errW_some] <;> rfl), by repeat (first | (with_reducible first | exact HB.out | apply below_alloc | apply pw_below_drewN | apply below_drew1) | exact HB.out)⟩
              · rw [if_neg c13] at H
                have c13b0 : (t118 == t119) = false := beq_eq_false_iff_ne.mpr c13
                have c13b1 : (t118 != t119) = true := bne_iff_ne.mpr c13
                obtain rfl := Option.some.inj H
                obtain ⟨Ao31, co31, eo31⟩ := Kd.R_slice HO_7.out
                subst eo31
                have p117 : 0 ≤ (x8_1 : Int) := of_decide_eq_true (by first | (with_reducible assumption) | assumption)
                have q117 : x8_1 < (y114.length : Int) := of_decide_eq_true (by first | (with_reducible assumption) | assumption)
                obtain ⟨ad117, e117, hx117_0⟩ := Kd.at_int (Kd.R_reads' HO_7.out).2.2 x8_1 p117 q117
                cases e117
                replace p117 := eq_true p117
                replace q117 := eq_true q117
                go_wp2_with (first | ((with_reducible refine gate_callee (f := 20) rfl ?_); refine goesL_ (some 31) rfl rfl Try.func20 (by kernel_rfl) rfl #[.int .u64 (rd y114 x8_1)] rfl (by (try simp only [List.map_toArray, List.map_cons, List.map_nil]); first | done | rfl | (simp only [List.length_drop, List.length_take]; rfl)) ?_; (with_reducible refine (word_LowOne.calls k1 (rd y114 x8_1) t118 _ A11.out).mono ?_); rintro e w' ⟨rfl, ⟨nd, rfl⟩⟩; refine ⟨_, rfl, ?_⟩) | ((with_reducible refine gate_callee (f := 21) rfl ?_); refine goesL_ (some 33) rfl rfl Try.func21 (by kernel_rfl) rfl #[.int .u64 (rd y114 x8_1)] rfl (by (try simp only [List.map_toArray, List.map_cons, List.map_nil]); first | done | rfl | (simp only [List.length_drop, List.length_take]; rfl)) ?_; (with_reducible refine (hodmanref3_LowOne.calls k1 (rd y114 x8_1) t119 _ A12.out).mono ?_); rintro e w' ⟨rfl, ⟨nd, rfl⟩⟩; refine ⟨_, rfl, ?_⟩))
                go_ret
                exact ⟨by first | rfl | (simp [errW_none, errW_some] <;> rfl) | (simp [*, errW_none, errW_some] <;> rfl), by repeat (first | (with_reducible first | exact HB.out | apply below_alloc | apply pw_below_drewN | apply below_drew1) | exact HB.out)⟩
            · rw [if_neg c10] at H
              exact absurd H (by simp)
          · rw [if_neg c9] at H
            exact absurd H (by simp)
        · rw [if_neg c8] at H
          have c8b0 : decide (x8_1 < 5) = false := decide_eq_false c8
          clear c8
          replace H := Option.bind_eq_some_iff.mp H
          obtain ⟨t128, A320, H⟩ := H
          replace H : ((hodmanref3_Mask.f k1 a1 a2).bind fun t129 => (if t128 = t129 then ((word_Mask.f k1 (Go.bits .and .i64 a1 63) (Go.bits .and .i64 a2 127)).bind fun t130 => ((hodmanref3_Mask.f k1 (Go.bits .and .i64 a1 63) (Go.bits .and .i64 a2 127)).bind fun t131 => (some (t130 == t131)))) else (some false))) = some r := H
          have A32 := Aside0.mk A320
          clear A320
          replace H := Option.bind_eq_some_iff.mp H
          obtain ⟨t129, A330, H⟩ := H
          replace H : (if t128 = t129 then ((word_Mask.f k1 (Go.bits .and .i64 a1 63) (Go.bits .and .i64 a2 127)).bind fun t130 => ((hodmanref3_Mask.f k1 (Go.bits .and .i64 a1 63) (Go.bits .and .i64 a2 127)).bind fun t131 => (some (t130 == t131)))) else (some false)) = some r := H
          have A33 := Aside0.mk A330
          clear A330
          by_cases c34 : t128 = t129
          · rw [if_pos c34] at H
            have c34b0 : (t128 == t129) = true := beq_iff_eq.mpr c34
            have c34b1 : (t128 != t129) = false := bne_eq_false_iff_eq.mpr c34
            clear c34
            replace H := Option.bind_eq_some_iff.mp H
            obtain ⟨t130, A350, H⟩ := H
            replace H : ((hodmanref3_Mask.f k1 (Go.bits .and .i64 a1 63) (Go.bits .and .i64 a2 127)).bind fun t131 => (some (t130 == t131))) = some r := H
            have A35 := Aside0.mk A350
            clear A350
            replace H := Option.bind_eq_some_iff.mp H
            obtain ⟨t131, A360, H⟩ := H
            replace H : (some (t130 == t131)) = some r := H
            have A36 := Aside0.mk A360
            clear A360
            obtain rfl := Option.some.inj H
            go_wp2_with (first | ((with_reducible refine gate_callee (f := 28) rfl ?_); refine goesL_ (some 71) rfl rfl Try.func28 (by kernel_rfl) rfl #[.int .i64 a1, .int .i64 a2] rfl (by (try simp only [List.map_toArray, List.map_cons, List.map_nil]); first | done | rfl | (simp only [List.length_drop, List.length_take]; rfl)) ?_; (with_reducible refine (word_Mask.calls k1 a1 a2 t128 _ A32.out).mono ?_); rintro e w' ⟨rfl, ⟨nd, rfl⟩⟩; refine ⟨_, rfl, ?_⟩) | ((with_reducible refine gate_callee (f := 29) rfl ?_); refine goesL_ (some 74) rfl rfl Try.func29 (by kernel_rfl) rfl #[.int .i64 a1, .int .i64 a2] rfl (by (try simp only [List.map_toArray, List.map_cons, List.map_nil]); first | done | rfl | (simp only [List.length_drop, List.length_take]; rfl)) ?_; (with_reducible refine (hodmanref3_Mask.calls k1 a1 a2 t129 _ A33.out).mono ?_); rintro e w' ⟨rfl, ⟨nd, rfl⟩⟩; refine ⟨_, rfl, ?_⟩) | (go_at_call 28; (with_reducible refine (word_Mask.calls k1 (Go.bits .and .i64 a1 63) (Go.bits .and .i64 a2 127) t130 _ A35.out).mono ?_); rintro e w' ⟨rfl, ⟨nd, rfl⟩⟩) | (go_at_call 29; (with_reducible refine (hodmanref3_Mask.calls k1 (Go.bits .and .i64 a1 63) (Go.bits .and .i64 a2 127) t131 _ A36.out).mono ?_); rintro e w' ⟨rfl, ⟨nd, rfl⟩⟩))
            go_ret
            exact ⟨by first | rfl | (simp [errW_none, errW_some] <;> rfl) | (simp [*, errW_none, errW_some] <;> rfl), by repeat (first | (with_reducible first | exact HB.out | apply below_alloc | apply pw_below_drewN | apply below_drew1) | exact HB.out)⟩
          · rw [if_neg c34] at H
            have c34b0 : (t128 == t129) = false := beq_eq_false_iff_ne.mpr c34
            have c34b1 : (t128 != t129) = true := bne_iff_ne.mpr c34
            obtain rfl := Option.some.inj H
            go_wp2_with (first | ((with_reducible refine gate_callee (f := 28) rfl ?_); refine goesL_ (some 71) rfl rfl Try.func28 (by kernel_rfl) rfl #[.int .i64 a1, .int .i64 a2] rfl (by (try simp only [List.map_toArray, List.map_cons, List.map_nil]); first | done | rfl | (simp only [List.length_drop, List.length_take]; rfl)) ?_; (with_reducible refine (word_Mask.calls k1 a1 a2 t128 _ A32.out).mono ?_); rintro e w' ⟨rfl, ⟨nd, rfl⟩⟩; refine ⟨_, rfl, ?_⟩) | ((with_reducible refine gate_callee (f := 29) rfl ?_); refine goesL_ (some 74) rfl rfl Try.func29 (by kernel_rfl) rfl #[.int .i64 a1, .int .i64 a2] rfl (by (try simp only [List.map_toArray, List.map_cons, List.map_nil]); first | done | rfl | (simp only [List.length_drop, List.length_take]; rfl)) ?_; (with_reducible refine (hodmanref3_Mask.calls k1 a1 a2 t129 _ A33.out).mono ?_); rintro e w' ⟨rfl, ⟨nd, rfl⟩⟩; refine ⟨_, rfl, ?_⟩))
            go_ret
            exact ⟨by first | rfl | (simp [errW_none, errW_some] <;> rfl) | (simp [*, errW_none, errW_some] <;> rfl), by repeat (first | (with_reducible first | exact HB.out | apply below_alloc | apply pw_below_drewN | apply below_drew1) | exact HB.out)⟩
  · replace c5 := Bool.eq_false_iff.mpr c5
    subst c5
    have H1 : (some false) = some r := by rw [if_neg (show ¬ (false = true) by decide)] at H; exact H
    clear H
    have H := H1
    clear H1
    obtain rfl := Option.some.inj H
    go_enter Try.func6, Try.ntmps6
    go_wp2_with (first | ((with_reducible refine gate_callee (f := 19) rfl ?_); refine goesL_ (some 10) rfl rfl Try.func19 (by kernel_rfl) rfl #[] rfl (by (try simp only [List.map_toArray, List.map_cons, List.map_nil]); first | done | rfl | (simp only [List.length_drop, List.length_take]; rfl)) ?_; (with_reducible refine (hodmanlaw3_begun.calls k  false _ A4.out).mono ?_); rintro e w' ⟨rfl, ⟨nd, rfl⟩⟩; refine ⟨_, rfl, ?_⟩))
    go_ret
    exact ⟨by first | rfl | (simp [errW_none, errW_some] <;> rfl) | (simp [*, errW_none, errW_some] <;> rfl), by repeat (first | (with_reducible first | exact HB.out | apply below_alloc | apply pw_below_drewN | apply below_drew1) | exact HB.out)⟩

/-- THE ONE PURE STATEMENT of hodmanlaw3_WordAll: yours. -/
def hodmanlaw3_WordAll.Pure : Prop := ∀ (a0 : Int) (a1 : Int) (a2 : Int), (Lit.int .u64 a0).wf = true → (Lit.int .i64 a1).wf = true → (Lit.int .i64 a2).wf = true → ∃ k, hodmanlaw3_WordAll.f k a0 a1 a2 = some true
theorem hodmanlaw3_WordAll.walk (P : hodmanlaw3_WordAll.Pure) (a0 : Int) (a1 : Int) (a2 : Int) (w : World) (w0 : (Lit.int .u64 a0).wf = true) (w1 : (Lit.int .i64 a1).wf = true) (w2 : (Lit.int .i64 a2).wf = true) :
    Calls Try.prog 6 #[.int .u64 a0, .int .i64 a1, .int .i64 a2] w fun e w' => e = .returned (.bool true) ∧ Below w.heap.size w w' := by
  obtain ⟨k, h⟩ := P a0 a1 a2 w0 w1 w2
  refine (hodmanlaw3_WordAll.calls k a0 a1 a2 true w h).mono ?_
  rintro e w' ⟨rfl, hd⟩
  exact ⟨rfl, hd⟩

end Go.Proofs.Ytflmdnjcniidgaa.PWord
