/- Written by a program of this session (wip/tools/ext.py) out of the translation: Go functions told as Lean functions, with their walks; or the row of a law out of its plain part. Lean checks it. -/
import Derived.Test.YtflmdnjcniidgaaPWordx0
import Derived.Test.YtflmdnjcniidgaaPWordx1
import Derived.Test.YtflmdnjcniidgaaPWordx2
namespace Go.Proofs.Ytflmdnjcniidgaa.PWord
open Go.RowKit Go.Proofs.YtflmdnjcniidgaaW.PrintWords Go.Proofs.YtflmdnjcniidgaaW.PrintLast Go.Proofs.YtflmdnjcniidgaaW.PrintMore
attribute [local go_sem] max2_int min2_int max_two min_two max_three min_three max_four min_four   -- for this text's walks alone
set_option linter.unusedVariables false
set_option linter.unusedSimpArgs false

/-! ### hodmanlaw3_WordMasks: function 8 -/
def hodmanlaw3_WordMasks.f (k : Nat) (a0 : Int) (a1 : Int) (a2 : Int) : Option (Bool) := (hodmanlaw3_begun.f k).bind fun t142 => (if t142 = true then ((word_Mask.f k (wrap64 (Int.tmod a0 80)) (wrap64 (Int.tmod a1 80))).bind fun t143 => ((word_Mask.f k (wrap64 ((wrap64 (Int.tmod a0 80)) + (wrap64 (Int.tmod a1 80)))) (wrap64 (Int.tmod a2 80))).bind fun t144 => (if (Go.bits .and .u64 t143 t144) = 0 then ((word_Mask.f k (wrap64 ((wrap64 (Int.tmod a0 80)) + (wrap64 (Int.tmod a1 80)))) (wrap64 (Int.tmod a2 80))).bind fun t145 => ((word_Mask.f k (wrap64 (Int.tmod a0 80)) (wrap64 ((wrap64 (Int.tmod a1 80)) + (wrap64 (Int.tmod a2 80))))).bind fun t146 => (if (Go.bits .or .u64 t143 t145) = t146 then ((word_Ones.f k t143).bind fun t147 => (if t147 = (mx 0 (mn (wrap64 (Int.tmod a1 80)) (wrap64 (64 - (wrap64 (Int.tmod a0 80)))))) then (if t143 = 0 then (some true) else ((word_LowOne.f k t143).bind fun t148 => (some (t148 == (wrap64 (Int.tmod a0 80)))))) else (some false))) else (some false)))) else (some false)))) else (some false))
theorem hodmanlaw3_WordMasks.mono : ∀ a0 a1 a2 k, LeO (hodmanlaw3_WordMasks.f k a0 a1 a2) (hodmanlaw3_WordMasks.f (k + 1) a0 a1 a2) := by
  intro a0 a1 a2 k
  unfold hodmanlaw3_WordMasks.f
  repeat' first
      | (with_reducible exact hodmanlaw3_begun.mono _)
      | (with_reducible exact word_LowOne.mono _ _)
      | (with_reducible exact word_Mask.mono _ _ _)
      | (with_reducible exact word_Ones.mono _ _)
      | (with_reducible exact LeO.refl _)
      | (with_reducible exact LeO.none _)
      | (with_reducible refine LeO.ite ?_ ?_)
      | (with_reducible refine LeO.bind ?_ (fun _ => ?_))
      | exact hodmanlaw3_begun.mono _
      | exact word_LowOne.mono _ _
      | exact word_Mask.mono _ _ _
      | exact word_Ones.mono _ _
      | exact LeO.none _
      | refine LeO.ite ?_ ?_
      | refine LeO.bind ?_ (fun _ => ?_)
set_option maxHeartbeats 8000000 in
set_option maxRecDepth 100000 in
theorem hodmanlaw3_WordMasks.calls (k : Nat) (a0 : Int) (a1 : Int) (a2 : Int) (r : Bool) (w : World) (h : hodmanlaw3_WordMasks.f k a0 a1 a2 = some r) :
    Calls Try.prog 8 #[.int .u8 a0, .int .u8 a1, .int .u8 a2] w fun e w' => e = .returned (.bool r) ∧ Below w.heap.size w w' := by
  have HB := Aside0.mk (Below.refl w.heap.size w)
  have H : ((hodmanlaw3_begun.f k).bind fun t142 => (if t142 = true then ((word_Mask.f k (wrap64 (Int.tmod a0 80)) (wrap64 (Int.tmod a1 80))).bind fun t143 => ((word_Mask.f k (wrap64 ((wrap64 (Int.tmod a0 80)) + (wrap64 (Int.tmod a1 80)))) (wrap64 (Int.tmod a2 80))).bind fun t144 => (if (Go.bits .and .u64 t143 t144) = 0 then ((word_Mask.f k (wrap64 ((wrap64 (Int.tmod a0 80)) + (wrap64 (Int.tmod a1 80)))) (wrap64 (Int.tmod a2 80))).bind fun t145 => ((word_Mask.f k (wrap64 (Int.tmod a0 80)) (wrap64 ((wrap64 (Int.tmod a1 80)) + (wrap64 (Int.tmod a2 80))))).bind fun t146 => (if (Go.bits .or .u64 t143 t145) = t146 then ((word_Ones.f k t143).bind fun t147 => (if t147 = (mx 0 (mn (wrap64 (Int.tmod a1 80)) (wrap64 (64 - (wrap64 (Int.tmod a0 80)))))) then (if t143 = 0 then (some true) else ((word_LowOne.f k t143).bind fun t148 => (some (t148 == (wrap64 (Int.tmod a0 80)))))) else (some false))) else (some false)))) else (some false)))) else (some false))) = some r := h
  clear h
  replace H := Option.bind_eq_some_iff.mp H
  obtain ⟨t142, A40, H⟩ := H
  replace H : (if t142 = true then ((word_Mask.f k (wrap64 (Int.tmod a0 80)) (wrap64 (Int.tmod a1 80))).bind fun t143 => ((word_Mask.f k (wrap64 ((wrap64 (Int.tmod a0 80)) + (wrap64 (Int.tmod a1 80)))) (wrap64 (Int.tmod a2 80))).bind fun t144 => (if (Go.bits .and .u64 t143 t144) = 0 then ((word_Mask.f k (wrap64 ((wrap64 (Int.tmod a0 80)) + (wrap64 (Int.tmod a1 80)))) (wrap64 (Int.tmod a2 80))).bind fun t145 => ((word_Mask.f k (wrap64 (Int.tmod a0 80)) (wrap64 ((wrap64 (Int.tmod a1 80)) + (wrap64 (Int.tmod a2 80))))).bind fun t146 => (if (Go.bits .or .u64 t143 t145) = t146 then ((word_Ones.f k t143).bind fun t147 => (if t147 = (mx 0 (mn (wrap64 (Int.tmod a1 80)) (wrap64 (64 - (wrap64 (Int.tmod a0 80)))))) then (if t143 = 0 then (some true) else ((word_LowOne.f k t143).bind fun t148 => (some (t148 == (wrap64 (Int.tmod a0 80)))))) else (some false))) else (some false)))) else (some false)))) else (some false)) = some r := H
  have A4 := Aside0.mk A40
  clear A40
  by_cases c5 : t142 = true
  · subst c5
    have H1 : ((word_Mask.f k (wrap64 (Int.tmod a0 80)) (wrap64 (Int.tmod a1 80))).bind fun t143 => ((word_Mask.f k (wrap64 ((wrap64 (Int.tmod a0 80)) + (wrap64 (Int.tmod a1 80)))) (wrap64 (Int.tmod a2 80))).bind fun t144 => (if (Go.bits .and .u64 t143 t144) = 0 then ((word_Mask.f k (wrap64 ((wrap64 (Int.tmod a0 80)) + (wrap64 (Int.tmod a1 80)))) (wrap64 (Int.tmod a2 80))).bind fun t145 => ((word_Mask.f k (wrap64 (Int.tmod a0 80)) (wrap64 ((wrap64 (Int.tmod a1 80)) + (wrap64 (Int.tmod a2 80))))).bind fun t146 => (if (Go.bits .or .u64 t143 t145) = t146 then ((word_Ones.f k t143).bind fun t147 => (if t147 = (mx 0 (mn (wrap64 (Int.tmod a1 80)) (wrap64 (64 - (wrap64 (Int.tmod a0 80)))))) then (if t143 = 0 then (some true) else ((word_LowOne.f k t143).bind fun t148 => (some (t148 == (wrap64 (Int.tmod a0 80)))))) else (some false))) else (some false)))) else (some false)))) = some r := by rw [if_pos rfl] at H; exact H
    clear H
    have H := H1
    clear H1
    replace H := Option.bind_eq_some_iff.mp H
    obtain ⟨t143, A60, H⟩ := H
    replace H : ((word_Mask.f k (wrap64 ((wrap64 (Int.tmod a0 80)) + (wrap64 (Int.tmod a1 80)))) (wrap64 (Int.tmod a2 80))).bind fun t144 => (if (Go.bits .and .u64 t143 t144) = 0 then ((word_Mask.f k (wrap64 ((wrap64 (Int.tmod a0 80)) + (wrap64 (Int.tmod a1 80)))) (wrap64 (Int.tmod a2 80))).bind fun t145 => ((word_Mask.f k (wrap64 (Int.tmod a0 80)) (wrap64 ((wrap64 (Int.tmod a1 80)) + (wrap64 (Int.tmod a2 80))))).bind fun t146 => (if (Go.bits .or .u64 t143 t145) = t146 then ((word_Ones.f k t143).bind fun t147 => (if t147 = (mx 0 (mn (wrap64 (Int.tmod a1 80)) (wrap64 (64 - (wrap64 (Int.tmod a0 80)))))) then (if t143 = 0 then (some true) else ((word_LowOne.f k t143).bind fun t148 => (some (t148 == (wrap64 (Int.tmod a0 80)))))) else (some false))) else (some false)))) else (some false))) = some r := H
    have A6 := Aside0.mk A60
    clear A60
    replace H := Option.bind_eq_some_iff.mp H
    obtain ⟨t144, A70, H⟩ := H
    replace H : (if (Go.bits .and .u64 t143 t144) = 0 then ((word_Mask.f k (wrap64 ((wrap64 (Int.tmod a0 80)) + (wrap64 (Int.tmod a1 80)))) (wrap64 (Int.tmod a2 80))).bind fun t145 => ((word_Mask.f k (wrap64 (Int.tmod a0 80)) (wrap64 ((wrap64 (Int.tmod a1 80)) + (wrap64 (Int.tmod a2 80))))).bind fun t146 => (if (Go.bits .or .u64 t143 t145) = t146 then ((word_Ones.f k t143).bind fun t147 => (if t147 = (mx 0 (mn (wrap64 (Int.tmod a1 80)) (wrap64 (64 - (wrap64 (Int.tmod a0 80)))))) then (if t143 = 0 then (some true) else ((word_LowOne.f k t143).bind fun t148 => (some (t148 == (wrap64 (Int.tmod a0 80)))))) else (some false))) else (some false)))) else (some false)) = some r := H
    have A7 := Aside0.mk A70
    clear A70
    by_cases c8 : (Go.bits .and .u64 t143 t144) = 0
    · rw [if_pos c8] at H
      have c8b0 : ((Go.bits .and .u64 t143 t144) == 0) = true := beq_iff_eq.mpr c8
      have c8b1 : ((Go.bits .and .u64 t143 t144) != 0) = false := bne_eq_false_iff_eq.mpr c8
      clear c8
      replace H := Option.bind_eq_some_iff.mp H
      obtain ⟨t145, A90, H⟩ := H
      replace H : ((word_Mask.f k (wrap64 (Int.tmod a0 80)) (wrap64 ((wrap64 (Int.tmod a1 80)) + (wrap64 (Int.tmod a2 80))))).bind fun t146 => (if (Go.bits .or .u64 t143 t145) = t146 then ((word_Ones.f k t143).bind fun t147 => (if t147 = (mx 0 (mn (wrap64 (Int.tmod a1 80)) (wrap64 (64 - (wrap64 (Int.tmod a0 80)))))) then (if t143 = 0 then (some true) else ((word_LowOne.f k t143).bind fun t148 => (some (t148 == (wrap64 (Int.tmod a0 80)))))) else (some false))) else (some false))) = some r := H
      have A9 := Aside0.mk A90
      clear A90
      replace H := Option.bind_eq_some_iff.mp H
      obtain ⟨t146, A100, H⟩ := H
      replace H : (if (Go.bits .or .u64 t143 t145) = t146 then ((word_Ones.f k t143).bind fun t147 => (if t147 = (mx 0 (mn (wrap64 (Int.tmod a1 80)) (wrap64 (64 - (wrap64 (Int.tmod a0 80)))))) then (if t143 = 0 then (some true) else ((word_LowOne.f k t143).bind fun t148 => (some (t148 == (wrap64 (Int.tmod a0 80)))))) else (some false))) else (some false)) = some r := H
      have A10 := Aside0.mk A100
      clear A100
      by_cases c11 : (Go.bits .or .u64 t143 t145) = t146
      · rw [if_pos c11] at H
        have c11b0 : ((Go.bits .or .u64 t143 t145) == t146) = true := beq_iff_eq.mpr c11
        have c11b1 : ((Go.bits .or .u64 t143 t145) != t146) = false := bne_eq_false_iff_eq.mpr c11
        clear c11
        replace H := Option.bind_eq_some_iff.mp H
        obtain ⟨t147, A120, H⟩ := H
        replace H : (if t147 = (mx 0 (mn (wrap64 (Int.tmod a1 80)) (wrap64 (64 - (wrap64 (Int.tmod a0 80)))))) then (if t143 = 0 then (some true) else ((word_LowOne.f k t143).bind fun t148 => (some (t148 == (wrap64 (Int.tmod a0 80)))))) else (some false)) = some r := H
        have A12 := Aside0.mk A120
        clear A120
        obtain ⟨ji13, hji13⟩ : ∃ j_ : Int, (mn (wrap64 (Int.tmod a1 80)) (wrap64 (64 - (wrap64 (Int.tmod a0 80))))) = j_ := ⟨_, rfl⟩
        replace H : (if t147 = (mx 0 (ji13)) then (if t143 = 0 then (some true) else ((word_LowOne.f k t143).bind fun t148 => (some (t148 == (wrap64 (Int.tmod a0 80)))))) else (some false)) = some r := by first | (rw [hji13] at H; exact H) | (simp only [hji13] at H ⊢; exact H)
        (try rw [hji13] at A4)
        (try rw [hji13] at A6)
        (try rw [hji13] at A7)
        (try rw [hji13] at A9)
        (try rw [hji13] at A10)
        (try rw [hji13] at A12)
        have hji13_ : (if (wrap64 (64 - (wrap64 (Int.tmod a0 80)))) < (wrap64 (Int.tmod a1 80)) then (wrap64 (64 - (wrap64 (Int.tmod a0 80)))) else (wrap64 (Int.tmod a1 80))) = ji13 := hji13
        obtain ⟨ji14, hji14⟩ : ∃ j_ : Int, (mx 0 (ji13)) = j_ := ⟨_, rfl⟩
        replace H : (if t147 = (ji14) then (if t143 = 0 then (some true) else ((word_LowOne.f k t143).bind fun t148 => (some (t148 == (wrap64 (Int.tmod a0 80)))))) else (some false)) = some r := by first | (rw [hji14] at H; exact H) | (simp only [hji14] at H ⊢; exact H)
        (try rw [hji14] at A4)
        (try rw [hji14] at A6)
        (try rw [hji14] at A7)
        (try rw [hji14] at A9)
        (try rw [hji14] at A10)
        (try rw [hji14] at A12)
        have hji14_ : (if 0 < (ji13) then (ji13) else 0) = ji14 := hji14
        by_cases c15 : t147 = (ji14)
        · rw [if_pos c15] at H
          have c15b0 : (t147 == (ji14)) = true := beq_iff_eq.mpr c15
          have c15b1 : (t147 != (ji14)) = false := bne_eq_false_iff_eq.mpr c15
          clear c15
          by_cases c16 : t143 = 0
          · rw [if_pos c16] at H
            have c16b0 : (t143 == 0) = true := beq_iff_eq.mpr c16
            have c16b1 : (t143 != 0) = false := bne_eq_false_iff_eq.mpr c16
            clear c16
            obtain rfl := Option.some.inj H
            go_enter Try.func8, Try.ntmps8
            go_wp2_with (first | ((with_reducible refine gate_callee (f := 19) rfl ?_); refine goesL_ (some 11) rfl rfl Try.func19 (by kernel_rfl) rfl #[] rfl (by (try simp only [List.map_toArray, List.map_cons, List.map_nil]); first | done | rfl | (simp only [List.length_drop, List.length_take]; rfl)) ?_; (with_reducible refine (hodmanlaw3_begun.calls k  true _ A4.out).mono ?_); rintro e w' ⟨rfl, ⟨nd, rfl⟩⟩; refine ⟨_, rfl, ?_⟩) | ((with_reducible refine gate_callee (f := 28) rfl ?_); refine goesL_ (some 24) rfl rfl Try.func28 (by kernel_rfl) rfl #[.int .i64 (wrap64 (Int.tmod a0 80)), .int .i64 (wrap64 (Int.tmod a1 80))] rfl (by (try simp only [List.map_toArray, List.map_cons, List.map_nil]); first | done | rfl | (simp only [List.length_drop, List.length_take]; rfl)) ?_; (with_reducible refine (word_Mask.calls k (wrap64 (Int.tmod a0 80)) (wrap64 (Int.tmod a1 80)) t143 _ A6.out).mono ?_); rintro e w' ⟨rfl, ⟨nd, rfl⟩⟩; refine ⟨_, rfl, ?_⟩) | ((with_reducible refine gate_callee (f := 28) rfl ?_); refine goesL_ (some 30) rfl rfl Try.func28 (by kernel_rfl) rfl #[.int .i64 (wrap64 ((wrap64 (Int.tmod a0 80)) + (wrap64 (Int.tmod a1 80)))), .int .i64 (wrap64 (Int.tmod a2 80))] rfl (by (try simp only [List.map_toArray, List.map_cons, List.map_nil]); first | done | rfl | (simp only [List.length_drop, List.length_take]; rfl)) ?_; (with_reducible refine (word_Mask.calls k (wrap64 ((wrap64 (Int.tmod a0 80)) + (wrap64 (Int.tmod a1 80)))) (wrap64 (Int.tmod a2 80)) t144 _ A7.out).mono ?_); rintro e w' ⟨rfl, ⟨nd, rfl⟩⟩; refine ⟨_, rfl, ?_⟩) | (go_at_call 28; (with_reducible refine (word_Mask.calls k (wrap64 ((wrap64 (Int.tmod a0 80)) + (wrap64 (Int.tmod a1 80)))) (wrap64 (Int.tmod a2 80)) t145 _ A9.out).mono ?_); rintro e w' ⟨rfl, ⟨nd, rfl⟩⟩) | (go_at_call 28; (with_reducible refine (word_Mask.calls k (wrap64 (Int.tmod a0 80)) (wrap64 ((wrap64 (Int.tmod a1 80)) + (wrap64 (Int.tmod a2 80)))) t146 _ A10.out).mono ?_); rintro e w' ⟨rfl, ⟨nd, rfl⟩⟩) | (go_at_call 24; (with_reducible refine (word_Ones.calls k t143 t147 _ A12.out).mono ?_); rintro e w' ⟨rfl, ⟨nd, rfl⟩⟩))
            go_ret
            exact ⟨by first | rfl | (simp [errW_none, errW_some] <;> rfl) | (simp only [← hji13, ← hji14]; first | rfl | (simp [errW_none, errW_some] <;> rfl)) | (simp [*, errW_none, errW_some] <;> rfl), by repeat (first | (with_reducible first | exact HB.out | apply below_alloc | apply pw_below_drewN | apply below_drew1) | exact HB.out)⟩
          · rw [if_neg c16] at H
            have c16b0 : (t143 == 0) = false := beq_eq_false_iff_ne.mpr c16
            have c16b1 : (t143 != 0) = true := bne_iff_ne.mpr c16
            replace H := Option.bind_eq_some_iff.mp H
            obtain ⟨t148, A170, H⟩ := H
            replace H : (some (t148 == (wrap64 (Int.tmod a0 80)))) = some r := H
            have A17 := Aside0.mk A170
            clear A170
            obtain rfl := Option.some.inj H
            go_enter Try.func8, Try.ntmps8
            go_wp2_with (first | ((with_reducible refine gate_callee (f := 19) rfl ?_); refine goesL_ (some 11) rfl rfl Try.func19 (by kernel_rfl) rfl #[] rfl (by (try simp only [List.map_toArray, List.map_cons, List.map_nil]); first | done | rfl | (simp only [List.length_drop, List.length_take]; rfl)) ?_; (with_reducible refine (hodmanlaw3_begun.calls k  true _ A4.out).mono ?_); rintro e w' ⟨rfl, ⟨nd, rfl⟩⟩; refine ⟨_, rfl, ?_⟩) | ((with_reducible refine gate_callee (f := 28) rfl ?_); refine goesL_ (some 24) rfl rfl Try.func28 (by kernel_rfl) rfl #[.int .i64 (wrap64 (Int.tmod a0 80)), .int .i64 (wrap64 (Int.tmod a1 80))] rfl (by (try simp only [List.map_toArray, List.map_cons, List.map_nil]); first | done | rfl | (simp only [List.length_drop, List.length_take]; rfl)) ?_; (with_reducible refine (word_Mask.calls k (wrap64 (Int.tmod a0 80)) (wrap64 (Int.tmod a1 80)) t143 _ A6.out).mono ?_); rintro e w' ⟨rfl, ⟨nd, rfl⟩⟩; refine ⟨_, rfl, ?_⟩) | ((with_reducible refine gate_callee (f := 28) rfl ?_); refine goesL_ (some 30) rfl rfl Try.func28 (by kernel_rfl) rfl #[.int .i64 (wrap64 ((wrap64 (Int.tmod a0 80)) + (wrap64 (Int.tmod a1 80)))), .int .i64 (wrap64 (Int.tmod a2 80))] rfl (by (try simp only [List.map_toArray, List.map_cons, List.map_nil]); first | done | rfl | (simp only [List.length_drop, List.length_take]; rfl)) ?_; (with_reducible refine (word_Mask.calls k (wrap64 ((wrap64 (Int.tmod a0 80)) + (wrap64 (Int.tmod a1 80)))) (wrap64 (Int.tmod a2 80)) t144 _ A7.out).mono ?_); rintro e w' ⟨rfl, ⟨nd, rfl⟩⟩; refine ⟨_, rfl, ?_⟩) | (go_at_call 28; (with_reducible refine (word_Mask.calls k (wrap64 ((wrap64 (Int.tmod a0 80)) + (wrap64 (Int.tmod a1 80)))) (wrap64 (Int.tmod a2 80)) t145 _ A9.out).mono ?_); rintro e w' ⟨rfl, ⟨nd, rfl⟩⟩) | (go_at_call 28; (with_reducible refine (word_Mask.calls k (wrap64 (Int.tmod a0 80)) (wrap64 ((wrap64 (Int.tmod a1 80)) + (wrap64 (Int.tmod a2 80)))) t146 _ A10.out).mono ?_); rintro e w' ⟨rfl, ⟨nd, rfl⟩⟩) | (go_at_call 24; (with_reducible refine (word_Ones.calls k t143 t147 _ A12.out).mono ?_); rintro e w' ⟨rfl, ⟨nd, rfl⟩⟩) | (go_at_call 20; (with_reducible refine (word_LowOne.calls k t143 t148 _ A17.out).mono ?_); rintro e w' ⟨rfl, ⟨nd, rfl⟩⟩))
            go_ret
            exact ⟨by first | rfl | (simp [errW_none, errW_some] <;> rfl) | (simp only [← hji13, ← hji14]; first | rfl | (simp [errW_none, errW_some] <;> rfl)) | (simp [*, errW_none, errW_some] <;> rfl), by repeat (first | (with_reducible first | exact HB.out | apply below_alloc | apply pw_below_drewN | apply below_drew1) | exact HB.out)⟩
        · rw [if_neg c15] at H
          have c15b0 : (t147 == (ji14)) = false := beq_eq_false_iff_ne.mpr c15
          have c15b1 : (t147 != (ji14)) = true := bne_iff_ne.mpr c15
          obtain rfl := Option.some.inj H
          go_enter Try.func8, Try.ntmps8
          go_wp2_with (first | ((with_reducible refine gate_callee (f := 19) rfl ?_); refine goesL_ (some 11) rfl rfl Try.func19 (by kernel_rfl) rfl #[] rfl (by (try simp only [List.map_toArray, List.map_cons, List.map_nil]); first | done | rfl | (simp only [List.length_drop, List.length_take]; rfl)) ?_; (with_reducible refine (hodmanlaw3_begun.calls k  true _ A4.out).mono ?_); rintro e w' ⟨rfl, ⟨nd, rfl⟩⟩; refine ⟨_, rfl, ?_⟩) | ((with_reducible refine gate_callee (f := 28) rfl ?_); refine goesL_ (some 24) rfl rfl Try.func28 (by kernel_rfl) rfl #[.int .i64 (wrap64 (Int.tmod a0 80)), .int .i64 (wrap64 (Int.tmod a1 80))] rfl (by (try simp only [List.map_toArray, List.map_cons, List.map_nil]); first | done | rfl | (simp only [List.length_drop, List.length_take]; rfl)) ?_; (with_reducible refine (word_Mask.calls k (wrap64 (Int.tmod a0 80)) (wrap64 (Int.tmod a1 80)) t143 _ A6.out).mono ?_); rintro e w' ⟨rfl, ⟨nd, rfl⟩⟩; refine ⟨_, rfl, ?_⟩) | ((with_reducible refine gate_callee (f := 28) rfl ?_); refine goesL_ (some 30) rfl rfl Try.func28 (by kernel_rfl) rfl #[.int .i64 (wrap64 ((wrap64 (Int.tmod a0 80)) + (wrap64 (Int.tmod a1 80)))), .int .i64 (wrap64 (Int.tmod a2 80))] rfl (by (try simp only [List.map_toArray, List.map_cons, List.map_nil]); first | done | rfl | (simp only [List.length_drop, List.length_take]; rfl)) ?_; (with_reducible refine (word_Mask.calls k (wrap64 ((wrap64 (Int.tmod a0 80)) + (wrap64 (Int.tmod a1 80)))) (wrap64 (Int.tmod a2 80)) t144 _ A7.out).mono ?_); rintro e w' ⟨rfl, ⟨nd, rfl⟩⟩; refine ⟨_, rfl, ?_⟩) | (go_at_call 28; (with_reducible refine (word_Mask.calls k (wrap64 ((wrap64 (Int.tmod a0 80)) + (wrap64 (Int.tmod a1 80)))) (wrap64 (Int.tmod a2 80)) t145 _ A9.out).mono ?_); rintro e w' ⟨rfl, ⟨nd, rfl⟩⟩) | (go_at_call 28; (with_reducible refine (word_Mask.calls k (wrap64 (Int.tmod a0 80)) (wrap64 ((wrap64 (Int.tmod a1 80)) + (wrap64 (Int.tmod a2 80)))) t146 _ A10.out).mono ?_); rintro e w' ⟨rfl, ⟨nd, rfl⟩⟩) | (go_at_call 24; (with_reducible refine (word_Ones.calls k t143 t147 _ A12.out).mono ?_); rintro e w' ⟨rfl, ⟨nd, rfl⟩⟩))
          go_ret
          exact ⟨by first | rfl | (simp [errW_none, errW_some] <;> rfl) | (simp only [← hji13, ← hji14]; first | rfl | (simp [errW_none, errW_some] <;> rfl)) | (simp [*, errW_none, errW_some] <;> rfl), by repeat (first | (with_reducible first | exact HB.out | apply below_alloc | apply pw_below_drewN | apply below_drew1) | exact HB.out)⟩
      · rw [if_neg c11] at H
        have c11b0 : ((Go.bits .or .u64 t143 t145) == t146) = false := beq_eq_false_iff_ne.mpr c11
        have c11b1 : ((Go.bits .or .u64 t143 t145) != t146) = true := bne_iff_ne.mpr c11
        obtain rfl := Option.some.inj H
        go_enter Try.func8, Try.ntmps8
        go_wp2_with (first | ((with_reducible refine gate_callee (f := 19) rfl ?_); refine goesL_ (some 11) rfl rfl Try.func19 (by kernel_rfl) rfl #[] rfl (by (try simp only [List.map_toArray, List.map_cons, List.map_nil]); first | done | rfl | (simp only [List.length_drop, List.length_take]; rfl)) ?_; (with_reducible refine (hodmanlaw3_begun.calls k  true _ A4.out).mono ?_); rintro e w' ⟨rfl, ⟨nd, rfl⟩⟩; refine ⟨_, rfl, ?_⟩) | ((with_reducible refine gate_callee (f := 28) rfl ?_); refine goesL_ (some 24) rfl rfl Try.func28 (by kernel_rfl) rfl #[.int .i64 (wrap64 (Int.tmod a0 80)), .int .i64 (wrap64 (Int.tmod a1 80))] rfl (by (try simp only [List.map_toArray, List.map_cons, List.map_nil]); first | done | rfl | (simp only [List.length_drop, List.length_take]; rfl)) ?_; (with_reducible refine (word_Mask.calls k (wrap64 (Int.tmod a0 80)) (wrap64 (Int.tmod a1 80)) t143 _ A6.out).mono ?_); rintro e w' ⟨rfl, ⟨nd, rfl⟩⟩; refine ⟨_, rfl, ?_⟩) | ((with_reducible refine gate_callee (f := 28) rfl ?_); refine goesL_ (some 30) rfl rfl Try.func28 (by kernel_rfl) rfl #[.int .i64 (wrap64 ((wrap64 (Int.tmod a0 80)) + (wrap64 (Int.tmod a1 80)))), .int .i64 (wrap64 (Int.tmod a2 80))] rfl (by (try simp only [List.map_toArray, List.map_cons, List.map_nil]); first | done | rfl | (simp only [List.length_drop, List.length_take]; rfl)) ?_; (with_reducible refine (word_Mask.calls k (wrap64 ((wrap64 (Int.tmod a0 80)) + (wrap64 (Int.tmod a1 80)))) (wrap64 (Int.tmod a2 80)) t144 _ A7.out).mono ?_); rintro e w' ⟨rfl, ⟨nd, rfl⟩⟩; refine ⟨_, rfl, ?_⟩) | (go_at_call 28; (with_reducible refine (word_Mask.calls k (wrap64 ((wrap64 (Int.tmod a0 80)) + (wrap64 (Int.tmod a1 80)))) (wrap64 (Int.tmod a2 80)) t145 _ A9.out).mono ?_); rintro e w' ⟨rfl, ⟨nd, rfl⟩⟩) | (go_at_call 28; (with_reducible refine (word_Mask.calls k (wrap64 (Int.tmod a0 80)) (wrap64 ((wrap64 (Int.tmod a1 80)) + (wrap64 (Int.tmod a2 80)))) t146 _ A10.out).mono ?_); rintro e w' ⟨rfl, ⟨nd, rfl⟩⟩))
        go_ret
        exact ⟨by first | rfl | (simp [errW_none, errW_some] <;> rfl) | (simp [*, errW_none, errW_some] <;> rfl), by repeat (first | (with_reducible first | exact HB.out | apply below_alloc | apply pw_below_drewN | apply below_drew1) | exact HB.out)⟩
    · rw [if_neg c8] at H
      have c8b0 : ((Go.bits .and .u64 t143 t144) == 0) = false := beq_eq_false_iff_ne.mpr c8
      have c8b1 : ((Go.bits .and .u64 t143 t144) != 0) = true := bne_iff_ne.mpr c8
      obtain rfl := Option.some.inj H
      go_enter Try.func8, Try.ntmps8
      go_wp2_with (first | ((with_reducible refine gate_callee (f := 19) rfl ?_); refine goesL_ (some 11) rfl rfl Try.func19 (by kernel_rfl) rfl #[] rfl (by (try simp only [List.map_toArray, List.map_cons, List.map_nil]); first | done | rfl | (simp only [List.length_drop, List.length_take]; rfl)) ?_; (with_reducible refine (hodmanlaw3_begun.calls k  true _ A4.out).mono ?_); rintro e w' ⟨rfl, ⟨nd, rfl⟩⟩; refine ⟨_, rfl, ?_⟩) | ((with_reducible refine gate_callee (f := 28) rfl ?_); refine goesL_ (some 24) rfl rfl Try.func28 (by kernel_rfl) rfl #[.int .i64 (wrap64 (Int.tmod a0 80)), .int .i64 (wrap64 (Int.tmod a1 80))] rfl (by (try simp only [List.map_toArray, List.map_cons, List.map_nil]); first | done | rfl | (simp only [List.length_drop, List.length_take]; rfl)) ?_; (with_reducible refine (word_Mask.calls k (wrap64 (Int.tmod a0 80)) (wrap64 (Int.tmod a1 80)) t143 _ A6.out).mono ?_); rintro e w' ⟨rfl, ⟨nd, rfl⟩⟩; refine ⟨_, rfl, ?_⟩) | ((with_reducible refine gate_callee (f := 28) rfl ?_); refine goesL_ (some 30) rfl rfl Try.func28 (by kernel_rfl) rfl #[.int .i64 (wrap64 ((wrap64 (Int.tmod a0 80)) + (wrap64 (Int.tmod a1 80)))), .int .i64 (wrap64 (Int.tmod a2 80))] rfl (by (try simp only [List.map_toArray, List.map_cons, List.map_nil]); first | done | rfl | (simp only [List.length_drop, List.length_take]; rfl)) ?_; (with_reducible refine (word_Mask.calls k (wrap64 ((wrap64 (Int.tmod a0 80)) + (wrap64 (Int.tmod a1 80)))) (wrap64 (Int.tmod a2 80)) t144 _ A7.out).mono ?_); rintro e w' ⟨rfl, ⟨nd, rfl⟩⟩; refine ⟨_, rfl, ?_⟩))
      go_ret
      exact ⟨by first | rfl | (simp [errW_none, errW_some] <;> rfl) | (simp [*, errW_none, errW_some] <;> rfl), by repeat (first | (with_reducible first | exact HB.out | apply below_alloc | apply pw_below_drewN | apply below_drew1) | exact HB.out)⟩
  · replace c5 := Bool.eq_false_iff.mpr c5
    subst c5
    have H1 : (some false) = some r := by rw [if_neg (show ¬ (false = true) by decide)] at H; exact H
    clear H
    have H := H1
    clear H1
    obtain rfl := Option.some.inj H
    go_enter Try.func8, Try.ntmps8
    go_wp2_with (first | ((with_reducible refine gate_callee (f := 19) rfl ?_); refine goesL_ (some 11) rfl rfl Try.func19 (by kernel_rfl) rfl #[] rfl (by (try simp only [List.map_toArray, List.map_cons, List.map_nil]); first | done | rfl | (simp only [List.length_drop, List.length_take]; rfl)) ?_; (with_reducible refine (hodmanlaw3_begun.calls k  false _ A4.out).mono ?_); rintro e w' ⟨rfl, ⟨nd, rfl⟩⟩; refine ⟨_, rfl, ?_⟩))
    go_ret
    exact ⟨by first | rfl | (simp [errW_none, errW_some] <;> rfl) | (simp [*, errW_none, errW_some] <;> rfl), by repeat (first | (with_reducible first | exact HB.out | apply below_alloc | apply pw_below_drewN | apply below_drew1) | exact HB.out)⟩

/-- THE ONE PURE STATEMENT of hodmanlaw3_WordMasks: yours. -/
def hodmanlaw3_WordMasks.Pure : Prop := ∀ (a0 : Int) (a1 : Int) (a2 : Int), (Lit.int .u8 a0).wf = true → (Lit.int .u8 a1).wf = true → (Lit.int .u8 a2).wf = true → ∃ k, hodmanlaw3_WordMasks.f k a0 a1 a2 = some true
theorem hodmanlaw3_WordMasks.walk (P : hodmanlaw3_WordMasks.Pure) (a0 : Int) (a1 : Int) (a2 : Int) (w : World) (w0 : (Lit.int .u8 a0).wf = true) (w1 : (Lit.int .u8 a1).wf = true) (w2 : (Lit.int .u8 a2).wf = true) :
    Calls Try.prog 8 #[.int .u8 a0, .int .u8 a1, .int .u8 a2] w fun e w' => e = .returned (.bool true) ∧ Below w.heap.size w w' := by
  obtain ⟨k, h⟩ := P a0 a1 a2 w0 w1 w2
  refine (hodmanlaw3_WordMasks.calls k a0 a1 a2 true w h).mono ?_
  rintro e w' ⟨rfl, hd⟩
  exact ⟨rfl, hd⟩

end Go.Proofs.Ytflmdnjcniidgaa.PWord
