/- Written by a program of this session (wip/tools/ext.py) out of the translation: Go functions told as Lean functions, with their walks; or the row of a law out of its plain part. Lean checks it. -/
import Derived.Test.YtflmdnjcniidgaaPWordx0
import Derived.Test.YtflmdnjcniidgaaPWordx1
import Derived.Test.YtflmdnjcniidgaaPWordx2
namespace Go.Proofs.Ytflmdnjcniidgaa.PWord
open Go.RowKit Go.Proofs.YtflmdnjcniidgaaW.PrintWords Go.Proofs.YtflmdnjcniidgaaW.PrintLast Go.Proofs.YtflmdnjcniidgaaW.PrintMore
attribute [local go_sem] max2_int min2_int max_two min_two max_three min_three max_four min_four   -- for this text's walks alone
set_option linter.unusedVariables false
set_option linter.unusedSimpArgs false

/-! ### hodmanlaw3_WordForms: function 9 -/
def hodmanlaw3_WordForms.f (k : Nat)  : Option (Bool) := (hodmanlaw3_begun.f k).bind fun t149 => (if t149 = true then ((word_LowOne.f k 0).bind fun t150 => (if t150 = 64 then ((word_LowZero.f k 18446744073709551615).bind fun t151 => (if t151 = 64 then ((word_LowOne.f k 9223372036854775808).bind fun t152 => (if t152 = 63 then ((word_LowZero.f k 0).bind fun t153 => (if t153 = 0 then ((word_Ones.f k 18446744073709551615).bind fun t154 => (if t154 = 64 then ((word_Ones.f k 0).bind fun t155 => (if t155 = 0 then ((word_Mask.f k 0 64).bind fun t156 => (if t156 = 18446744073709551615 then ((word_Mask.f k 63 9).bind fun t157 => (if t157 = 9223372036854775808 then ((word_Mask.f k 64 1).bind fun t158 => (if t158 = 0 then ((word_Mask.f k (-1) 5).bind fun t159 => (if t159 = 0 then ((word_Mask.f k 5 (-1)).bind fun t160 => (if t160 = 0 then ((word_Mask.f k 0 0).bind fun t161 => (if t161 = 0 then ((word_Mask.f k 1 4611686018427387904).bind fun t162 => (if t162 = 18446744073709551614 then ((word_Nth.f k 18446744073709551615 63).bind fun t163 => (if t163 = 63 then ((word_Nth.f k 5 1).bind fun t164 => (if t164 = 2 then ((word_Nth.f k 5 2).bind fun t165 => (if t165 = 64 then ((word_Nth.f k 5 (-1)).bind fun t166 => (some (t166 == 64))) else (some false))) else (some false))) else (some false))) else (some false))) else (some false))) else (some false))) else (some false))) else (some false))) else (some false))) else (some false))) else (some false))) else (some false))) else (some false))) else (some false))) else (some false))) else (some false))) else (some false))
theorem hodmanlaw3_WordForms.mono : ∀ k, LeO (hodmanlaw3_WordForms.f k ) (hodmanlaw3_WordForms.f (k + 1) ) := by
  intro  k
  unfold hodmanlaw3_WordForms.f
  repeat' first
      | (with_reducible exact hodmanlaw3_begun.mono _)
      | (with_reducible exact word_LowOne.mono _ _)
      | (with_reducible exact word_LowZero.mono _ _)
      | (with_reducible exact word_Mask.mono _ _ _)
      | (with_reducible exact word_Nth.mono _ _ _)
      | (with_reducible exact word_Ones.mono _ _)
      | (with_reducible exact LeO.refl _)
      | (with_reducible exact LeO.none _)
      | (with_reducible refine LeO.ite ?_ ?_)
      | (with_reducible refine LeO.bind ?_ (fun _ => ?_))
      | exact hodmanlaw3_begun.mono _
      | exact word_LowOne.mono _ _
      | exact word_LowZero.mono _ _
      | exact word_Mask.mono _ _ _
      | exact word_Nth.mono _ _ _
      | exact word_Ones.mono _ _
      | exact LeO.none _
      | refine LeO.ite ?_ ?_
      | refine LeO.bind ?_ (fun _ => ?_)
set_option maxHeartbeats 8000000 in
set_option maxRecDepth 100000 in
theorem hodmanlaw3_WordForms.calls (k : Nat)  (r : Bool) (w : World) (h : hodmanlaw3_WordForms.f k  = some r) :
    Calls Try.prog 9 #[] w fun e w' => e = .returned (.bool r) ∧ Drawn0 w w' := by
  have H : ((hodmanlaw3_begun.f k).bind fun t149 => (if t149 = true then ((word_LowOne.f k 0).bind fun t150 => (if t150 = 64 then ((word_LowZero.f k 18446744073709551615).bind fun t151 => (if t151 = 64 then ((word_LowOne.f k 9223372036854775808).bind fun t152 => (if t152 = 63 then ((word_LowZero.f k 0).bind fun t153 => (if t153 = 0 then ((word_Ones.f k 18446744073709551615).bind fun t154 => (if t154 = 64 then ((word_Ones.f k 0).bind fun t155 => (if t155 = 0 then ((word_Mask.f k 0 64).bind fun t156 => (if t156 = 18446744073709551615 then ((word_Mask.f k 63 9).bind fun t157 => (if t157 = 9223372036854775808 then ((word_Mask.f k 64 1).bind fun t158 => (if t158 = 0 then ((word_Mask.f k (-1) 5).bind fun t159 => (if t159 = 0 then ((word_Mask.f k 5 (-1)).bind fun t160 => (if t160 = 0 then ((word_Mask.f k 0 0).bind fun t161 => (if t161 = 0 then ((word_Mask.f k 1 4611686018427387904).bind fun t162 => (if t162 = 18446744073709551614 then ((word_Nth.f k 18446744073709551615 63).bind fun t163 => (if t163 = 63 then ((word_Nth.f k 5 1).bind fun t164 => (if t164 = 2 then ((word_Nth.f k 5 2).bind fun t165 => (if t165 = 64 then ((word_Nth.f k 5 (-1)).bind fun t166 => (some (t166 == 64))) else (some false))) else (some false))) else (some false))) else (some false))) else (some false))) else (some false))) else (some false))) else (some false))) else (some false))) else (some false))) else (some false))) else (some false))) else (some false))) else (some false))) else (some false))) else (some false))) else (some false))) = some r := h
  clear h
  replace H := Option.bind_eq_some_iff.mp H
  obtain ⟨t149, A10, H⟩ := H
  replace H : (if t149 = true then ((word_LowOne.f k 0).bind fun t150 => (if t150 = 64 then ((word_LowZero.f k 18446744073709551615).bind fun t151 => (if t151 = 64 then ((word_LowOne.f k 9223372036854775808).bind fun t152 => (if t152 = 63 then ((word_LowZero.f k 0).bind fun t153 => (if t153 = 0 then ((word_Ones.f k 18446744073709551615).bind fun t154 => (if t154 = 64 then ((word_Ones.f k 0).bind fun t155 => (if t155 = 0 then ((word_Mask.f k 0 64).bind fun t156 => (if t156 = 18446744073709551615 then ((word_Mask.f k 63 9).bind fun t157 => (if t157 = 9223372036854775808 then ((word_Mask.f k 64 1).bind fun t158 => (if t158 = 0 then ((word_Mask.f k (-1) 5).bind fun t159 => (if t159 = 0 then ((word_Mask.f k 5 (-1)).bind fun t160 => (if t160 = 0 then ((word_Mask.f k 0 0).bind fun t161 => (if t161 = 0 then ((word_Mask.f k 1 4611686018427387904).bind fun t162 => (if t162 = 18446744073709551614 then ((word_Nth.f k 18446744073709551615 63).bind fun t163 => (if t163 = 63 then ((word_Nth.f k 5 1).bind fun t164 => (if t164 = 2 then ((word_Nth.f k 5 2).bind fun t165 => (if t165 = 64 then ((word_Nth.f k 5 (-1)).bind fun t166 => (some (t166 == 64))) else (some false))) else (some false))) else (some false))) else (some false))) else (some false))) else (some false))) else (some false))) else (some false))) else (some false))) else (some false))) else (some false))) else (some false))) else (some false))) else (some false))) else (some false))) else (some false))) else (some false)) = some r := H
  have A1 := Aside0.mk A10
  clear A10
  by_cases c2 : t149 = true
  · subst c2
    have H1 : ((word_LowOne.f k 0).bind fun t150 => (if t150 = 64 then ((word_LowZero.f k 18446744073709551615).bind fun t151 => (if t151 = 64 then ((word_LowOne.f k 9223372036854775808).bind fun t152 => (if t152 = 63 then ((word_LowZero.f k 0).bind fun t153 => (if t153 = 0 then ((word_Ones.f k 18446744073709551615).bind fun t154 => (if t154 = 64 then ((word_Ones.f k 0).bind fun t155 => (if t155 = 0 then ((word_Mask.f k 0 64).bind fun t156 => (if t156 = 18446744073709551615 then ((word_Mask.f k 63 9).bind fun t157 => (if t157 = 9223372036854775808 then ((word_Mask.f k 64 1).bind fun t158 => (if t158 = 0 then ((word_Mask.f k (-1) 5).bind fun t159 => (if t159 = 0 then ((word_Mask.f k 5 (-1)).bind fun t160 => (if t160 = 0 then ((word_Mask.f k 0 0).bind fun t161 => (if t161 = 0 then ((word_Mask.f k 1 4611686018427387904).bind fun t162 => (if t162 = 18446744073709551614 then ((word_Nth.f k 18446744073709551615 63).bind fun t163 => (if t163 = 63 then ((word_Nth.f k 5 1).bind fun t164 => (if t164 = 2 then ((word_Nth.f k 5 2).bind fun t165 => (if t165 = 64 then ((word_Nth.f k 5 (-1)).bind fun t166 => (some (t166 == 64))) else (some false))) else (some false))) else (some false))) else (some false))) else (some false))) else (some false))) else (some false))) else (some false))) else (some false))) else (some false))) else (some false))) else (some false))) else (some false))) else (some false))) else (some false))) else (some false))) = some r := by rw [if_pos rfl] at H; exact H
    clear H
    have H := H1
    clear H1
    replace H := Option.bind_eq_some_iff.mp H
    obtain ⟨t150, A30, H⟩ := H
    replace H : (if t150 = 64 then ((word_LowZero.f k 18446744073709551615).bind fun t151 => (if t151 = 64 then ((word_LowOne.f k 9223372036854775808).bind fun t152 => (if t152 = 63 then ((word_LowZero.f k 0).bind fun t153 => (if t153 = 0 then ((word_Ones.f k 18446744073709551615).bind fun t154 => (if t154 = 64 then ((word_Ones.f k 0).bind fun t155 => (if t155 = 0 then ((word_Mask.f k 0 64).bind fun t156 => (if t156 = 18446744073709551615 then ((word_Mask.f k 63 9).bind fun t157 => (if t157 = 9223372036854775808 then ((word_Mask.f k 64 1).bind fun t158 => (if t158 = 0 then ((word_Mask.f k (-1) 5).bind fun t159 => (if t159 = 0 then ((word_Mask.f k 5 (-1)).bind fun t160 => (if t160 = 0 then ((word_Mask.f k 0 0).bind fun t161 => (if t161 = 0 then ((word_Mask.f k 1 4611686018427387904).bind fun t162 => (if t162 = 18446744073709551614 then ((word_Nth.f k 18446744073709551615 63).bind fun t163 => (if t163 = 63 then ((word_Nth.f k 5 1).bind fun t164 => (if t164 = 2 then ((word_Nth.f k 5 2).bind fun t165 => (if t165 = 64 then ((word_Nth.f k 5 (-1)).bind fun t166 => (some (t166 == 64))) else (some false))) else (some false))) else (some false))) else (some false))) else (some false))) else (some false))) else (some false))) else (some false))) else (some false))) else (some false))) else (some false))) else (some false))) else (some false))) else (some false))) else (some false))) else (some false)) = some r := H
    have A3 := Aside0.mk A30
    clear A30
    by_cases c4 : t150 = 64
    · rw [if_pos c4] at H
      have c4b0 : (t150 == 64) = true := beq_iff_eq.mpr c4
      have c4b1 : (t150 != 64) = false := bne_eq_false_iff_eq.mpr c4
      clear c4
      replace H := Option.bind_eq_some_iff.mp H
      obtain ⟨t151, A50, H⟩ := H
      replace H : (if t151 = 64 then ((word_LowOne.f k 9223372036854775808).bind fun t152 => (if t152 = 63 then ((word_LowZero.f k 0).bind fun t153 => (if t153 = 0 then ((word_Ones.f k 18446744073709551615).bind fun t154 => (if t154 = 64 then ((word_Ones.f k 0).bind fun t155 => (if t155 = 0 then ((word_Mask.f k 0 64).bind fun t156 => (if t156 = 18446744073709551615 then ((word_Mask.f k 63 9).bind fun t157 => (if t157 = 9223372036854775808 then ((word_Mask.f k 64 1).bind fun t158 => (if t158 = 0 then ((word_Mask.f k (-1) 5).bind fun t159 => (if t159 = 0 then ((word_Mask.f k 5 (-1)).bind fun t160 => (if t160 = 0 then ((word_Mask.f k 0 0).bind fun t161 => (if t161 = 0 then ((word_Mask.f k 1 4611686018427387904).bind fun t162 => (if t162 = 18446744073709551614 then ((word_Nth.f k 18446744073709551615 63).bind fun t163 => (if t163 = 63 then ((word_Nth.f k 5 1).bind fun t164 => (if t164 = 2 then ((word_Nth.f k 5 2).bind fun t165 => (if t165 = 64 then ((word_Nth.f k 5 (-1)).bind fun t166 => (some (t166 == 64))) else (some false))) else (some false))) else (some false))) else (some false))) else (some false))) else (some false))) else (some false))) else (some false))) else (some false))) else (some false))) else (some false))) else (some false))) else (some false))) else (some false))) else (some false)) = some r := H
      have A5 := Aside0.mk A50
      clear A50
      by_cases c6 : t151 = 64
      · rw [if_pos c6] at H
        have c6b0 : (t151 == 64) = true := beq_iff_eq.mpr c6
        have c6b1 : (t151 != 64) = false := bne_eq_false_iff_eq.mpr c6
        clear c6
        replace H := Option.bind_eq_some_iff.mp H
        obtain ⟨t152, A70, H⟩ := H
        replace H : (if t152 = 63 then ((word_LowZero.f k 0).bind fun t153 => (if t153 = 0 then ((word_Ones.f k 18446744073709551615).bind fun t154 => (if t154 = 64 then ((word_Ones.f k 0).bind fun t155 => (if t155 = 0 then ((word_Mask.f k 0 64).bind fun t156 => (if t156 = 18446744073709551615 then ((word_Mask.f k 63 9).bind fun t157 => (if t157 = 9223372036854775808 then ((word_Mask.f k 64 1).bind fun t158 => (if t158 = 0 then ((word_Mask.f k (-1) 5).bind fun t159 => (if t159 = 0 then ((word_Mask.f k 5 (-1)).bind fun t160 => (if t160 = 0 then ((word_Mask.f k 0 0).bind fun t161 => (if t161 = 0 then ((word_Mask.f k 1 4611686018427387904).bind fun t162 => (if t162 = 18446744073709551614 then ((word_Nth.f k 18446744073709551615 63).bind fun t163 => (if t163 = 63 then ((word_Nth.f k 5 1).bind fun t164 => (if t164 = 2 then ((word_Nth.f k 5 2).bind fun t165 => (if t165 = 64 then ((word_Nth.f k 5 (-1)).bind fun t166 => (some (t166 == 64))) else (some false))) else (some false))) else (some false))) else (some false))) else (some false))) else (some false))) else (some false))) else (some false))) else (some false))) else (some false))) else (some false))) else (some false))) else (some false))) else (some false)) = some r := H
        have A7 := Aside0.mk A70
        clear A70
        by_cases c8 : t152 = 63
        · rw [if_pos c8] at H
          have c8b0 : (t152 == 63) = true := beq_iff_eq.mpr c8
          have c8b1 : (t152 != 63) = false := bne_eq_false_iff_eq.mpr c8
          clear c8
          replace H := Option.bind_eq_some_iff.mp H
          obtain ⟨t153, A90, H⟩ := H
          replace H : (if t153 = 0 then ((word_Ones.f k 18446744073709551615).bind fun t154 => (if t154 = 64 then ((word_Ones.f k 0).bind fun t155 => (if t155 = 0 then ((word_Mask.f k 0 64).bind fun t156 => (if t156 = 18446744073709551615 then ((word_Mask.f k 63 9).bind fun t157 => (if t157 = 9223372036854775808 then ((word_Mask.f k 64 1).bind fun t158 => (if t158 = 0 then ((word_Mask.f k (-1) 5).bind fun t159 => (if t159 = 0 then ((word_Mask.f k 5 (-1)).bind fun t160 => (if t160 = 0 then ((word_Mask.f k 0 0).bind fun t161 => (if t161 = 0 then ((word_Mask.f k 1 4611686018427387904).bind fun t162 => (if t162 = 18446744073709551614 then ((word_Nth.f k 18446744073709551615 63).bind fun t163 => (if t163 = 63 then ((word_Nth.f k 5 1).bind fun t164 => (if t164 = 2 then ((word_Nth.f k 5 2).bind fun t165 => (if t165 = 64 then ((word_Nth.f k 5 (-1)).bind fun t166 => (some (t166 == 64))) else (some false))) else (some false))) else (some false))) else (some false))) else (some false))) else (some false))) else (some false))) else (some false))) else (some false))) else (some false))) else (some false))) else (some false))) else (some false)) = some r := H
          have A9 := Aside0.mk A90
          clear A90
          by_cases c10 : t153 = 0
          · rw [if_pos c10] at H
            have c10b0 : (t153 == 0) = true := beq_iff_eq.mpr c10
            have c10b1 : (t153 != 0) = false := bne_eq_false_iff_eq.mpr c10
            clear c10
            replace H := Option.bind_eq_some_iff.mp H
            obtain ⟨t154, A110, H⟩ := H
            replace H : (if t154 = 64 then ((word_Ones.f k 0).bind fun t155 => (if t155 = 0 then ((word_Mask.f k 0 64).bind fun t156 => (if t156 = 18446744073709551615 then ((word_Mask.f k 63 9).bind fun t157 => (if t157 = 9223372036854775808 then ((word_Mask.f k 64 1).bind fun t158 => (if t158 = 0 then ((word_Mask.f k (-1) 5).bind fun t159 => (if t159 = 0 then ((word_Mask.f k 5 (-1)).bind fun t160 => (if t160 = 0 then ((word_Mask.f k 0 0).bind fun t161 => (if t161 = 0 then ((word_Mask.f k 1 4611686018427387904).bind fun t162 => (if t162 = 18446744073709551614 then ((word_Nth.f k 18446744073709551615 63).bind fun t163 => (if t163 = 63 then ((word_Nth.f k 5 1).bind fun t164 => (if t164 = 2 then ((word_Nth.f k 5 2).bind fun t165 => (if t165 = 64 then ((word_Nth.f k 5 (-1)).bind fun t166 => (some (t166 == 64))) else (some false))) else (some false))) else (some false))) else (some false))) else (some false))) else (some false))) else (some false))) else (some false))) else (some false))) else (some false))) else (some false))) else (some false)) = some r := H
            have A11 := Aside0.mk A110
            clear A110
            by_cases c12 : t154 = 64
            · rw [if_pos c12] at H
              have c12b0 : (t154 == 64) = true := beq_iff_eq.mpr c12
              have c12b1 : (t154 != 64) = false := bne_eq_false_iff_eq.mpr c12
              clear c12
              replace H := Option.bind_eq_some_iff.mp H
              obtain ⟨t155, A130, H⟩ := H
              replace H : (if t155 = 0 then ((word_Mask.f k 0 64).bind fun t156 => (if t156 = 18446744073709551615 then ((word_Mask.f k 63 9).bind fun t157 => (if t157 = 9223372036854775808 then ((word_Mask.f k 64 1).bind fun t158 => (if t158 = 0 then ((word_Mask.f k (-1) 5).bind fun t159 => (if t159 = 0 then ((word_Mask.f k 5 (-1)).bind fun t160 => (if t160 = 0 then ((word_Mask.f k 0 0).bind fun t161 => (if t161 = 0 then ((word_Mask.f k 1 4611686018427387904).bind fun t162 => (if t162 = 18446744073709551614 then ((word_Nth.f k 18446744073709551615 63).bind fun t163 => (if t163 = 63 then ((word_Nth.f k 5 1).bind fun t164 => (if t164 = 2 then ((word_Nth.f k 5 2).bind fun t165 => (if t165 = 64 then ((word_Nth.f k 5 (-1)).bind fun t166 => (some (t166 == 64))) else (some false))) else (some false))) else (some false))) else (some false))) else (some false))) else (some false))) else (some false))) else (some false))) else (some false))) else (some false))) else (some false)) = some r := H
              have A13 := Aside0.mk A130
              clear A130
              by_cases c14 : t155 = 0
              · rw [if_pos c14] at H
                have c14b0 : (t155 == 0) = true := beq_iff_eq.mpr c14
                have c14b1 : (t155 != 0) = false := bne_eq_false_iff_eq.mpr c14
                clear c14
                replace H := Option.bind_eq_some_iff.mp H
                obtain ⟨t156, A150, H⟩ := H
                replace H : (if t156 = 18446744073709551615 then ((word_Mask.f k 63 9).bind fun t157 => (if t157 = 9223372036854775808 then ((word_Mask.f k 64 1).bind fun t158 => (if t158 = 0 then ((word_Mask.f k (-1) 5).bind fun t159 => (if t159 = 0 then ((word_Mask.f k 5 (-1)).bind fun t160 => (if t160 = 0 then ((word_Mask.f k 0 0).bind fun t161 => (if t161 = 0 then ((word_Mask.f k 1 4611686018427387904).bind fun t162 => (if t162 = 18446744073709551614 then ((word_Nth.f k 18446744073709551615 63).bind fun t163 => (if t163 = 63 then ((word_Nth.f k 5 1).bind fun t164 => (if t164 = 2 then ((word_Nth.f k 5 2).bind fun t165 => (if t165 = 64 then ((word_Nth.f k 5 (-1)).bind fun t166 => (some (t166 == 64))) else (some false))) else (some false))) else (some false))) else (some false))) else (some false))) else (some false))) else (some false))) else (some false))) else (some false))) else (some false)) = some r := H
                have A15 := Aside0.mk A150
                clear A150
                by_cases c16 : t156 = 18446744073709551615
                · rw [if_pos c16] at H
                  have c16b0 : (t156 == 18446744073709551615) = true := beq_iff_eq.mpr c16
                  have c16b1 : (t156 != 18446744073709551615) = false := bne_eq_false_iff_eq.mpr c16
                  clear c16
                  replace H := Option.bind_eq_some_iff.mp H
                  obtain ⟨t157, A170, H⟩ := H
                  replace H : (if t157 = 9223372036854775808 then ((word_Mask.f k 64 1).bind fun t158 => (if t158 = 0 then ((word_Mask.f k (-1) 5).bind fun t159 => (if t159 = 0 then ((word_Mask.f k 5 (-1)).bind fun t160 => (if t160 = 0 then ((word_Mask.f k 0 0).bind fun t161 => (if t161 = 0 then ((word_Mask.f k 1 4611686018427387904).bind fun t162 => (if t162 = 18446744073709551614 then ((word_Nth.f k 18446744073709551615 63).bind fun t163 => (if t163 = 63 then ((word_Nth.f k 5 1).bind fun t164 => (if t164 = 2 then ((word_Nth.f k 5 2).bind fun t165 => (if t165 = 64 then ((word_Nth.f k 5 (-1)).bind fun t166 => (some (t166 == 64))) else (some false))) else (some false))) else (some false))) else (some false))) else (some false))) else (some false))) else (some false))) else (some false))) else (some false)) = some r := H
                  have A17 := Aside0.mk A170
                  clear A170
                  by_cases c18 : t157 = 9223372036854775808
                  · rw [if_pos c18] at H
                    have c18b0 : (t157 == 9223372036854775808) = true := beq_iff_eq.mpr c18
                    have c18b1 : (t157 != 9223372036854775808) = false := bne_eq_false_iff_eq.mpr c18
                    clear c18
                    replace H := Option.bind_eq_some_iff.mp H
                    obtain ⟨t158, A190, H⟩ := H
                    replace H : (if t158 = 0 then ((word_Mask.f k (-1) 5).bind fun t159 => (if t159 = 0 then ((word_Mask.f k 5 (-1)).bind fun t160 => (if t160 = 0 then ((word_Mask.f k 0 0).bind fun t161 => (if t161 = 0 then ((word_Mask.f k 1 4611686018427387904).bind fun t162 => (if t162 = 18446744073709551614 then ((word_Nth.f k 18446744073709551615 63).bind fun t163 => (if t163 = 63 then ((word_Nth.f k 5 1).bind fun t164 => (if t164 = 2 then ((word_Nth.f k 5 2).bind fun t165 => (if t165 = 64 then ((word_Nth.f k 5 (-1)).bind fun t166 => (some (t166 == 64))) else (some false))) else (some false))) else (some false))) else (some false))) else (some false))) else (some false))) else (some false))) else (some false)) = some r := H
                    have A19 := Aside0.mk A190
                    clear A190
                    by_cases c20 : t158 = 0
                    · rw [if_pos c20] at H
                      have c20b0 : (t158 == 0) = true := beq_iff_eq.mpr c20
                      have c20b1 : (t158 != 0) = false := bne_eq_false_iff_eq.mpr c20
                      clear c20
                      replace H := Option.bind_eq_some_iff.mp H
                      obtain ⟨t159, A210, H⟩ := H
                      replace H : (if t159 = 0 then ((word_Mask.f k 5 (-1)).bind fun t160 => (if t160 = 0 then ((word_Mask.f k 0 0).bind fun t161 => (if t161 = 0 then ((word_Mask.f k 1 4611686018427387904).bind fun t162 => (if t162 = 18446744073709551614 then ((word_Nth.f k 18446744073709551615 63).bind fun t163 => (if t163 = 63 then ((word_Nth.f k 5 1).bind fun t164 => (if t164 = 2 then ((word_Nth.f k 5 2).bind fun t165 => (if t165 = 64 then ((word_Nth.f k 5 (-1)).bind fun t166 => (some (t166 == 64))) else (some false))) else (some false))) else (some false))) else (some false))) else (some false))) else (some false))) else (some false)) = some r := H
                      have A21 := Aside0.mk A210
                      clear A210
                      by_cases c22 : t159 = 0
                      · rw [if_pos c22] at H
                        have c22b0 : (t159 == 0) = true := beq_iff_eq.mpr c22
                        have c22b1 : (t159 != 0) = false := bne_eq_false_iff_eq.mpr c22
                        clear c22
                        replace H := Option.bind_eq_some_iff.mp H
                        obtain ⟨t160, A230, H⟩ := H
                        replace H : (if t160 = 0 then ((word_Mask.f k 0 0).bind fun t161 => (if t161 = 0 then ((word_Mask.f k 1 4611686018427387904).bind fun t162 => (if t162 = 18446744073709551614 then ((word_Nth.f k 18446744073709551615 63).bind fun t163 => (if t163 = 63 then ((word_Nth.f k 5 1).bind fun t164 => (if t164 = 2 then ((word_Nth.f k 5 2).bind fun t165 => (if t165 = 64 then ((word_Nth.f k 5 (-1)).bind fun t166 => (some (t166 == 64))) else (some false))) else (some false))) else (some false))) else (some false))) else (some false))) else (some false)) = some r := H
                        have A23 := Aside0.mk A230
                        clear A230
                        by_cases c24 : t160 = 0
                        · rw [if_pos c24] at H
                          have c24b0 : (t160 == 0) = true := beq_iff_eq.mpr c24
                          have c24b1 : (t160 != 0) = false := bne_eq_false_iff_eq.mpr c24
                          clear c24
                          replace H := Option.bind_eq_some_iff.mp H
                          obtain ⟨t161, A250, H⟩ := H
                          replace H : (if t161 = 0 then ((word_Mask.f k 1 4611686018427387904).bind fun t162 => (if t162 = 18446744073709551614 then ((word_Nth.f k 18446744073709551615 63).bind fun t163 => (if t163 = 63 then ((word_Nth.f k 5 1).bind fun t164 => (if t164 = 2 then ((word_Nth.f k 5 2).bind fun t165 => (if t165 = 64 then ((word_Nth.f k 5 (-1)).bind fun t166 => (some (t166 == 64))) else (some false))) else (some false))) else (some false))) else (some false))) else (some false)) = some r := H
                          have A25 := Aside0.mk A250
                          clear A250
                          by_cases c26 : t161 = 0
                          · rw [if_pos c26] at H
                            have c26b0 : (t161 == 0) = true := beq_iff_eq.mpr c26
                            have c26b1 : (t161 != 0) = false := bne_eq_false_iff_eq.mpr c26
                            clear c26
                            replace H := Option.bind_eq_some_iff.mp H
                            obtain ⟨t162, A270, H⟩ := H
                            replace H : (if t162 = 18446744073709551614 then ((word_Nth.f k 18446744073709551615 63).bind fun t163 => (if t163 = 63 then ((word_Nth.f k 5 1).bind fun t164 => (if t164 = 2 then ((word_Nth.f k 5 2).bind fun t165 => (if t165 = 64 then ((word_Nth.f k 5 (-1)).bind fun t166 => (some (t166 == 64))) else (some false))) else (some false))) else (some false))) else (some false)) = some r := H
                            have A27 := Aside0.mk A270
                            clear A270
                            by_cases c28 : t162 = 18446744073709551614
                            · rw [if_pos c28] at H
                              have c28b0 : (t162 == 18446744073709551614) = true := beq_iff_eq.mpr c28
                              have c28b1 : (t162 != 18446744073709551614) = false := bne_eq_false_iff_eq.mpr c28
                              clear c28
                              replace H := Option.bind_eq_some_iff.mp H
                              obtain ⟨t163, A290, H⟩ := H
                              replace H : (if t163 = 63 then ((word_Nth.f k 5 1).bind fun t164 => (if t164 = 2 then ((word_Nth.f k 5 2).bind fun t165 => (if t165 = 64 then ((word_Nth.f k 5 (-1)).bind fun t166 => (some (t166 == 64))) else (some false))) else (some false))) else (some false)) = some r := H
                              have A29 := Aside0.mk A290
                              clear A290
                              by_cases c30 : t163 = 63
                              · rw [if_pos c30] at H
                                have c30b0 : (t163 == 63) = true := beq_iff_eq.mpr c30
                                have c30b1 : (t163 != 63) = false := bne_eq_false_iff_eq.mpr c30
                                clear c30
                                replace H := Option.bind_eq_some_iff.mp H
                                obtain ⟨t164, A310, H⟩ := H
                                replace H : (if t164 = 2 then ((word_Nth.f k 5 2).bind fun t165 => (if t165 = 64 then ((word_Nth.f k 5 (-1)).bind fun t166 => (some (t166 == 64))) else (some false))) else (some false)) = some r := H
                                have A31 := Aside0.mk A310
                                clear A310
                                by_cases c32 : t164 = 2
                                · rw [if_pos c32] at H
                                  have c32b0 : (t164 == 2) = true := beq_iff_eq.mpr c32
                                  have c32b1 : (t164 != 2) = false := bne_eq_false_iff_eq.mpr c32
                                  clear c32
                                  replace H := Option.bind_eq_some_iff.mp H
                                  obtain ⟨t165, A330, H⟩ := H
                                  replace H : (if t165 = 64 then ((word_Nth.f k 5 (-1)).bind fun t166 => (some (t166 == 64))) else (some false)) = some r := H
                                  have A33 := Aside0.mk A330
                                  clear A330
                                  by_cases c34 : t165 = 64
                                  · rw [if_pos c34] at H
                                    have c34b0 : (t165 == 64) = true := beq_iff_eq.mpr c34
                                    have c34b1 : (t165 != 64) = false := bne_eq_false_iff_eq.mpr c34
                                    clear c34
                                    replace H := Option.bind_eq_some_iff.mp H
                                    obtain ⟨t166, A350, H⟩ := H
                                    replace H : (some (t166 == 64)) = some r := H
                                    have A35 := Aside0.mk A350
                                    clear A350
                                    obtain rfl := Option.some.inj H
                                    go_enter Try.func9, Try.ntmps9
                                    go_wp2_with (first | ((with_reducible refine gate_callee (f := 19) rfl ?_); refine goesL_ (some 1) rfl rfl Try.func19 (by kernel_rfl) rfl #[] rfl (by (try simp only [List.map_toArray, List.map_cons, List.map_nil]); first | done | rfl | (simp only [List.length_drop, List.length_take]; rfl)) ?_; (with_reducible refine (hodmanlaw3_begun.calls k  true _ A1.out).mono ?_); rintro e w' ⟨rfl, ⟨nd, rfl⟩⟩; refine ⟨_, rfl, ?_⟩) | ((with_reducible refine gate_callee (f := 20) rfl ?_); refine goesL_ (some 3) rfl rfl Try.func20 (by kernel_rfl) rfl #[.int .u64 0] rfl (by (try simp only [List.map_toArray, List.map_cons, List.map_nil]); first | done | rfl | (simp only [List.length_drop, List.length_take]; rfl)) ?_; (with_reducible refine (word_LowOne.calls k 0 t150 _ A3.out).mono ?_); rintro e w' ⟨rfl, ⟨nd, rfl⟩⟩; refine ⟨_, rfl, ?_⟩) | (go_at_call 22; (with_reducible refine (word_LowZero.calls k 18446744073709551615 t151 _ A5.out).mono ?_); rintro e w' ⟨rfl, ⟨nd, rfl⟩⟩) | (go_at_call 20; (with_reducible refine (word_LowOne.calls k 9223372036854775808 t152 _ A7.out).mono ?_); rintro e w' ⟨rfl, ⟨nd, rfl⟩⟩) | (go_at_call 22; (with_reducible refine (word_LowZero.calls k 0 t153 _ A9.out).mono ?_); rintro e w' ⟨rfl, ⟨nd, rfl⟩⟩) | (go_at_call 24; (with_reducible refine (word_Ones.calls k 18446744073709551615 t154 _ A11.out).mono ?_); rintro e w' ⟨rfl, ⟨nd, rfl⟩⟩) | (go_at_call 24; (with_reducible refine (word_Ones.calls k 0 t155 _ A13.out).mono ?_); rintro e w' ⟨rfl, ⟨nd, rfl⟩⟩) | (go_at_call 28; (with_reducible refine (word_Mask.calls k 0 64 t156 _ A15.out).mono ?_); rintro e w' ⟨rfl, ⟨nd, rfl⟩⟩) | (go_at_call 28; (with_reducible refine (word_Mask.calls k 63 9 t157 _ A17.out).mono ?_); rintro e w' ⟨rfl, ⟨nd, rfl⟩⟩) | (go_at_call 28; (with_reducible refine (word_Mask.calls k 64 1 t158 _ A19.out).mono ?_); rintro e w' ⟨rfl, ⟨nd, rfl⟩⟩) | (go_at_call 28; (with_reducible refine (word_Mask.calls k (-1) 5 t159 _ A21.out).mono ?_); rintro e w' ⟨rfl, ⟨nd, rfl⟩⟩) | (go_at_call 28; (with_reducible refine (word_Mask.calls k 5 (-1) t160 _ A23.out).mono ?_); rintro e w' ⟨rfl, ⟨nd, rfl⟩⟩) | (go_at_call 28; (with_reducible refine (word_Mask.calls k 0 0 t161 _ A25.out).mono ?_); rintro e w' ⟨rfl, ⟨nd, rfl⟩⟩) | (go_at_call 28; (with_reducible refine (word_Mask.calls k 1 4611686018427387904 t162 _ A27.out).mono ?_); rintro e w' ⟨rfl, ⟨nd, rfl⟩⟩) | (go_at_call 26; (with_reducible refine (word_Nth.calls k 18446744073709551615 63 t163 _ A29.out).mono ?_); rintro e w' ⟨rfl, ⟨nd, rfl⟩⟩) | (go_at_call 26; (with_reducible refine (word_Nth.calls k 5 1 t164 _ A31.out).mono ?_); rintro e w' ⟨rfl, ⟨nd, rfl⟩⟩) | (go_at_call 26; (with_reducible refine (word_Nth.calls k 5 2 t165 _ A33.out).mono ?_); rintro e w' ⟨rfl, ⟨nd, rfl⟩⟩) | (go_at_call 26; (with_reducible refine (word_Nth.calls k 5 (-1) t166 _ A35.out).mono ?_); rintro e w' ⟨rfl, ⟨nd, rfl⟩⟩) | (go_at_call 19; (with_reducible refine (hodmanlaw3_begun.calls k  true _ A1.out).mono ?_); rintro e w' ⟨rfl, ⟨nd, rfl⟩⟩) | (go_at_call 20; (with_reducible refine (word_LowOne.calls k 0 t150 _ A3.out).mono ?_); rintro e w' ⟨rfl, ⟨nd, rfl⟩⟩))
                                    go_ret
                                    exact ⟨by first | rfl | (simp; done) | (simp [*]; done), by repeat (first | exact Drawn0.refl _ | apply Drawn0.step)⟩
                                  · rw [if_neg c34] at H
                                    have c34b0 : (t165 == 64) = false := beq_eq_false_iff_ne.mpr c34
                                    have c34b1 : (t165 != 64) = true := bne_iff_ne.mpr c34
                                    obtain rfl := Option.some.inj H
                                    go_enter Try.func9, Try.ntmps9
                                    go_wp2_with (first | ((with_reducible refine gate_callee (f := 19) rfl ?_); refine goesL_ (some 1) rfl rfl Try.func19 (by kernel_rfl) rfl #[] rfl (by (try simp only [List.map_toArray, List.map_cons, List.map_nil]); first | done | rfl | (simp only [List.length_drop, List.length_take]; rfl)) ?_; (with_reducible refine (hodmanlaw3_begun.calls k  true _ A1.out).mono ?_); rintro e w' ⟨rfl, ⟨nd, rfl⟩⟩; refine ⟨_, rfl, ?_⟩) | ((with_reducible refine gate_callee (f := 20) rfl ?_); refine goesL_ (some 3) rfl rfl Try.func20 (by kernel_rfl) rfl #[.int .u64 0] rfl (by (try simp only [List.map_toArray, List.map_cons, List.map_nil]); first | done | rfl | (simp only [List.length_drop, List.length_take]; rfl)) ?_; (with_reducible refine (word_LowOne.calls k 0 t150 _ A3.out).mono ?_); rintro e w' ⟨rfl, ⟨nd, rfl⟩⟩; refine ⟨_, rfl, ?_⟩) | (go_at_call 22; (with_reducible refine (word_LowZero.calls k 18446744073709551615 t151 _ A5.out).mono ?_); rintro e w' ⟨rfl, ⟨nd, rfl⟩⟩) | (go_at_call 20; (with_reducible refine (word_LowOne.calls k 9223372036854775808 t152 _ A7.out).mono ?_); rintro e w' ⟨rfl, ⟨nd, rfl⟩⟩) | (go_at_call 22; (with_reducible refine (word_LowZero.calls k 0 t153 _ A9.out).mono ?_); rintro e w' ⟨rfl, ⟨nd, rfl⟩⟩) | (go_at_call 24; (with_reducible refine (word_Ones.calls k 18446744073709551615 t154 _ A11.out).mono ?_); rintro e w' ⟨rfl, ⟨nd, rfl⟩⟩) | (go_at_call 24; (with_reducible refine (word_Ones.calls k 0 t155 _ A13.out).mono ?_); rintro e w' ⟨rfl, ⟨nd, rfl⟩⟩) | (go_at_call 28; (with_reducible refine (word_Mask.calls k 0 64 t156 _ A15.out).mono ?_); rintro e w' ⟨rfl, ⟨nd, rfl⟩⟩) | (go_at_call 28; (with_reducible refine (word_Mask.calls k 63 9 t157 _ A17.out).mono ?_); rintro e w' ⟨rfl, ⟨nd, rfl⟩⟩) | (go_at_call 28; (with_reducible refine (word_Mask.calls k 64 1 t158 _ A19.out).mono ?_); rintro e w' ⟨rfl, ⟨nd, rfl⟩⟩) | (go_at_call 28; (with_reducible refine (word_Mask.calls k (-1) 5 t159 _ A21.out).mono ?_); rintro e w' ⟨rfl, ⟨nd, rfl⟩⟩) | (go_at_call 28; (with_reducible refine (word_Mask.calls k 5 (-1) t160 _ A23.out).mono ?_); rintro e w' ⟨rfl, ⟨nd, rfl⟩⟩) | (go_at_call 28; (with_reducible refine (word_Mask.calls k 0 0 t161 _ A25.out).mono ?_); rintro e w' ⟨rfl, ⟨nd, rfl⟩⟩) | (go_at_call 28; (with_reducible refine (word_Mask.calls k 1 4611686018427387904 t162 _ A27.out).mono ?_); rintro e w' ⟨rfl, ⟨nd, rfl⟩⟩) | (go_at_call 26; (with_reducible refine (word_Nth.calls k 18446744073709551615 63 t163 _ A29.out).mono ?_); rintro e w' ⟨rfl, ⟨nd, rfl⟩⟩) | (go_at_call 26; (with_reducible refine (word_Nth.calls k 5 1 t164 _ A31.out).mono ?_); rintro e w' ⟨rfl, ⟨nd, rfl⟩⟩) | (go_at_call 26; (with_reducible refine (word_Nth.calls k 5 2 t165 _ A33.out).mono ?_); rintro e w' ⟨rfl, ⟨nd, rfl⟩⟩) | (go_at_call 19; (with_reducible refine (hodmanlaw3_begun.calls k  true _ A1.out).mono ?_); rintro e w' ⟨rfl, ⟨nd, rfl⟩⟩) | (go_at_call 20; (with_reducible refine (word_LowOne.calls k 0 t150 _ A3.out).mono ?_); rintro e w' ⟨rfl, ⟨nd, rfl⟩⟩))
                                    go_ret
                                    exact ⟨by first | rfl | (simp; done) | (simp [*]; done), by repeat (first | exact Drawn0.refl _ | apply Drawn0.step)⟩
                                · rw [if_neg c32] at H
                                  have c32b0 : (t164 == 2) = false := beq_eq_false_iff_ne.mpr c32
                                  have c32b1 : (t164 != 2) = true := bne_iff_ne.mpr c32
                                  obtain rfl := Option.some.inj H
                                  go_enter Try.func9, Try.ntmps9
                                  go_wp2_with (first | ((with_reducible refine gate_callee (f := 19) rfl ?_); refine goesL_ (some 1) rfl rfl Try.func19 (by kernel_rfl) rfl #[] rfl (by (try simp only [List.map_toArray, List.map_cons, List.map_nil]); first | done | rfl | (simp only [List.length_drop, List.length_take]; rfl)) ?_; (with_reducible refine (hodmanlaw3_begun.calls k  true _ A1.out).mono ?_); rintro e w' ⟨rfl, ⟨nd, rfl⟩⟩; refine ⟨_, rfl, ?_⟩) | ((with_reducible refine gate_callee (f := 20) rfl ?_); refine goesL_ (some 3) rfl rfl Try.func20 (by kernel_rfl) rfl #[.int .u64 0] rfl (by (try simp only [List.map_toArray, List.map_cons, List.map_nil]); first | done | rfl | (simp only [List.length_drop, List.length_take]; rfl)) ?_; (with_reducible refine (word_LowOne.calls k 0 t150 _ A3.out).mono ?_); rintro e w' ⟨rfl, ⟨nd, rfl⟩⟩; refine ⟨_, rfl, ?_⟩) | (go_at_call 22; (with_reducible refine (word_LowZero.calls k 18446744073709551615 t151 _ A5.out).mono ?_); rintro e w' ⟨rfl, ⟨nd, rfl⟩⟩) | (go_at_call 20; (with_reducible refine (word_LowOne.calls k 9223372036854775808 t152 _ A7.out).mono ?_); rintro e w' ⟨rfl, ⟨nd, rfl⟩⟩) | (go_at_call 22; (with_reducible refine (word_LowZero.calls k 0 t153 _ A9.out).mono ?_); rintro e w' ⟨rfl, ⟨nd, rfl⟩⟩) | (go_at_call 24; (with_reducible refine (word_Ones.calls k 18446744073709551615 t154 _ A11.out).mono ?_); rintro e w' ⟨rfl, ⟨nd, rfl⟩⟩) | (go_at_call 24; (with_reducible refine (word_Ones.calls k 0 t155 _ A13.out).mono ?_); rintro e w' ⟨rfl, ⟨nd, rfl⟩⟩) | (go_at_call 28; (with_reducible refine (word_Mask.calls k 0 64 t156 _ A15.out).mono ?_); rintro e w' ⟨rfl, ⟨nd, rfl⟩⟩) | (go_at_call 28; (with_reducible refine (word_Mask.calls k 63 9 t157 _ A17.out).mono ?_); rintro e w' ⟨rfl, ⟨nd, rfl⟩⟩) | (go_at_call 28; (with_reducible refine (word_Mask.calls k 64 1 t158 _ A19.out).mono ?_); rintro e w' ⟨rfl, ⟨nd, rfl⟩⟩) | (go_at_call 28; (with_reducible refine (word_Mask.calls k (-1) 5 t159 _ A21.out).mono ?_); rintro e w' ⟨rfl, ⟨nd, rfl⟩⟩) | (go_at_call 28; (with_reducible refine (word_Mask.calls k 5 (-1) t160 _ A23.out).mono ?_); rintro e w' ⟨rfl, ⟨nd, rfl⟩⟩) | (go_at_call 28; (with_reducible refine (word_Mask.calls k 0 0 t161 _ A25.out).mono ?_); rintro e w' ⟨rfl, ⟨nd, rfl⟩⟩) | (go_at_call 28; (with_reducible refine (word_Mask.calls k 1 4611686018427387904 t162 _ A27.out).mono ?_); rintro e w' ⟨rfl, ⟨nd, rfl⟩⟩) | (go_at_call 26; (with_reducible refine (word_Nth.calls k 18446744073709551615 63 t163 _ A29.out).mono ?_); rintro e w' ⟨rfl, ⟨nd, rfl⟩⟩) | (go_at_call 26; (with_reducible refine (word_Nth.calls k 5 1 t164 _ A31.out).mono ?_); rintro e w' ⟨rfl, ⟨nd, rfl⟩⟩) | (go_at_call 19; (with_reducible refine (hodmanlaw3_begun.calls k  true _ A1.out).mono ?_); rintro e w' ⟨rfl, ⟨nd, rfl⟩⟩) | (go_at_call 20; (with_reducible refine (word_LowOne.calls k 0 t150 _ A3.out).mono ?_); rintro e w' ⟨rfl, ⟨nd, rfl⟩⟩))
                                  go_ret
                                  exact ⟨by first | rfl | (simp; done) | (simp [*]; done), by repeat (first | exact Drawn0.refl _ | apply Drawn0.step)⟩
                              · rw [if_neg c30] at H
                                have c30b0 : (t163 == 63) = false := beq_eq_false_iff_ne.mpr c30
                                have c30b1 : (t163 != 63) = true := bne_iff_ne.mpr c30
                                obtain rfl := Option.some.inj H
                                go_enter Try.func9, Try.ntmps9
                                go_wp2_with (first | ((with_reducible refine gate_callee (f := 19) rfl ?_); refine goesL_ (some 1) rfl rfl Try.func19 (by kernel_rfl) rfl #[] rfl (by (try simp only [List.map_toArray, List.map_cons, List.map_nil]); first | done | rfl | (simp only [List.length_drop, List.length_take]; rfl)) ?_; (with_reducible refine (hodmanlaw3_begun.calls k  true _ A1.out).mono ?_); rintro e w' ⟨rfl, ⟨nd, rfl⟩⟩; refine ⟨_, rfl, ?_⟩) | ((with_reducible refine gate_callee (f := 20) rfl ?_); refine goesL_ (some 3) rfl rfl Try.func20 (by kernel_rfl) rfl #[.int .u64 0] rfl (by (try simp only [List.map_toArray, List.map_cons, List.map_nil]); first | done | rfl | (simp only [List.length_drop, List.length_take]; rfl)) ?_; (with_reducible refine (word_LowOne.calls k 0 t150 _ A3.out).mono ?_); rintro e w' ⟨rfl, ⟨nd, rfl⟩⟩; refine ⟨_, rfl, ?_⟩) | (go_at_call 22; (with_reducible refine (word_LowZero.calls k 18446744073709551615 t151 _ A5.out).mono ?_); rintro e w' ⟨rfl, ⟨nd, rfl⟩⟩) | (go_at_call 20; (with_reducible refine (word_LowOne.calls k 9223372036854775808 t152 _ A7.out).mono ?_); rintro e w' ⟨rfl, ⟨nd, rfl⟩⟩) | (go_at_call 22; (with_reducible refine (word_LowZero.calls k 0 t153 _ A9.out).mono ?_); rintro e w' ⟨rfl, ⟨nd, rfl⟩⟩) | (go_at_call 24; (with_reducible refine (word_Ones.calls k 18446744073709551615 t154 _ A11.out).mono ?_); rintro e w' ⟨rfl, ⟨nd, rfl⟩⟩) | (go_at_call 24; (with_reducible refine (word_Ones.calls k 0 t155 _ A13.out).mono ?_); rintro e w' ⟨rfl, ⟨nd, rfl⟩⟩) | (go_at_call 28; (with_reducible refine (word_Mask.calls k 0 64 t156 _ A15.out).mono ?_); rintro e w' ⟨rfl, ⟨nd, rfl⟩⟩) | (go_at_call 28; (with_reducible refine (word_Mask.calls k 63 9 t157 _ A17.out).mono ?_); rintro e w' ⟨rfl, ⟨nd, rfl⟩⟩) | (go_at_call 28; (with_reducible refine (word_Mask.calls k 64 1 t158 _ A19.out).mono ?_); rintro e w' ⟨rfl, ⟨nd, rfl⟩⟩) | (go_at_call 28; (with_reducible refine (word_Mask.calls k (-1) 5 t159 _ A21.out).mono ?_); rintro e w' ⟨rfl, ⟨nd, rfl⟩⟩) | (go_at_call 28; (with_reducible refine (word_Mask.calls k 5 (-1) t160 _ A23.out).mono ?_); rintro e w' ⟨rfl, ⟨nd, rfl⟩⟩) | (go_at_call 28; (with_reducible refine (word_Mask.calls k 0 0 t161 _ A25.out).mono ?_); rintro e w' ⟨rfl, ⟨nd, rfl⟩⟩) | (go_at_call 28; (with_reducible refine (word_Mask.calls k 1 4611686018427387904 t162 _ A27.out).mono ?_); rintro e w' ⟨rfl, ⟨nd, rfl⟩⟩) | (go_at_call 26; (with_reducible refine (word_Nth.calls k 18446744073709551615 63 t163 _ A29.out).mono ?_); rintro e w' ⟨rfl, ⟨nd, rfl⟩⟩) | (go_at_call 19; (with_reducible refine (hodmanlaw3_begun.calls k  true _ A1.out).mono ?_); rintro e w' ⟨rfl, ⟨nd, rfl⟩⟩) | (go_at_call 20; (with_reducible refine (word_LowOne.calls k 0 t150 _ A3.out).mono ?_); rintro e w' ⟨rfl, ⟨nd, rfl⟩⟩))
                                go_ret
                                exact ⟨by first | rfl | (simp; done) | (simp [*]; done), by repeat (first | exact Drawn0.refl _ | apply Drawn0.step)⟩
                            · rw [if_neg c28] at H
                              have c28b0 : (t162 == 18446744073709551614) = false := beq_eq_false_iff_ne.mpr c28
                              have c28b1 : (t162 != 18446744073709551614) = true := bne_iff_ne.mpr c28
                              obtain rfl := Option.some.inj H
                              go_enter Try.func9, Try.ntmps9
                              go_wp2_with (first | ((with_reducible refine gate_callee (f := 19) rfl ?_); refine goesL_ (some 1) rfl rfl Try.func19 (by kernel_rfl) rfl #[] rfl (by (try simp only [List.map_toArray, List.map_cons, List.map_nil]); first | done | rfl | (simp only [List.length_drop, List.length_take]; rfl)) ?_; (with_reducible refine (hodmanlaw3_begun.calls k  true _ A1.out).mono ?_); rintro e w' ⟨rfl, ⟨nd, rfl⟩⟩; refine ⟨_, rfl, ?_⟩) | ((with_reducible refine gate_callee (f := 20) rfl ?_); refine goesL_ (some 3) rfl rfl Try.func20 (by kernel_rfl) rfl #[.int .u64 0] rfl (by (try simp only [List.map_toArray, List.map_cons, List.map_nil]); first | done | rfl | (simp only [List.length_drop, List.length_take]; rfl)) ?_; (with_reducible refine (word_LowOne.calls k 0 t150 _ A3.out).mono ?_); rintro e w' ⟨rfl, ⟨nd, rfl⟩⟩; refine ⟨_, rfl, ?_⟩) | (go_at_call 22; (with_reducible refine (word_LowZero.calls k 18446744073709551615 t151 _ A5.out).mono ?_); rintro e w' ⟨rfl, ⟨nd, rfl⟩⟩) | (go_at_call 20; (with_reducible refine (word_LowOne.calls k 9223372036854775808 t152 _ A7.out).mono ?_); rintro e w' ⟨rfl, ⟨nd, rfl⟩⟩) | (go_at_call 22; (with_reducible refine (word_LowZero.calls k 0 t153 _ A9.out).mono ?_); rintro e w' ⟨rfl, ⟨nd, rfl⟩⟩) | (go_at_call 24; (with_reducible refine (word_Ones.calls k 18446744073709551615 t154 _ A11.out).mono ?_); rintro e w' ⟨rfl, ⟨nd, rfl⟩⟩) | (go_at_call 24; (with_reducible refine (word_Ones.calls k 0 t155 _ A13.out).mono ?_); rintro e w' ⟨rfl, ⟨nd, rfl⟩⟩) | (go_at_call 28; (with_reducible refine (word_Mask.calls k 0 64 t156 _ A15.out).mono ?_); rintro e w' ⟨rfl, ⟨nd, rfl⟩⟩) | (go_at_call 28; (with_reducible refine (word_Mask.calls k 63 9 t157 _ A17.out).mono ?_); rintro e w' ⟨rfl, ⟨nd, rfl⟩⟩) | (go_at_call 28; (with_reducible refine (word_Mask.calls k 64 1 t158 _ A19.out).mono ?_); rintro e w' ⟨rfl, ⟨nd, rfl⟩⟩) | (go_at_call 28; (with_reducible refine (word_Mask.calls k (-1) 5 t159 _ A21.out).mono ?_); rintro e w' ⟨rfl, ⟨nd, rfl⟩⟩) | (go_at_call 28; (with_reducible refine (word_Mask.calls k 5 (-1) t160 _ A23.out).mono ?_); rintro e w' ⟨rfl, ⟨nd, rfl⟩⟩) | (go_at_call 28; (with_reducible refine (word_Mask.calls k 0 0 t161 _ A25.out).mono ?_); rintro e w' ⟨rfl, ⟨nd, rfl⟩⟩) | (go_at_call 28; (with_reducible refine (word_Mask.calls k 1 4611686018427387904 t162 _ A27.out).mono ?_); rintro e w' ⟨rfl, ⟨nd, rfl⟩⟩) | (go_at_call 19; (with_reducible refine (hodmanlaw3_begun.calls k  true _ A1.out).mono ?_); rintro e w' ⟨rfl, ⟨nd, rfl⟩⟩) | (go_at_call 20; (with_reducible refine (word_LowOne.calls k 0 t150 _ A3.out).mono ?_); rintro e w' ⟨rfl, ⟨nd, rfl⟩⟩))
                              go_ret
                              exact ⟨by first | rfl | (simp; done) | (simp [*]; done), by repeat (first | exact Drawn0.refl _ | apply Drawn0.step)⟩
                          · rw [if_neg c26] at H
                            have c26b0 : (t161 == 0) = false := beq_eq_false_iff_ne.mpr c26
                            have c26b1 : (t161 != 0) = true := bne_iff_ne.mpr c26
                            obtain rfl := Option.some.inj H
                            go_enter Try.func9, Try.ntmps9
                            go_wp2_with (first | ((with_reducible refine gate_callee (f := 19) rfl ?_); refine goesL_ (some 1) rfl rfl Try.func19 (by kernel_rfl) rfl #[] rfl (by (try simp only [List.map_toArray, List.map_cons, List.map_nil]); first | done | rfl | (simp only [List.length_drop, List.length_take]; rfl)) ?_; (with_reducible refine (hodmanlaw3_begun.calls k  true _ A1.out).mono ?_); rintro e w' ⟨rfl, ⟨nd, rfl⟩⟩; refine ⟨_, rfl, ?_⟩) | ((with_reducible refine gate_callee (f := 20) rfl ?_); refine goesL_ (some 3) rfl rfl Try.func20 (by kernel_rfl) rfl #[.int .u64 0] rfl (by (try simp only [List.map_toArray, List.map_cons, List.map_nil]); first | done | rfl | (simp only [List.length_drop, List.length_take]; rfl)) ?_; (with_reducible refine (word_LowOne.calls k 0 t150 _ A3.out).mono ?_); rintro e w' ⟨rfl, ⟨nd, rfl⟩⟩; refine ⟨_, rfl, ?_⟩) | (go_at_call 22; (with_reducible refine (word_LowZero.calls k 18446744073709551615 t151 _ A5.out).mono ?_); rintro e w' ⟨rfl, ⟨nd, rfl⟩⟩) | (go_at_call 20; (with_reducible refine (word_LowOne.calls k 9223372036854775808 t152 _ A7.out).mono ?_); rintro e w' ⟨rfl, ⟨nd, rfl⟩⟩) | (go_at_call 22; (with_reducible refine (word_LowZero.calls k 0 t153 _ A9.out).mono ?_); rintro e w' ⟨rfl, ⟨nd, rfl⟩⟩) | (go_at_call 24; (with_reducible refine (word_Ones.calls k 18446744073709551615 t154 _ A11.out).mono ?_); rintro e w' ⟨rfl, ⟨nd, rfl⟩⟩) | (go_at_call 24; (with_reducible refine (word_Ones.calls k 0 t155 _ A13.out).mono ?_); rintro e w' ⟨rfl, ⟨nd, rfl⟩⟩) | (go_at_call 28; (with_reducible refine (word_Mask.calls k 0 64 t156 _ A15.out).mono ?_); rintro e w' ⟨rfl, ⟨nd, rfl⟩⟩) | (go_at_call 28; (with_reducible refine (word_Mask.calls k 63 9 t157 _ A17.out).mono ?_); rintro e w' ⟨rfl, ⟨nd, rfl⟩⟩) | (go_at_call 28; (with_reducible refine (word_Mask.calls k 64 1 t158 _ A19.out).mono ?_); rintro e w' ⟨rfl, ⟨nd, rfl⟩⟩) | (go_at_call 28; (with_reducible refine (word_Mask.calls k (-1) 5 t159 _ A21.out).mono ?_); rintro e w' ⟨rfl, ⟨nd, rfl⟩⟩) | (go_at_call 28; (with_reducible refine (word_Mask.calls k 5 (-1) t160 _ A23.out).mono ?_); rintro e w' ⟨rfl, ⟨nd, rfl⟩⟩) | (go_at_call 28; (with_reducible refine (word_Mask.calls k 0 0 t161 _ A25.out).mono ?_); rintro e w' ⟨rfl, ⟨nd, rfl⟩⟩) | (go_at_call 19; (with_reducible refine (hodmanlaw3_begun.calls k  true _ A1.out).mono ?_); rintro e w' ⟨rfl, ⟨nd, rfl⟩⟩) | (go_at_call 20; (with_reducible refine (word_LowOne.calls k 0 t150 _ A3.out).mono ?_); rintro e w' ⟨rfl, ⟨nd, rfl⟩⟩))
                            go_ret
                            exact ⟨by first | rfl | (simp; done) | (simp [*]; done), by repeat (first | exact Drawn0.refl _ | apply Drawn0.step)⟩
                        · rw [if_neg c24] at H
                          have c24b0 : (t160 == 0) = false := beq_eq_false_iff_ne.mpr c24
                          have c24b1 : (t160 != 0) = true := bne_iff_ne.mpr c24
                          obtain rfl := Option.some.inj H
                          go_enter Try.func9, Try.ntmps9
                          go_wp2_with (first | ((with_reducible refine gate_callee (f := 19) rfl ?_); refine goesL_ (some 1) rfl rfl Try.func19 (by kernel_rfl) rfl #[] rfl (by (try simp only [List.map_toArray, List.map_cons, List.map_nil]); first | done | rfl | (simp only [List.length_drop, List.length_take]; rfl)) ?_; (with_reducible refine (hodmanlaw3_begun.calls k  true _ A1.out).mono ?_); rintro e w' ⟨rfl, ⟨nd, rfl⟩⟩; refine ⟨_, rfl, ?_⟩) | ((with_reducible refine gate_callee (f := 20) rfl ?_); refine goesL_ (some 3) rfl rfl Try.func20 (by kernel_rfl) rfl #[.int .u64 0] rfl (by (try simp only [List.map_toArray, List.map_cons, List.map_nil]); first | done | rfl | (simp only [List.length_drop, List.length_take]; rfl)) ?_; (with_reducible refine (word_LowOne.calls k 0 t150 _ A3.out).mono ?_); rintro e w' ⟨rfl, ⟨nd, rfl⟩⟩; refine ⟨_, rfl, ?_⟩) | (go_at_call 22; (with_reducible refine (word_LowZero.calls k 18446744073709551615 t151 _ A5.out).mono ?_); rintro e w' ⟨rfl, ⟨nd, rfl⟩⟩) | (go_at_call 20; (with_reducible refine (word_LowOne.calls k 9223372036854775808 t152 _ A7.out).mono ?_); rintro e w' ⟨rfl, ⟨nd, rfl⟩⟩) | (go_at_call 22; (with_reducible refine (word_LowZero.calls k 0 t153 _ A9.out).mono ?_); rintro e w' ⟨rfl, ⟨nd, rfl⟩⟩) | (go_at_call 24; (with_reducible refine (word_Ones.calls k 18446744073709551615 t154 _ A11.out).mono ?_); rintro e w' ⟨rfl, ⟨nd, rfl⟩⟩) | (go_at_call 24; (with_reducible refine (word_Ones.calls k 0 t155 _ A13.out).mono ?_); rintro e w' ⟨rfl, ⟨nd, rfl⟩⟩) | (go_at_call 28; (with_reducible refine (word_Mask.calls k 0 64 t156 _ A15.out).mono ?_); rintro e w' ⟨rfl, ⟨nd, rfl⟩⟩) | (go_at_call 28; (with_reducible refine (word_Mask.calls k 63 9 t157 _ A17.out).mono ?_); rintro e w' ⟨rfl, ⟨nd, rfl⟩⟩) | (go_at_call 28; (with_reducible refine (word_Mask.calls k 64 1 t158 _ A19.out).mono ?_); rintro e w' ⟨rfl, ⟨nd, rfl⟩⟩) | (go_at_call 28; (with_reducible refine (word_Mask.calls k (-1) 5 t159 _ A21.out).mono ?_); rintro e w' ⟨rfl, ⟨nd, rfl⟩⟩) | (go_at_call 28; (with_reducible refine (word_Mask.calls k 5 (-1) t160 _ A23.out).mono ?_); rintro e w' ⟨rfl, ⟨nd, rfl⟩⟩) | (go_at_call 19; (with_reducible refine (hodmanlaw3_begun.calls k  true _ A1.out).mono ?_); rintro e w' ⟨rfl, ⟨nd, rfl⟩⟩) | (go_at_call 20; (with_reducible refine (word_LowOne.calls k 0 t150 _ A3.out).mono ?_); rintro e w' ⟨rfl, ⟨nd, rfl⟩⟩))
                          go_ret
                          exact ⟨by first | rfl | (simp; done) | (simp [*]; done), by repeat (first | exact Drawn0.refl _ | apply Drawn0.step)⟩
                      · rw [if_neg c22] at H
                        have c22b0 : (t159 == 0) = false := beq_eq_false_iff_ne.mpr c22
                        have c22b1 : (t159 != 0) = true := bne_iff_ne.mpr c22
                        obtain rfl := Option.some.inj H
                        go_enter Try.func9, Try.ntmps9
                        go_wp2_with (first | ((with_reducible refine gate_callee (f := 19) rfl ?_); refine goesL_ (some 1) rfl rfl Try.func19 (by kernel_rfl) rfl #[] rfl (by (try simp only [List.map_toArray, List.map_cons, List.map_nil]); first | done | rfl | (simp only [List.length_drop, List.length_take]; rfl)) ?_; (with_reducible refine (hodmanlaw3_begun.calls k  true _ A1.out).mono ?_); rintro e w' ⟨rfl, ⟨nd, rfl⟩⟩; refine ⟨_, rfl, ?_⟩) | ((with_reducible refine gate_callee (f := 20) rfl ?_); refine goesL_ (some 3) rfl rfl Try.func20 (by kernel_rfl) rfl #[.int .u64 0] rfl (by (try simp only [List.map_toArray, List.map_cons, List.map_nil]); first | done | rfl | (simp only [List.length_drop, List.length_take]; rfl)) ?_; (with_reducible refine (word_LowOne.calls k 0 t150 _ A3.out).mono ?_); rintro e w' ⟨rfl, ⟨nd, rfl⟩⟩; refine ⟨_, rfl, ?_⟩) | (go_at_call 22; (with_reducible refine (word_LowZero.calls k 18446744073709551615 t151 _ A5.out).mono ?_); rintro e w' ⟨rfl, ⟨nd, rfl⟩⟩) | (go_at_call 20; (with_reducible refine (word_LowOne.calls k 9223372036854775808 t152 _ A7.out).mono ?_); rintro e w' ⟨rfl, ⟨nd, rfl⟩⟩) | (go_at_call 22; (with_reducible refine (word_LowZero.calls k 0 t153 _ A9.out).mono ?_); rintro e w' ⟨rfl, ⟨nd, rfl⟩⟩) | (go_at_call 24; (with_reducible refine (word_Ones.calls k 18446744073709551615 t154 _ A11.out).mono ?_); rintro e w' ⟨rfl, ⟨nd, rfl⟩⟩) | (go_at_call 24; (with_reducible refine (word_Ones.calls k 0 t155 _ A13.out).mono ?_); rintro e w' ⟨rfl, ⟨nd, rfl⟩⟩) | (go_at_call 28; (with_reducible refine (word_Mask.calls k 0 64 t156 _ A15.out).mono ?_); rintro e w' ⟨rfl, ⟨nd, rfl⟩⟩) | (go_at_call 28; (with_reducible refine (word_Mask.calls k 63 9 t157 _ A17.out).mono ?_); rintro e w' ⟨rfl, ⟨nd, rfl⟩⟩) | (go_at_call 28; (with_reducible refine (word_Mask.calls k 64 1 t158 _ A19.out).mono ?_); rintro e w' ⟨rfl, ⟨nd, rfl⟩⟩) | (go_at_call 28; (with_reducible refine (word_Mask.calls k (-1) 5 t159 _ A21.out).mono ?_); rintro e w' ⟨rfl, ⟨nd, rfl⟩⟩) | (go_at_call 19; (with_reducible refine (hodmanlaw3_begun.calls k  true _ A1.out).mono ?_); rintro e w' ⟨rfl, ⟨nd, rfl⟩⟩) | (go_at_call 20; (with_reducible refine (word_LowOne.calls k 0 t150 _ A3.out).mono ?_); rintro e w' ⟨rfl, ⟨nd, rfl⟩⟩))
                        go_ret
                        exact ⟨by first | rfl | (simp; done) | (simp [*]; done), by repeat (first | exact Drawn0.refl _ | apply Drawn0.step)⟩
                    · rw [if_neg c20] at H
                      have c20b0 : (t158 == 0) = false := beq_eq_false_iff_ne.mpr c20
                      have c20b1 : (t158 != 0) = true := bne_iff_ne.mpr c20
                      obtain rfl := Option.some.inj H
                      go_enter Try.func9, Try.ntmps9
                      go_wp2_with (first | ((with_reducible refine gate_callee (f := 19) rfl ?_); refine goesL_ (some 1) rfl rfl Try.func19 (by kernel_rfl) rfl #[] rfl (by (try simp only [List.map_toArray, List.map_cons, List.map_nil]); first | done | rfl | (simp only [List.length_drop, List.length_take]; rfl)) ?_; (with_reducible refine (hodmanlaw3_begun.calls k  true _ A1.out).mono ?_); rintro e w' ⟨rfl, ⟨nd, rfl⟩⟩; refine ⟨_, rfl, ?_⟩) | ((with_reducible refine gate_callee (f := 20) rfl ?_); refine goesL_ (some 3) rfl rfl Try.func20 (by kernel_rfl) rfl #[.int .u64 0] rfl (by (try simp only [List.map_toArray, List.map_cons, List.map_nil]); first | done | rfl | (simp only [List.length_drop, List.length_take]; rfl)) ?_; (with_reducible refine (word_LowOne.calls k 0 t150 _ A3.out).mono ?_); rintro e w' ⟨rfl, ⟨nd, rfl⟩⟩; refine ⟨_, rfl, ?_⟩) | (go_at_call 22; (with_reducible refine (word_LowZero.calls k 18446744073709551615 t151 _ A5.out).mono ?_); rintro e w' ⟨rfl, ⟨nd, rfl⟩⟩) | (go_at_call 20; (with_reducible refine (word_LowOne.calls k 9223372036854775808 t152 _ A7.out).mono ?_); rintro e w' ⟨rfl, ⟨nd, rfl⟩⟩) | (go_at_call 22; (with_reducible refine (word_LowZero.calls k 0 t153 _ A9.out).mono ?_); rintro e w' ⟨rfl, ⟨nd, rfl⟩⟩) | (go_at_call 24; (with_reducible refine (word_Ones.calls k 18446744073709551615 t154 _ A11.out).mono ?_); rintro e w' ⟨rfl, ⟨nd, rfl⟩⟩) | (go_at_call 24; (with_reducible refine (word_Ones.calls k 0 t155 _ A13.out).mono ?_); rintro e w' ⟨rfl, ⟨nd, rfl⟩⟩) | (go_at_call 28; (with_reducible refine (word_Mask.calls k 0 64 t156 _ A15.out).mono ?_); rintro e w' ⟨rfl, ⟨nd, rfl⟩⟩) | (go_at_call 28; (with_reducible refine (word_Mask.calls k 63 9 t157 _ A17.out).mono ?_); rintro e w' ⟨rfl, ⟨nd, rfl⟩⟩) | (go_at_call 28; (with_reducible refine (word_Mask.calls k 64 1 t158 _ A19.out).mono ?_); rintro e w' ⟨rfl, ⟨nd, rfl⟩⟩) | (go_at_call 19; (with_reducible refine (hodmanlaw3_begun.calls k  true _ A1.out).mono ?_); rintro e w' ⟨rfl, ⟨nd, rfl⟩⟩) | (go_at_call 20; (with_reducible refine (word_LowOne.calls k 0 t150 _ A3.out).mono ?_); rintro e w' ⟨rfl, ⟨nd, rfl⟩⟩))
                      go_ret
                      exact ⟨by first | rfl | (simp; done) | (simp [*]; done), by repeat (first | exact Drawn0.refl _ | apply Drawn0.step)⟩
                  · rw [if_neg c18] at H
                    have c18b0 : (t157 == 9223372036854775808) = false := beq_eq_false_iff_ne.mpr c18
                    have c18b1 : (t157 != 9223372036854775808) = true := bne_iff_ne.mpr c18
                    obtain rfl := Option.some.inj H
                    go_enter Try.func9, Try.ntmps9
                    go_wp2_with (first | ((with_reducible refine gate_callee (f := 19) rfl ?_); refine goesL_ (some 1) rfl rfl Try.func19 (by kernel_rfl) rfl #[] rfl (by (try simp only [List.map_toArray, List.map_cons, List.map_nil]); first | done | rfl | (simp only [List.length_drop, List.length_take]; rfl)) ?_; (with_reducible refine (hodmanlaw3_begun.calls k  true _ A1.out).mono ?_); rintro e w' ⟨rfl, ⟨nd, rfl⟩⟩; refine ⟨_, rfl, ?_⟩) | ((with_reducible refine gate_callee (f := 20) rfl ?_); refine goesL_ (some 3) rfl rfl Try.func20 (by kernel_rfl) rfl #[.int .u64 0] rfl (by (try simp only [List.map_toArray, List.map_cons, List.map_nil]); first | done | rfl | (simp only [List.length_drop, List.length_take]; rfl)) ?_; (with_reducible refine (word_LowOne.calls k 0 t150 _ A3.out).mono ?_); rintro e w' ⟨rfl, ⟨nd, rfl⟩⟩; refine ⟨_, rfl, ?_⟩) | (go_at_call 22; (with_reducible refine (word_LowZero.calls k 18446744073709551615 t151 _ A5.out).mono ?_); rintro e w' ⟨rfl, ⟨nd, rfl⟩⟩) | (go_at_call 20; (with_reducible refine (word_LowOne.calls k 9223372036854775808 t152 _ A7.out).mono ?_); rintro e w' ⟨rfl, ⟨nd, rfl⟩⟩) | (go_at_call 22; (with_reducible refine (word_LowZero.calls k 0 t153 _ A9.out).mono ?_); rintro e w' ⟨rfl, ⟨nd, rfl⟩⟩) | (go_at_call 24; (with_reducible refine (word_Ones.calls k 18446744073709551615 t154 _ A11.out).mono ?_); rintro e w' ⟨rfl, ⟨nd, rfl⟩⟩) | (go_at_call 24; (with_reducible refine (word_Ones.calls k 0 t155 _ A13.out).mono ?_); rintro e w' ⟨rfl, ⟨nd, rfl⟩⟩) | (go_at_call 28; (with_reducible refine (word_Mask.calls k 0 64 t156 _ A15.out).mono ?_); rintro e w' ⟨rfl, ⟨nd, rfl⟩⟩) | (go_at_call 28; (with_reducible refine (word_Mask.calls k 63 9 t157 _ A17.out).mono ?_); rintro e w' ⟨rfl, ⟨nd, rfl⟩⟩) | (go_at_call 19; (with_reducible refine (hodmanlaw3_begun.calls k  true _ A1.out).mono ?_); rintro e w' ⟨rfl, ⟨nd, rfl⟩⟩) | (go_at_call 20; (with_reducible refine (word_LowOne.calls k 0 t150 _ A3.out).mono ?_); rintro e w' ⟨rfl, ⟨nd, rfl⟩⟩))
                    go_ret
                    exact ⟨by first | rfl | (simp; done) | (simp [*]; done), by repeat (first | exact Drawn0.refl _ | apply Drawn0.step)⟩
                · rw [if_neg c16] at H
                  have c16b0 : (t156 == 18446744073709551615) = false := beq_eq_false_iff_ne.mpr c16
                  have c16b1 : (t156 != 18446744073709551615) = true := bne_iff_ne.mpr c16
                  obtain rfl := Option.some.inj H
                  go_enter Try.func9, Try.ntmps9
                  go_wp2_with (first | ((with_reducible refine gate_callee (f := 19) rfl ?_); refine goesL_ (some 1) rfl rfl Try.func19 (by kernel_rfl) rfl #[] rfl (by (try simp only [List.map_toArray, List.map_cons, List.map_nil]); first | done | rfl | (simp only [List.length_drop, List.length_take]; rfl)) ?_; (with_reducible refine (hodmanlaw3_begun.calls k  true _ A1.out).mono ?_); rintro e w' ⟨rfl, ⟨nd, rfl⟩⟩; refine ⟨_, rfl, ?_⟩) | ((with_reducible refine gate_callee (f := 20) rfl ?_); refine goesL_ (some 3) rfl rfl Try.func20 (by kernel_rfl) rfl #[.int .u64 0] rfl (by (try simp only [List.map_toArray, List.map_cons, List.map_nil]); first | done | rfl | (simp only [List.length_drop, List.length_take]; rfl)) ?_; (with_reducible refine (word_LowOne.calls k 0 t150 _ A3.out).mono ?_); rintro e w' ⟨rfl, ⟨nd, rfl⟩⟩; refine ⟨_, rfl, ?_⟩) | (go_at_call 22; (with_reducible refine (word_LowZero.calls k 18446744073709551615 t151 _ A5.out).mono ?_); rintro e w' ⟨rfl, ⟨nd, rfl⟩⟩) | (go_at_call 20; (with_reducible refine (word_LowOne.calls k 9223372036854775808 t152 _ A7.out).mono ?_); rintro e w' ⟨rfl, ⟨nd, rfl⟩⟩) | (go_at_call 22; (with_reducible refine (word_LowZero.calls k 0 t153 _ A9.out).mono ?_); rintro e w' ⟨rfl, ⟨nd, rfl⟩⟩) | (go_at_call 24; (with_reducible refine (word_Ones.calls k 18446744073709551615 t154 _ A11.out).mono ?_); rintro e w' ⟨rfl, ⟨nd, rfl⟩⟩) | (go_at_call 24; (with_reducible refine (word_Ones.calls k 0 t155 _ A13.out).mono ?_); rintro e w' ⟨rfl, ⟨nd, rfl⟩⟩) | (go_at_call 28; (with_reducible refine (word_Mask.calls k 0 64 t156 _ A15.out).mono ?_); rintro e w' ⟨rfl, ⟨nd, rfl⟩⟩) | (go_at_call 19; (with_reducible refine (hodmanlaw3_begun.calls k  true _ A1.out).mono ?_); rintro e w' ⟨rfl, ⟨nd, rfl⟩⟩) | (go_at_call 20; (with_reducible refine (word_LowOne.calls k 0 t150 _ A3.out).mono ?_); rintro e w' ⟨rfl, ⟨nd, rfl⟩⟩))
                  go_ret
                  exact ⟨by first | rfl | (simp; done) | (simp [*]; done), by repeat (first | exact Drawn0.refl _ | apply Drawn0.step)⟩
              · rw [if_neg c14] at H
                have c14b0 : (t155 == 0) = false := beq_eq_false_iff_ne.mpr c14
                have c14b1 : (t155 != 0) = true := bne_iff_ne.mpr c14
                obtain rfl := Option.some.inj H
                go_enter Try.func9, Try.ntmps9
                go_wp2_with (first | ((with_reducible refine gate_callee (f := 19) rfl ?_); refine goesL_ (some 1) rfl rfl Try.func19 (by kernel_rfl) rfl #[] rfl (by (try simp only [List.map_toArray, List.map_cons, List.map_nil]); first | done | rfl | (simp only [List.length_drop, List.length_take]; rfl)) ?_; (with_reducible refine (hodmanlaw3_begun.calls k  true _ A1.out).mono ?_); rintro e w' ⟨rfl, ⟨nd, rfl⟩⟩; refine ⟨_, rfl, ?_⟩) | ((with_reducible refine gate_callee (f := 20) rfl ?_); refine goesL_ (some 3) rfl rfl Try.func20 (by kernel_rfl) rfl #[.int .u64 0] rfl (by (try simp only [List.map_toArray, List.map_cons, List.map_nil]); first | done | rfl | (simp only [List.length_drop, List.length_take]; rfl)) ?_; (with_reducible refine (word_LowOne.calls k 0 t150 _ A3.out).mono ?_); rintro e w' ⟨rfl, ⟨nd, rfl⟩⟩; refine ⟨_, rfl, ?_⟩) | (go_at_call 22; (with_reducible refine (word_LowZero.calls k 18446744073709551615 t151 _ A5.out).mono ?_); rintro e w' ⟨rfl, ⟨nd, rfl⟩⟩) | (go_at_call 20; (with_reducible refine (word_LowOne.calls k 9223372036854775808 t152 _ A7.out).mono ?_); rintro e w' ⟨rfl, ⟨nd, rfl⟩⟩) | (go_at_call 22; (with_reducible refine (word_LowZero.calls k 0 t153 _ A9.out).mono ?_); rintro e w' ⟨rfl, ⟨nd, rfl⟩⟩) | (go_at_call 24; (with_reducible refine (word_Ones.calls k 18446744073709551615 t154 _ A11.out).mono ?_); rintro e w' ⟨rfl, ⟨nd, rfl⟩⟩) | (go_at_call 24; (with_reducible refine (word_Ones.calls k 0 t155 _ A13.out).mono ?_); rintro e w' ⟨rfl, ⟨nd, rfl⟩⟩) | (go_at_call 19; (with_reducible refine (hodmanlaw3_begun.calls k  true _ A1.out).mono ?_); rintro e w' ⟨rfl, ⟨nd, rfl⟩⟩) | (go_at_call 20; (with_reducible refine (word_LowOne.calls k 0 t150 _ A3.out).mono ?_); rintro e w' ⟨rfl, ⟨nd, rfl⟩⟩))
                go_ret
                exact ⟨by first | rfl | (simp; done) | (simp [*]; done), by repeat (first | exact Drawn0.refl _ | apply Drawn0.step)⟩
            · rw [if_neg c12] at H
              have c12b0 : (t154 == 64) = false := beq_eq_false_iff_ne.mpr c12
              have c12b1 : (t154 != 64) = true := bne_iff_ne.mpr c12
              obtain rfl := Option.some.inj H
              go_enter Try.func9, Try.ntmps9
              go_wp2_with (first | ((with_reducible refine gate_callee (f := 19) rfl ?_); refine goesL_ (some 1) rfl rfl Try.func19 (by kernel_rfl) rfl #[] rfl (by (try simp only [List.map_toArray, List.map_cons, List.map_nil]); first | done | rfl | (simp only [List.length_drop, List.length_take]; rfl)) ?_; (with_reducible refine (hodmanlaw3_begun.calls k  true _ A1.out).mono ?_); rintro e w' ⟨rfl, ⟨nd, rfl⟩⟩; refine ⟨_, rfl, ?_⟩) | ((with_reducible refine gate_callee (f := 20) rfl ?_); refine goesL_ (some 3) rfl rfl Try.func20 (by kernel_rfl) rfl #[.int .u64 0] rfl (by (try simp only [List.map_toArray, List.map_cons, List.map_nil]); first | done | rfl | (simp only [List.length_drop, List.length_take]; rfl)) ?_; (with_reducible refine (word_LowOne.calls k 0 t150 _ A3.out).mono ?_); rintro e w' ⟨rfl, ⟨nd, rfl⟩⟩; refine ⟨_, rfl, ?_⟩) | (go_at_call 22; (with_reducible refine (word_LowZero.calls k 18446744073709551615 t151 _ A5.out).mono ?_); rintro e w' ⟨rfl, ⟨nd, rfl⟩⟩) | (go_at_call 20; (with_reducible refine (word_LowOne.calls k 9223372036854775808 t152 _ A7.out).mono ?_); rintro e w' ⟨rfl, ⟨nd, rfl⟩⟩) | (go_at_call 22; (with_reducible refine (word_LowZero.calls k 0 t153 _ A9.out).mono ?_); rintro e w' ⟨rfl, ⟨nd, rfl⟩⟩) | (go_at_call 24; (with_reducible refine (word_Ones.calls k 18446744073709551615 t154 _ A11.out).mono ?_); rintro e w' ⟨rfl, ⟨nd, rfl⟩⟩) | (go_at_call 19; (with_reducible refine (hodmanlaw3_begun.calls k  true _ A1.out).mono ?_); rintro e w' ⟨rfl, ⟨nd, rfl⟩⟩) | (go_at_call 20; (with_reducible refine (word_LowOne.calls k 0 t150 _ A3.out).mono ?_); rintro e w' ⟨rfl, ⟨nd, rfl⟩⟩))
              go_ret
              exact ⟨by first | rfl | (simp; done) | (simp [*]; done), by repeat (first | exact Drawn0.refl _ | apply Drawn0.step)⟩
          · rw [if_neg c10] at H
            have c10b0 : (t153 == 0) = false := beq_eq_false_iff_ne.mpr c10
            have c10b1 : (t153 != 0) = true := bne_iff_ne.mpr c10
            obtain rfl := Option.some.inj H
            go_enter Try.func9, Try.ntmps9
            go_wp2_with (first | ((with_reducible refine gate_callee (f := 19) rfl ?_); refine goesL_ (some 1) rfl rfl Try.func19 (by kernel_rfl) rfl #[] rfl (by (try simp only [List.map_toArray, List.map_cons, List.map_nil]); first | done | rfl | (simp only [List.length_drop, List.length_take]; rfl)) ?_; (with_reducible refine (hodmanlaw3_begun.calls k  true _ A1.out).mono ?_); rintro e w' ⟨rfl, ⟨nd, rfl⟩⟩; refine ⟨_, rfl, ?_⟩) | ((with_reducible refine gate_callee (f := 20) rfl ?_); refine goesL_ (some 3) rfl rfl Try.func20 (by kernel_rfl) rfl #[.int .u64 0] rfl (by (try simp only [List.map_toArray, List.map_cons, List.map_nil]); first | done | rfl | (simp only [List.length_drop, List.length_take]; rfl)) ?_; (with_reducible refine (word_LowOne.calls k 0 t150 _ A3.out).mono ?_); rintro e w' ⟨rfl, ⟨nd, rfl⟩⟩; refine ⟨_, rfl, ?_⟩) | (go_at_call 22; (with_reducible refine (word_LowZero.calls k 18446744073709551615 t151 _ A5.out).mono ?_); rintro e w' ⟨rfl, ⟨nd, rfl⟩⟩) | (go_at_call 20; (with_reducible refine (word_LowOne.calls k 9223372036854775808 t152 _ A7.out).mono ?_); rintro e w' ⟨rfl, ⟨nd, rfl⟩⟩) | (go_at_call 22; (with_reducible refine (word_LowZero.calls k 0 t153 _ A9.out).mono ?_); rintro e w' ⟨rfl, ⟨nd, rfl⟩⟩) | (go_at_call 19; (with_reducible refine (hodmanlaw3_begun.calls k  true _ A1.out).mono ?_); rintro e w' ⟨rfl, ⟨nd, rfl⟩⟩) | (go_at_call 20; (with_reducible refine (word_LowOne.calls k 0 t150 _ A3.out).mono ?_); rintro e w' ⟨rfl, ⟨nd, rfl⟩⟩))
            go_ret
            exact ⟨by first | rfl | (simp; done) | (simp [*]; done), by repeat (first | exact Drawn0.refl _ | apply Drawn0.step)⟩
        · rw [if_neg c8] at H
          have c8b0 : (t152 == 63) = false := beq_eq_false_iff_ne.mpr c8
          have c8b1 : (t152 != 63) = true := bne_iff_ne.mpr c8
          obtain rfl := Option.some.inj H
          go_enter Try.func9, Try.ntmps9
          go_wp2_with (first | ((with_reducible refine gate_callee (f := 19) rfl ?_); refine goesL_ (some 1) rfl rfl Try.func19 (by kernel_rfl) rfl #[] rfl (by (try simp only [List.map_toArray, List.map_cons, List.map_nil]); first | done | rfl | (simp only [List.length_drop, List.length_take]; rfl)) ?_; (with_reducible refine (hodmanlaw3_begun.calls k  true _ A1.out).mono ?_); rintro e w' ⟨rfl, ⟨nd, rfl⟩⟩; refine ⟨_, rfl, ?_⟩) | ((with_reducible refine gate_callee (f := 20) rfl ?_); refine goesL_ (some 3) rfl rfl Try.func20 (by kernel_rfl) rfl #[.int .u64 0] rfl (by (try simp only [List.map_toArray, List.map_cons, List.map_nil]); first | done | rfl | (simp only [List.length_drop, List.length_take]; rfl)) ?_; (with_reducible refine (word_LowOne.calls k 0 t150 _ A3.out).mono ?_); rintro e w' ⟨rfl, ⟨nd, rfl⟩⟩; refine ⟨_, rfl, ?_⟩) | (go_at_call 22; (with_reducible refine (word_LowZero.calls k 18446744073709551615 t151 _ A5.out).mono ?_); rintro e w' ⟨rfl, ⟨nd, rfl⟩⟩) | (go_at_call 20; (with_reducible refine (word_LowOne.calls k 9223372036854775808 t152 _ A7.out).mono ?_); rintro e w' ⟨rfl, ⟨nd, rfl⟩⟩) | (go_at_call 19; (with_reducible refine (hodmanlaw3_begun.calls k  true _ A1.out).mono ?_); rintro e w' ⟨rfl, ⟨nd, rfl⟩⟩) | (go_at_call 20; (with_reducible refine (word_LowOne.calls k 0 t150 _ A3.out).mono ?_); rintro e w' ⟨rfl, ⟨nd, rfl⟩⟩))
          go_ret
          exact ⟨by first | rfl | (simp; done) | (simp [*]; done), by repeat (first | exact Drawn0.refl _ | apply Drawn0.step)⟩
      · rw [if_neg c6] at H
        have c6b0 : (t151 == 64) = false := beq_eq_false_iff_ne.mpr c6
        have c6b1 : (t151 != 64) = true := bne_iff_ne.mpr c6
        obtain rfl := Option.some.inj H
        go_enter Try.func9, Try.ntmps9
        go_wp2_with (first | ((with_reducible refine gate_callee (f := 19) rfl ?_); refine goesL_ (some 1) rfl rfl Try.func19 (by kernel_rfl) rfl #[] rfl (by (try simp only [List.map_toArray, List.map_cons, List.map_nil]); first | done | rfl | (simp only [List.length_drop, List.length_take]; rfl)) ?_; (with_reducible refine (hodmanlaw3_begun.calls k  true _ A1.out).mono ?_); rintro e w' ⟨rfl, ⟨nd, rfl⟩⟩; refine ⟨_, rfl, ?_⟩) | ((with_reducible refine gate_callee (f := 20) rfl ?_); refine goesL_ (some 3) rfl rfl Try.func20 (by kernel_rfl) rfl #[.int .u64 0] rfl (by (try simp only [List.map_toArray, List.map_cons, List.map_nil]); first | done | rfl | (simp only [List.length_drop, List.length_take]; rfl)) ?_; (with_reducible refine (word_LowOne.calls k 0 t150 _ A3.out).mono ?_); rintro e w' ⟨rfl, ⟨nd, rfl⟩⟩; refine ⟨_, rfl, ?_⟩) | (go_at_call 22; (with_reducible refine (word_LowZero.calls k 18446744073709551615 t151 _ A5.out).mono ?_); rintro e w' ⟨rfl, ⟨nd, rfl⟩⟩) | (go_at_call 19; (with_reducible refine (hodmanlaw3_begun.calls k  true _ A1.out).mono ?_); rintro e w' ⟨rfl, ⟨nd, rfl⟩⟩) | (go_at_call 20; (with_reducible refine (word_LowOne.calls k 0 t150 _ A3.out).mono ?_); rintro e w' ⟨rfl, ⟨nd, rfl⟩⟩))
        go_ret
        exact ⟨by first | rfl | (simp; done) | (simp [*]; done), by repeat (first | exact Drawn0.refl _ | apply Drawn0.step)⟩
    · rw [if_neg c4] at H
      have c4b0 : (t150 == 64) = false := beq_eq_false_iff_ne.mpr c4
      have c4b1 : (t150 != 64) = true := bne_iff_ne.mpr c4
      obtain rfl := Option.some.inj H
      go_enter Try.func9, Try.ntmps9
      go_wp2_with (first | ((with_reducible refine gate_callee (f := 19) rfl ?_); refine goesL_ (some 1) rfl rfl Try.func19 (by kernel_rfl) rfl #[] rfl (by (try simp only [List.map_toArray, List.map_cons, List.map_nil]); first | done | rfl | (simp only [List.length_drop, List.length_take]; rfl)) ?_; (with_reducible refine (hodmanlaw3_begun.calls k  true _ A1.out).mono ?_); rintro e w' ⟨rfl, ⟨nd, rfl⟩⟩; refine ⟨_, rfl, ?_⟩) | ((with_reducible refine gate_callee (f := 20) rfl ?_); refine goesL_ (some 3) rfl rfl Try.func20 (by kernel_rfl) rfl #[.int .u64 0] rfl (by (try simp only [List.map_toArray, List.map_cons, List.map_nil]); first | done | rfl | (simp only [List.length_drop, List.length_take]; rfl)) ?_; (with_reducible refine (word_LowOne.calls k 0 t150 _ A3.out).mono ?_); rintro e w' ⟨rfl, ⟨nd, rfl⟩⟩; refine ⟨_, rfl, ?_⟩) | (go_at_call 19; (with_reducible refine (hodmanlaw3_begun.calls k  true _ A1.out).mono ?_); rintro e w' ⟨rfl, ⟨nd, rfl⟩⟩) | (go_at_call 20; (with_reducible refine (word_LowOne.calls k 0 t150 _ A3.out).mono ?_); rintro e w' ⟨rfl, ⟨nd, rfl⟩⟩))
      go_ret
      exact ⟨by first | rfl | (simp; done) | (simp [*]; done), by repeat (first | exact Drawn0.refl _ | apply Drawn0.step)⟩
  · replace c2 := Bool.eq_false_iff.mpr c2
    subst c2
    have H1 : (some false) = some r := by rw [if_neg (show ¬ (false = true) by decide)] at H; exact H
    clear H
    have H := H1
    clear H1
    obtain rfl := Option.some.inj H
    go_enter Try.func9, Try.ntmps9
    go_wp2_with (first | ((with_reducible refine gate_callee (f := 19) rfl ?_); refine goesL_ (some 1) rfl rfl Try.func19 (by kernel_rfl) rfl #[] rfl (by (try simp only [List.map_toArray, List.map_cons, List.map_nil]); first | done | rfl | (simp only [List.length_drop, List.length_take]; rfl)) ?_; (with_reducible refine (hodmanlaw3_begun.calls k  false _ A1.out).mono ?_); rintro e w' ⟨rfl, ⟨nd, rfl⟩⟩; refine ⟨_, rfl, ?_⟩) | (go_at_call 19; (with_reducible refine (hodmanlaw3_begun.calls k  false _ A1.out).mono ?_); rintro e w' ⟨rfl, ⟨nd, rfl⟩⟩))
    go_ret
    exact ⟨by first | rfl | (simp; done) | (simp [*]; done), by repeat (first | exact Drawn0.refl _ | apply Drawn0.step)⟩

/-- THE ONE PURE STATEMENT of hodmanlaw3_WordForms: yours. -/
def hodmanlaw3_WordForms.Pure : Prop := ∃ k, hodmanlaw3_WordForms.f k  = some true
theorem hodmanlaw3_WordForms.walk (P : hodmanlaw3_WordForms.Pure)  (w : World)  :
    Calls Try.prog 9 #[] w fun e w' => e = .returned (.bool true) ∧ Below w.heap.size w w' := by
  obtain ⟨k, h⟩ := P  
  refine (hodmanlaw3_WordForms.calls k  true w h).mono ?_
  rintro e w' ⟨rfl, hd⟩
  exact ⟨rfl, hd.below⟩

end Go.Proofs.Ytflmdnjcniidgaa.PWord
