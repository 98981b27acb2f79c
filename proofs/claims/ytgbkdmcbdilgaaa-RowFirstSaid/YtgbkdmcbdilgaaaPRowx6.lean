/- Written by a program of this session (wip/tools/ext.py) out of the translation: Go functions told as Lean functions, with their walks; or the row of a law out of its plain part. Lean checks it. -/
import Derived.Test.YtgbkdmcbdilgaaaPRowx0
import Derived.Test.YtgbkdmcbdilgaaaPRowx2
import Derived.Test.YtgbkdmcbdilgaaaPRowx3
import Derived.Test.YtgbkdmcbdilgaaaPRowx4
import Derived.Test.YtgbkdmcbdilgaaaPRowx5
namespace Go.Proofs.Ytgbkdmcbdilgaaa.PRow
open Go.RowKit Go.Proofs.YtgbkdmcbdilgaaaW.PrintWords Go.Proofs.YtgbkdmcbdilgaaaW.PrintLast Go.Proofs.YtgbkdmcbdilgaaaW.PrintMore
attribute [local go_sem] max2_int min2_int max_two min_two max_three min_three max_four min_four   -- for this text's walks alone
set_option linter.unusedVariables false
set_option linter.unusedSimpArgs false

/-! ### hodmanlaw4_RowFirst: function 6 -/
def hodmanlaw4_RowFirst.f (k : Nat) (l0 : List Int) (a1 : Int) (a2 : Int) : Option (Bool) := (hodmanlaw4_begun.f k).bind fun t137 => (if t137 = true then (if (l0.length : Int) > 100 then (some true) else ((hodmanplay_Words.f k l0).bind fun t138 => ((row_FirstZero.f k t138 (wrap64 (Int.tmod a1 900)) (wrap64 (Int.tmod a2 900))).bind fun bt141 => (if bt141.2 = true then (if bt141.1 ≥ (wrap64 (Int.tmod a2 900)) then (if bt141.1 < (mn (wrap64 (Int.tmod a1 900)) (wrap64 (64 * (t138.length : Int)))) then ((row_Has.f t138 bt141.1).bind fun t143 => (if t143 = true then (some false) else ((row_Count.f t138 (wrap64 (Int.tmod a2 900)) (wrap64 (bt141.1 - (wrap64 (Int.tmod a2 900))))).bind fun t144 => (some (t144 == (wrap64 (bt141.1 - (wrap64 (Int.tmod a2 900))))))))) else (some false)) else (some false)) else (if bt141.1 = 0 then (if (wrap64 (Int.tmod a2 900)) ≥ (mn (wrap64 (Int.tmod a1 900)) (wrap64 (64 * (t138.length : Int)))) then (some true) else ((row_Count.f t138 (wrap64 (Int.tmod a2 900)) (wrap64 ((mn (wrap64 (Int.tmod a1 900)) (wrap64 (64 * (t138.length : Int)))) - (wrap64 (Int.tmod a2 900))))).bind fun t145 => (some (t145 == (wrap64 ((mn (wrap64 (Int.tmod a1 900)) (wrap64 (64 * (t138.length : Int)))) - (wrap64 (Int.tmod a2 900)))))))) else (some false)))))) else (some false))
theorem hodmanlaw4_RowFirst.mono : ∀ a0 a1 a2 k, LeO (hodmanlaw4_RowFirst.f k a0 a1 a2) (hodmanlaw4_RowFirst.f (k + 1) a0 a1 a2) := by
  intro a0 a1 a2 k
  unfold hodmanlaw4_RowFirst.f
  repeat' first
      | (with_reducible exact hodmanlaw4_begun.mono _)
      | (with_reducible exact hodmanplay_Words.mono _ _)
      | (with_reducible exact row_FirstZero.mono _ _ _ _)
      | (with_reducible exact LeO.refl _)
      | (with_reducible exact LeO.none _)
      | (with_reducible refine LeO.ite ?_ ?_)
      | (with_reducible refine LeO.bind ?_ (fun _ => ?_))
      | exact hodmanlaw4_begun.mono _
      | exact hodmanplay_Words.mono _ _
      | exact row_FirstZero.mono _ _ _ _
      | exact LeO.none _
      | refine LeO.ite ?_ ?_
      | refine LeO.bind ?_ (fun _ => ?_)
set_option maxHeartbeats 8000000 in
set_option maxRecDepth 100000 in
theorem hodmanlaw4_RowFirst.calls (k : Nat) (A0 : Option Addr) (c0 : Nat) (l0 : List Int) (a1 : Int) (a2 : Int) (r : Bool) (w : World) (hr0 : Kd.C (Kd.int .u8) w A0 l0.length l0) (hc0 : l0.length ≤ c0) (h : hodmanlaw4_RowFirst.f k l0 a1 a2 = some r) (hrt_ : r = true) :
    Calls Try.prog 6 #[.slice A0 l0.length c0, .int .u16 a1, .int .u16 a2] w fun e w' => e = .returned (.bool r) ∧ Below w.heap.size w w' := by
  have HR0 := Aside0.mk hr0
  have HC0 := Aside0.mk hc0
  clear hr0 hc0
  have HB := Aside0.mk (Below.refl w.heap.size w)
  have H : ((hodmanlaw4_begun.f k).bind fun t137 => (if t137 = true then (if (l0.length : Int) > 100 then (some true) else ((hodmanplay_Words.f k l0).bind fun t138 => ((row_FirstZero.f k t138 (wrap64 (Int.tmod a1 900)) (wrap64 (Int.tmod a2 900))).bind fun bt141 => (if bt141.2 = true then (if bt141.1 ≥ (wrap64 (Int.tmod a2 900)) then (if bt141.1 < (mn (wrap64 (Int.tmod a1 900)) (wrap64 (64 * (t138.length : Int)))) then ((row_Has.f t138 bt141.1).bind fun t143 => (if t143 = true then (some false) else ((row_Count.f t138 (wrap64 (Int.tmod a2 900)) (wrap64 (bt141.1 - (wrap64 (Int.tmod a2 900))))).bind fun t144 => (some (t144 == (wrap64 (bt141.1 - (wrap64 (Int.tmod a2 900))))))))) else (some false)) else (some false)) else (if bt141.1 = 0 then (if (wrap64 (Int.tmod a2 900)) ≥ (mn (wrap64 (Int.tmod a1 900)) (wrap64 (64 * (t138.length : Int)))) then (some true) else ((row_Count.f t138 (wrap64 (Int.tmod a2 900)) (wrap64 ((mn (wrap64 (Int.tmod a1 900)) (wrap64 (64 * (t138.length : Int)))) - (wrap64 (Int.tmod a2 900))))).bind fun t145 => (some (t145 == (wrap64 ((mn (wrap64 (Int.tmod a1 900)) (wrap64 (64 * (t138.length : Int)))) - (wrap64 (Int.tmod a2 900)))))))) else (some false)))))) else (some false))) = some r := h
  clear h
  have HRT := Aside0.mk hrt_
  clear hrt_
  replace H := Option.bind_eq_some_iff.mp H
  obtain ⟨t137, A40, H⟩ := H
  replace H : (if t137 = true then (if (l0.length : Int) > 100 then (some true) else ((hodmanplay_Words.f k l0).bind fun t138 => ((row_FirstZero.f k t138 (wrap64 (Int.tmod a1 900)) (wrap64 (Int.tmod a2 900))).bind fun bt141 => (if bt141.2 = true then (if bt141.1 ≥ (wrap64 (Int.tmod a2 900)) then (if bt141.1 < (mn (wrap64 (Int.tmod a1 900)) (wrap64 (64 * (t138.length : Int)))) then ((row_Has.f t138 bt141.1).bind fun t143 => (if t143 = true then (some false) else ((row_Count.f t138 (wrap64 (Int.tmod a2 900)) (wrap64 (bt141.1 - (wrap64 (Int.tmod a2 900))))).bind fun t144 => (some (t144 == (wrap64 (bt141.1 - (wrap64 (Int.tmod a2 900))))))))) else (some false)) else (some false)) else (if bt141.1 = 0 then (if (wrap64 (Int.tmod a2 900)) ≥ (mn (wrap64 (Int.tmod a1 900)) (wrap64 (64 * (t138.length : Int)))) then (some true) else ((row_Count.f t138 (wrap64 (Int.tmod a2 900)) (wrap64 ((mn (wrap64 (Int.tmod a1 900)) (wrap64 (64 * (t138.length : Int)))) - (wrap64 (Int.tmod a2 900))))).bind fun t145 => (some (t145 == (wrap64 ((mn (wrap64 (Int.tmod a1 900)) (wrap64 (64 * (t138.length : Int)))) - (wrap64 (Int.tmod a2 900)))))))) else (some false)))))) else (some false)) = some r := H
  have A4 := Aside0.mk A40
  clear A40
  by_cases c5 : t137 = true
  · subst c5
    have H1 : (if (l0.length : Int) > 100 then (some true) else ((hodmanplay_Words.f k l0).bind fun t138 => ((row_FirstZero.f k t138 (wrap64 (Int.tmod a1 900)) (wrap64 (Int.tmod a2 900))).bind fun bt141 => (if bt141.2 = true then (if bt141.1 ≥ (wrap64 (Int.tmod a2 900)) then (if bt141.1 < (mn (wrap64 (Int.tmod a1 900)) (wrap64 (64 * (t138.length : Int)))) then ((row_Has.f t138 bt141.1).bind fun t143 => (if t143 = true then (some false) else ((row_Count.f t138 (wrap64 (Int.tmod a2 900)) (wrap64 (bt141.1 - (wrap64 (Int.tmod a2 900))))).bind fun t144 => (some (t144 == (wrap64 (bt141.1 - (wrap64 (Int.tmod a2 900))))))))) else (some false)) else (some false)) else (if bt141.1 = 0 then (if (wrap64 (Int.tmod a2 900)) ≥ (mn (wrap64 (Int.tmod a1 900)) (wrap64 (64 * (t138.length : Int)))) then (some true) else ((row_Count.f t138 (wrap64 (Int.tmod a2 900)) (wrap64 ((mn (wrap64 (Int.tmod a1 900)) (wrap64 (64 * (t138.length : Int)))) - (wrap64 (Int.tmod a2 900))))).bind fun t145 => (some (t145 == (wrap64 ((mn (wrap64 (Int.tmod a1 900)) (wrap64 (64 * (t138.length : Int)))) - (wrap64 (Int.tmod a2 900)))))))) else (some false)))))) = some r := by rw [if_pos rfl] at H; exact H
    clear H
    have H := H1
    clear H1
    by_cases c6 : (l0.length : Int) > 100
    · rw [if_pos c6] at H
      have c6b0 : decide (100 < (l0.length : Int)) = true := decide_eq_true c6
      have c6b1 : decide (100 < l0.length) = true := decide_eq_true (by omega)
      clear c6
      obtain rfl := Option.some.inj H
      go_enter Try.func6, Try.ntmps6
      go_wp2_with (first | ((with_reducible refine gate_callee (f := 20) rfl ?_); refine goesL_ (some 13) rfl rfl Try.func20 (by kernel_rfl) rfl #[] rfl (by (try simp only [List.map_toArray, List.map_cons, List.map_nil]); first | done | rfl | (simp only [List.length_drop, List.length_take]; rfl)) ?_; (with_reducible refine (hodmanlaw4_begun.calls k  true _ A4.out).mono ?_); rintro e w7 ⟨rfl, hb⟩; refine ⟨_, rfl, ?_⟩; have n0_ := Aside0.mk (below_step (by repeat (first | (with_reducible first | exact HB.out | apply below_alloc | apply pw_below_drewN | apply below_drew1) | exact HB.out)) hb); clear HB; have HB := n0_; clear n0_; (try clear hb); (try clear hb2); (try clear hk); (try clear hi)))
      go_ret
      exact ⟨by first | rfl | (simp [errW_none, errW_some] <;> rfl) | (simp [*, errW_none, errW_some] <;> rfl), by repeat (first | (with_reducible first | exact HB.out | apply below_alloc | apply pw_below_drewN | apply below_drew1) | exact HB.out)⟩
    · rw [if_neg c6] at H
      have c6b0 : decide (100 < (l0.length : Int)) = false := decide_eq_false c6
      have c6b1 : decide (100 < l0.length) = false := decide_eq_false (by omega)
      clear c6
      replace H := Option.bind_eq_some_iff.mp H
      obtain ⟨t138, A80, H⟩ := H
      replace H : ((row_FirstZero.f k t138 (wrap64 (Int.tmod a1 900)) (wrap64 (Int.tmod a2 900))).bind fun bt141 => (if bt141.2 = true then (if bt141.1 ≥ (wrap64 (Int.tmod a2 900)) then (if bt141.1 < (mn (wrap64 (Int.tmod a1 900)) (wrap64 (64 * (t138.length : Int)))) then ((row_Has.f t138 bt141.1).bind fun t143 => (if t143 = true then (some false) else ((row_Count.f t138 (wrap64 (Int.tmod a2 900)) (wrap64 (bt141.1 - (wrap64 (Int.tmod a2 900))))).bind fun t144 => (some (t144 == (wrap64 (bt141.1 - (wrap64 (Int.tmod a2 900))))))))) else (some false)) else (some false)) else (if bt141.1 = 0 then (if (wrap64 (Int.tmod a2 900)) ≥ (mn (wrap64 (Int.tmod a1 900)) (wrap64 (64 * (t138.length : Int)))) then (some true) else ((row_Count.f t138 (wrap64 (Int.tmod a2 900)) (wrap64 ((mn (wrap64 (Int.tmod a1 900)) (wrap64 (64 * (t138.length : Int)))) - (wrap64 (Int.tmod a2 900))))).bind fun t145 => (some (t145 == (wrap64 ((mn (wrap64 (Int.tmod a1 900)) (wrap64 (64 * (t138.length : Int)))) - (wrap64 (Int.tmod a2 900)))))))) else (some false)))) = some r := H
      have A8 := Aside0.mk A80
      clear A80
      replace H := Option.bind_eq_some_iff.mp H
      obtain ⟨⟨t141, t142⟩, A90, H⟩ := H
      replace H : (if t142 = true then (if t141 ≥ (wrap64 (Int.tmod a2 900)) then (if t141 < (mn (wrap64 (Int.tmod a1 900)) (wrap64 (64 * (t138.length : Int)))) then ((row_Has.f t138 t141).bind fun t143 => (if t143 = true then (some false) else ((row_Count.f t138 (wrap64 (Int.tmod a2 900)) (wrap64 (t141 - (wrap64 (Int.tmod a2 900))))).bind fun t144 => (some (t144 == (wrap64 (t141 - (wrap64 (Int.tmod a2 900))))))))) else (some false)) else (some false)) else (if t141 = 0 then (if (wrap64 (Int.tmod a2 900)) ≥ (mn (wrap64 (Int.tmod a1 900)) (wrap64 (64 * (t138.length : Int)))) then (some true) else ((row_Count.f t138 (wrap64 (Int.tmod a2 900)) (wrap64 ((mn (wrap64 (Int.tmod a1 900)) (wrap64 (64 * (t138.length : Int)))) - (wrap64 (Int.tmod a2 900))))).bind fun t145 => (some (t145 == (wrap64 ((mn (wrap64 (Int.tmod a1 900)) (wrap64 (64 * (t138.length : Int)))) - (wrap64 (Int.tmod a2 900)))))))) else (some false))) = some r := H
      have A9 := Aside0.mk A90
      clear A90
      obtain ⟨ji10, hji10⟩ : ∃ j_ : Int, (mn (wrap64 (Int.tmod a1 900)) (wrap64 (64 * (t138.length : Int)))) = j_ := ⟨_, rfl⟩
      replace H : (if t142 = true then (if t141 ≥ (wrap64 (Int.tmod a2 900)) then (if t141 < (ji10) then ((row_Has.f t138 t141).bind fun t143 => (if t143 = true then (some false) else ((row_Count.f t138 (wrap64 (Int.tmod a2 900)) (wrap64 (t141 - (wrap64 (Int.tmod a2 900))))).bind fun t144 => (some (t144 == (wrap64 (t141 - (wrap64 (Int.tmod a2 900))))))))) else (some false)) else (some false)) else (if t141 = 0 then (if (wrap64 (Int.tmod a2 900)) ≥ (ji10) then (some true) else ((row_Count.f t138 (wrap64 (Int.tmod a2 900)) (wrap64 ((ji10) - (wrap64 (Int.tmod a2 900))))).bind fun t145 => (some (t145 == (wrap64 ((ji10) - (wrap64 (Int.tmod a2 900)))))))) else (some false))) = some r := by first | (rw [hji10] at H; exact H) | (simp only [hji10] at H ⊢; exact H)
      (try rw [hji10] at A4)
      (try rw [hji10] at A8)
      (try rw [hji10] at A9)
      have hji10_ : (if (wrap64 (64 * (t138.length : Int))) < (wrap64 (Int.tmod a1 900)) then (wrap64 (64 * (t138.length : Int))) else (wrap64 (Int.tmod a1 900))) = ji10 := hji10
      by_cases c11 : t142 = true
      · subst c11
        have H1 : (if t141 ≥ (wrap64 (Int.tmod a2 900)) then (if t141 < (ji10) then ((row_Has.f t138 t141).bind fun t143 => (if t143 = true then (some false) else ((row_Count.f t138 (wrap64 (Int.tmod a2 900)) (wrap64 (t141 - (wrap64 (Int.tmod a2 900))))).bind fun t144 => (some (t144 == (wrap64 (t141 - (wrap64 (Int.tmod a2 900))))))))) else (some false)) else (some false)) = some r := by rw [if_pos rfl] at H; exact H
        clear H
        have H := H1
        clear H1
        by_cases c12 : t141 ≥ (wrap64 (Int.tmod a2 900))
        · rw [if_pos c12] at H
          have c12b0 : decide ((wrap64 (Int.tmod a2 900)) ≤ t141) = true := decide_eq_true c12
          clear c12
          by_cases c13 : t141 < (ji10)
          · rw [if_pos c13] at H
            have c13b0 : decide (t141 < (ji10)) = true := decide_eq_true c13
            clear c13
            replace H := Option.bind_eq_some_iff.mp H
            obtain ⟨t143, A140, H⟩ := H
            replace H : (if t143 = true then (some false) else ((row_Count.f t138 (wrap64 (Int.tmod a2 900)) (wrap64 (t141 - (wrap64 (Int.tmod a2 900))))).bind fun t144 => (some (t144 == (wrap64 (t141 - (wrap64 (Int.tmod a2 900)))))))) = some r := H
            have A14 := Aside0.mk A140
            clear A140
            by_cases c15 : t143 = true
            · subst c15
              have H1 : (some false) = some r := by rw [if_pos rfl] at H; exact H
              clear H
              have H := H1
              clear H1
              exact absurd ((Option.some.inj H).trans HRT.out) (by decide)
            · replace c15 := Bool.eq_false_iff.mpr c15
              subst c15
              have H1 : ((row_Count.f t138 (wrap64 (Int.tmod a2 900)) (wrap64 (t141 - (wrap64 (Int.tmod a2 900))))).bind fun t144 => (some (t144 == (wrap64 (t141 - (wrap64 (Int.tmod a2 900))))))) = some r := by rw [if_neg (show ¬ (false = true) by decide)] at H; exact H
              clear H
              have H := H1
              clear H1
              replace H := Option.bind_eq_some_iff.mp H
              obtain ⟨t144, A160, H⟩ := H
              replace H : (some (t144 == (wrap64 (t141 - (wrap64 (Int.tmod a2 900)))))) = some r := H
              have A16 := Aside0.mk A160
              clear A160
              obtain rfl := Option.some.inj H
              go_enter Try.func6, Try.ntmps6
              go_wp2_with (first | ((with_reducible refine gate_callee (f := 20) rfl ?_); refine goesL_ (some 13) rfl rfl Try.func20 (by kernel_rfl) rfl #[] rfl (by (try simp only [List.map_toArray, List.map_cons, List.map_nil]); first | done | rfl | (simp only [List.length_drop, List.length_take]; rfl)) ?_; (with_reducible refine (hodmanlaw4_begun.calls k  true _ A4.out).mono ?_); rintro e w17 ⟨rfl, hb⟩; refine ⟨_, rfl, ?_⟩; have n0_ := Aside0.mk (below_step (by repeat (first | (with_reducible first | exact HB.out | apply below_alloc | apply pw_below_drewN | apply below_drew1) | exact HB.out)) hb); clear HB; have HB := n0_; clear n0_; (try clear hb); (try clear hb2); (try clear hk); (try clear hi)) | ((with_reducible refine gate_callee (f := 21) rfl ?_); refine goesL_ (some 19) rfl rfl Try.func21 (by kernel_rfl) rfl #[.slice A0 l0.length c0] rfl (by (try simp only [List.map_toArray, List.map_cons, List.map_nil]); first | done | rfl | (simp only [List.length_drop, List.length_take]; rfl)) ?_; (with_reducible refine (hodmanplay_Words.calls k _ _ l0 t138 _ ?side1 ?side2 A8.out).mono ?_); (case side1 => repeat (first | exact (Kd.C_below HR0.out HB.out) | (with_reducible refine Kd.C_alloc ?_ _) | (with_reducible refine Kd.C_drewN ?_ _) | (with_reducible refine Kd.C_drew ?_))); (case side2 => exact HC0.out); rintro e w18 ⟨v139, rfl, ho0, hb⟩; refine ⟨_, rfl, ?_⟩; have n0_ := Aside0.mk (Kd.R_lower ho0 (below_size (by repeat (first | (with_reducible first | exact HB.out | apply below_alloc | apply pw_below_drewN | apply below_drew1) | exact HB.out)))); have n1_ := Aside0.mk (below_step (by repeat (first | (with_reducible first | exact HB.out | apply below_alloc | apply pw_below_drewN | apply below_drew1) | exact HB.out)) hb); clear HB; have HO140 := n0_; have HB := n1_; clear n0_ n1_; (try clear hb); (try clear hb2); (try clear hk); (try clear hi); (try clear ho0); obtain ⟨Ao19, co19, eo19⟩ := Kd.R_slice HO140.out; subst eo19) | ((with_reducible refine gate_callee (f := 22) rfl ?_); refine goesL_ (some 30) rfl rfl Try.func22 (by kernel_rfl) rfl #[.slice Ao19 t138.length co19, .int .i64 (wrap64 (Int.tmod a1 900)), .int .i64 (wrap64 (Int.tmod a2 900))] rfl (by (try simp only [List.map_toArray, List.map_cons, List.map_nil]); first | done | rfl | (simp only [List.length_drop, List.length_take]; rfl)) ?_; (with_reducible refine (row_FirstZero.calls k _ _ t138 (wrap64 (Int.tmod a1 900)) (wrap64 (Int.tmod a2 900)) t141 true _ ?side1 ?side2 A9.out).mono ?_); (case side1 => repeat (first | exact (Kd.R_reads' HO140.out).2.2 | (with_reducible refine Kd.C_alloc ?_ _) | (with_reducible refine Kd.C_drewN ?_ _) | (with_reducible refine Kd.C_drew ?_))); (case side2 => exact (Kd.R_reads' HO140.out).2.1); rintro e w' ⟨rfl, ⟨nd, rfl⟩⟩; refine ⟨_, rfl, ?_⟩) | (go_at_call 24; (with_reducible refine (row_Has.calls _ _ t138 t141 false _ ?side1 ?side2 A14.out).mono ?_); (case side1 => repeat (first | exact (Kd.R_reads' HO140.out).2.2 | (with_reducible refine Kd.C_alloc ?_ _) | (with_reducible refine Kd.C_drewN ?_ _) | (with_reducible refine Kd.C_drew ?_))); (case side2 => exact (Kd.R_reads' HO140.out).2.1); rintro e w' ⟨rfl, ⟨nd, rfl⟩⟩) | (go_at_call 23; (with_reducible refine (row_Count.calls _ _ t138 (wrap64 (Int.tmod a2 900)) (wrap64 (t141 - (wrap64 (Int.tmod a2 900)))) t144 _ ?side1 ?side2 A16.out).mono ?_); (case side1 => repeat (first | exact (Kd.R_reads' HO140.out).2.2 | (with_reducible refine Kd.C_alloc ?_ _) | (with_reducible refine Kd.C_drewN ?_ _) | (with_reducible refine Kd.C_drew ?_))); (case side2 => exact (Kd.R_reads' HO140.out).2.1); rintro e w20 ⟨rfl, hb⟩; have n0_ := Aside0.mk (Kd.R_below (by (with_reducible repeat (first | apply Kd.R_alloc | apply Kd.R_drewN | apply Kd.R_drew)); exact HO140.out) hb); have n1_ := Aside0.mk (below_step (by repeat (first | (with_reducible first | exact HB.out | apply below_alloc | apply pw_below_drewN | apply below_drew1) | exact HB.out)) hb); clear HO140; clear HB; have HO140 := n0_; have HB := n1_; clear n0_ n1_; (try clear hb); (try clear hb2); (try clear hk); (try clear hi)))
              go_ret
              exact ⟨by first | rfl | (simp [errW_none, errW_some] <;> rfl) | (simp only [← hji10]; first | rfl | (simp [errW_none, errW_some] <;> rfl)) | (simp [*, errW_none, errW_some] <;> rfl), by repeat (first | (with_reducible first | exact HB.out | apply below_alloc | apply pw_below_drewN | apply below_drew1) | exact HB.out)⟩
          · rw [if_neg c13] at H
            have c13b0 : decide (t141 < (ji10)) = false := decide_eq_false c13
            clear c13
            exact absurd ((Option.some.inj H).trans HRT.out) (by decide)
        · rw [if_neg c12] at H
          have c12b0 : decide ((wrap64 (Int.tmod a2 900)) ≤ t141) = false := decide_eq_false c12
          clear c12
          exact absurd ((Option.some.inj H).trans HRT.out) (by decide)
      · replace c11 := Bool.eq_false_iff.mpr c11
        subst c11
        have H1 : (if t141 = 0 then (if (wrap64 (Int.tmod a2 900)) ≥ (ji10) then (some true) else ((row_Count.f t138 (wrap64 (Int.tmod a2 900)) (wrap64 ((ji10) - (wrap64 (Int.tmod a2 900))))).bind fun t145 => (some (t145 == (wrap64 ((ji10) - (wrap64 (Int.tmod a2 900)))))))) else (some false)) = some r := by rw [if_neg (show ¬ (false = true) by decide)] at H; exact H
        clear H
        have H := H1
        clear H1
        by_cases c21 : t141 = 0
        · rw [if_pos c21] at H
          have c21b0 : (t141 == 0) = true := beq_iff_eq.mpr c21
          have c21b1 : (t141 != 0) = false := bne_eq_false_iff_eq.mpr c21
          clear c21
          by_cases c22 : (wrap64 (Int.tmod a2 900)) ≥ (ji10)
          · rw [if_pos c22] at H
            have c22b0 : decide ((ji10) ≤ (wrap64 (Int.tmod a2 900))) = true := decide_eq_true c22
            clear c22
            obtain rfl := Option.some.inj H
            go_enter Try.func6, Try.ntmps6
            go_wp2_with (first | ((with_reducible refine gate_callee (f := 20) rfl ?_); refine goesL_ (some 13) rfl rfl Try.func20 (by kernel_rfl) rfl #[] rfl (by (try simp only [List.map_toArray, List.map_cons, List.map_nil]); first | done | rfl | (simp only [List.length_drop, List.length_take]; rfl)) ?_; (with_reducible refine (hodmanlaw4_begun.calls k  true _ A4.out).mono ?_); rintro e w23 ⟨rfl, hb⟩; refine ⟨_, rfl, ?_⟩; have n0_ := Aside0.mk (below_step (by repeat (first | (with_reducible first | exact HB.out | apply below_alloc | apply pw_below_drewN | apply below_drew1) | exact HB.out)) hb); clear HB; have HB := n0_; clear n0_; (try clear hb); (try clear hb2); (try clear hk); (try clear hi)) | ((with_reducible refine gate_callee (f := 21) rfl ?_); refine goesL_ (some 19) rfl rfl Try.func21 (by kernel_rfl) rfl #[.slice A0 l0.length c0] rfl (by (try simp only [List.map_toArray, List.map_cons, List.map_nil]); first | done | rfl | (simp only [List.length_drop, List.length_take]; rfl)) ?_; (with_reducible refine (hodmanplay_Words.calls k _ _ l0 t138 _ ?side1 ?side2 A8.out).mono ?_); (case side1 => repeat (first | exact (Kd.C_below HR0.out HB.out) | (with_reducible refine Kd.C_alloc ?_ _) | (with_reducible refine Kd.C_drewN ?_ _) | (with_reducible refine Kd.C_drew ?_))); (case side2 => exact HC0.out); rintro e w24 ⟨v139, rfl, ho0, hb⟩; refine ⟨_, rfl, ?_⟩; have n0_ := Aside0.mk (Kd.R_lower ho0 (below_size (by repeat (first | (with_reducible first | exact HB.out | apply below_alloc | apply pw_below_drewN | apply below_drew1) | exact HB.out)))); have n1_ := Aside0.mk (below_step (by repeat (first | (with_reducible first | exact HB.out | apply below_alloc | apply pw_below_drewN | apply below_drew1) | exact HB.out)) hb); clear HB; have HO140 := n0_; have HB := n1_; clear n0_ n1_; (try clear hb); (try clear hb2); (try clear hk); (try clear hi); (try clear ho0); obtain ⟨Ao25, co25, eo25⟩ := Kd.R_slice HO140.out; subst eo25) | ((with_reducible refine gate_callee (f := 22) rfl ?_); refine goesL_ (some 30) rfl rfl Try.func22 (by kernel_rfl) rfl #[.slice Ao25 t138.length co25, .int .i64 (wrap64 (Int.tmod a1 900)), .int .i64 (wrap64 (Int.tmod a2 900))] rfl (by (try simp only [List.map_toArray, List.map_cons, List.map_nil]); first | done | rfl | (simp only [List.length_drop, List.length_take]; rfl)) ?_; (with_reducible refine (row_FirstZero.calls k _ _ t138 (wrap64 (Int.tmod a1 900)) (wrap64 (Int.tmod a2 900)) t141 false _ ?side1 ?side2 A9.out).mono ?_); (case side1 => repeat (first | exact (Kd.R_reads' HO140.out).2.2 | (with_reducible refine Kd.C_alloc ?_ _) | (with_reducible refine Kd.C_drewN ?_ _) | (with_reducible refine Kd.C_drew ?_))); (case side2 => exact (Kd.R_reads' HO140.out).2.1); rintro e w' ⟨rfl, ⟨nd, rfl⟩⟩; refine ⟨_, rfl, ?_⟩))
            go_ret
            exact ⟨by first | rfl | (simp [errW_none, errW_some] <;> rfl) | (simp only [← hji10]; first | rfl | (simp [errW_none, errW_some] <;> rfl)) | (simp [*, errW_none, errW_some] <;> rfl), by repeat (first | (with_reducible first | exact HB.out | apply below_alloc | apply pw_below_drewN | apply below_drew1) | exact HB.out)⟩
          · rw [if_neg c22] at H
            have c22b0 : decide ((ji10) ≤ (wrap64 (Int.tmod a2 900))) = false := decide_eq_false c22
            clear c22
            replace H := Option.bind_eq_some_iff.mp H
            obtain ⟨t145, A260, H⟩ := H
            replace H : (some (t145 == (wrap64 ((ji10) - (wrap64 (Int.tmod a2 900)))))) = some r := H
            have A26 := Aside0.mk A260
            clear A260
            obtain rfl := Option.some.inj H
            go_enter Try.func6, Try.ntmps6
            go_wp2_with (first | ((with_reducible refine gate_callee (f := 20) rfl ?_); refine goesL_ (some 13) rfl rfl Try.func20 (by kernel_rfl) rfl #[] rfl (by (try simp only [List.map_toArray, List.map_cons, List.map_nil]); first | done | rfl | (simp only [List.length_drop, List.length_take]; rfl)) ?_; (with_reducible refine (hodmanlaw4_begun.calls k  true _ A4.out).mono ?_); rintro e w27 ⟨rfl, hb⟩; refine ⟨_, rfl, ?_⟩; have n0_ := Aside0.mk (below_step (by repeat (first | (with_reducible first | exact HB.out | apply below_alloc | apply pw_below_drewN | apply below_drew1) | exact HB.out)) hb); clear HB; have HB := n0_; clear n0_; (try clear hb); (try clear hb2); (try clear hk); (try clear hi)) | ((with_reducible refine gate_callee (f := 21) rfl ?_); refine goesL_ (some 19) rfl rfl Try.func21 (by kernel_rfl) rfl #[.slice A0 l0.length c0] rfl (by (try simp only [List.map_toArray, List.map_cons, List.map_nil]); first | done | rfl | (simp only [List.length_drop, List.length_take]; rfl)) ?_; (with_reducible refine (hodmanplay_Words.calls k _ _ l0 t138 _ ?side1 ?side2 A8.out).mono ?_); (case side1 => repeat (first | exact (Kd.C_below HR0.out HB.out) | (with_reducible refine Kd.C_alloc ?_ _) | (with_reducible refine Kd.C_drewN ?_ _) | (with_reducible refine Kd.C_drew ?_))); (case side2 => exact HC0.out); rintro e w28 ⟨v139, rfl, ho0, hb⟩; refine ⟨_, rfl, ?_⟩; have n0_ := Aside0.mk (Kd.R_lower ho0 (below_size (by repeat (first | (with_reducible first | exact HB.out | apply below_alloc | apply pw_below_drewN | apply below_drew1) | exact HB.out)))); have n1_ := Aside0.mk (below_step (by repeat (first | (with_reducible first | exact HB.out | apply below_alloc | apply pw_below_drewN | apply below_drew1) | exact HB.out)) hb); clear HB; have HO140 := n0_; have HB := n1_; clear n0_ n1_; (try clear hb); (try clear hb2); (try clear hk); (try clear hi); (try clear ho0); obtain ⟨Ao29, co29, eo29⟩ := Kd.R_slice HO140.out; subst eo29) | ((with_reducible refine gate_callee (f := 22) rfl ?_); refine goesL_ (some 30) rfl rfl Try.func22 (by kernel_rfl) rfl #[.slice Ao29 t138.length co29, .int .i64 (wrap64 (Int.tmod a1 900)), .int .i64 (wrap64 (Int.tmod a2 900))] rfl (by (try simp only [List.map_toArray, List.map_cons, List.map_nil]); first | done | rfl | (simp only [List.length_drop, List.length_take]; rfl)) ?_; (with_reducible refine (row_FirstZero.calls k _ _ t138 (wrap64 (Int.tmod a1 900)) (wrap64 (Int.tmod a2 900)) t141 false _ ?side1 ?side2 A9.out).mono ?_); (case side1 => repeat (first | exact (Kd.R_reads' HO140.out).2.2 | (with_reducible refine Kd.C_alloc ?_ _) | (with_reducible refine Kd.C_drewN ?_ _) | (with_reducible refine Kd.C_drew ?_))); (case side2 => exact (Kd.R_reads' HO140.out).2.1); rintro e w' ⟨rfl, ⟨nd, rfl⟩⟩; refine ⟨_, rfl, ?_⟩) | (go_at_call 23; (with_reducible refine (row_Count.calls _ _ t138 (wrap64 (Int.tmod a2 900)) (wrap64 ((ji10) - (wrap64 (Int.tmod a2 900)))) t145 _ ?side1 ?side2 A26.out).mono ?_); (case side1 => repeat (first | exact (Kd.R_reads' HO140.out).2.2 | (with_reducible refine Kd.C_alloc ?_ _) | (with_reducible refine Kd.C_drewN ?_ _) | (with_reducible refine Kd.C_drew ?_))); (case side2 => exact (Kd.R_reads' HO140.out).2.1); rintro e w30 ⟨rfl, hb⟩; have n0_ := Aside0.mk (Kd.R_below (by (with_reducible repeat (first | apply Kd.R_alloc | apply Kd.R_drewN | apply Kd.R_drew)); exact HO140.out) hb); have n1_ := Aside0.mk (below_step (by repeat (first | (with_reducible first | exact HB.out | apply below_alloc | apply pw_below_drewN | apply below_drew1) | exact HB.out)) hb); clear HO140; clear HB; have HO140 := n0_; have HB := n1_; clear n0_ n1_; (try clear hb); (try clear hb2); (try clear hk); (try clear hi)))
            go_ret
            exact ⟨by first | rfl | (simp [errW_none, errW_some] <;> rfl) | (simp only [← hji10]; first | rfl | (simp [errW_none, errW_some] <;> rfl)) | (simp [*, errW_none, errW_some] <;> rfl), by repeat (first | (with_reducible first | exact HB.out | apply below_alloc | apply pw_below_drewN | apply below_drew1) | exact HB.out)⟩
        · rw [if_neg c21] at H
          have c21b0 : (t141 == 0) = false := beq_eq_false_iff_ne.mpr c21
          have c21b1 : (t141 != 0) = true := bne_iff_ne.mpr c21
          exact absurd ((Option.some.inj H).trans HRT.out) (by decide)
  · replace c5 := Bool.eq_false_iff.mpr c5
    subst c5
    have H1 : (some false) = some r := by rw [if_neg (show ¬ (false = true) by decide)] at H; exact H
    clear H
    have H := H1
    clear H1
    exact absurd ((Option.some.inj H).trans HRT.out) (by decide)

/-- THE ONE PURE STATEMENT of hodmanlaw4_RowFirst: yours. -/
def hodmanlaw4_RowFirst.Pure : Prop := ∀ (l0 : List Int) (a1 : Int) (a2 : Int), l0.length ≤ maxLen → l0.length * 1 ≤ 140737488351232 → (∀ x ∈ l0, (Lit.int .u8 x).wf = true) → (Lit.int .u16 a1).wf = true → (Lit.int .u16 a2).wf = true → ∃ k, hodmanlaw4_RowFirst.f k l0 a1 a2 = some true
theorem hodmanlaw4_RowFirst.walk (P : hodmanlaw4_RowFirst.Pure) (a0 : Option Addr) (len0 cap0 : Nat) (z0 : List Int) (a1 : Int) (a2 : Int) (w : World) (w0 : (a0 = none ∧ len0 = 0 ∧ cap0 = 0 ∧ z0 = []) ∨ ∃ x, a0 = some x ∧ len0 ≤ cap0 ∧ cap0 ≤ maxLen ∧ z0.length = cap0 ∧ (∀ i, i < z0.length → w.cell? (x.add i) = some (.int .u8 (z0.getD i 0))) ∧ ∀ n ∈ z0, (Lit.int .u8 n).wf = true) (y0 : len0 * 1 ≤ 140737488351232) (w1 : (Lit.int .u16 a1).wf = true) (w2 : (Lit.int .u16 a2).wf = true) :
    Calls Try.prog 6 #[.slice a0 len0 cap0, .int .u16 a1, .int .u16 a2] w fun e w' => e = .returned (.bool true) ∧ Below w.heap.size w w' := by
  obtain ⟨l0, rfl, hr0, hm0, hw0, hc0⟩ := ReadsInt.ofRowC w0
  obtain ⟨k, h⟩ := P l0 a1 a2 hm0 y0 hw0 w1 w2
  refine (hodmanlaw4_RowFirst.calls k _ _ l0 a1 a2 true w (Kd.C_of_reads (d := (0 : Int)) (h1 := fun _ => rfl) hr0) hc0 h rfl).mono ?_
  rintro e w' ⟨rfl, hd⟩
  exact ⟨rfl, hd⟩

/-! ### hodmanref3_SameRow: function 27 -/
def hodmanref3_SameRow.l0 : Nat → List Int → List Int → Int → Option (Bool)
  | 0, _, _, _ => none
  | k + 1, x0, x1, x5 => if x5 < (x0.length : Int) then (if 0 ≤ x5 then (if x5 < (x1.length : Int) then (if (rd x0 x5) = (rd x1 x5) then (hodmanref3_SameRow.l0 k x0 x1 (wrap64 (x5 + 1))) else (some false)) else (none)) else (none)) else (some true)
def hodmanref3_SameRow.f (k : Nat) (l0 : List Int) (l1 : List Int) : Option (Bool) := if (l0.length : Int) = (l1.length : Int) then (hodmanref3_SameRow.l0 k l0 l1 0) else (some false)
theorem hodmanref3_SameRow.mono_l : ∀ k, (∀ y0 y1 y2, LeO (hodmanref3_SameRow.l0 k y0 y1 y2) (hodmanref3_SameRow.l0 (k + 1) y0 y1 y2))
  | 0 => fun _ _ _ r h => by simp [hodmanref3_SameRow.l0] at h
  | k + 1 => by
    have ih0 := hodmanref3_SameRow.mono_l k
    · intro y0 y1 y2
      unfold hodmanref3_SameRow.l0
      repeat' first
      | (with_reducible exact ih0 _ _ _)
      | (with_reducible exact LeO.refl _)
      | (with_reducible exact LeO.none _)
      | (with_reducible refine LeO.ite ?_ ?_)
      | (with_reducible refine LeO.bind ?_ (fun _ => ?_))
      | exact ih0 _ _ _
      | exact LeO.none _
      | refine LeO.ite ?_ ?_
      | refine LeO.bind ?_ (fun _ => ?_)
theorem hodmanref3_SameRow.mono : ∀ a0 a1 k, LeO (hodmanref3_SameRow.f k a0 a1) (hodmanref3_SameRow.f (k + 1) a0 a1) := by
  intro a0 a1 k
  have ih0 := hodmanref3_SameRow.mono_l k
  unfold hodmanref3_SameRow.f
  repeat' first
      | (with_reducible exact ih0 _ _ _)
      | (with_reducible exact LeO.refl _)
      | (with_reducible exact LeO.none _)
      | (with_reducible refine LeO.ite ?_ ?_)
      | (with_reducible refine LeO.bind ?_ (fun _ => ?_))
      | exact ih0 _ _ _
      | exact LeO.none _
      | refine LeO.ite ?_ ?_
      | refine LeO.bind ?_ (fun _ => ?_)
set_option maxHeartbeats 8000000 in
set_option maxRecDepth 100000 in
theorem hodmanref3_SameRow.calls (k : Nat) (A0 : Option Addr) (c0 : Nat) (l0 : List Int) (A1 : Option Addr) (c1 : Nat) (l1 : List Int) (r : Bool) (w : World) (hr0 : Kd.C (Kd.int .u64) w A0 l0.length l0) (hc0 : l0.length ≤ c0) (hr1 : Kd.C (Kd.int .u64) w A1 l1.length l1) (hc1 : l1.length ≤ c1) (h : hodmanref3_SameRow.f k l0 l1 = some r) :
    Calls Try.prog 27 #[.slice A0 l0.length c0, .slice A1 l1.length c1] w fun e w' => e = .returned (.bool r) ∧ Drawn0 w w' := by
  have HR0 := Aside0.mk hr0
  have HC0 := Aside0.mk hc0
  clear hr0 hc0
  have HR1 := Aside0.mk hr1
  have HC1 := Aside0.mk hc1
  clear hr1 hc1
  have H : (if (l0.length : Int) = (l1.length : Int) then (hodmanref3_SameRow.l0 k l0 l1 0) else (some false)) = some r := h
  clear h
  by_cases c3 : (l0.length : Int) = (l1.length : Int)
  · rw [if_pos c3] at H
    have c3b0 : ((l0.length : Int) == (l1.length : Int)) = true := beq_iff_eq.mpr c3
    have c3b1 : ((l0.length : Int) != (l1.length : Int)) = false := bne_eq_false_iff_eq.mpr c3
    have c3b2 : (l0.length == l1.length) = true := by first | simpa using c3 | (simp at c3 ⊢; omega)
    clear c3
    have H' := Aside0.mk H
    clear H
    go_enter Try.func27, Try.ntmps27
    go_wp2
    repeat (go_quiet (fail); try go_wp2)
    go_loopg [5] k (fun kq v5 w' => ∃ (x5_1 : Int), v5 = .int .i64 x5_1 ∧ Aside0 (hodmanref3_SameRow.l0 kq l0 l1 x5_1 = some r) ∧ Aside0 (kq ≤ k) ∧ Drawn0 w w')
    case atStart => exact ⟨(0), (by first | rfl | (simp; done) | (simp [*]; done)), H', ⟨Nat.le_refl _⟩, by repeat (first | exact Drawn0.refl _ | apply Drawn0.step)⟩
    case round =>
      clear H'
      try clear c1
      try clear c2
      try clear p2
      try clear c3
      try clear c3b0
      try clear c3b1
      try clear c3b2
      obtain ⟨x5_1, rfl, HA, HK1, ⟨m1, rfl⟩⟩ := hrel
      cases gk with
      | zero => exact absurd HA.out (by simp [hodmanref3_SameRow.l0])
      | succ k1 =>
        have H := HA.out
        clear HA
        simp only [hodmanref3_SameRow.l0] at H
        by_cases c4 : x5_1 < (l0.length : Int)
        · rw [if_pos c4] at H
          have c4b0 : decide (x5_1 < (l0.length : Int)) = true := decide_eq_true c4
          clear c4
          by_cases c5 : 0 ≤ x5_1
          · rw [if_pos c5] at H
            have c5b0 : decide (0 ≤ x5_1) = true := decide_eq_true c5
            clear c5
            by_cases c6 : x5_1 < (l1.length : Int)
            · rw [if_pos c6] at H
              have c6b0 : decide (x5_1 < (l1.length : Int)) = true := decide_eq_true c6
              clear c6
              by_cases c7 : (rd l0 x5_1) = (rd l1 x5_1)
              · rw [if_pos c7] at H
                have c7b0 : ((rd l0 x5_1) == (rd l1 x5_1)) = true := beq_iff_eq.mpr c7
                have c7b1 : ((rd l0 x5_1) != (rd l1 x5_1)) = false := bne_eq_false_iff_eq.mpr c7
                clear c7
                have H' := Aside0.mk H
                clear H
                have p146 : 0 ≤ (x5_1 : Int) := of_decide_eq_true (by first | (with_reducible assumption) | assumption)
                have q146 : x5_1 < (l0.length : Int) := of_decide_eq_true (by first | (with_reducible assumption) | assumption)
                obtain ⟨ad146, e146, hx146_0⟩ := Kd.at_int HR0.out x5_1 p146 q146
                cases e146
                replace p146 := eq_true p146
                replace q146 := eq_true q146
                have p147 : 0 ≤ (x5_1 : Int) := of_decide_eq_true (by first | (with_reducible assumption) | assumption)
                have q147 : x5_1 < (l1.length : Int) := of_decide_eq_true (by first | (with_reducible assumption) | assumption)
                obtain ⟨ad147, e147, hx147_0⟩ := Kd.at_int HR1.out x5_1 p147 q147
                cases e147
                replace p147 := eq_true p147
                replace q147 := eq_true q147
                go_wp2
                repeat (go_quiet (fail); try go_wp2)
                go_roundg k1
                case measure => have := HK1.out; omega
                case rel => exact ⟨(wrap64 (x5_1 + 1)), (by first | rfl | (simp; done) | (simp [*]; done)), H', ⟨by have := HK1.out; omega⟩, by repeat (first | exact Drawn0.refl _ | apply Drawn0.step)⟩
              · rw [if_neg c7] at H
                have c7b0 : ((rd l0 x5_1) == (rd l1 x5_1)) = false := beq_eq_false_iff_ne.mpr c7
                have c7b1 : ((rd l0 x5_1) != (rd l1 x5_1)) = true := bne_iff_ne.mpr c7
                obtain rfl := Option.some.inj H
                have p146 : 0 ≤ (x5_1 : Int) := of_decide_eq_true (by first | (with_reducible assumption) | assumption)
                have q146 : x5_1 < (l0.length : Int) := of_decide_eq_true (by first | (with_reducible assumption) | assumption)
                obtain ⟨ad146, e146, hx146_0⟩ := Kd.at_int HR0.out x5_1 p146 q146
                cases e146
                replace p146 := eq_true p146
                replace q146 := eq_true q146
                have p147 : 0 ≤ (x5_1 : Int) := of_decide_eq_true (by first | (with_reducible assumption) | assumption)
                have q147 : x5_1 < (l1.length : Int) := of_decide_eq_true (by first | (with_reducible assumption) | assumption)
                obtain ⟨ad147, e147, hx147_0⟩ := Kd.at_int HR1.out x5_1 p147 q147
                cases e147
                replace p147 := eq_true p147
                replace q147 := eq_true q147
                go_wp2
                repeat (go_quiet (fail); try go_wp2)
                go_ret
                exact ⟨by first | rfl | (simp; done) | (simp [*]; done) | (simp [Int.tdiv_eq_ediv_of_nonneg]; done), by repeat (first | exact Drawn0.refl _ | apply Drawn0.step)⟩
            · rw [if_neg c6] at H
              exact absurd H (by simp)
          · rw [if_neg c5] at H
            exact absurd H (by simp)
        · rw [if_neg c4] at H
          have c4b0 : decide (x5_1 < (l0.length : Int)) = false := decide_eq_false c4
          clear c4
          obtain rfl := Option.some.inj H
          go_wp2
          repeat (go_quiet (fail); try go_wp2)
          go_ret
          exact ⟨by first | rfl | (simp; done) | (simp [*]; done) | (simp [Int.tdiv_eq_ediv_of_nonneg]; done), by repeat (first | exact Drawn0.refl _ | apply Drawn0.step)⟩
  · rw [if_neg c3] at H
    have c3b0 : ((l0.length : Int) == (l1.length : Int)) = false := beq_eq_false_iff_ne.mpr c3
    have c3b1 : ((l0.length : Int) != (l1.length : Int)) = true := bne_iff_ne.mpr c3
    have c3b2 : (l0.length == l1.length) = false := by first | simpa using c3 | (simp at c3 ⊢; omega)
    obtain rfl := Option.some.inj H
    go_enter Try.func27, Try.ntmps27
    go_wp2
    repeat (go_quiet (fail); try go_wp2)
    go_ret
    exact ⟨by first | rfl | (simp; done) | (simp [*]; done) | (simp [Int.tdiv_eq_ediv_of_nonneg]; done), by repeat (first | exact Drawn0.refl _ | apply Drawn0.step)⟩

end Go.Proofs.Ytgbkdmcbdilgaaa.PRow
