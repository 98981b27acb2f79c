/- Written by a program of this session (wip/tools/ext.py) out of the translation: Go functions told as Lean functions, with their walks; or the row of a law out of its plain part. Lean checks it. -/
import Derived.Test.YtflmdnjcniidgaaPPin2x0
import Derived.Test.YtflmdnjcniidgaaPPin2x1
import Derived.Test.YtflmdnjcniidgaaPPin2x2
import Derived.Test.YtflmdnjcniidgaaPPin2x3
import Derived.Test.YtflmdnjcniidgaaPPin2x4
namespace Go.Proofs.Ytflmdnjcniidgaa.PPin2
open Go.RowKit Go.Proofs.YtflmdnjcniidgaaW.PrintWords Go.Proofs.YtflmdnjcniidgaaW.PrintLast Go.Proofs.YtflmdnjcniidgaaW.PrintMore
attribute [local go_sem] max2_int min2_int max_two min_two max_three min_three max_four min_four   -- for this text's walks alone
set_option linter.unusedVariables false
set_option linter.unusedSimpArgs false

/-! ### hodmanlaw12_PinBytes: function 11 -/
mutual
def hodmanlaw12_PinBytes.l0 : Nat → Int → List (S48) → List Bool → List Bool → Int → Int → Option (Bool)
  | 0, _, _, _, _, _, _ => none
  | k + 1, x5, x6, x7, x8, x9, x10 => if x10 < (x6.length : Int) then (if 0 ≤ x10 then ((pin_Pages.f k x5 ((rd_T48 x6 x10).f0) ((rd_T48 x6 x10).f1)).bind fun bt136 => (if x5 = 0 then (none) else (if bt136.1 = (wrap64 (Int.tdiv ((rd_T48 x6 x10).f0) x5)) then (hodmanlaw12_PinBytes.j1 k x5 x6 x7 x8 x9 x10 (bt136.2 != (wrap64 ((wrap64 (Int.tdiv (wrap64 ((wrap64 (((rd_T48 x6 x10).f0) + ((rd_T48 x6 x10).f1))) - 1)) x5)) + 1)))) else (hodmanlaw12_PinBytes.j1 k x5 x6 x7 x8 x9 x10 true)))) else (none)) else (hodmanlaw12_PinBytes.l2 k x7 x8 x9 0)
def hodmanlaw12_PinBytes.j1 : Nat → Int → List (S48) → List Bool → List Bool → Int → Int → Bool → Option (Bool)
  | 0, _, _, _, _, _, _, _ => none
  | k + 1, x5, x6, x7, x8, x9, x10, x85 => if x85 = true then (some false) else (if 0 ≤ x10 then (if x10 < (x6.length : Int) then (hodmanlaw12_PinBytes.l1 k x5 x6 x7 x8 x9 x10 ((rd_T48 x6 x10).f0)) else (none)) else (none))
def hodmanlaw12_PinBytes.l1 : Nat → Int → List (S48) → List Bool → List Bool → Int → Int → Int → Option (Bool)
  | 0, _, _, _, _, _, _, _ => none
  | k + 1, x5, x6, x7, x8, x9, x10, x13 => if 0 ≤ x10 then (if x10 < (x6.length : Int) then (if x13 < (wrap64 (((rd_T48 x6 x10).f0) + ((rd_T48 x6 x10).f1))) then (if x5 = 0 then (none) else (if (wrap64 (Int.tdiv x13 x5)) < (x8.length : Int) then (if 0 ≤ (wrap64 (Int.tdiv x13 x5)) then (hodmanlaw12_PinBytes.l1 k x5 x6 x7 (x8.set ((wrap64 (Int.tdiv x13 x5)) : Int).toNat true) x9 x10 (wrap64 (x13 + 1))) else (none)) else (hodmanlaw12_PinBytes.l1 k x5 x6 x7 x8 x9 x10 (wrap64 (x13 + 1))))) else (hodmanlaw12_PinBytes.l0 k x5 x6 x7 x8 x9 (wrap64 (x10 + 1)))) else (none)) else (none)
def hodmanlaw12_PinBytes.l2 : Nat → List Bool → List Bool → Int → Int → Option (Bool)
  | 0, _, _, _, _ => none
  | k + 1, x7, x8, x9, x14 => if x14 < (x8.length : Int) then (if 0 ≤ x14 then (if x14 < (x7.length : Int) then (if ((rdOf false x7 x14) != (rdOf false x8 x14)) = true then (some false) else (if rdOf false x8 x14 = true then (hodmanlaw12_PinBytes.l2 k x7 x8 (wrap64 (x9 + 1)) (wrap64 (x14 + 1))) else (hodmanlaw12_PinBytes.l2 k x7 x8 x9 (wrap64 (x14 + 1))))) else (none)) else (none)) else ((pin_Count.f k x7).bind fun t145 => (some (t145 == x9)))
end
def hodmanlaw12_PinBytes.f (k : Nat) (a0 : Int) (l1 : List (S54)) : Option (Bool) := (hodmanlaw12_begun.f k).bind fun t124 => (if t124 = true then (if (l1.length : Int) > 10 then (some true) else ((hodmanlaw12_Blocks.f k l1).bind fun t125 => ((pin_Met.f k (wrap64 (1 + (wrap64 (Int.tmod a0 40)))) 320 t125).bind fun t128 => (if (wrap64 (1 + (wrap64 (Int.tmod a0 40)))) = 0 then (none) else (if (t128.length : Int) = (wrap64 ((320 : Int) / (wrap64 (1 + (wrap64 (Int.tmod a0 40)))))) then (if 0 ≤ (t128.length : Int) then (if ((t128.length : Int) : Int).toNat ≤ 281474976710656 then (hodmanlaw12_PinBytes.l0 k (wrap64 (1 + (wrap64 (Int.tmod a0 40)))) t125 t128 (List.replicate ((t128.length : Int) : Int).toNat false) 0 0) else (none)) else (none)) else (some false)))))) else (some false))
theorem hodmanlaw12_PinBytes.mono_l : ∀ k, (∀ y0 y1 y2 y3 y4 y5, LeO (hodmanlaw12_PinBytes.l0 k y0 y1 y2 y3 y4 y5) (hodmanlaw12_PinBytes.l0 (k + 1) y0 y1 y2 y3 y4 y5)) ∧ (∀ y0 y1 y2 y3 y4 y5 y6, LeO (hodmanlaw12_PinBytes.j1 k y0 y1 y2 y3 y4 y5 y6) (hodmanlaw12_PinBytes.j1 (k + 1) y0 y1 y2 y3 y4 y5 y6)) ∧ (∀ y0 y1 y2 y3 y4 y5 y6, LeO (hodmanlaw12_PinBytes.l1 k y0 y1 y2 y3 y4 y5 y6) (hodmanlaw12_PinBytes.l1 (k + 1) y0 y1 y2 y3 y4 y5 y6)) ∧ (∀ y0 y1 y2 y3, LeO (hodmanlaw12_PinBytes.l2 k y0 y1 y2 y3) (hodmanlaw12_PinBytes.l2 (k + 1) y0 y1 y2 y3))
  | 0 => ⟨fun _ _ _ _ _ _ r h => by simp [hodmanlaw12_PinBytes.l0] at h, fun _ _ _ _ _ _ _ r h => by simp [hodmanlaw12_PinBytes.j1] at h, fun _ _ _ _ _ _ _ r h => by simp [hodmanlaw12_PinBytes.l1] at h, fun _ _ _ _ r h => by simp [hodmanlaw12_PinBytes.l2] at h⟩
  | k + 1 => by
    obtain ⟨ih0, ih1, ih2, ih3⟩ := hodmanlaw12_PinBytes.mono_l k
    refine ⟨?_, ?_, ?_, ?_⟩
    · intro y0 y1 y2 y3 y4 y5
      unfold hodmanlaw12_PinBytes.l0
      repeat' first
      | (with_reducible exact ih0 _ _ _ _ _ _)
      | (with_reducible exact ih1 _ _ _ _ _ _ _)
      | (with_reducible exact ih2 _ _ _ _ _ _ _)
      | (with_reducible exact ih3 _ _ _ _)
      | (with_reducible exact hodmanlaw12_Blocks.mono _ _)
      | (with_reducible exact hodmanlaw12_begun.mono _)
      | (with_reducible exact pin_Count.mono _ _)
      | (with_reducible exact pin_Met.mono _ _ _ _)
      | (with_reducible exact pin_Pages.mono _ _ _ _)
      | (with_reducible exact LeO.refl _)
      | (with_reducible exact LeO.none _)
      | (with_reducible refine LeO.ite ?_ ?_)
      | (with_reducible refine LeO.bind ?_ (fun _ => ?_))
      | exact ih0 _ _ _ _ _ _
      | exact ih1 _ _ _ _ _ _ _
      | exact ih2 _ _ _ _ _ _ _
      | exact ih3 _ _ _ _
      | exact hodmanlaw12_Blocks.mono _ _
      | exact hodmanlaw12_begun.mono _
      | exact pin_Count.mono _ _
      | exact pin_Met.mono _ _ _ _
      | exact pin_Pages.mono _ _ _ _
      | exact LeO.none _
      | refine LeO.ite ?_ ?_
      | refine LeO.bind ?_ (fun _ => ?_)
    · intro y0 y1 y2 y3 y4 y5 y6
      unfold hodmanlaw12_PinBytes.j1
      repeat' first
      | (with_reducible exact ih0 _ _ _ _ _ _)
      | (with_reducible exact ih1 _ _ _ _ _ _ _)
      | (with_reducible exact ih2 _ _ _ _ _ _ _)
      | (with_reducible exact ih3 _ _ _ _)
      | (with_reducible exact hodmanlaw12_Blocks.mono _ _)
      | (with_reducible exact hodmanlaw12_begun.mono _)
      | (with_reducible exact pin_Count.mono _ _)
      | (with_reducible exact pin_Met.mono _ _ _ _)
      | (with_reducible exact pin_Pages.mono _ _ _ _)
      | (with_reducible exact LeO.refl _)
      | (with_reducible exact LeO.none _)
      | (with_reducible refine LeO.ite ?_ ?_)
      | (with_reducible refine LeO.bind ?_ (fun _ => ?_))
      | exact ih0 _ _ _ _ _ _
      | exact ih1 _ _ _ _ _ _ _
      | exact ih2 _ _ _ _ _ _ _
      | exact ih3 _ _ _ _
      | exact hodmanlaw12_Blocks.mono _ _
      | exact hodmanlaw12_begun.mono _
      | exact pin_Count.mono _ _
      | exact pin_Met.mono _ _ _ _
      | exact pin_Pages.mono _ _ _ _
      | exact LeO.none _
      | refine LeO.ite ?_ ?_
      | refine LeO.bind ?_ (fun _ => ?_)
    · intro y0 y1 y2 y3 y4 y5 y6
      unfold hodmanlaw12_PinBytes.l1
      repeat' first
      | (with_reducible exact ih0 _ _ _ _ _ _)
      | (with_reducible exact ih1 _ _ _ _ _ _ _)
      | (with_reducible exact ih2 _ _ _ _ _ _ _)
      | (with_reducible exact ih3 _ _ _ _)
      | (with_reducible exact hodmanlaw12_Blocks.mono _ _)
      | (with_reducible exact hodmanlaw12_begun.mono _)
      | (with_reducible exact pin_Count.mono _ _)
      | (with_reducible exact pin_Met.mono _ _ _ _)
      | (with_reducible exact pin_Pages.mono _ _ _ _)
      | (with_reducible exact LeO.refl _)
      | (with_reducible exact LeO.none _)
      | (with_reducible refine LeO.ite ?_ ?_)
      | (with_reducible refine LeO.bind ?_ (fun _ => ?_))
      | exact ih0 _ _ _ _ _ _
      | exact ih1 _ _ _ _ _ _ _
      | exact ih2 _ _ _ _ _ _ _
      | exact ih3 _ _ _ _
      | exact hodmanlaw12_Blocks.mono _ _
      | exact hodmanlaw12_begun.mono _
      | exact pin_Count.mono _ _
      | exact pin_Met.mono _ _ _ _
      | exact pin_Pages.mono _ _ _ _
      | exact LeO.none _
      | refine LeO.ite ?_ ?_
      | refine LeO.bind ?_ (fun _ => ?_)
    · intro y0 y1 y2 y3
      unfold hodmanlaw12_PinBytes.l2
      repeat' first
      | (with_reducible exact ih0 _ _ _ _ _ _)
      | (with_reducible exact ih1 _ _ _ _ _ _ _)
      | (with_reducible exact ih2 _ _ _ _ _ _ _)
      | (with_reducible exact ih3 _ _ _ _)
      | (with_reducible exact hodmanlaw12_Blocks.mono _ _)
      | (with_reducible exact hodmanlaw12_begun.mono _)
      | (with_reducible exact pin_Count.mono _ _)
      | (with_reducible exact pin_Met.mono _ _ _ _)
      | (with_reducible exact pin_Pages.mono _ _ _ _)
      | (with_reducible exact LeO.refl _)
      | (with_reducible exact LeO.none _)
      | (with_reducible refine LeO.ite ?_ ?_)
      | (with_reducible refine LeO.bind ?_ (fun _ => ?_))
      | exact ih0 _ _ _ _ _ _
      | exact ih1 _ _ _ _ _ _ _
      | exact ih2 _ _ _ _ _ _ _
      | exact ih3 _ _ _ _
      | exact hodmanlaw12_Blocks.mono _ _
      | exact hodmanlaw12_begun.mono _
      | exact pin_Count.mono _ _
      | exact pin_Met.mono _ _ _ _
      | exact pin_Pages.mono _ _ _ _
      | exact LeO.none _
      | refine LeO.ite ?_ ?_
      | refine LeO.bind ?_ (fun _ => ?_)
theorem hodmanlaw12_PinBytes.mono : ∀ a0 a1 k, LeO (hodmanlaw12_PinBytes.f k a0 a1) (hodmanlaw12_PinBytes.f (k + 1) a0 a1) := by
  intro a0 a1 k
  obtain ⟨ih0, ih1, ih2, ih3⟩ := hodmanlaw12_PinBytes.mono_l k
  unfold hodmanlaw12_PinBytes.f
  repeat' first
      | (with_reducible exact ih0 _ _ _ _ _ _)
      | (with_reducible exact ih1 _ _ _ _ _ _ _)
      | (with_reducible exact ih2 _ _ _ _ _ _ _)
      | (with_reducible exact ih3 _ _ _ _)
      | (with_reducible exact hodmanlaw12_Blocks.mono _ _)
      | (with_reducible exact hodmanlaw12_begun.mono _)
      | (with_reducible exact pin_Count.mono _ _)
      | (with_reducible exact pin_Met.mono _ _ _ _)
      | (with_reducible exact pin_Pages.mono _ _ _ _)
      | (with_reducible exact LeO.refl _)
      | (with_reducible exact LeO.none _)
      | (with_reducible refine LeO.ite ?_ ?_)
      | (with_reducible refine LeO.bind ?_ (fun _ => ?_))
      | exact ih0 _ _ _ _ _ _
      | exact ih1 _ _ _ _ _ _ _
      | exact ih2 _ _ _ _ _ _ _
      | exact ih3 _ _ _ _
      | exact hodmanlaw12_Blocks.mono _ _
      | exact hodmanlaw12_begun.mono _
      | exact pin_Count.mono _ _
      | exact pin_Met.mono _ _ _ _
      | exact pin_Pages.mono _ _ _ _
      | exact LeO.none _
      | refine LeO.ite ?_ ?_
      | refine LeO.bind ?_ (fun _ => ?_)
set_option maxHeartbeats 8000000 in
set_option maxRecDepth 100000 in
theorem hodmanlaw12_PinBytes.calls (k : Nat) (a0 : Int) (A1 : Option Addr) (c1 : Nat) (l1 : List (S54)) (r : Bool) (w : World) (hr1 : Kd.C k54 w A1 l1.length l1) (hc1 : l1.length ≤ c1) (h : hodmanlaw12_PinBytes.f k a0 l1 = some r) (hrt_ : r = true) :
    Calls Try.prog 11 #[.int .u8 a0, .slice A1 l1.length c1] w fun e w' => e = .returned (.bool r) ∧ Below w.heap.size w w' := by
  have HR1 := Aside0.mk hr1
  have HC1 := Aside0.mk hc1
  clear hr1 hc1
  have HB := Aside0.mk (Below.refl w.heap.size w)
  have H : ((hodmanlaw12_begun.f k).bind fun t124 => (if t124 = true then (if (l1.length : Int) > 10 then (some true) else ((hodmanlaw12_Blocks.f k l1).bind fun t125 => ((pin_Met.f k (wrap64 (1 + (wrap64 (Int.tmod a0 40)))) 320 t125).bind fun t128 => (if (wrap64 (1 + (wrap64 (Int.tmod a0 40)))) = 0 then (none) else (if (t128.length : Int) = (wrap64 ((320 : Int) / (wrap64 (1 + (wrap64 (Int.tmod a0 40)))))) then (if 0 ≤ (t128.length : Int) then (if ((t128.length : Int) : Int).toNat ≤ 281474976710656 then (hodmanlaw12_PinBytes.l0 k (wrap64 (1 + (wrap64 (Int.tmod a0 40)))) t125 t128 (List.replicate ((t128.length : Int) : Int).toNat false) 0 0) else (none)) else (none)) else (some false)))))) else (some false))) = some r := h
  clear h
  have HRT := Aside0.mk hrt_
  clear hrt_
  replace H := Option.bind_eq_some_iff.mp H
  obtain ⟨t124, A30, H⟩ := H
  replace H : (if t124 = true then (if (l1.length : Int) > 10 then (some true) else ((hodmanlaw12_Blocks.f k l1).bind fun t125 => ((pin_Met.f k (wrap64 (1 + (wrap64 (Int.tmod a0 40)))) 320 t125).bind fun t128 => (if (wrap64 (1 + (wrap64 (Int.tmod a0 40)))) = 0 then (none) else (if (t128.length : Int) = (wrap64 ((320 : Int) / (wrap64 (1 + (wrap64 (Int.tmod a0 40)))))) then (if 0 ≤ (t128.length : Int) then (if ((t128.length : Int) : Int).toNat ≤ 281474976710656 then (hodmanlaw12_PinBytes.l0 k (wrap64 (1 + (wrap64 (Int.tmod a0 40)))) t125 t128 (List.replicate ((t128.length : Int) : Int).toNat false) 0 0) else (none)) else (none)) else (some false)))))) else (some false)) = some r := H
  have A3 := Aside0.mk A30
  clear A30
  by_cases c4 : t124 = true
  · subst c4
    have H1 : (if (l1.length : Int) > 10 then (some true) else ((hodmanlaw12_Blocks.f k l1).bind fun t125 => ((pin_Met.f k (wrap64 (1 + (wrap64 (Int.tmod a0 40)))) 320 t125).bind fun t128 => (if (wrap64 (1 + (wrap64 (Int.tmod a0 40)))) = 0 then (none) else (if (t128.length : Int) = (wrap64 ((320 : Int) / (wrap64 (1 + (wrap64 (Int.tmod a0 40)))))) then (if 0 ≤ (t128.length : Int) then (if ((t128.length : Int) : Int).toNat ≤ 281474976710656 then (hodmanlaw12_PinBytes.l0 k (wrap64 (1 + (wrap64 (Int.tmod a0 40)))) t125 t128 (List.replicate ((t128.length : Int) : Int).toNat false) 0 0) else (none)) else (none)) else (some false)))))) = some r := by rw [if_pos rfl] at H; exact H
    clear H
    have H := H1
    clear H1
    by_cases c5 : (l1.length : Int) > 10
    · rw [if_pos c5] at H
      have c5b0 : decide (10 < (l1.length : Int)) = true := decide_eq_true c5
      have c5b1 : decide (10 < l1.length) = true := decide_eq_true (by omega)
      clear c5
      obtain rfl := Option.some.inj H
      go_enter Try.func11, Try.ntmps11
      go_wp2_with (first | (go_at_call 30; (with_reducible refine (hodmanlaw12_begun.calls k  true _ A3.out).mono ?_); rintro e w6 ⟨rfl, hb⟩; have n0_ := Aside0.mk (below_step (by repeat (first | (with_reducible first | exact HB.out | apply below_alloc | apply pw_below_drewN | apply below_drew1) | exact HB.out)) hb); clear HB; have HB := n0_; clear n0_; (try clear hb); (try clear hb2); (try clear hk); (try clear hi)))
      repeat (go_quiet (first | (go_at_call 30; (with_reducible refine (hodmanlaw12_begun.calls k  true _ A3.out).mono ?_); rintro e w6 ⟨rfl, hb⟩; have n0_ := Aside0.mk (below_step (by repeat (first | (with_reducible first | exact HB.out | apply below_alloc | apply pw_below_drewN | apply below_drew1) | exact HB.out)) hb); clear HB; have HB := n0_; clear n0_; (try clear hb); (try clear hb2); (try clear hk); (try clear hi))); try go_wp2_with (first | (go_at_call 30; (with_reducible refine (hodmanlaw12_begun.calls k  true _ A3.out).mono ?_); rintro e w6 ⟨rfl, hb⟩; have n0_ := Aside0.mk (below_step (by repeat (first | (with_reducible first | exact HB.out | apply below_alloc | apply pw_below_drewN | apply below_drew1) | exact HB.out)) hb); clear HB; have HB := n0_; clear n0_; (try clear hb); (try clear hb2); (try clear hk); (try clear hi))))
      go_ret
      exact ⟨by first | rfl | (simp [errW_none, errW_some] <;> rfl) | (simp [*, errW_none, errW_some] <;> rfl), by repeat (first | (with_reducible first | exact HB.out | apply below_alloc | apply pw_below_drewN | apply below_drew1) | exact HB.out)⟩
    · rw [if_neg c5] at H
      have c5b0 : decide (10 < (l1.length : Int)) = false := decide_eq_false c5
      have c5b1 : decide (10 < l1.length) = false := decide_eq_false (by omega)
      clear c5
      replace H := Option.bind_eq_some_iff.mp H
      obtain ⟨t125, A70, H⟩ := H
      replace H : ((pin_Met.f k (wrap64 (1 + (wrap64 (Int.tmod a0 40)))) 320 t125).bind fun t128 => (if (wrap64 (1 + (wrap64 (Int.tmod a0 40)))) = 0 then (none) else (if (t128.length : Int) = (wrap64 ((320 : Int) / (wrap64 (1 + (wrap64 (Int.tmod a0 40)))))) then (if 0 ≤ (t128.length : Int) then (if ((t128.length : Int) : Int).toNat ≤ 281474976710656 then (hodmanlaw12_PinBytes.l0 k (wrap64 (1 + (wrap64 (Int.tmod a0 40)))) t125 t128 (List.replicate ((t128.length : Int) : Int).toNat false) 0 0) else (none)) else (none)) else (some false)))) = some r := H
      have A7 := Aside0.mk A70
      clear A70
      replace H := Option.bind_eq_some_iff.mp H
      obtain ⟨t128, A80, H⟩ := H
      replace H : (if (wrap64 (1 + (wrap64 (Int.tmod a0 40)))) = 0 then (none) else (if (t128.length : Int) = (wrap64 ((320 : Int) / (wrap64 (1 + (wrap64 (Int.tmod a0 40)))))) then (if 0 ≤ (t128.length : Int) then (if ((t128.length : Int) : Int).toNat ≤ 281474976710656 then (hodmanlaw12_PinBytes.l0 k (wrap64 (1 + (wrap64 (Int.tmod a0 40)))) t125 t128 (List.replicate ((t128.length : Int) : Int).toNat false) 0 0) else (none)) else (none)) else (some false))) = some r := H
      have A8 := Aside0.mk A80
      clear A80
      by_cases c9 : (wrap64 (1 + (wrap64 (Int.tmod a0 40)))) = 0
      · rw [if_pos c9] at H
        exact absurd H (by simp)
      · rw [if_neg c9] at H
        have c9b0 : ((wrap64 (1 + (wrap64 (Int.tmod a0 40)))) == 0) = false := beq_eq_false_iff_ne.mpr c9
        have c9b1 : ((wrap64 (1 + (wrap64 (Int.tmod a0 40)))) != 0) = true := bne_iff_ne.mpr c9
        by_cases c10 : (t128.length : Int) = (wrap64 ((320 : Int) / (wrap64 (1 + (wrap64 (Int.tmod a0 40))))))
        · rw [if_pos c10] at H
          have c10b0 : ((t128.length : Int) == (wrap64 ((320 : Int) / (wrap64 (1 + (wrap64 (Int.tmod a0 40))))))) = true := beq_iff_eq.mpr c10
          have c10b0t : ((t128.length : Int) == (wrap64 (Int.tdiv 320 (wrap64 (1 + (wrap64 (Int.tmod a0 40))))))) = true := by have h_ := c10b0; rw [← Int.tdiv_eq_ediv_of_nonneg (by decide)] at h_; exact h_
          have c10b1 : ((t128.length : Int) != (wrap64 ((320 : Int) / (wrap64 (1 + (wrap64 (Int.tmod a0 40))))))) = false := bne_eq_false_iff_eq.mpr c10
          have c10b1t : ((t128.length : Int) != (wrap64 (Int.tdiv 320 (wrap64 (1 + (wrap64 (Int.tmod a0 40))))))) = false := by have h_ := c10b1; rw [← Int.tdiv_eq_ediv_of_nonneg (by decide)] at h_; exact h_
          clear c10
          by_cases c11 : 0 ≤ (t128.length : Int)
          · rw [if_pos c11] at H
            have c11b0 := eq_true c11
            have c11b1 : decide (0 ≤ (t128.length : Int)) = true := decide_eq_true c11
            clear c11
            by_cases c12 : ((t128.length : Int) : Int).toNat ≤ 281474976710656
            · rw [if_pos c12] at H
              have c12b0 := eq_true c12
              have c12b1 : decide (((t128.length : Int) : Int).toNat ≤ 281474976710656) = true := decide_eq_true c12
              clear c12
              obtain ⟨y131, hy131⟩ : ∃ y_ : List Bool, y_ = (List.replicate ((t128.length : Int) : Int).toNat false) := ⟨_, rfl⟩
              replace H : (hodmanlaw12_PinBytes.l0 k (wrap64 (1 + (wrap64 (Int.tmod a0 40)))) t125 t128 y131 0 0) = some r := by first | (rw [hy131]; with_reducible exact H) | (have H2_ := (Option.bind_some _ _).symm.trans H; rw [hy131]; with_reducible exact H2_) | (have H2_ := (Option.bind_some _ _).symm.trans H; with_reducible exact H2_) | with_reducible exact H | (rw [hy131]; exact H) | exact H
              have Ny131 := Aside0.mk hy131
              clear hy131
              have H' := Aside0.mk H
              clear H
              go_enter Try.func11, Try.ntmps11
              go_wp2_with (first | (go_at_call 30; (with_reducible refine (hodmanlaw12_begun.calls k  true _ A3.out).mono ?_); rintro e w13 ⟨rfl, hb⟩; have n0_ := Aside0.mk (below_step (by repeat (first | (with_reducible first | exact HB.out | apply below_alloc | apply pw_below_drewN | apply below_drew1) | exact HB.out)) hb); clear HB; have HB := n0_; clear n0_; (try clear hb); (try clear hb2); (try clear hk); (try clear hi)) | (go_at_call 31; (with_reducible refine (hodmanlaw12_Blocks.calls k _ _ l1 t125 _ ?side1 ?side2 A7.out).mono ?_); (case side1 => repeat (first | exact (Kd.C_below HR1.out HB.out) | (with_reducible refine Kd.C_alloc ?_ _) | (with_reducible refine Kd.C_drewN ?_ _) | (with_reducible refine Kd.C_drew ?_))); (case side2 => exact HC1.out); rintro e w14 ⟨v126, rfl, ho0, hb⟩; have n0_ := Aside0.mk (Kd.R_lower ho0 (below_size (by repeat (first | (with_reducible first | exact HB.out | apply below_alloc | apply pw_below_drewN | apply below_drew1) | exact HB.out)))); have n1_ := Aside0.mk (below_step (by repeat (first | (with_reducible first | exact HB.out | apply below_alloc | apply pw_below_drewN | apply below_drew1) | exact HB.out)) hb); clear HB; have HO127 := n0_; have HB := n1_; clear n0_ n1_; (try clear hb); (try clear hb2); (try clear hk); (try clear hi); (try clear ho0); obtain ⟨Ao15, co15, eo15⟩ := Kd.R_slice HO127.out; subst eo15) | (go_at_call 32; (with_reducible refine (pin_Met.calls k (wrap64 (1 + (wrap64 (Int.tmod a0 40)))) 320 _ _ t125 t128 _ ?side1 ?side2 A8.out).mono ?_); (case side1 => repeat (first | exact (Kd.R_reads' HO127.out).2.2 | (with_reducible refine Kd.C_alloc ?_ _) | (with_reducible refine Kd.C_drewN ?_ _) | (with_reducible refine Kd.C_drew ?_))); (case side2 => exact (Kd.R_reads' HO127.out).2.1); rintro e w16 ⟨v129, rfl, ho0, hb⟩; have n0_ := Aside0.mk (Kd.R_below (by (with_reducible repeat (first | apply Kd.R_alloc | apply Kd.R_drewN | apply Kd.R_drew)); exact HO127.out) hb); have n1_ := Aside0.mk (Kd.R_lower ho0 (below_size (by repeat (first | (with_reducible first | exact HB.out | apply below_alloc | apply pw_below_drewN | apply below_drew1) | exact HB.out)))); have n2_ := Aside0.mk (below_step (by repeat (first | (with_reducible first | exact HB.out | apply below_alloc | apply pw_below_drewN | apply below_drew1) | exact HB.out)) hb); clear HO127; clear HB; have HO127 := n0_; have HO130 := n1_; have HB := n2_; clear n0_ n1_ n2_; (try clear hb); (try clear hb2); (try clear hk); (try clear hi); (try clear ho0); obtain ⟨Ao17, co17, eo17⟩ := Kd.R_slice HO130.out; subst eo17) | ((with_reducible refine gate_dst (N := 36) rfl ?_); refine Kd.R_make Kd.bool _ 4 rfl (N := 36) rfl 43 _ _ rfl (t128.length : Int) rfl rfl Try.underlying43 (.bool false) 1 info4 rfl (by decide) (by omega) false (ok := fun _ => True) (okp := fun _ => True) rfl (fun _ hk => hk) trivial (of_decide_eq_true (by first | (with_reducible assumption) | assumption)) (Nat.le_trans (Nat.mul_le_mul_right _ (of_decide_eq_true (by first | (with_reducible assumption) | assumption) : (t128.length : Int).toNat ≤ 281474976710656)) (by omega)) (Below.refl _ _) (Nat.le_refl _) ?_; intro v132 w18 ho19 hb hg_ hnew_; clear hg_ hnew_; (first | rw [← Ny131.out] at ho19 | (simp only [Int.reduceToNat] at ho19; rw [← Ny131.out] at ho19)); have n0_ := Aside0.mk (Kd.R_below (by (with_reducible repeat (first | apply Kd.R_alloc | apply Kd.R_drewN | apply Kd.R_drew)); exact HO127.out) hb); have n1_ := Aside0.mk (Kd.R_elder' (by (with_reducible repeat (first | apply Kd.R_alloc | apply Kd.R_drewN | apply Kd.R_drew)); exact HO130.out) (Kd.R_base ho19) hb); have n2_ := Aside0.mk (Kd.R_lower (Kd.R_new' ho19 (Kd.R_lt (by (with_reducible repeat (first | apply Kd.R_alloc | apply Kd.R_drewN | apply Kd.R_drew)); exact HO130.out))) (below_size (by repeat (first | (with_reducible first | exact HB.out | apply below_alloc | apply pw_below_drewN | apply below_drew1) | exact HB.out)))); have n3_ := Aside0.mk (below_step (by repeat (first | (with_reducible first | exact HB.out | apply below_alloc | apply pw_below_drewN | apply below_drew1) | exact HB.out)) hb); clear HO127; clear HO130; clear HB; have HO127 := n0_; have HO130 := n1_; have HO133 := n2_; have HB := n3_; clear n0_ n1_ n2_ n3_; clear hb ho19))
              repeat (go_quiet (first | (go_at_call 30; (with_reducible refine (hodmanlaw12_begun.calls k  true _ A3.out).mono ?_); rintro e w13 ⟨rfl, hb⟩; have n0_ := Aside0.mk (below_step (by repeat (first | (with_reducible first | exact HB.out | apply below_alloc | apply pw_below_drewN | apply below_drew1) | exact HB.out)) hb); clear HB; have HB := n0_; clear n0_; (try clear hb); (try clear hb2); (try clear hk); (try clear hi)) | (go_at_call 31; (with_reducible refine (hodmanlaw12_Blocks.calls k _ _ l1 t125 _ ?side1 ?side2 A7.out).mono ?_); (case side1 => repeat (first | exact (Kd.C_below HR1.out HB.out) | (with_reducible refine Kd.C_alloc ?_ _) | (with_reducible refine Kd.C_drewN ?_ _) | (with_reducible refine Kd.C_drew ?_))); (case side2 => exact HC1.out); rintro e w14 ⟨v126, rfl, ho0, hb⟩; have n0_ := Aside0.mk (Kd.R_lower ho0 (below_size (by repeat (first | (with_reducible first | exact HB.out | apply below_alloc | apply pw_below_drewN | apply below_drew1) | exact HB.out)))); have n1_ := Aside0.mk (below_step (by repeat (first | (with_reducible first | exact HB.out | apply below_alloc | apply pw_below_drewN | apply below_drew1) | exact HB.out)) hb); clear HB; have HO127 := n0_; have HB := n1_; clear n0_ n1_; (try clear hb); (try clear hb2); (try clear hk); (try clear hi); (try clear ho0); obtain ⟨Ao15, co15, eo15⟩ := Kd.R_slice HO127.out; subst eo15) | (go_at_call 32; (with_reducible refine (pin_Met.calls k (wrap64 (1 + (wrap64 (Int.tmod a0 40)))) 320 _ _ t125 t128 _ ?side1 ?side2 A8.out).mono ?_); (case side1 => repeat (first | exact (Kd.R_reads' HO127.out).2.2 | (with_reducible refine Kd.C_alloc ?_ _) | (with_reducible refine Kd.C_drewN ?_ _) | (with_reducible refine Kd.C_drew ?_))); (case side2 => exact (Kd.R_reads' HO127.out).2.1); rintro e w16 ⟨v129, rfl, ho0, hb⟩; have n0_ := Aside0.mk (Kd.R_below (by (with_reducible repeat (first | apply Kd.R_alloc | apply Kd.R_drewN | apply Kd.R_drew)); exact HO127.out) hb); have n1_ := Aside0.mk (Kd.R_lower ho0 (below_size (by repeat (first | (with_reducible first | exact HB.out | apply below_alloc | apply pw_below_drewN | apply below_drew1) | exact HB.out)))); have n2_ := Aside0.mk (below_step (by repeat (first | (with_reducible first | exact HB.out | apply below_alloc | apply pw_below_drewN | apply below_drew1) | exact HB.out)) hb); clear HO127; clear HB; have HO127 := n0_; have HO130 := n1_; have HB := n2_; clear n0_ n1_ n2_; (try clear hb); (try clear hb2); (try clear hk); (try clear hi); (try clear ho0); obtain ⟨Ao17, co17, eo17⟩ := Kd.R_slice HO130.out; subst eo17) | ((with_reducible refine gate_dst (N := 36) rfl ?_); refine Kd.R_make Kd.bool _ 4 rfl (N := 36) rfl 43 _ _ rfl (t128.length : Int) rfl rfl Try.underlying43 (.bool false) 1 info4 rfl (by decide) (by omega) false (ok := fun _ => True) (okp := fun _ => True) rfl (fun _ hk => hk) trivial (of_decide_eq_true (by first | (with_reducible assumption) | assumption)) (Nat.le_trans (Nat.mul_le_mul_right _ (of_decide_eq_true (by first | (with_reducible assumption) | assumption) : (t128.length : Int).toNat ≤ 281474976710656)) (by omega)) (Below.refl _ _) (Nat.le_refl _) ?_; intro v132 w18 ho19 hb hg_ hnew_; clear hg_ hnew_; (first | rw [← Ny131.out] at ho19 | (simp only [Int.reduceToNat] at ho19; rw [← Ny131.out] at ho19)); have n0_ := Aside0.mk (Kd.R_below (by (with_reducible repeat (first | apply Kd.R_alloc | apply Kd.R_drewN | apply Kd.R_drew)); exact HO127.out) hb); have n1_ := Aside0.mk (Kd.R_elder' (by (with_reducible repeat (first | apply Kd.R_alloc | apply Kd.R_drewN | apply Kd.R_drew)); exact HO130.out) (Kd.R_base ho19) hb); have n2_ := Aside0.mk (Kd.R_lower (Kd.R_new' ho19 (Kd.R_lt (by (with_reducible repeat (first | apply Kd.R_alloc | apply Kd.R_drewN | apply Kd.R_drew)); exact HO130.out))) (below_size (by repeat (first | (with_reducible first | exact HB.out | apply below_alloc | apply pw_below_drewN | apply below_drew1) | exact HB.out)))); have n3_ := Aside0.mk (below_step (by repeat (first | (with_reducible first | exact HB.out | apply below_alloc | apply pw_below_drewN | apply below_drew1) | exact HB.out)) hb); clear HO127; clear HO130; clear HB; have HO127 := n0_; have HO130 := n1_; have HO133 := n2_; have HB := n3_; clear n0_ n1_ n2_ n3_; clear hb ho19)); try go_wp2_with (first | (go_at_call 30; (with_reducible refine (hodmanlaw12_begun.calls k  true _ A3.out).mono ?_); rintro e w13 ⟨rfl, hb⟩; have n0_ := Aside0.mk (below_step (by repeat (first | (with_reducible first | exact HB.out | apply below_alloc | apply pw_below_drewN | apply below_drew1) | exact HB.out)) hb); clear HB; have HB := n0_; clear n0_; (try clear hb); (try clear hb2); (try clear hk); (try clear hi)) | (go_at_call 31; (with_reducible refine (hodmanlaw12_Blocks.calls k _ _ l1 t125 _ ?side1 ?side2 A7.out).mono ?_); (case side1 => repeat (first | exact (Kd.C_below HR1.out HB.out) | (with_reducible refine Kd.C_alloc ?_ _) | (with_reducible refine Kd.C_drewN ?_ _) | (with_reducible refine Kd.C_drew ?_))); (case side2 => exact HC1.out); rintro e w14 ⟨v126, rfl, ho0, hb⟩; have n0_ := Aside0.mk (Kd.R_lower ho0 (below_size (by repeat (first | (with_reducible first | exact HB.out | apply below_alloc | apply pw_below_drewN | apply below_drew1) | exact HB.out)))); have n1_ := Aside0.mk (below_step (by repeat (first | (with_reducible first | exact HB.out | apply below_alloc | apply pw_below_drewN | apply below_drew1) | exact HB.out)) hb); clear HB; have HO127 := n0_; have HB := n1_; clear n0_ n1_; (try clear hb); (try clear hb2); (try clear hk); (try clear hi); (try clear ho0); obtain ⟨Ao15, co15, eo15⟩ := Kd.R_slice HO127.out; subst eo15) | (go_at_call 32; (with_reducible refine (pin_Met.calls k (wrap64 (1 + (wrap64 (Int.tmod a0 40)))) 320 _ _ t125 t128 _ ?side1 ?side2 A8.out).mono ?_); (case side1 => repeat (first | exact (Kd.R_reads' HO127.out).2.2 | (with_reducible refine Kd.C_alloc ?_ _) | (with_reducible refine Kd.C_drewN ?_ _) | (with_reducible refine Kd.C_drew ?_))); (case side2 => exact (Kd.R_reads' HO127.out).2.1); rintro e w16 ⟨v129, rfl, ho0, hb⟩; have n0_ := Aside0.mk (Kd.R_below (by (with_reducible repeat (first | apply Kd.R_alloc | apply Kd.R_drewN | apply Kd.R_drew)); exact HO127.out) hb); have n1_ := Aside0.mk (Kd.R_lower ho0 (below_size (by repeat (first | (with_reducible first | exact HB.out | apply below_alloc | apply pw_below_drewN | apply below_drew1) | exact HB.out)))); have n2_ := Aside0.mk (below_step (by repeat (first | (with_reducible first | exact HB.out | apply below_alloc | apply pw_below_drewN | apply below_drew1) | exact HB.out)) hb); clear HO127; clear HB; have HO127 := n0_; have HO130 := n1_; have HB := n2_; clear n0_ n1_ n2_; (try clear hb); (try clear hb2); (try clear hk); (try clear hi); (try clear ho0); obtain ⟨Ao17, co17, eo17⟩ := Kd.R_slice HO130.out; subst eo17) | ((with_reducible refine gate_dst (N := 36) rfl ?_); refine Kd.R_make Kd.bool _ 4 rfl (N := 36) rfl 43 _ _ rfl (t128.length : Int) rfl rfl Try.underlying43 (.bool false) 1 info4 rfl (by decide) (by omega) false (ok := fun _ => True) (okp := fun _ => True) rfl (fun _ hk => hk) trivial (of_decide_eq_true (by first | (with_reducible assumption) | assumption)) (Nat.le_trans (Nat.mul_le_mul_right _ (of_decide_eq_true (by first | (with_reducible assumption) | assumption) : (t128.length : Int).toNat ≤ 281474976710656)) (by omega)) (Below.refl _ _) (Nat.le_refl _) ?_; intro v132 w18 ho19 hb hg_ hnew_; clear hg_ hnew_; (first | rw [← Ny131.out] at ho19 | (simp only [Int.reduceToNat] at ho19; rw [← Ny131.out] at ho19)); have n0_ := Aside0.mk (Kd.R_below (by (with_reducible repeat (first | apply Kd.R_alloc | apply Kd.R_drewN | apply Kd.R_drew)); exact HO127.out) hb); have n1_ := Aside0.mk (Kd.R_elder' (by (with_reducible repeat (first | apply Kd.R_alloc | apply Kd.R_drewN | apply Kd.R_drew)); exact HO130.out) (Kd.R_base ho19) hb); have n2_ := Aside0.mk (Kd.R_lower (Kd.R_new' ho19 (Kd.R_lt (by (with_reducible repeat (first | apply Kd.R_alloc | apply Kd.R_drewN | apply Kd.R_drew)); exact HO130.out))) (below_size (by repeat (first | (with_reducible first | exact HB.out | apply below_alloc | apply pw_below_drewN | apply below_drew1) | exact HB.out)))); have n3_ := Aside0.mk (below_step (by repeat (first | (with_reducible first | exact HB.out | apply below_alloc | apply pw_below_drewN | apply below_drew1) | exact HB.out)) hb); clear HO127; clear HO130; clear HB; have HO127 := n0_; have HO130 := n1_; have HO133 := n2_; have HB := n3_; clear n0_ n1_ n2_ n3_; clear hb ho19)))
              go_loopg [10] k (fun kq v10 w' => ∃ (x8_1 : List Bool) (x10_1 : Int), v10 = .int .i64 x10_1 ∧ Aside0 (hodmanlaw12_PinBytes.l0 kq (wrap64 (1 + (wrap64 (Int.tmod a0 40)))) t125 t128 x8_1 0 x10_1 = some r) ∧ Aside0 (kq ≤ k) ∧ Aside0 (Kd.R k48 48 w' w.heap.size (fun _ => True) (.slice Ao15 t125.length co15) t125) ∧ Aside0 (Kd.R Kd.bool 4 w' w.heap.size (fun k_ => some k_ ≠ (v132 : Value).ownBlock) (.slice Ao17 t128.length co17) t128) ∧ Aside0 (Kd.R Kd.bool 4 w' w.heap.size (fun k_ => some k_ ≠ ((.slice Ao17 t128.length co17) : Value).ownBlock) v132 x8_1) ∧ Aside0 (Below w.heap.size w w'))
              case atStart => exact ⟨(y131), (0), (by first | rfl | (simp; done) | (simp [*]; done)), H', ⟨Nat.le_refl _⟩, ⟨by (with_reducible repeat (first | apply Kd.R_alloc | apply Kd.R_drewN | apply Kd.R_drew)); exact HO127.out⟩, ⟨by (with_reducible repeat (first | apply Kd.R_alloc | apply Kd.R_drewN | apply Kd.R_drew)); exact Kd.R_mono HO130.out (fun _ hk => hk.2)⟩, ⟨by (with_reducible repeat (first | apply Kd.R_alloc | apply Kd.R_drewN | apply Kd.R_drew)); exact Kd.R_mono HO133.out (fun _ hk => hk.2)⟩, ⟨by repeat (first | (with_reducible first | exact HB.out | apply below_alloc | apply pw_below_drewN | apply below_drew1) | exact HB.out)⟩⟩
              case round =>
                clear H'
                try clear c1
                try clear p2
                try clear c4
                try clear c5
                try clear c5b0
                try clear c5b1
                try clear p6
                try clear c9
                try clear c9b0
                try clear c9b1
                try clear c10
                try clear c10b0
                try clear c10b1
                try clear c11
                try clear c11b0
                try clear c11b1
                try clear c12
                try clear c12b0
                try clear c12b1
                obtain ⟨x8_1, x10_1, rfl, HA, HK1, HO_6, HO_7, HO_8, HB⟩ := hrel
                cases gk with
                | zero => exact absurd HA.out (by simp [hodmanlaw12_PinBytes.l0])
                | succ k1 =>
                  have H := HA.out
                  clear HA
                  simp only [hodmanlaw12_PinBytes.l0] at H
                  by_cases c20 : x10_1 < (t125.length : Int)
                  · rw [if_pos c20] at H
                    have c20b0 : decide (x10_1 < (t125.length : Int)) = true := decide_eq_true c20
                    clear c20
                    by_cases c21 : 0 ≤ x10_1
                    · rw [if_pos c21] at H
                      have c21b0 : decide (0 ≤ x10_1) = true := decide_eq_true c21
                      clear c21
                      replace H := Option.bind_eq_some_iff.mp H
                      obtain ⟨⟨t136, t137⟩, A220, H⟩ := H
                      replace H : (if (wrap64 (1 + (wrap64 (Int.tmod a0 40)))) = 0 then (none) else (if t136 = (wrap64 (Int.tdiv ((rd_T48 t125 x10_1).f0) (wrap64 (1 + (wrap64 (Int.tmod a0 40)))))) then (hodmanlaw12_PinBytes.j1 k1 (wrap64 (1 + (wrap64 (Int.tmod a0 40)))) t125 t128 x8_1 0 x10_1 (t137 != (wrap64 ((wrap64 (Int.tdiv (wrap64 ((wrap64 (((rd_T48 t125 x10_1).f0) + ((rd_T48 t125 x10_1).f1))) - 1)) (wrap64 (1 + (wrap64 (Int.tmod a0 40)))))) + 1)))) else (hodmanlaw12_PinBytes.j1 k1 (wrap64 (1 + (wrap64 (Int.tmod a0 40)))) t125 t128 x8_1 0 x10_1 true))) = some r := H
                      have A22 := Aside0.mk A220
                      clear A220
                      have HC23 := Aside0.mk H
                      clear H
                      have p134 : 0 ≤ (x10_1 : Int) := of_decide_eq_true (by first | (with_reducible assumption) | assumption)
                      have q134 : x10_1 < (t125.length : Int) := of_decide_eq_true (by first | (with_reducible assumption) | assumption)
                      obtain ⟨ad134, e134, hx134_0, hx134_1, hx134_2⟩ := at_T48 (Kd.R_reads' HO_6.out).2.2 x10_1 p134 q134
                      cases e134
                      replace p134 := eq_true p134
                      replace q134 := eq_true q134
                      have p135 : 0 ≤ (x10_1 : Int) := of_decide_eq_true (by first | (with_reducible assumption) | assumption)
                      have q135 : x10_1 < (t125.length : Int) := of_decide_eq_true (by first | (with_reducible assumption) | assumption)
                      obtain ⟨ad135, e135, hx135_0, hx135_1, hx135_2⟩ := at_T48 (Kd.R_reads' HO_6.out).2.2 x10_1 p135 q135
                      obtain rfl : ad134 = ad135 := (by injection e135)
                      replace p135 := eq_true p135
                      replace q135 := eq_true q135
                      go_upto_region 16 with (first | (go_at_call 33; (with_reducible refine (pin_Pages.calls k1 (wrap64 (1 + (wrap64 (Int.tmod a0 40)))) ((rd_T48 t125 x10_1).f0) ((rd_T48 t125 x10_1).f1) t136 t137 _ A22.out).mono ?_); rintro e w' ⟨rfl, ⟨nd, rfl⟩⟩; (try first | exact ⟨rfl, _, World.drewN_drewN _ _ _⟩ | exact ⟨rfl, _, Eq.trans (World.drewN_drewN _ _ _) (congrArg (World.drewN _) (Nat.add_assoc _ _ _))⟩)))
                      repeat (go_quiet (first | (go_at_call 33; (with_reducible refine (pin_Pages.calls k1 (wrap64 (1 + (wrap64 (Int.tmod a0 40)))) ((rd_T48 t125 x10_1).f0) ((rd_T48 t125 x10_1).f1) t136 t137 _ A22.out).mono ?_); rintro e w' ⟨rfl, ⟨nd, rfl⟩⟩; (try first | exact ⟨rfl, _, World.drewN_drewN _ _ _⟩ | exact ⟨rfl, _, Eq.trans (World.drewN_drewN _ _ _) (congrArg (World.drewN _) (Nat.add_assoc _ _ _))⟩))); go_upto_region 16 with (first | (go_at_call 33; (with_reducible refine (pin_Pages.calls k1 (wrap64 (1 + (wrap64 (Int.tmod a0 40)))) ((rd_T48 t125 x10_1).f0) ((rd_T48 t125 x10_1).f1) t136 t137 _ A22.out).mono ?_); rintro e w' ⟨rfl, ⟨nd, rfl⟩⟩; (try first | exact ⟨rfl, _, World.drewN_drewN _ _ _⟩ | exact ⟨rfl, _, Eq.trans (World.drewN_drewN _ _ _) (congrArg (World.drewN _) (Nat.add_assoc _ _ _))⟩))))
                      (try simp only [Act.put, List.setIfInBounds_toArray, List.set_cons_zero, List.set_cons_succ])
                      go_cut [85] (fun v85 wc => ∃ (kq : Nat) (x85_22 : Bool), v85 = .bool x85_22 ∧ Aside0 (hodmanlaw12_PinBytes.j1 kq (wrap64 (1 + (wrap64 (Int.tmod a0 40)))) t125 t128 x8_1 0 x10_1 x85_22 = some r) ∧ Aside0 (kq ≤ k1) ∧ Aside0 (Kd.R k48 48 wc w.heap.size (fun _ => True) (.slice (some ad134) t125.length co15) t125) ∧ Aside0 (Kd.R Kd.bool 4 wc w.heap.size (fun k_ => some k_ ≠ (v132 : Value).ownBlock) (.slice Ao17 t128.length co17) t128) ∧ Aside0 (Kd.R Kd.bool 4 wc w.heap.size (fun k_ => some k_ ≠ ((.slice Ao17 t128.length co17) : Value).ownBlock) v132 x8_1) ∧ Aside0 (Below w.heap.size w wc))
                      case first =>
                        have H := HC23.out
                        clear HC23
                        by_cases c24 : (wrap64 (1 + (wrap64 (Int.tmod a0 40)))) = 0
                        · rw [if_pos c24] at H
                          exact absurd H (by simp)
                        · rw [if_neg c24] at H
                          have c24b0 : ((wrap64 (1 + (wrap64 (Int.tmod a0 40)))) == 0) = false := beq_eq_false_iff_ne.mpr c24
                          have c24b1 : ((wrap64 (1 + (wrap64 (Int.tmod a0 40)))) != 0) = true := bne_iff_ne.mpr c24
                          (first | rw [c24b0] | (simp only [i64_w, i32_w]; rw [c24b0]) | skip)
                          by_cases c25 : t136 = (wrap64 (Int.tdiv ((rd_T48 t125 x10_1).f0) (wrap64 (1 + (wrap64 (Int.tmod a0 40))))))
                          · rw [if_pos c25] at H
                            have c25b0 : (t136 == (wrap64 (Int.tdiv ((rd_T48 t125 x10_1).f0) (wrap64 (1 + (wrap64 (Int.tmod a0 40))))))) = true := beq_iff_eq.mpr c25
                            have c25b1 : (t136 != (wrap64 (Int.tdiv ((rd_T48 t125 x10_1).f0) (wrap64 (1 + (wrap64 (Int.tmod a0 40))))))) = false := bne_eq_false_iff_eq.mpr c25
                            clear c25
                            have H' := Aside0.mk H
                            clear H
                            have p138 : 0 ≤ (x10_1 : Int) := of_decide_eq_true (by first | (with_reducible assumption) | assumption)
                            have q138 : x10_1 < (t125.length : Int) := of_decide_eq_true (by first | (with_reducible assumption) | assumption)
                            obtain ⟨ad138, e138, hx138_0, hx138_1, hx138_2⟩ := at_T48 (Kd.R_reads' HO_6.out).2.2 x10_1 p138 q138
                            obtain rfl : ad134 = ad138 := (by injection e138)
                            replace p138 := eq_true p138
                            replace q138 := eq_true q138
                            have p139 : 0 ≤ (x10_1 : Int) := of_decide_eq_true (by first | (with_reducible assumption) | assumption)
                            have q139 : x10_1 < (t125.length : Int) := of_decide_eq_true (by first | (with_reducible assumption) | assumption)
                            obtain ⟨ad139, e139, hx139_0, hx139_1, hx139_2⟩ := at_T48 (Kd.R_reads' HO_6.out).2.2 x10_1 p139 q139
                            obtain rfl : ad134 = ad139 := (by injection e139)
                            replace p139 := eq_true p139
                            replace q139 := eq_true q139
                            have p140 : 0 ≤ (x10_1 : Int) := of_decide_eq_true (by first | (with_reducible assumption) | assumption)
                            have q140 : x10_1 < (t125.length : Int) := of_decide_eq_true (by first | (with_reducible assumption) | assumption)
                            obtain ⟨ad140, e140, hx140_0, hx140_1, hx140_2⟩ := at_T48 (Kd.R_reads' HO_6.out).2.2 x10_1 p140 q140
                            obtain rfl : ad134 = ad140 := (by injection e140)
                            replace p140 := eq_true p140
                            replace q140 := eq_true q140
                            go_wp2
                            repeat (go_quiet (fail); try go_wp2)
                            go_meet
                            case rel => exact ⟨_, ((t137 != (wrap64 ((wrap64 (Int.tdiv (wrap64 ((wrap64 (((rd_T48 t125 x10_1).f0) + ((rd_T48 t125 x10_1).f1))) - 1)) (wrap64 (1 + (wrap64 (Int.tmod a0 40)))))) + 1)))), (by first | rfl | (simp; done) | (simp [*]; done)), H', ⟨by have := HK1.out; first | omega | exact Nat.le_refl _⟩, ⟨by (with_reducible repeat (first | apply Kd.R_alloc | apply Kd.R_drewN | apply Kd.R_drew)); exact HO_6.out⟩, ⟨by (with_reducible repeat (first | apply Kd.R_alloc | apply Kd.R_drewN | apply Kd.R_drew)); exact HO_7.out⟩, ⟨by (with_reducible repeat (first | apply Kd.R_alloc | apply Kd.R_drewN | apply Kd.R_drew)); exact HO_8.out⟩, ⟨by repeat (first | (with_reducible first | exact HB.out | apply below_alloc | apply pw_below_drewN | apply below_drew1) | exact HB.out)⟩⟩
                          · rw [if_neg c25] at H
                            have c25b0 : (t136 == (wrap64 (Int.tdiv ((rd_T48 t125 x10_1).f0) (wrap64 (1 + (wrap64 (Int.tmod a0 40))))))) = false := beq_eq_false_iff_ne.mpr c25
                            have c25b1 : (t136 != (wrap64 (Int.tdiv ((rd_T48 t125 x10_1).f0) (wrap64 (1 + (wrap64 (Int.tmod a0 40))))))) = true := bne_iff_ne.mpr c25
                            have H' := Aside0.mk H
                            clear H
                            have p138 : 0 ≤ (x10_1 : Int) := of_decide_eq_true (by first | (with_reducible assumption) | assumption)
                            have q138 : x10_1 < (t125.length : Int) := of_decide_eq_true (by first | (with_reducible assumption) | assumption)
                            obtain ⟨ad138, e138, hx138_0, hx138_1, hx138_2⟩ := at_T48 (Kd.R_reads' HO_6.out).2.2 x10_1 p138 q138
                            obtain rfl : ad134 = ad138 := (by injection e138)
                            replace p138 := eq_true p138
                            replace q138 := eq_true q138
                            go_wp2
                            repeat (go_quiet (fail); try go_wp2)
                            go_meet
                            case rel => exact ⟨_, (true), (by first | rfl | (simp; done) | (simp [*]; done)), H', ⟨by have := HK1.out; first | omega | exact Nat.le_refl _⟩, ⟨by (with_reducible repeat (first | apply Kd.R_alloc | apply Kd.R_drewN | apply Kd.R_drew)); exact HO_6.out⟩, ⟨by (with_reducible repeat (first | apply Kd.R_alloc | apply Kd.R_drewN | apply Kd.R_drew)); exact HO_7.out⟩, ⟨by (with_reducible repeat (first | apply Kd.R_alloc | apply Kd.R_drewN | apply Kd.R_drew)); exact HO_8.out⟩, ⟨by repeat (first | (with_reducible first | exact HB.out | apply below_alloc | apply pw_below_drewN | apply below_drew1) | exact HB.out)⟩⟩
                      case rest =>
                        clear HC23
                        try clear c1
                        try clear p1
                        try clear q1
                        try clear hx1
                        try clear c2
                        try clear p2
                        try clear c4
                        try clear c5
                        try clear c5b0
                        try clear c5b1
                        try clear p6
                        try clear c9
                        try clear c9b0
                        try clear c9b1
                        try clear c10
                        try clear c10b0
                        try clear c10b1
                        try clear c11
                        try clear c11b0
                        try clear c11b1
                        try clear c12
                        try clear c12b0
                        try clear c12b1
                        try clear p13
                        try clear q13
                        try clear hx13
                        try clear p14
                        try clear q14
                        try clear hx14
                        try clear c20
                        try clear c20b0
                        try clear c21
                        try clear c21b0
                        try clear c24
                        try clear c24b0
                        try clear c24b1
                        try clear c25
                        try clear c25b0
                        try clear c25b1
                        try clear hx134_0
                        try clear hx134_1
                        try clear hx134_2
                        try clear hx135_0
                        try clear hx135_1
                        try clear hx135_2
                        try clear hx138_0
                        try clear hx138_1
                        try clear hx138_2
                        try clear hx139_0
                        try clear hx139_1
                        try clear hx139_2
                        try clear hx140_0
                        try clear hx140_1
                        try clear hx140_2
                        try clear p134
                        try clear p135
                        try clear p138
                        try clear p139
                        try clear p140
                        try clear p2
                        try clear p6
                        try clear q134
                        try clear q135
                        try clear q138
                        try clear q139
                        try clear q140
                        obtain ⟨kq, x85_22, rfl, HA, HJ22, HO_6, HO_7, HO_8, HB⟩ := hcut
                        cases kq with
                        | zero => exact absurd HA.out (by simp [hodmanlaw12_PinBytes.j1])
                        | succ kj22 =>
                          have H := HA.out
                          clear HA
                          simp only [hodmanlaw12_PinBytes.j1] at H
                          by_cases c26 : x85_22 = true
                          · subst c26
                            have H1 : (some false) = some r := by rw [if_pos rfl] at H; exact H
                            clear H
                            have H := H1
                            clear H1
                            exact absurd ((Option.some.inj H).trans HRT.out) (by decide)
                          · replace c26 := Bool.eq_false_iff.mpr c26
                            subst c26
                            have H1 : (if 0 ≤ x10_1 then (if x10_1 < (t125.length : Int) then (hodmanlaw12_PinBytes.l1 kj22 (wrap64 (1 + (wrap64 (Int.tmod a0 40)))) t125 t128 x8_1 0 x10_1 ((rd_T48 t125 x10_1).f0)) else (none)) else (none)) = some r := by rw [if_neg (show ¬ (false = true) by decide)] at H; exact H
                            clear H
                            have H := H1
                            clear H1
                            by_cases c27 : 0 ≤ x10_1
                            · rw [if_pos c27] at H
                              have c27b0 : decide (0 ≤ x10_1) = true := decide_eq_true c27
                              clear c27
                              by_cases c28 : x10_1 < (t125.length : Int)
                              · rw [if_pos c28] at H
                                have c28b0 : decide (x10_1 < (t125.length : Int)) = true := decide_eq_true c28
                                clear c28
                                have H' := Aside0.mk H
                                clear H
                                have p141 : 0 ≤ (x10_1 : Int) := of_decide_eq_true (by first | (with_reducible assumption) | assumption)
                                have q141 : x10_1 < (t125.length : Int) := of_decide_eq_true (by first | (with_reducible assumption) | assumption)
                                obtain ⟨ad141, e141, hx141_0, hx141_1, hx141_2⟩ := at_T48 (Kd.R_reads' HO_6.out).2.2 x10_1 p141 q141
                                obtain rfl : ad134 = ad141 := (by injection e141)
                                replace p141 := eq_true p141
                                replace q141 := eq_true q141
                                go_wp2
                                repeat (go_quiet (fail); try go_wp2)
                                go_loopg [13] kj22 (fun kq v13 w' => ∃ (x8_3 : List Bool) (x13_3 : Int), v13 = .int .i64 x13_3 ∧ Aside0 (hodmanlaw12_PinBytes.l1 kq (wrap64 (1 + (wrap64 (Int.tmod a0 40)))) t125 t128 x8_3 0 x10_1 x13_3 = some r) ∧ Aside0 (kq ≤ kj22) ∧ Aside0 (Kd.R k48 48 w' w.heap.size (fun _ => True) (.slice (some ad134) t125.length co15) t125) ∧ Aside0 (Kd.R Kd.bool 4 w' w.heap.size (fun k_ => some k_ ≠ (v132 : Value).ownBlock) (.slice Ao17 t128.length co17) t128) ∧ Aside0 (Kd.R Kd.bool 4 w' w.heap.size (fun k_ => some k_ ≠ ((.slice Ao17 t128.length co17) : Value).ownBlock) v132 x8_3) ∧ Aside0 (Below w.heap.size w w'))
                                case atStart => exact ⟨(x8_1), ((rd_T48 t125 x10_1).f0), (by first | rfl | (simp; done) | (simp [*]; done)), H', ⟨Nat.le_refl _⟩, ⟨by (with_reducible repeat (first | apply Kd.R_alloc | apply Kd.R_drewN | apply Kd.R_drew)); exact HO_6.out⟩, ⟨by (with_reducible repeat (first | apply Kd.R_alloc | apply Kd.R_drewN | apply Kd.R_drew)); exact HO_7.out⟩, ⟨by (with_reducible repeat (first | apply Kd.R_alloc | apply Kd.R_drewN | apply Kd.R_drew)); exact HO_8.out⟩, ⟨by repeat (first | (with_reducible first | exact HB.out | apply below_alloc | apply pw_below_drewN | apply below_drew1) | exact HB.out)⟩⟩
                                case round =>
                                  clear H'
                                  try clear c1
                                  try clear p1
                                  try clear q1
                                  try clear hx1
                                  try clear c2
                                  try clear p2
                                  try clear c4
                                  try clear c5
                                  try clear c5b0
                                  try clear c5b1
                                  try clear p6
                                  try clear c9
                                  try clear c9b0
                                  try clear c9b1
                                  try clear c10
                                  try clear c10b0
                                  try clear c10b1
                                  try clear c11
                                  try clear c11b0
                                  try clear c11b1
                                  try clear c12
                                  try clear c12b0
                                  try clear c12b1
                                  try clear p13
                                  try clear q13
                                  try clear hx13
                                  try clear p14
                                  try clear q14
                                  try clear hx14
                                  try clear c20
                                  try clear c20b0
                                  try clear c21
                                  try clear c21b0
                                  try clear c24
                                  try clear c24b0
                                  try clear c24b1
                                  try clear c25
                                  try clear c25b0
                                  try clear c25b1
                                  try clear c26
                                  try clear c27
                                  try clear c27b0
                                  try clear c28
                                  try clear c28b0
                                  try clear hx134_0
                                  try clear hx134_1
                                  try clear hx134_2
                                  try clear hx135_0
                                  try clear hx135_1
                                  try clear hx135_2
                                  try clear hx138_0
                                  try clear hx138_1
                                  try clear hx138_2
                                  try clear hx139_0
                                  try clear hx139_1
                                  try clear hx139_2
                                  try clear hx140_0
                                  try clear hx140_1
                                  try clear hx140_2
                                  try clear hx141_0
                                  try clear hx141_1
                                  try clear hx141_2
                                  try clear p1
                                  try clear p13
                                  try clear p134
                                  try clear p135
                                  try clear p138
                                  try clear p139
                                  try clear p14
                                  try clear p140
                                  try clear p141
                                  try clear p2
                                  try clear p6
                                  try clear q1
                                  try clear q13
                                  try clear q134
                                  try clear q135
                                  try clear q138
                                  try clear q139
                                  try clear q14
                                  try clear q140
                                  try clear q141
                                  obtain ⟨x8_3, x13_3, rfl, HA, HK3, HO_6, HO_7, HO_8, HB⟩ := hrel
                                  cases gk with
                                  | zero => exact absurd HA.out (by simp [hodmanlaw12_PinBytes.l1])
                                  | succ k3 =>
                                    have H := HA.out
                                    clear HA
                                    simp only [hodmanlaw12_PinBytes.l1] at H
                                    by_cases c29 : 0 ≤ x10_1
                                    · rw [if_pos c29] at H
                                      have c29b0 : decide (0 ≤ x10_1) = true := decide_eq_true c29
                                      clear c29
                                      by_cases c30 : x10_1 < (t125.length : Int)
                                      · rw [if_pos c30] at H
                                        have c30b0 : decide (x10_1 < (t125.length : Int)) = true := decide_eq_true c30
                                        clear c30
                                        by_cases c31 : x13_3 < (wrap64 (((rd_T48 t125 x10_1).f0) + ((rd_T48 t125 x10_1).f1)))
                                        · rw [if_pos c31] at H
                                          have c31b0 : decide (x13_3 < (wrap64 (((rd_T48 t125 x10_1).f0) + ((rd_T48 t125 x10_1).f1)))) = true := decide_eq_true c31
                                          clear c31
                                          by_cases c32 : (wrap64 (1 + (wrap64 (Int.tmod a0 40)))) = 0
                                          · rw [if_pos c32] at H
                                            exact absurd H (by simp)
                                          · rw [if_neg c32] at H
                                            have c32b0 : ((wrap64 (1 + (wrap64 (Int.tmod a0 40)))) == 0) = false := beq_eq_false_iff_ne.mpr c32
                                            have c32b1 : ((wrap64 (1 + (wrap64 (Int.tmod a0 40)))) != 0) = true := bne_iff_ne.mpr c32
                                            by_cases c33 : (wrap64 (Int.tdiv x13_3 (wrap64 (1 + (wrap64 (Int.tmod a0 40)))))) < (x8_3.length : Int)
                                            · rw [if_pos c33] at H
                                              have c33b0 : decide ((wrap64 (Int.tdiv x13_3 (wrap64 (1 + (wrap64 (Int.tmod a0 40)))))) < (x8_3.length : Int)) = true := decide_eq_true c33
                                              clear c33
                                              obtain ⟨ji34, hji34⟩ : ∃ j_ : Int, (wrap64 (Int.tdiv x13_3 (wrap64 (1 + (wrap64 (Int.tmod a0 40)))))) = j_ := ⟨_, rfl⟩
                                              replace H : (if 0 ≤ (ji34) then (hodmanlaw12_PinBytes.l1 k3 (wrap64 (1 + (wrap64 (Int.tmod a0 40)))) t125 t128 (x8_3.set ((ji34) : Int).toNat true) 0 x10_1 (wrap64 (x13_3 + 1))) else (none)) = some r := by first | (rw [hji34] at H; exact H) | (simp only [hji34] at H ⊢; exact H)
                                              (try rw [hji34] at c33b0)
                                              have hji34w : (IntKind.i64.wrap (Int.tdiv x13_3 (wrap64 (1 + (wrap64 (Int.tmod a0 40)))))) = ji34 := (i64_w _).trans hji34
                                              by_cases c35 : 0 ≤ (ji34)
                                              · rw [if_pos c35] at H
                                                have c35b0 : decide (0 ≤ (ji34)) = true := decide_eq_true c35
                                                clear c35
                                                obtain ⟨y144, hy144⟩ : ∃ y_ : List Bool, y_ = (x8_3.set ((ji34) : Int).toNat true) := ⟨_, rfl⟩
                                                replace H : (hodmanlaw12_PinBytes.l1 k3 (wrap64 (1 + (wrap64 (Int.tmod a0 40)))) t125 t128 y144 0 x10_1 (wrap64 (x13_3 + 1))) = some r := by first | (rw [hy144]; with_reducible exact H) | (have H2_ := (Option.bind_some _ _).symm.trans H; rw [hy144]; with_reducible exact H2_) | (have H2_ := (Option.bind_some _ _).symm.trans H; with_reducible exact H2_) | with_reducible exact H | (rw [hy144]; exact H) | exact H
                                                have Ny144 := Aside0.mk hy144
                                                clear hy144
                                                have H' := Aside0.mk H
                                                clear H
                                                have p142 : 0 ≤ (x10_1 : Int) := of_decide_eq_true (by first | (with_reducible assumption) | assumption)
                                                have q142 : x10_1 < (t125.length : Int) := of_decide_eq_true (by first | (with_reducible assumption) | assumption)
                                                obtain ⟨ad142, e142, hx142_0, hx142_1, hx142_2⟩ := at_T48 (Kd.R_reads' HO_6.out).2.2 x10_1 p142 q142
                                                obtain rfl : ad134 = ad142 := (by injection e142)
                                                replace p142 := eq_true p142
                                                replace q142 := eq_true q142
                                                have p143 : 0 ≤ (x10_1 : Int) := of_decide_eq_true (by first | (with_reducible assumption) | assumption)
                                                have q143 : x10_1 < (t125.length : Int) := of_decide_eq_true (by first | (with_reducible assumption) | assumption)
                                                obtain ⟨ad143, e143, hx143_0, hx143_1, hx143_2⟩ := at_T48 (Kd.R_reads' HO_6.out).2.2 x10_1 p143 q143
                                                obtain rfl : ad134 = ad143 := (by injection e143)
                                                replace p143 := eq_true p143
                                                replace q143 := eq_true q143
                                                obtain ⟨Ao37, co37, eo37⟩ := Kd.R_slice HO_8.out
                                                subst eo37
                                                have p36 : 0 ≤ ((ji34) : Int) := of_decide_eq_true (by first | (with_reducible assumption) | assumption)
                                                have q36 : ((ji34) : Int) < ((x8_3.length : Int) : Int) := of_decide_eq_true (by first | (with_reducible assumption) | assumption)
                                                obtain ⟨go36, co36, eo36, gb36, gl36, cl36, HG36⟩ := Kd.R_form HO_8.out (by omega)
                                                (first | cases eo36 | (injection eo36 with ea_ en_ ec_; (first | subst ea_ | (injection ea_ with ea_; subst ea_)); subst ec_; clear en_))
                                                have GB36 := Aside0.mk gb36
                                                have GG36 := Aside0.mk HG36
                                                clear gb36 gl36 HG36
                                                obtain ⟨hx36_0, hf36_0⟩ := Kd.R_celln false HO_8.out ((ji34) : Int) p36 q36
                                                replace p36 := eq_true p36
                                                replace q36 := eq_true q36
                                                have HP38 := Kd.R_putg HO_8.out ((ji34) : Int) true
                                                go_wp2_with (first | ((with_reducible refine gate_store (t := 4) (p := 116) rfl ?_); (try (rw [drewN_self wr]; generalize hq_ : World.drewN wr _ = wr; have n0_ := Aside0.mk (Kd.R_at hq_ HO_6.out); have n1_ := Aside0.mk (Kd.R_at hq_ HO_7.out); have n2_ := Aside0.mk (Kd.R_at hq_ HO_8.out); have n3_ := Aside0.mk (below_at hq_ HB.out); clear hq_ HO_6 HO_7 HO_8 HB; have HO_6 := n0_; have HO_7 := n1_; have HO_8 := n2_; have HB := n3_; clear n0_ n1_ n2_ n3_; (try (obtain ⟨hx36_0, hf36_0⟩ := Kd.R_celln false HO_8.out ((ji34) : Int) (of_eq_true p36) (of_eq_true q36))); (try (have HP38 := Kd.R_putg HO_8.out ((ji34) : Int) true)))); refine store_event (t := 4) (p := 116) (v := ?vo_w39) (w1 := (wr.setCell ⟨go36, ((ji34) : Int).toNat, none⟩ (.bool true))) ?hg ?ho ?hn ?hr ?_; (case ho => rfl); (case hg => rfl); (case hn => rfl); (case hr => first | (go_simp; done) | (go_simp; rfl)); intro w39 hw; have hg : wr.grownBy w39 (some go36) := (by rw [hw]; exact HP38.2); have hp_ : Kd.R Kd.bool 4 w39 w.heap.size (fun k_ => some k_ ≠ (.slice Ao17 t128.length co17 : Value).ownBlock) (.slice (some ⟨go36, 0, none⟩) x8_3.length co37) y144 := (by rw [hw, Ny144.out]; exact HP38.1); clear HP38; have n0_ := Aside0.mk (Kd.R_over' (v := (.slice (some ⟨go36, 0, none⟩) x8_3.length co37)) (by (with_reducible repeat (first | apply Kd.R_alloc | apply Kd.R_drewN | apply Kd.R_drew)); exact HO_6.out) (Kd.R_typed HO_8.out) (by decide) hg); have n1_ := Aside0.mk (Kd.R_after (v := (.slice (some ⟨go36, 0, none⟩) x8_3.length co37)) (v1 := (.slice (some ⟨go36, 0, none⟩) x8_3.length co37)) (ok := (fun _ => True)) (by (with_reducible repeat (first | apply Kd.R_alloc | apply Kd.R_drewN | apply Kd.R_drew)); exact Kd.R_mono HO_7.out (fun _ hk => ⟨trivial, hk⟩)) hg (.inl rfl)); have n2_ := Aside0.mk (hp_); have n3_ := Aside0.mk ((by rw [hw]; exact below_set (HB.out) GB36.out : Below w.heap.size w w39)); clear HO_6; clear HO_7; clear HO_8; clear HB; have HO_6 := n0_; have HO_7 := n1_; have HO_8 := n2_; have HB := n3_; clear n0_ n1_ n2_ n3_; clear hg hw hp_))
                                                repeat (go_quiet (first | ((with_reducible refine gate_store (t := 4) (p := 116) rfl ?_); (try (rw [drewN_self wr]; generalize hq_ : World.drewN wr _ = wr; have n0_ := Aside0.mk (Kd.R_at hq_ HO_6.out); have n1_ := Aside0.mk (Kd.R_at hq_ HO_7.out); have n2_ := Aside0.mk (Kd.R_at hq_ HO_8.out); have n3_ := Aside0.mk (below_at hq_ HB.out); clear hq_ HO_6 HO_7 HO_8 HB; have HO_6 := n0_; have HO_7 := n1_; have HO_8 := n2_; have HB := n3_; clear n0_ n1_ n2_ n3_; (try (obtain ⟨hx36_0, hf36_0⟩ := Kd.R_celln false HO_8.out ((ji34) : Int) (of_eq_true p36) (of_eq_true q36))); (try (have HP38 := Kd.R_putg HO_8.out ((ji34) : Int) true)))); refine store_event (t := 4) (p := 116) (v := ?vo_w39) (w1 := (wr.setCell ⟨go36, ((ji34) : Int).toNat, none⟩ (.bool true))) ?hg ?ho ?hn ?hr ?_; (case ho => rfl); (case hg => rfl); (case hn => rfl); (case hr => first | (go_simp; done) | (go_simp; rfl)); intro w39 hw; have hg : wr.grownBy w39 (some go36) := (by rw [hw]; exact HP38.2); have hp_ : Kd.R Kd.bool 4 w39 w.heap.size (fun k_ => some k_ ≠ (.slice Ao17 t128.length co17 : Value).ownBlock) (.slice (some ⟨go36, 0, none⟩) x8_3.length co37) y144 := (by rw [hw, Ny144.out]; exact HP38.1); clear HP38; have n0_ := Aside0.mk (Kd.R_over' (v := (.slice (some ⟨go36, 0, none⟩) x8_3.length co37)) (by (with_reducible repeat (first | apply Kd.R_alloc | apply Kd.R_drewN | apply Kd.R_drew)); exact HO_6.out) (Kd.R_typed HO_8.out) (by decide) hg); have n1_ := Aside0.mk (Kd.R_after (v := (.slice (some ⟨go36, 0, none⟩) x8_3.length co37)) (v1 := (.slice (some ⟨go36, 0, none⟩) x8_3.length co37)) (ok := (fun _ => True)) (by (with_reducible repeat (first | apply Kd.R_alloc | apply Kd.R_drewN | apply Kd.R_drew)); exact Kd.R_mono HO_7.out (fun _ hk => ⟨trivial, hk⟩)) hg (.inl rfl)); have n2_ := Aside0.mk (hp_); have n3_ := Aside0.mk ((by rw [hw]; exact below_set (HB.out) GB36.out : Below w.heap.size w w39)); clear HO_6; clear HO_7; clear HO_8; clear HB; have HO_6 := n0_; have HO_7 := n1_; have HO_8 := n2_; have HB := n3_; clear n0_ n1_ n2_ n3_; clear hg hw hp_)); try go_wp2_with (first | ((with_reducible refine gate_store (t := 4) (p := 116) rfl ?_); (try (rw [drewN_self wr]; generalize hq_ : World.drewN wr _ = wr; have n0_ := Aside0.mk (Kd.R_at hq_ HO_6.out); have n1_ := Aside0.mk (Kd.R_at hq_ HO_7.out); have n2_ := Aside0.mk (Kd.R_at hq_ HO_8.out); have n3_ := Aside0.mk (below_at hq_ HB.out); clear hq_ HO_6 HO_7 HO_8 HB; have HO_6 := n0_; have HO_7 := n1_; have HO_8 := n2_; have HB := n3_; clear n0_ n1_ n2_ n3_; (try (obtain ⟨hx36_0, hf36_0⟩ := Kd.R_celln false HO_8.out ((ji34) : Int) (of_eq_true p36) (of_eq_true q36))); (try (have HP38 := Kd.R_putg HO_8.out ((ji34) : Int) true)))); refine store_event (t := 4) (p := 116) (v := ?vo_w39) (w1 := (wr.setCell ⟨go36, ((ji34) : Int).toNat, none⟩ (.bool true))) ?hg ?ho ?hn ?hr ?_; (case ho => rfl); (case hg => rfl); (case hn => rfl); (case hr => first | (go_simp; done) | (go_simp; rfl)); intro w39 hw; have hg : wr.grownBy w39 (some go36) := (by rw [hw]; exact HP38.2); have hp_ : Kd.R Kd.bool 4 w39 w.heap.size (fun k_ => some k_ ≠ (.slice Ao17 t128.length co17 : Value).ownBlock) (.slice (some ⟨go36, 0, none⟩) x8_3.length co37) y144 := (by rw [hw, Ny144.out]; exact HP38.1); clear HP38; have n0_ := Aside0.mk (Kd.R_over' (v := (.slice (some ⟨go36, 0, none⟩) x8_3.length co37)) (by (with_reducible repeat (first | apply Kd.R_alloc | apply Kd.R_drewN | apply Kd.R_drew)); exact HO_6.out) (Kd.R_typed HO_8.out) (by decide) hg); have n1_ := Aside0.mk (Kd.R_after (v := (.slice (some ⟨go36, 0, none⟩) x8_3.length co37)) (v1 := (.slice (some ⟨go36, 0, none⟩) x8_3.length co37)) (ok := (fun _ => True)) (by (with_reducible repeat (first | apply Kd.R_alloc | apply Kd.R_drewN | apply Kd.R_drew)); exact Kd.R_mono HO_7.out (fun _ hk => ⟨trivial, hk⟩)) hg (.inl rfl)); have n2_ := Aside0.mk (hp_); have n3_ := Aside0.mk ((by rw [hw]; exact below_set (HB.out) GB36.out : Below w.heap.size w w39)); clear HO_6; clear HO_7; clear HO_8; clear HB; have HO_6 := n0_; have HO_7 := n1_; have HO_8 := n2_; have HB := n3_; clear n0_ n1_ n2_ n3_; clear hg hw hp_)))
                                                go_roundg k3
                                                case measure => have := HK1.out; have := HJ22.out; have := HK3.out; omega
                                                case rel => exact ⟨(y144), (wrap64 (x13_3 + 1)), (by first | rfl | (simp; done) | (simp [*]; done)), H', ⟨by have := HK1.out; have := HJ22.out; have := HK3.out; omega⟩, ⟨by (with_reducible repeat (first | apply Kd.R_alloc | apply Kd.R_drewN | apply Kd.R_drew)); exact HO_6.out⟩, ⟨by (with_reducible repeat (first | apply Kd.R_alloc | apply Kd.R_drewN | apply Kd.R_drew)); exact Kd.R_mono HO_7.out (fun _ hk => hk.2)⟩, ⟨by (with_reducible repeat (first | apply Kd.R_alloc | apply Kd.R_drewN | apply Kd.R_drew)); exact HO_8.out⟩, ⟨by repeat (first | (with_reducible first | exact HB.out | apply below_alloc | apply pw_below_drewN | apply below_drew1) | exact HB.out)⟩⟩
                                              · rw [if_neg c35] at H
                                                exact absurd H (by simp)
                                            · rw [if_neg c33] at H
                                              have c33b0 : decide ((wrap64 (Int.tdiv x13_3 (wrap64 (1 + (wrap64 (Int.tmod a0 40)))))) < (x8_3.length : Int)) = false := decide_eq_false c33
                                              clear c33
                                              have H' := Aside0.mk H
                                              clear H
                                              have p142 : 0 ≤ (x10_1 : Int) := of_decide_eq_true (by first | (with_reducible assumption) | assumption)
                                              have q142 : x10_1 < (t125.length : Int) := of_decide_eq_true (by first | (with_reducible assumption) | assumption)
                                              obtain ⟨ad142, e142, hx142_0, hx142_1, hx142_2⟩ := at_T48 (Kd.R_reads' HO_6.out).2.2 x10_1 p142 q142
                                              obtain rfl : ad134 = ad142 := (by injection e142)
                                              replace p142 := eq_true p142
                                              replace q142 := eq_true q142
                                              have p143 : 0 ≤ (x10_1 : Int) := of_decide_eq_true (by first | (with_reducible assumption) | assumption)
                                              have q143 : x10_1 < (t125.length : Int) := of_decide_eq_true (by first | (with_reducible assumption) | assumption)
                                              obtain ⟨ad143, e143, hx143_0, hx143_1, hx143_2⟩ := at_T48 (Kd.R_reads' HO_6.out).2.2 x10_1 p143 q143
                                              obtain rfl : ad134 = ad143 := (by injection e143)
                                              replace p143 := eq_true p143
                                              replace q143 := eq_true q143
                                              obtain ⟨Ao40, co40, eo40⟩ := Kd.R_slice HO_8.out
                                              subst eo40
                                              go_wp2
                                              repeat (go_quiet (fail); try go_wp2)
                                              go_roundg k3
                                              case measure => have := HK1.out; have := HJ22.out; have := HK3.out; omega
                                              case rel => exact ⟨(x8_3), (wrap64 (x13_3 + 1)), (by first | rfl | (simp; done) | (simp [*]; done)), H', ⟨by have := HK1.out; have := HJ22.out; have := HK3.out; omega⟩, ⟨by (with_reducible repeat (first | apply Kd.R_alloc | apply Kd.R_drewN | apply Kd.R_drew)); exact HO_6.out⟩, ⟨by (with_reducible repeat (first | apply Kd.R_alloc | apply Kd.R_drewN | apply Kd.R_drew)); exact HO_7.out⟩, ⟨by (with_reducible repeat (first | apply Kd.R_alloc | apply Kd.R_drewN | apply Kd.R_drew)); exact HO_8.out⟩, ⟨by repeat (first | (with_reducible first | exact HB.out | apply below_alloc | apply pw_below_drewN | apply below_drew1) | exact HB.out)⟩⟩
                                        · rw [if_neg c31] at H
                                          have c31b0 : decide (x13_3 < (wrap64 (((rd_T48 t125 x10_1).f0) + ((rd_T48 t125 x10_1).f1)))) = false := decide_eq_false c31
                                          clear c31
                                          have H' := Aside0.mk H
                                          clear H
                                          have p142 : 0 ≤ (x10_1 : Int) := of_decide_eq_true (by first | (with_reducible assumption) | assumption)
                                          have q142 : x10_1 < (t125.length : Int) := of_decide_eq_true (by first | (with_reducible assumption) | assumption)
                                          obtain ⟨ad142, e142, hx142_0, hx142_1, hx142_2⟩ := at_T48 (Kd.R_reads' HO_6.out).2.2 x10_1 p142 q142
                                          obtain rfl : ad134 = ad142 := (by injection e142)
                                          replace p142 := eq_true p142
                                          replace q142 := eq_true q142
                                          have p143 : 0 ≤ (x10_1 : Int) := of_decide_eq_true (by first | (with_reducible assumption) | assumption)
                                          have q143 : x10_1 < (t125.length : Int) := of_decide_eq_true (by first | (with_reducible assumption) | assumption)
                                          obtain ⟨ad143, e143, hx143_0, hx143_1, hx143_2⟩ := at_T48 (Kd.R_reads' HO_6.out).2.2 x10_1 p143 q143
                                          obtain rfl : ad134 = ad143 := (by injection e143)
                                          replace p143 := eq_true p143
                                          replace q143 := eq_true q143
                                          go_wp2
                                          repeat (go_quiet (fail); try go_wp2)
                                          go_roundg k3
                                          case measure => have := HK1.out; have := HJ22.out; have := HK3.out; omega
                                          case rel => exact ⟨(x8_3), (wrap64 (x10_1 + 1)), (by first | rfl | (simp; done) | (simp [*]; done)), H', ⟨by have := HK1.out; have := HJ22.out; have := HK3.out; omega⟩, ⟨by (with_reducible repeat (first | apply Kd.R_alloc | apply Kd.R_drewN | apply Kd.R_drew)); exact HO_6.out⟩, ⟨by (with_reducible repeat (first | apply Kd.R_alloc | apply Kd.R_drewN | apply Kd.R_drew)); exact HO_7.out⟩, ⟨by (with_reducible repeat (first | apply Kd.R_alloc | apply Kd.R_drewN | apply Kd.R_drew)); exact HO_8.out⟩, ⟨by repeat (first | (with_reducible first | exact HB.out | apply below_alloc | apply pw_below_drewN | apply below_drew1) | exact HB.out)⟩⟩
                                      · rw [if_neg c30] at H
                                        exact absurd H (by simp)
                                    · rw [if_neg c29] at H
                                      exact absurd H (by simp)
                              · rw [if_neg c28] at H
                                exact absurd H (by simp)
                            · rw [if_neg c27] at H
                              exact absurd H (by simp)
                    · rw [if_neg c21] at H
                      exact absurd H (by simp)
                  · rw [if_neg c20] at H
                    have c20b0 : decide (x10_1 < (t125.length : Int)) = false := decide_eq_false c20
                    clear c20
                    have H' := Aside0.mk H
                    clear H
                    go_wp2
                    repeat (go_quiet (fail); try go_wp2)
                    go_loopg [9, 14] k1 (fun kq v9 v14 w' => ∃ (x9_2 : Int) (x14_2 : Int), v9 = .int .i64 x9_2 ∧ v14 = .int .i64 x14_2 ∧ Aside0 (hodmanlaw12_PinBytes.l2 kq t128 x8_1 x9_2 x14_2 = some r) ∧ Aside0 (kq ≤ k1) ∧ Aside0 (Kd.R Kd.bool 4 w' w.heap.size (fun k_ => some k_ ≠ (v132 : Value).ownBlock) (.slice Ao17 t128.length co17) t128) ∧ Aside0 (Kd.R Kd.bool 4 w' w.heap.size (fun k_ => some k_ ≠ ((.slice Ao17 t128.length co17) : Value).ownBlock) v132 x8_1) ∧ Aside0 (Below w.heap.size w w'))
                    case atStart => exact ⟨(0), (0), (by first | rfl | (simp; done) | (simp [*]; done)), (by first | rfl | (simp; done) | (simp [*]; done)), H', ⟨Nat.le_refl _⟩, ⟨by (with_reducible repeat (first | apply Kd.R_alloc | apply Kd.R_drewN | apply Kd.R_drew)); exact HO_7.out⟩, ⟨by (with_reducible repeat (first | apply Kd.R_alloc | apply Kd.R_drewN | apply Kd.R_drew)); exact HO_8.out⟩, ⟨by repeat (first | (with_reducible first | exact HB.out | apply below_alloc | apply pw_below_drewN | apply below_drew1) | exact HB.out)⟩⟩
                    case round =>
                      clear H'
                      try clear c1
                      try clear p1
                      try clear q1
                      try clear hx1
                      try clear c2
                      try clear p2
                      try clear c3
                      try clear p3
                      try clear q3
                      try clear hx3
                      try clear hf3
                      try clear c4
                      try clear c5
                      try clear c5b0
                      try clear c5b1
                      try clear p6
                      try clear c9
                      try clear c9b0
                      try clear c9b1
                      try clear c10
                      try clear c10b0
                      try clear c10b1
                      try clear c11
                      try clear c11b0
                      try clear c11b1
                      try clear c12
                      try clear c12b0
                      try clear c12b1
                      try clear p13
                      try clear q13
                      try clear hx13
                      try clear p14
                      try clear q14
                      try clear hx14
                      try clear c20
                      try clear c20b0
                      try clear c21
                      try clear c21b0
                      try clear c24
                      try clear c24b0
                      try clear c24b1
                      try clear c25
                      try clear c25b0
                      try clear c25b1
                      try clear c26
                      try clear c27
                      try clear c27b0
                      try clear c28
                      try clear c28b0
                      try clear c29
                      try clear c29b0
                      try clear c30
                      try clear c30b0
                      try clear c31
                      try clear c31b0
                      try clear c32
                      try clear c32b0
                      try clear c32b1
                      try clear c33
                      try clear c33b0
                      try clear c35
                      try clear c35b0
                      try clear p36
                      try clear q36
                      try clear hx36
                      try clear hf36
                      try clear hx134_0
                      try clear hx134_1
                      try clear hx134_2
                      try clear hx135_0
                      try clear hx135_1
                      try clear hx135_2
                      try clear hx138_0
                      try clear hx138_1
                      try clear hx138_2
                      try clear hx139_0
                      try clear hx139_1
                      try clear hx139_2
                      try clear hx140_0
                      try clear hx140_1
                      try clear hx140_2
                      try clear hx141_0
                      try clear hx141_1
                      try clear hx141_2
                      try clear hx142_0
                      try clear hx142_1
                      try clear hx142_2
                      try clear hx143_0
                      try clear hx143_1
                      try clear hx143_2
                      try clear hx36_0
                      try clear p1
                      try clear p13
                      try clear p134
                      try clear p135
                      try clear p138
                      try clear p139
                      try clear p14
                      try clear p140
                      try clear p141
                      try clear p142
                      try clear p143
                      try clear p2
                      try clear p36
                      try clear p6
                      try clear q1
                      try clear q13
                      try clear q134
                      try clear q135
                      try clear q138
                      try clear q139
                      try clear q14
                      try clear q140
                      try clear q141
                      try clear q142
                      try clear q143
                      try clear q36
                      obtain ⟨x9_2, x14_2, rfl, rfl, HA, HK2, HO_7, HO_8, HB⟩ := hrel
                      cases gk with
                      | zero => exact absurd HA.out (by simp [hodmanlaw12_PinBytes.l2])
                      | succ k2 =>
                        have H := HA.out
                        clear HA
                        simp only [hodmanlaw12_PinBytes.l2] at H
                        by_cases c41 : x14_2 < (x8_1.length : Int)
                        · rw [if_pos c41] at H
                          have c41b0 : decide (x14_2 < (x8_1.length : Int)) = true := decide_eq_true c41
                          clear c41
                          by_cases c42 : 0 ≤ x14_2
                          · rw [if_pos c42] at H
                            have c42b0 : decide (0 ≤ x14_2) = true := decide_eq_true c42
                            clear c42
                            by_cases c43 : x14_2 < (t128.length : Int)
                            · rw [if_pos c43] at H
                              have c43b0 : decide (x14_2 < (t128.length : Int)) = true := decide_eq_true c43
                              clear c43
                              by_cases c44 : ((rdOf false t128 x14_2) != (rdOf false x8_1 x14_2)) = true
                              · rw [if_pos c44] at H
                                have c44b0 : ((rdOf false t128 x14_2) != (rdOf false x8_1 x14_2)) = true := c44
                                (try (have c44b1 : decide ((rdOf false t128 x14_2) = (rdOf false x8_1 x14_2)) = false := by simpa using c44))
                                (try (have c44b2 : ((rdOf false t128 x14_2) == (rdOf false x8_1 x14_2)) = false := by simpa using c44))
                                (try (have c44b3 : ¬ ((rdOf false t128 x14_2) = (rdOf false x8_1 x14_2)) := by simpa using c44))
                                clear c44
                                exact absurd ((Option.some.inj H).trans HRT.out) (by decide)
                              · rw [if_neg c44] at H
                                have c44b0 : ((rdOf false t128 x14_2) != (rdOf false x8_1 x14_2)) = false := by simpa using c44
                                (try (have c44b1 : decide ((rdOf false t128 x14_2) = (rdOf false x8_1 x14_2)) = true := by simpa using c44))
                                (try (have c44b2 : ((rdOf false t128 x14_2) == (rdOf false x8_1 x14_2)) = true := by simpa using c44))
                                clear c44
                                obtain ⟨bq45, hbq45⟩ : ∃ b_ : Bool, b_ = (rdOf false x8_1 x14_2) := ⟨_, rfl⟩
                                replace H : (if bq45 = true then (hodmanlaw12_PinBytes.l2 k2 t128 x8_1 (wrap64 (x9_2 + 1)) (wrap64 (x14_2 + 1))) else (hodmanlaw12_PinBytes.l2 k2 t128 x8_1 x9_2 (wrap64 (x14_2 + 1)))) = some r := by rw [← hbq45] at H; exact H
                                have Nbq45 := Aside0.mk hbq45
                                clear hbq45
                                by_cases c46 : bq45 = true
                                · subst c46
                                  (try (have c44b0x_ : (rdOf false t128 x14_2) = true := by have h_ := c44b0; rw [← Nbq45.out] at h_; simpa using h_))
                                  have H1 : (hodmanlaw12_PinBytes.l2 k2 t128 x8_1 (wrap64 (x9_2 + 1)) (wrap64 (x14_2 + 1))) = some r := by rw [if_pos rfl] at H; exact H
                                  clear H
                                  have H := H1
                                  clear H1
                                  have H' := Aside0.mk H
                                  clear H
                                  obtain ⟨Ao47, co47, eo47⟩ := Kd.R_slice HO_8.out
                                  subst eo47
                                  have p146 : 0 ≤ (x14_2 : Int) := of_decide_eq_true (by first | (with_reducible assumption) | assumption)
                                  have q146 : x14_2 < (t128.length : Int) := of_decide_eq_true (by first | (with_reducible assumption) | assumption)
                                  obtain ⟨ad146, e146, hx146_0⟩ := Kd.at_bool (Kd.R_reads' HO_7.out).2.2 x14_2 p146 q146
                                  (try rw [← Nbq45.out] at hx146_0)
                                  cases e146
                                  replace p146 := eq_true p146
                                  replace q146 := eq_true q146
                                  have p147 : 0 ≤ (x14_2 : Int) := of_decide_eq_true (by first | (with_reducible assumption) | assumption)
                                  have q147 : x14_2 < (x8_1.length : Int) := of_decide_eq_true (by first | (with_reducible assumption) | assumption)
                                  obtain ⟨ad147, e147, hx147_0⟩ := Kd.at_bool (Kd.R_reads' HO_8.out).2.2 x14_2 p147 q147
                                  (try rw [← Nbq45.out] at hx147_0)
                                  cases e147
                                  replace p147 := eq_true p147
                                  replace q147 := eq_true q147
                                  have p148 : 0 ≤ (x14_2 : Int) := of_decide_eq_true (by first | (with_reducible assumption) | assumption)
                                  have q148 : x14_2 < (x8_1.length : Int) := of_decide_eq_true (by first | (with_reducible assumption) | assumption)
                                  obtain ⟨ad148, e148, hx148_0⟩ := Kd.at_bool (Kd.R_reads' HO_8.out).2.2 x14_2 p148 q148
                                  (try rw [← Nbq45.out] at hx148_0)
                                  obtain rfl : ad147 = ad148 := (by injection e148)
                                  replace p148 := eq_true p148
                                  replace q148 := eq_true q148
                                  go_wp2
                                  repeat (go_quiet (fail); try go_wp2)
                                  go_roundg k2
                                  case measure => have := HK1.out; have := HK2.out; omega
                                  case rel => exact ⟨(wrap64 (x9_2 + 1)), (wrap64 (x14_2 + 1)), (by first | rfl | (simp; done) | (simp [*]; done)), (by first | rfl | (simp; done) | (simp [*]; done)), H', ⟨by have := HK1.out; have := HK2.out; omega⟩, ⟨by (with_reducible repeat (first | apply Kd.R_alloc | apply Kd.R_drewN | apply Kd.R_drew)); exact HO_7.out⟩, ⟨by (with_reducible repeat (first | apply Kd.R_alloc | apply Kd.R_drewN | apply Kd.R_drew)); exact HO_8.out⟩, ⟨by repeat (first | (with_reducible first | exact HB.out | apply below_alloc | apply pw_below_drewN | apply below_drew1) | exact HB.out)⟩⟩
                                · replace c46 := Bool.eq_false_iff.mpr c46
                                  subst c46
                                  (try (have c44b0x_ : (rdOf false t128 x14_2) = false := by have h_ := c44b0; rw [← Nbq45.out] at h_; simpa using h_))
                                  have H1 : (hodmanlaw12_PinBytes.l2 k2 t128 x8_1 x9_2 (wrap64 (x14_2 + 1))) = some r := by rw [if_neg (show ¬ (false = true) by decide)] at H; exact H
                                  clear H
                                  have H := H1
                                  clear H1
                                  have H' := Aside0.mk H
                                  clear H
                                  obtain ⟨Ao48, co48, eo48⟩ := Kd.R_slice HO_8.out
                                  subst eo48
                                  have p146 : 0 ≤ (x14_2 : Int) := of_decide_eq_true (by first | (with_reducible assumption) | assumption)
                                  have q146 : x14_2 < (t128.length : Int) := of_decide_eq_true (by first | (with_reducible assumption) | assumption)
                                  obtain ⟨ad146, e146, hx146_0⟩ := Kd.at_bool (Kd.R_reads' HO_7.out).2.2 x14_2 p146 q146
                                  (try rw [← Nbq45.out] at hx146_0)
                                  cases e146
                                  replace p146 := eq_true p146
                                  replace q146 := eq_true q146
                                  have p147 : 0 ≤ (x14_2 : Int) := of_decide_eq_true (by first | (with_reducible assumption) | assumption)
                                  have q147 : x14_2 < (x8_1.length : Int) := of_decide_eq_true (by first | (with_reducible assumption) | assumption)
                                  obtain ⟨ad147, e147, hx147_0⟩ := Kd.at_bool (Kd.R_reads' HO_8.out).2.2 x14_2 p147 q147
                                  (try rw [← Nbq45.out] at hx147_0)
                                  cases e147
                                  replace p147 := eq_true p147
                                  replace q147 := eq_true q147
                                  have p148 : 0 ≤ (x14_2 : Int) := of_decide_eq_true (by first | (with_reducible assumption) | assumption)
                                  have q148 : x14_2 < (x8_1.length : Int) := of_decide_eq_true (by first | (with_reducible assumption) | assumption)
                                  obtain ⟨ad148, e148, hx148_0⟩ := Kd.at_bool (Kd.R_reads' HO_8.out).2.2 x14_2 p148 q148
                                  (try rw [← Nbq45.out] at hx148_0)
                                  obtain rfl : ad147 = ad148 := (by injection e148)
                                  replace p148 := eq_true p148
                                  replace q148 := eq_true q148
                                  go_wp2
                                  repeat (go_quiet (fail); try go_wp2)
                                  go_roundg k2
                                  case measure => have := HK1.out; have := HK2.out; omega
                                  case rel => exact ⟨(x9_2), (wrap64 (x14_2 + 1)), (by first | rfl | (simp; done) | (simp [*]; done)), (by first | rfl | (simp; done) | (simp [*]; done)), H', ⟨by have := HK1.out; have := HK2.out; omega⟩, ⟨by (with_reducible repeat (first | apply Kd.R_alloc | apply Kd.R_drewN | apply Kd.R_drew)); exact HO_7.out⟩, ⟨by (with_reducible repeat (first | apply Kd.R_alloc | apply Kd.R_drewN | apply Kd.R_drew)); exact HO_8.out⟩, ⟨by repeat (first | (with_reducible first | exact HB.out | apply below_alloc | apply pw_below_drewN | apply below_drew1) | exact HB.out)⟩⟩
                            · rw [if_neg c43] at H
                              exact absurd H (by simp)
                          · rw [if_neg c42] at H
                            exact absurd H (by simp)
                        · rw [if_neg c41] at H
                          have c41b0 : decide (x14_2 < (x8_1.length : Int)) = false := decide_eq_false c41
                          clear c41
                          replace H := Option.bind_eq_some_iff.mp H
                          obtain ⟨t145, A490, H⟩ := H
                          replace H : (some (t145 == x9_2)) = some r := H
                          have A49 := Aside0.mk A490
                          clear A490
                          obtain rfl := Option.some.inj H
                          obtain ⟨Ao50, co50, eo50⟩ := Kd.R_slice HO_8.out
                          subst eo50
                          go_wp2_with (first | (go_at_call 34; (with_reducible refine (pin_Count.calls k2 _ _ t128 t145 _ ?side1 ?side2 A49.out).mono ?_); (case side1 => repeat (first | exact (Kd.R_reads' HO_7.out).2.2 | (with_reducible refine Kd.C_alloc ?_ _) | (with_reducible refine Kd.C_drewN ?_ _) | (with_reducible refine Kd.C_drew ?_))); (case side2 => exact (Kd.R_reads' HO_7.out).2.1); rintro e w' ⟨rfl, ⟨nd, rfl⟩⟩; (try first | exact ⟨rfl, _, World.drewN_drewN _ _ _⟩ | exact ⟨rfl, _, Eq.trans (World.drewN_drewN _ _ _) (congrArg (World.drewN _) (Nat.add_assoc _ _ _))⟩)))
                          repeat (go_quiet (first | (go_at_call 34; (with_reducible refine (pin_Count.calls k2 _ _ t128 t145 _ ?side1 ?side2 A49.out).mono ?_); (case side1 => repeat (first | exact (Kd.R_reads' HO_7.out).2.2 | (with_reducible refine Kd.C_alloc ?_ _) | (with_reducible refine Kd.C_drewN ?_ _) | (with_reducible refine Kd.C_drew ?_))); (case side2 => exact (Kd.R_reads' HO_7.out).2.1); rintro e w' ⟨rfl, ⟨nd, rfl⟩⟩; (try first | exact ⟨rfl, _, World.drewN_drewN _ _ _⟩ | exact ⟨rfl, _, Eq.trans (World.drewN_drewN _ _ _) (congrArg (World.drewN _) (Nat.add_assoc _ _ _))⟩))); try go_wp2_with (first | (go_at_call 34; (with_reducible refine (pin_Count.calls k2 _ _ t128 t145 _ ?side1 ?side2 A49.out).mono ?_); (case side1 => repeat (first | exact (Kd.R_reads' HO_7.out).2.2 | (with_reducible refine Kd.C_alloc ?_ _) | (with_reducible refine Kd.C_drewN ?_ _) | (with_reducible refine Kd.C_drew ?_))); (case side2 => exact (Kd.R_reads' HO_7.out).2.1); rintro e w' ⟨rfl, ⟨nd, rfl⟩⟩; (try first | exact ⟨rfl, _, World.drewN_drewN _ _ _⟩ | exact ⟨rfl, _, Eq.trans (World.drewN_drewN _ _ _) (congrArg (World.drewN _) (Nat.add_assoc _ _ _))⟩))))
                          go_ret
                          exact ⟨by first | rfl | (simp [errW_none, errW_some] <;> rfl) | (simp [*, errW_none, errW_some] <;> rfl), by repeat (first | (with_reducible first | exact HB.out | apply below_alloc | apply pw_below_drewN | apply below_drew1) | exact HB.out)⟩
            · rw [if_neg c12] at H
              exact absurd H (by simp)
          · rw [if_neg c11] at H
            exact absurd H (by simp)
        · rw [if_neg c10] at H
          have c10b0 : ((t128.length : Int) == (wrap64 ((320 : Int) / (wrap64 (1 + (wrap64 (Int.tmod a0 40))))))) = false := beq_eq_false_iff_ne.mpr c10
          have c10b0t : ((t128.length : Int) == (wrap64 (Int.tdiv 320 (wrap64 (1 + (wrap64 (Int.tmod a0 40))))))) = false := by have h_ := c10b0; rw [← Int.tdiv_eq_ediv_of_nonneg (by decide)] at h_; exact h_
          have c10b1 : ((t128.length : Int) != (wrap64 ((320 : Int) / (wrap64 (1 + (wrap64 (Int.tmod a0 40))))))) = true := bne_iff_ne.mpr c10
          have c10b1t : ((t128.length : Int) != (wrap64 (Int.tdiv 320 (wrap64 (1 + (wrap64 (Int.tmod a0 40))))))) = true := by have h_ := c10b1; rw [← Int.tdiv_eq_ediv_of_nonneg (by decide)] at h_; exact h_
          exact absurd ((Option.some.inj H).trans HRT.out) (by decide)
  · replace c4 := Bool.eq_false_iff.mpr c4
    subst c4
    have H1 : (some false) = some r := by rw [if_neg (show ¬ (false = true) by decide)] at H; exact H
    clear H
    have H := H1
    clear H1
    exact absurd ((Option.some.inj H).trans HRT.out) (by decide)

/-- THE ONE PURE STATEMENT of hodmanlaw12_PinBytes: yours. -/
def hodmanlaw12_PinBytes.Pure : Prop := ∀ (a0 : Int) (l1 : List (S54)), (Lit.int .u8 a0).wf = true → l1.length ≤ maxLen → l1.length * 2 ≤ 140737488351232 → (∀ x ∈ l1, (Lit.int .u8 x.f0).wf = true ∧ (Lit.int .u8 x.f1).wf = true) → ∃ k, hodmanlaw12_PinBytes.f k a0 l1 = some true
theorem hodmanlaw12_PinBytes.walk (P : hodmanlaw12_PinBytes.Pure) (a0 : Int) (a1 : Option Addr) (cap1 : Nat) (l1 : List S54) (w : World) (w0 : (Lit.int .u8 a0).wf = true) (hr1 : Kd.C k54 w a1 l1.length l1) (hc1 : l1.length ≤ cap1) (hm1 : l1.length ≤ maxLen) (y1 : l1.length * 2 ≤ 140737488351232) (hw1 : ∀ x ∈ l1, (Lit.int .u8 x.f0).wf = true ∧ (Lit.int .u8 x.f1).wf = true) :
    Calls Try.prog 11 #[.int .u8 a0, .slice a1 l1.length cap1] w fun e w' => e = .returned (.bool true) ∧ Below w.heap.size w w' := by
  obtain ⟨k, h⟩ := P a0 l1 w0 hm1 y1 hw1
  refine (hodmanlaw12_PinBytes.calls k a0 _ _ l1 true w hr1 hc1 h rfl).mono ?_
  rintro e w' ⟨rfl, hd⟩
  exact ⟨rfl, hd⟩

end Go.Proofs.Ytflmdnjcniidgaa.PPin2
