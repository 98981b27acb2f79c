/- Written by a program of this session (wip/tools/ext.py) out of the translation: Go functions told as Lean functions, with their walks; or the row of a law out of its plain part. Lean checks it. -/
import Derived.Test.YtgbkdmcbdilgaaaPRankMx0
import Derived.Test.YtgbkdmcbdilgaaaPRankMx3
import Derived.Test.YtgbkdmcbdilgaaaPRankMx4
import Derived.Test.YtgbkdmcbdilgaaaPRankMx6
import Derived.Test.YtgbkdmcbdilgaaaPRankMx7
import Derived.Test.YtgbkdmcbdilgaaaPRankMx8
import Derived.Test.YtgbkdmcbdilgaaaPRankMx9
namespace Go.Proofs.Ytgbkdmcbdilgaaa.PRankM
open Go.RowKit Go.Proofs.YtgbkdmcbdilgaaaW.PrintWords Go.Proofs.YtgbkdmcbdilgaaaW.PrintLast Go.Proofs.YtgbkdmcbdilgaaaW.PrintMore
attribute [local go_sem] max2_int min2_int max_two min_two max_three min_three max_four min_four   -- for this text's walks alone
set_option linter.unusedVariables false
set_option linter.unusedSimpArgs false

/-! ### hodmanlaw6_RankBack: function 4 -/
def hodmanlaw6_RankBack.j0 : Nat → Int → Int → Bool → Int → List (List Int) → Option (Bool)
  | 0, _, _, _, _, _ => none
  | k + 1, x8, x9, x77, x233000, x233001 => if x77 = true then (some false) else ((rank_Below.f k x233000 x233001 x233000).bind fun t243 => ((rank_Nth.f k x233000 x233001 t243).bind fun bt244 => (if bt244.2 = true then (some false) else ((rank_Zeros.f k x233000 x233001).bind fun t246 => (if (wrap64 (t246 + t243)) = x233000 then (if x9 ≤ t243 then (some (decide (x9 ≤ x8))) else (some false)) else (some false))))))
def hodmanlaw6_RankBack.f (k : Nat) (l0 : List Int) (a1 : Int) (a2 : Int) : Option (Bool) := (hodmanlaw6_begun.f k).bind fun t223 => (if t223 = true then (if (l0.length : Int) > 20 then (some true) else ((hodmanplay_Made.f l0).bind fun bt224 => ((hodmanplay_Picks_Tree.f k bt224.1 bt224.2 (wrap64 (1 + (wrap64 (Int.tmod a1 5000))))).bind fun bt227 => (if bt227.1 = 0 then (none) else ((rank_Below.f k bt227.1 bt227.2.1 (Int.tmod (wrap64 (a2)) bt227.1)).bind fun t233 => ((rank_Nth.f k bt227.1 bt227.2.1 t233).bind fun bt234 => (if bt234.2 = true then (if bt234.1 < (Int.tmod (wrap64 (a2)) bt227.1) then (hodmanlaw6_RankBack.j0 k (Int.tmod (wrap64 (a2)) bt227.1) t233 true bt227.1 bt227.2.1) else ((rank_Below.f k bt227.1 bt227.2.1 bt234.1).bind fun t236 => (if t236 = t233 then (if 0 < (bt227.2.1.length : Int) then ((hodmanref3_Has.f (rd_L1 bt227.2.1 0) bt234.1).bind fun t238 => (if t238 = true then ((hodmanref3_Has.f (rd_L1 bt227.2.1 0) (Int.tmod (wrap64 (a2)) bt227.1)).bind fun t240 => (hodmanlaw6_RankBack.j0 k (Int.tmod (wrap64 (a2)) bt227.1) t233 (t240 != (bt234.1 == (Int.tmod (wrap64 (a2)) bt227.1))) bt227.1 bt227.2.1)) else (hodmanlaw6_RankBack.j0 k (Int.tmod (wrap64 (a2)) bt227.1) t233 true bt227.1 bt227.2.1))) else (none)) else (hodmanlaw6_RankBack.j0 k (Int.tmod (wrap64 (a2)) bt227.1) t233 true bt227.1 bt227.2.1)))) else (if 0 < (bt227.2.1.length : Int) then ((hodmanref3_Has.f (rd_L1 bt227.2.1 0) (Int.tmod (wrap64 (a2)) bt227.1)).bind fun t242 => (hodmanlaw6_RankBack.j0 k (Int.tmod (wrap64 (a2)) bt227.1) t233 (t242 != false) bt227.1 bt227.2.1)) else (none))))))))) else (some false))
theorem hodmanlaw6_RankBack.mono_l : ∀ k, (∀ y0 y1 y2 y3 y4, LeO (hodmanlaw6_RankBack.j0 k y0 y1 y2 y3 y4) (hodmanlaw6_RankBack.j0 (k + 1) y0 y1 y2 y3 y4))
  | 0 => fun _ _ _ _ _ r h => by simp [hodmanlaw6_RankBack.j0] at h
  | k + 1 => by
    have ih0 := hodmanlaw6_RankBack.mono_l k
    · intro y0 y1 y2 y3 y4
      unfold hodmanlaw6_RankBack.j0
      repeat' first
      | (with_reducible exact ih0 _ _ _ _ _)
      | (with_reducible exact hodmanlaw6_begun.mono _)
      | (with_reducible exact hodmanplay_Picks_Tree.mono _ _ _ _)
      | (with_reducible exact rank_Below.mono _ _ _ _)
      | (with_reducible exact rank_Nth.mono _ _ _ _)
      | (with_reducible exact rank_Zeros.mono _ _ _)
      | (with_reducible exact LeO.refl _)
      | (with_reducible exact LeO.none _)
      | (with_reducible refine LeO.ite ?_ ?_)
      | (with_reducible refine LeO.bind ?_ (fun _ => ?_))
      | exact ih0 _ _ _ _ _
      | exact hodmanlaw6_begun.mono _
      | exact hodmanplay_Picks_Tree.mono _ _ _ _
      | exact rank_Below.mono _ _ _ _
      | exact rank_Nth.mono _ _ _ _
      | exact rank_Zeros.mono _ _ _
      | exact LeO.none _
      | refine LeO.ite ?_ ?_
      | refine LeO.bind ?_ (fun _ => ?_)
theorem hodmanlaw6_RankBack.mono : ∀ a0 a1 a2 k, LeO (hodmanlaw6_RankBack.f k a0 a1 a2) (hodmanlaw6_RankBack.f (k + 1) a0 a1 a2) := by
  intro a0 a1 a2 k
  have ih0 := hodmanlaw6_RankBack.mono_l k
  unfold hodmanlaw6_RankBack.f
  repeat' first
      | (with_reducible exact ih0 _ _ _ _ _)
      | (with_reducible exact hodmanlaw6_begun.mono _)
      | (with_reducible exact hodmanplay_Picks_Tree.mono _ _ _ _)
      | (with_reducible exact rank_Below.mono _ _ _ _)
      | (with_reducible exact rank_Nth.mono _ _ _ _)
      | (with_reducible exact rank_Zeros.mono _ _ _)
      | (with_reducible exact LeO.refl _)
      | (with_reducible exact LeO.none _)
      | (with_reducible refine LeO.ite ?_ ?_)
      | (with_reducible refine LeO.bind ?_ (fun _ => ?_))
      | exact ih0 _ _ _ _ _
      | exact hodmanlaw6_begun.mono _
      | exact hodmanplay_Picks_Tree.mono _ _ _ _
      | exact rank_Below.mono _ _ _ _
      | exact rank_Nth.mono _ _ _ _
      | exact rank_Zeros.mono _ _ _
      | exact LeO.none _
      | refine LeO.ite ?_ ?_
      | refine LeO.bind ?_ (fun _ => ?_)
def hodmanlaw6_RankBack.T13 : Bool × List (List Nat × List Nat) := (true, [([], []), ([0], [0]), ([1], [1]), ([2], [2]), ([3, 2, 2], [2, 3]), ([2], [2]), ([4, 5, 2], [2, 4, 5]), ([2], [2]), ([7, 2], [2, 7]), ([6, 8, 2], [2, 6, 8]), ([2, 9], [2, 9]), ([10, 4], [10]), ([11], [11]), ([11], [11]), ([12, 13, 11], [11, 12, 13]), ([11, 14], [11, 14]), ([15, 11], [15]), ([16], [16]), ([16], [16]), ([17, 18, 16], [16, 17, 18]), ([16, 19], [16, 19]), ([20, 16, 0, 1, 2, 3, 4, 5, 6, 7, 8, 9, 10, 11, 12, 13, 14, 15, 16, 17, 18, 19, 20], [20])])
def hodmanlaw6_RankBack.B13 : List Nat := [0, 1, 3, 7, 15, 7, 63, 7, 135, 511, 1023, 2047, 4095, 4095, 16383, 32767, 65535, 131071, 131071, 524287, 1048575, 2097151]
theorem hodmanlaw6_RankBack.tab13 : rtab .any (opsOf Try.f4 13) = hodmanlaw6_RankBack.T13 := by kernel_rfl
theorem hodmanlaw6_RankBack.bits13 : waitsOk hodmanlaw6_RankBack.T13.2 hodmanlaw6_RankBack.B13 = true := by kernel_rfl
set_option maxHeartbeats 8000000 in
set_option maxRecDepth 100000 in
theorem hodmanlaw6_RankBack.calls (k : Nat) (A0 : Option Addr) (c0 : Nat) (l0 : List Int) (a1 : Int) (a2 : Int) (r : Bool) (w : World) (hr0 : Kd.C (Kd.int .u8) w A0 l0.length l0) (hc0 : l0.length ≤ c0) (h : hodmanlaw6_RankBack.f k l0 a1 a2 = some r) (hrt_ : r = true) :
    Calls Try.prog 4 #[.slice A0 l0.length c0, .int .u16 a1, .int .u16 a2] w fun e w' => e = .returned (.bool r) ∧ Below w.heap.size w w' := by
  have hu27 := Try.underlying27
  have HR0 := Aside0.mk hr0
  have HC0 := Aside0.mk hc0
  clear hr0 hc0
  have HB := Aside0.mk (Below.refl w.heap.size w)
  have H : ((hodmanlaw6_begun.f k).bind fun t223 => (if t223 = true then (if (l0.length : Int) > 20 then (some true) else ((hodmanplay_Made.f l0).bind fun bt224 => ((hodmanplay_Picks_Tree.f k bt224.1 bt224.2 (wrap64 (1 + (wrap64 (Int.tmod a1 5000))))).bind fun bt227 => (if bt227.1 = 0 then (none) else ((rank_Below.f k bt227.1 bt227.2.1 (Int.tmod (wrap64 (a2)) bt227.1)).bind fun t233 => ((rank_Nth.f k bt227.1 bt227.2.1 t233).bind fun bt234 => (if bt234.2 = true then (if bt234.1 < (Int.tmod (wrap64 (a2)) bt227.1) then (hodmanlaw6_RankBack.j0 k (Int.tmod (wrap64 (a2)) bt227.1) t233 true bt227.1 bt227.2.1) else ((rank_Below.f k bt227.1 bt227.2.1 bt234.1).bind fun t236 => (if t236 = t233 then (if 0 < (bt227.2.1.length : Int) then ((hodmanref3_Has.f (rd_L1 bt227.2.1 0) bt234.1).bind fun t238 => (if t238 = true then ((hodmanref3_Has.f (rd_L1 bt227.2.1 0) (Int.tmod (wrap64 (a2)) bt227.1)).bind fun t240 => (hodmanlaw6_RankBack.j0 k (Int.tmod (wrap64 (a2)) bt227.1) t233 (t240 != (bt234.1 == (Int.tmod (wrap64 (a2)) bt227.1))) bt227.1 bt227.2.1)) else (hodmanlaw6_RankBack.j0 k (Int.tmod (wrap64 (a2)) bt227.1) t233 true bt227.1 bt227.2.1))) else (none)) else (hodmanlaw6_RankBack.j0 k (Int.tmod (wrap64 (a2)) bt227.1) t233 true bt227.1 bt227.2.1)))) else (if 0 < (bt227.2.1.length : Int) then ((hodmanref3_Has.f (rd_L1 bt227.2.1 0) (Int.tmod (wrap64 (a2)) bt227.1)).bind fun t242 => (hodmanlaw6_RankBack.j0 k (Int.tmod (wrap64 (a2)) bt227.1) t233 (t242 != false) bt227.1 bt227.2.1)) else (none))))))))) else (some false))) = some r := h
  clear h
  have HRT := Aside0.mk hrt_
  clear hrt_
  replace H := Option.bind_eq_some_iff.mp H
  obtain ⟨t223, A40, H⟩ := H
  replace H : (if t223 = true then (if (l0.length : Int) > 20 then (some true) else ((hodmanplay_Made.f l0).bind fun bt224 => ((hodmanplay_Picks_Tree.f k bt224.1 bt224.2 (wrap64 (1 + (wrap64 (Int.tmod a1 5000))))).bind fun bt227 => (if bt227.1 = 0 then (none) else ((rank_Below.f k bt227.1 bt227.2.1 (Int.tmod (wrap64 (a2)) bt227.1)).bind fun t233 => ((rank_Nth.f k bt227.1 bt227.2.1 t233).bind fun bt234 => (if bt234.2 = true then (if bt234.1 < (Int.tmod (wrap64 (a2)) bt227.1) then (hodmanlaw6_RankBack.j0 k (Int.tmod (wrap64 (a2)) bt227.1) t233 true bt227.1 bt227.2.1) else ((rank_Below.f k bt227.1 bt227.2.1 bt234.1).bind fun t236 => (if t236 = t233 then (if 0 < (bt227.2.1.length : Int) then ((hodmanref3_Has.f (rd_L1 bt227.2.1 0) bt234.1).bind fun t238 => (if t238 = true then ((hodmanref3_Has.f (rd_L1 bt227.2.1 0) (Int.tmod (wrap64 (a2)) bt227.1)).bind fun t240 => (hodmanlaw6_RankBack.j0 k (Int.tmod (wrap64 (a2)) bt227.1) t233 (t240 != (bt234.1 == (Int.tmod (wrap64 (a2)) bt227.1))) bt227.1 bt227.2.1)) else (hodmanlaw6_RankBack.j0 k (Int.tmod (wrap64 (a2)) bt227.1) t233 true bt227.1 bt227.2.1))) else (none)) else (hodmanlaw6_RankBack.j0 k (Int.tmod (wrap64 (a2)) bt227.1) t233 true bt227.1 bt227.2.1)))) else (if 0 < (bt227.2.1.length : Int) then ((hodmanref3_Has.f (rd_L1 bt227.2.1 0) (Int.tmod (wrap64 (a2)) bt227.1)).bind fun t242 => (hodmanlaw6_RankBack.j0 k (Int.tmod (wrap64 (a2)) bt227.1) t233 (t242 != false) bt227.1 bt227.2.1)) else (none))))))))) else (some false)) = some r := H
  have A4 := Aside0.mk A40
  clear A40
  by_cases c5 : t223 = true
  · subst c5
    have H1 : (if (l0.length : Int) > 20 then (some true) else ((hodmanplay_Made.f l0).bind fun bt224 => ((hodmanplay_Picks_Tree.f k bt224.1 bt224.2 (wrap64 (1 + (wrap64 (Int.tmod a1 5000))))).bind fun bt227 => (if bt227.1 = 0 then (none) else ((rank_Below.f k bt227.1 bt227.2.1 (Int.tmod (wrap64 (a2)) bt227.1)).bind fun t233 => ((rank_Nth.f k bt227.1 bt227.2.1 t233).bind fun bt234 => (if bt234.2 = true then (if bt234.1 < (Int.tmod (wrap64 (a2)) bt227.1) then (hodmanlaw6_RankBack.j0 k (Int.tmod (wrap64 (a2)) bt227.1) t233 true bt227.1 bt227.2.1) else ((rank_Below.f k bt227.1 bt227.2.1 bt234.1).bind fun t236 => (if t236 = t233 then (if 0 < (bt227.2.1.length : Int) then ((hodmanref3_Has.f (rd_L1 bt227.2.1 0) bt234.1).bind fun t238 => (if t238 = true then ((hodmanref3_Has.f (rd_L1 bt227.2.1 0) (Int.tmod (wrap64 (a2)) bt227.1)).bind fun t240 => (hodmanlaw6_RankBack.j0 k (Int.tmod (wrap64 (a2)) bt227.1) t233 (t240 != (bt234.1 == (Int.tmod (wrap64 (a2)) bt227.1))) bt227.1 bt227.2.1)) else (hodmanlaw6_RankBack.j0 k (Int.tmod (wrap64 (a2)) bt227.1) t233 true bt227.1 bt227.2.1))) else (none)) else (hodmanlaw6_RankBack.j0 k (Int.tmod (wrap64 (a2)) bt227.1) t233 true bt227.1 bt227.2.1)))) else (if 0 < (bt227.2.1.length : Int) then ((hodmanref3_Has.f (rd_L1 bt227.2.1 0) (Int.tmod (wrap64 (a2)) bt227.1)).bind fun t242 => (hodmanlaw6_RankBack.j0 k (Int.tmod (wrap64 (a2)) bt227.1) t233 (t242 != false) bt227.1 bt227.2.1)) else (none))))))))) = some r := by rw [if_pos rfl] at H; exact H
    clear H
    have H := H1
    clear H1
    by_cases c6 : (l0.length : Int) > 20
    · rw [if_pos c6] at H
      have c6b0 : decide (20 < (l0.length : Int)) = true := decide_eq_true c6
      have c6b1 : decide (20 < l0.length) = true := decide_eq_true (by omega)
      clear c6
      obtain rfl := Option.some.inj H
      go_enter Try.func4, Try.ntmps4
      go_wp2_with (first | ((with_reducible refine gate_callee (f := 9) rfl ?_); refine goesL_ (some 15) rfl rfl Try.func9 (by kernel_rfl) rfl #[] rfl (by (try simp only [List.map_toArray, List.map_cons, List.map_nil]); first | done | rfl | (simp only [List.length_drop, List.length_take]; rfl)) ?_; (with_reducible refine (hodmanlaw6_begun.calls k  true _ A4.out).mono ?_); rintro e w7 ⟨rfl, hb⟩; refine ⟨_, rfl, ?_⟩; have n0_ := Aside0.mk (below_step (by repeat (first | (with_reducible first | exact HB.out | apply below_alloc | apply pw_below_drewN | apply below_drew1) | exact HB.out)) hb); clear HB; have HB := n0_; clear n0_; (try clear hb); (try clear hb2); (try clear hk); (try clear hi)))
      go_ret
      exact ⟨by first | rfl | (simp [errW_none, errW_some] <;> rfl) | (simp [*, errW_none, errW_some] <;> rfl), by repeat (first | (with_reducible first | exact HB.out | apply below_alloc | apply pw_below_drewN | apply below_drew1) | exact HB.out)⟩
    · rw [if_neg c6] at H
      have c6b0 : decide (20 < (l0.length : Int)) = false := decide_eq_false c6
      have c6b1 : decide (20 < l0.length) = false := decide_eq_false (by omega)
      clear c6
      replace H := Option.bind_eq_some_iff.mp H
      obtain ⟨⟨t224, t225⟩, A80, H⟩ := H
      replace H : ((hodmanplay_Picks_Tree.f k t224 t225 (wrap64 (1 + (wrap64 (Int.tmod a1 5000))))).bind fun bt227 => (if bt227.1 = 0 then (none) else ((rank_Below.f k bt227.1 bt227.2.1 (Int.tmod (wrap64 (a2)) bt227.1)).bind fun t233 => ((rank_Nth.f k bt227.1 bt227.2.1 t233).bind fun bt234 => (if bt234.2 = true then (if bt234.1 < (Int.tmod (wrap64 (a2)) bt227.1) then (hodmanlaw6_RankBack.j0 k (Int.tmod (wrap64 (a2)) bt227.1) t233 true bt227.1 bt227.2.1) else ((rank_Below.f k bt227.1 bt227.2.1 bt234.1).bind fun t236 => (if t236 = t233 then (if 0 < (bt227.2.1.length : Int) then ((hodmanref3_Has.f (rd_L1 bt227.2.1 0) bt234.1).bind fun t238 => (if t238 = true then ((hodmanref3_Has.f (rd_L1 bt227.2.1 0) (Int.tmod (wrap64 (a2)) bt227.1)).bind fun t240 => (hodmanlaw6_RankBack.j0 k (Int.tmod (wrap64 (a2)) bt227.1) t233 (t240 != (bt234.1 == (Int.tmod (wrap64 (a2)) bt227.1))) bt227.1 bt227.2.1)) else (hodmanlaw6_RankBack.j0 k (Int.tmod (wrap64 (a2)) bt227.1) t233 true bt227.1 bt227.2.1))) else (none)) else (hodmanlaw6_RankBack.j0 k (Int.tmod (wrap64 (a2)) bt227.1) t233 true bt227.1 bt227.2.1)))) else (if 0 < (bt227.2.1.length : Int) then ((hodmanref3_Has.f (rd_L1 bt227.2.1 0) (Int.tmod (wrap64 (a2)) bt227.1)).bind fun t242 => (hodmanlaw6_RankBack.j0 k (Int.tmod (wrap64 (a2)) bt227.1) t233 (t242 != false) bt227.1 bt227.2.1)) else (none))))))) = some r := H
      have A8 := Aside0.mk A80
      clear A80
      replace H := Option.bind_eq_some_iff.mp H
      obtain ⟨⟨t227, t228, t231⟩, A90, H⟩ := H
      replace H : (if t227 = 0 then (none) else ((rank_Below.f k t227 t228 (Int.tmod (wrap64 (a2)) t227)).bind fun t233 => ((rank_Nth.f k t227 t228 t233).bind fun bt234 => (if bt234.2 = true then (if bt234.1 < (Int.tmod (wrap64 (a2)) t227) then (hodmanlaw6_RankBack.j0 k (Int.tmod (wrap64 (a2)) t227) t233 true t227 t228) else ((rank_Below.f k t227 t228 bt234.1).bind fun t236 => (if t236 = t233 then (if 0 < (t228.length : Int) then ((hodmanref3_Has.f (rd_L1 t228 0) bt234.1).bind fun t238 => (if t238 = true then ((hodmanref3_Has.f (rd_L1 t228 0) (Int.tmod (wrap64 (a2)) t227)).bind fun t240 => (hodmanlaw6_RankBack.j0 k (Int.tmod (wrap64 (a2)) t227) t233 (t240 != (bt234.1 == (Int.tmod (wrap64 (a2)) t227))) t227 t228)) else (hodmanlaw6_RankBack.j0 k (Int.tmod (wrap64 (a2)) t227) t233 true t227 t228))) else (none)) else (hodmanlaw6_RankBack.j0 k (Int.tmod (wrap64 (a2)) t227) t233 true t227 t228)))) else (if 0 < (t228.length : Int) then ((hodmanref3_Has.f (rd_L1 t228 0) (Int.tmod (wrap64 (a2)) t227)).bind fun t242 => (hodmanlaw6_RankBack.j0 k (Int.tmod (wrap64 (a2)) t227) t233 (t242 != false) t227 t228)) else (none)))))) = some r := H
      have A9 := Aside0.mk A90
      clear A90
      by_cases c10 : t227 = 0
      · rw [if_pos c10] at H
        exact absurd H (by simp)
      · rw [if_neg c10] at H
        have c10b0 : (t227 == 0) = false := beq_eq_false_iff_ne.mpr c10
        have c10b1 : (t227 != 0) = true := bne_iff_ne.mpr c10
        replace H := Option.bind_eq_some_iff.mp H
        obtain ⟨t233, A110, H⟩ := H
        replace H : ((rank_Nth.f k t227 t228 t233).bind fun bt234 => (if bt234.2 = true then (if bt234.1 < (Int.tmod (wrap64 (a2)) t227) then (hodmanlaw6_RankBack.j0 k (Int.tmod (wrap64 (a2)) t227) t233 true t227 t228) else ((rank_Below.f k t227 t228 bt234.1).bind fun t236 => (if t236 = t233 then (if 0 < (t228.length : Int) then ((hodmanref3_Has.f (rd_L1 t228 0) bt234.1).bind fun t238 => (if t238 = true then ((hodmanref3_Has.f (rd_L1 t228 0) (Int.tmod (wrap64 (a2)) t227)).bind fun t240 => (hodmanlaw6_RankBack.j0 k (Int.tmod (wrap64 (a2)) t227) t233 (t240 != (bt234.1 == (Int.tmod (wrap64 (a2)) t227))) t227 t228)) else (hodmanlaw6_RankBack.j0 k (Int.tmod (wrap64 (a2)) t227) t233 true t227 t228))) else (none)) else (hodmanlaw6_RankBack.j0 k (Int.tmod (wrap64 (a2)) t227) t233 true t227 t228)))) else (if 0 < (t228.length : Int) then ((hodmanref3_Has.f (rd_L1 t228 0) (Int.tmod (wrap64 (a2)) t227)).bind fun t242 => (hodmanlaw6_RankBack.j0 k (Int.tmod (wrap64 (a2)) t227) t233 (t242 != false) t227 t228)) else (none)))) = some r := H
        have A11 := Aside0.mk A110
        clear A110
        replace H := Option.bind_eq_some_iff.mp H
        obtain ⟨⟨t234, t235⟩, A120, H⟩ := H
        replace H : (if t235 = true then (if t234 < (Int.tmod (wrap64 (a2)) t227) then (hodmanlaw6_RankBack.j0 k (Int.tmod (wrap64 (a2)) t227) t233 true t227 t228) else ((rank_Below.f k t227 t228 t234).bind fun t236 => (if t236 = t233 then (if 0 < (t228.length : Int) then ((hodmanref3_Has.f (rd_L1 t228 0) t234).bind fun t238 => (if t238 = true then ((hodmanref3_Has.f (rd_L1 t228 0) (Int.tmod (wrap64 (a2)) t227)).bind fun t240 => (hodmanlaw6_RankBack.j0 k (Int.tmod (wrap64 (a2)) t227) t233 (t240 != (t234 == (Int.tmod (wrap64 (a2)) t227))) t227 t228)) else (hodmanlaw6_RankBack.j0 k (Int.tmod (wrap64 (a2)) t227) t233 true t227 t228))) else (none)) else (hodmanlaw6_RankBack.j0 k (Int.tmod (wrap64 (a2)) t227) t233 true t227 t228)))) else (if 0 < (t228.length : Int) then ((hodmanref3_Has.f (rd_L1 t228 0) (Int.tmod (wrap64 (a2)) t227)).bind fun t242 => (hodmanlaw6_RankBack.j0 k (Int.tmod (wrap64 (a2)) t227) t233 (t242 != false) t227 t228)) else (none))) = some r := H
        have A12 := Aside0.mk A120
        clear A120
        have HC13 := Aside0.mk H
        clear H
        go_enter Try.func4, Try.ntmps4
        go_upto_region 9 with (first | ((with_reducible refine gate_callee (f := 9) rfl ?_); refine goesL_ (some 15) rfl rfl Try.func9 (by kernel_rfl) rfl #[] rfl (by (try simp only [List.map_toArray, List.map_cons, List.map_nil]); first | done | rfl | (simp only [List.length_drop, List.length_take]; rfl)) ?_; (with_reducible refine (hodmanlaw6_begun.calls k  true _ A4.out).mono ?_); rintro e w14 ⟨rfl, hb⟩; refine ⟨_, rfl, ?_⟩; have n0_ := Aside0.mk (below_step (by repeat (first | (with_reducible first | exact HB.out | apply below_alloc | apply pw_below_drewN | apply below_drew1) | exact HB.out)) hb); clear HB; have HB := n0_; clear n0_; (try clear hb); (try clear hb2); (try clear hk); (try clear hi)) | ((with_reducible refine gate_callee (f := 10) rfl ?_); refine goesL_ (some 21) rfl rfl Try.func10 (by kernel_rfl) rfl #[.slice A0 l0.length c0] rfl (by (try simp only [List.map_toArray, List.map_cons, List.map_nil]); first | done | rfl | (simp only [List.length_drop, List.length_take]; rfl)) ?_; (with_reducible refine (hodmanplay_Made.calls _ _ l0 t224 t225 w _ ?side1 ?side2 ?side3 A8.out).mono ?_); (case side1 => repeat (first | (with_reducible first | exact HB.out | apply below_alloc | apply pw_below_drewN | apply below_drew1) | exact HB.out)); (case side2 => exact HR0.out); (case side3 => exact HC0.out); rintro e w15 ⟨g226, rfl, hi, hb, hb2⟩; refine ⟨_, rfl, ?_⟩; have n0_ := Aside0.mk (hb); have n1_ := Aside0.mk (hi); clear HB; have HB := n0_; have HI226 := n1_; clear n0_ n1_; (try clear hb); (try clear hb2); (try clear hk); (try clear hi)) | ((with_reducible refine gate_callee (f := 11) rfl ?_); refine goesL_ (some 26) rfl rfl Try.func11 (by kernel_rfl) rfl #[.pointer (some ⟨g226, 0, none⟩), .int .i64 (wrap64 (1 + (wrap64 (Int.tmod a1 5000))))] rfl (by (try simp only [List.map_toArray, List.map_cons, List.map_nil]); first | done | rfl | (simp only [List.length_drop, List.length_take]; rfl)) ?_; (with_reducible refine (hodmanplay_Picks_Tree.calls k g226 t224 t225 (wrap64 (1 + (wrap64 (Int.tmod a1 5000)))) t227 t228 t231 w _ ?side1 ?side2 A9.out).mono ?_); (case side1 => repeat (first | (with_reducible first | exact HI226.out | apply IsS51.alloc | apply IsS51.drewN | apply IsS51.drew | apply IsS51.set_1) | exact HI226.out)); (case side2 => repeat (first | (with_reducible first | exact HB.out | apply below_alloc | apply pw_below_drewN | apply below_drew1 | refine below_set ?_ (IsS51.ge HI226.out)) | exact HB.out)); rintro e w16 ⟨v229, rfl, ho0, hi, hb, hk⟩; refine ⟨_, rfl, ?_⟩; have n0_ := Aside0.mk (Kd.S_lower ho0 (below_size (by repeat (first | (with_reducible first | exact HB.out | apply below_alloc | apply pw_below_drewN | apply below_drew1 | refine below_set ?_ (IsS51.ge HI226.out)) | exact HB.out)))); have n1_ := Aside0.mk (hb); have n2_ := Aside0.mk (hi); clear HB; clear HI226; have HO230 := n0_; have HB := n1_; have HI226 := n2_; clear n0_ n1_ n2_; (try clear hb); (try clear hb2); (try clear hk); (try clear hi); (try clear ho0)) | ((with_reducible refine gate_dst (N := 7) rfl ?_); refine box_event ?hg (N := 7) ?hd (cs := #[.int .i64 0, .slice none 0 0]) (t := 27) ?hr ?_; (case hd => rfl); (case hg => rfl); (case hr => first | (go_simp; done) | (go_simp; rfl)); intro gb232 hg w17 hbox hb; have n0_ := Aside0.mk (Kd.S_below (by (with_reducible repeat (first | apply Kd.S_alloc | apply Kd.S_drewN | apply Kd.S_drew)); exact HO230.out) hb); have n1_ := Aside0.mk (IsS51.below (by repeat (first | (with_reducible first | exact HI226.out | apply IsS51.alloc | apply IsS51.drewN | apply IsS51.drew | apply IsS51.set_1) | exact HI226.out)) hb); have n2_ := Aside0.mk (below_step (by repeat (first | (with_reducible first | exact HB.out | apply below_alloc | apply pw_below_drewN | apply below_drew1 | refine below_set ?_ (IsS51.ge HI226.out)) | exact HB.out)) hb); have n3_ := Aside0.mk (hbox); have n4_ := Aside0.mk ((by rw [hg]; exact (below_size (by repeat (first | (with_reducible first | exact HB.out | apply below_alloc | apply pw_below_drewN | apply below_drew1 | refine below_set ?_ (IsS51.ge HI226.out)) | exact HB.out))) : w.heap.size ≤ gb232)); have n5_ := Aside0.mk ((by rw [hg]; exact (below_size (by repeat (first | (with_reducible first | exact HB.out | apply below_alloc | apply pw_below_drewN | apply below_drew1 | refine below_set ?_ (IsS51.ge HI226.out)) | exact HB.out))) : w.heap.size ≤ gb232)); have n6_ := Aside0.mk ((by rw [hg]; exact Nat.ne_of_lt (IsS51.lt (show IsS51 w _ g226 t224 t231 from by repeat (first | (with_reducible first | exact HI226.out | apply IsS51.alloc | apply IsS51.drewN | apply IsS51.drew | apply IsS51.set_1) | exact HI226.out))) : g226 ≠ gb232)); have n7_ := Aside0.mk ((by rw [hg]; exact Nat.ne_of_gt (IsS51.lt (show IsS51 w _ g226 t224 t231 from by repeat (first | (with_reducible first | exact HI226.out | apply IsS51.alloc | apply IsS51.drewN | apply IsS51.drew | apply IsS51.set_1) | exact HI226.out))) : gb232 ≠ g226)); clear HO230; clear HI226; clear HB; have HO230 := n0_; have HI226 := n1_; have HB := n2_; have BK232 := n3_; have GW232 := n4_; have GE232 := n5_; have NB226_232 := n6_; have NB232_226 := n7_; clear n0_ n1_ n2_ n3_ n4_ n5_ n6_ n7_; clear hb hbox hg; have hnb18 := NB232_226.out; have hnc18 := NB226_232.out; have hcz19_0 : w17.cell? ⟨gb232, 0, none⟩ = some (.int .i64 0) := (blk_cell BK232.out 0).trans rfl; have hcz19_1 : w17.cell? ⟨gb232, 1, none⟩ = some (.slice none 0 0) := (blk_cell BK232.out 1).trans rfl; have hfz19_0 := blk_frozen BK232.out 0; have hfz19_1 := blk_frozen BK232.out 1; obtain ⟨Ao20, co20, eo20⟩ := Kd.S_slice HO230.out; subst eo20) | ((with_reducible refine gate_callee (f := 14) rfl ?_); refine goesL_ (some 34) rfl rfl Try.func14 (by kernel_rfl) rfl #[.agg #[.int .i64 t227, .slice Ao20 t228.length co20], .int .i64 (Int.tmod (wrap64 (a2)) t227)] rfl (by (try simp only [List.map_toArray, List.map_cons, List.map_nil]); first | done | rfl | (simp only [List.length_drop, List.length_take]; rfl)) ?_; (with_reducible refine (rank_Below.calls k t227 _ _ t228 (Int.tmod (wrap64 (a2)) t227) t233 _ ?side1 ?side2 A11.out).mono ?_); (case side1 => refine (Kd.S_reads' (e := 38) (base := w.heap.size) (ok := fun k_ => True) (n := t228.length) (c := co20) ?_).2.2; exact (by (with_reducible repeat (first | apply Kd.S_alloc | apply Kd.S_drewN | apply Kd.S_drew)); exact (Kd.S_mono (Kd.S_far (p := ⟨gb232, 1, none⟩) (Kd.S_far (p := ⟨gb232, 0, none⟩) (Kd.S_types HO230.out BK232.out (by decide)) (fun _ hk => hk.2) (.int .i64 t227)) (fun _ hk => hk.2) (.slice Ao20 t228.length co20)) (fun _ h_ => h_.1)))); (case side2 => exact (Kd.S_reads' HO230.out).2.1); rintro e w21 ⟨rfl, hb⟩; refine ⟨_, rfl, ?_⟩; have n0_ := Aside0.mk (Kd.S_below (by (with_reducible repeat (first | apply Kd.S_alloc | apply Kd.S_drewN | apply Kd.S_drew)); exact (Kd.S_mono (Kd.S_far (p := ⟨gb232, 1, none⟩) (Kd.S_far (p := ⟨gb232, 0, none⟩) (Kd.S_types HO230.out BK232.out (by decide)) (fun _ hk => hk.2) (.int .i64 t227)) (fun _ hk => hk.2) (.slice Ao20 t228.length co20)) (fun _ h_ => h_.1))) hb); have n1_ := Aside0.mk (IsS51.below (show IsS51 w ((w17.setCell ⟨gb232, 0, none⟩ (.int .i64 t227)).setCell ⟨gb232, 1, none⟩ (.slice Ao20 t228.length co20)) g226 t224 t231 from by repeat (first | (with_reducible first | exact HI226.out | apply IsS51.alloc | apply IsS51.drewN | apply IsS51.drew | apply IsS51.set_1 | refine IsS51.far ?_ NB226_232.out _) | exact HI226.out)) hb); have n2_ := Aside0.mk (blk_below (g := gb232) (o := .cells #[.int .i64 t227, .slice Ao20 t228.length co20] 27 (0, 0)) (by (with_reducible repeat (first | refine blk_drewN ?_ _ | refine blk_drew ?_ | refine blk_alloc ?_ _)); refine blk_put (cs := #[.int .i64 t227, .slice none 0 0]) ?_ 1 _ rfl; (with_reducible repeat (first | refine blk_drewN ?_ _ | refine blk_drew ?_ | refine blk_alloc ?_ _)); refine blk_put (cs := #[.int .i64 0, .slice none 0 0]) ?_ 0 _ rfl; (with_reducible repeat (first | refine blk_drewN ?_ _ | refine blk_drew ?_ | refine blk_alloc ?_ _)); exact BK232.out) hb); have n3_ := Aside0.mk (below_step (by repeat (first | (with_reducible first | exact HB.out | apply below_alloc | apply pw_below_drewN | apply below_drew1 | refine below_set ?_ (IsS51.ge HI226.out) | refine below_set ?_ GE232.out) | exact HB.out)) hb); clear HO230; clear HI226; clear BK232; clear HB; have HO230 := n0_; have HI226 := n1_; have BK232 := n2_; have HB := n3_; clear n0_ n1_ n2_ n3_; (try clear hb); (try clear hb2); (try clear hk); (try clear hi); have hcz22_0 : w21.cell? ⟨gb232, 0, none⟩ = some (.int .i64 t227) := (blk_cell BK232.out 0).trans rfl; have hcz22_1 : w21.cell? ⟨gb232, 1, none⟩ = some (.slice Ao20 t228.length co20) := (blk_cell BK232.out 1).trans rfl; have hfz22_0 := blk_frozen BK232.out 0; have hfz22_1 := blk_frozen BK232.out 1) | ((with_reducible refine gate_callee (f := 12) rfl ?_); refine goesL_ (some 38) rfl rfl Try.func12 (by kernel_rfl) rfl #[.agg #[.int .i64 t227, .slice Ao20 t228.length co20], .int .i64 t233] rfl (by (try simp only [List.map_toArray, List.map_cons, List.map_nil]); first | done | rfl | (simp only [List.length_drop, List.length_take]; rfl)) ?_; (with_reducible refine (rank_Nth.calls k t227 _ _ t228 t233 t234 t235 _ ?side1 ?side2 A12.out).mono ?_); (case side1 => repeat (first | exact (Kd.S_reads' HO230.out).2.2 | (with_reducible refine Kd.C_alloc ?_ _) | (with_reducible refine Kd.C_drewN ?_ _) | (with_reducible refine Kd.C_drew ?_))); (case side2 => exact (Kd.S_reads' HO230.out).2.1); rintro e w23 ⟨rfl, hb⟩; refine ⟨_, rfl, ?_⟩; have n0_ := Aside0.mk (Kd.S_below (by (with_reducible repeat (first | apply Kd.S_alloc | apply Kd.S_drewN | apply Kd.S_drew)); exact HO230.out) hb); have n1_ := Aside0.mk (IsS51.below (by repeat (first | (with_reducible first | exact HI226.out | apply IsS51.alloc | apply IsS51.drewN | apply IsS51.drew | apply IsS51.set_1 | refine IsS51.far ?_ NB226_232.out _) | exact HI226.out)) hb); have n2_ := Aside0.mk (blk_below (g := gb232) (o := .cells #[.int .i64 t227, .slice Ao20 t228.length co20] 27 (0, 0)) (by (with_reducible repeat (first | refine blk_drewN ?_ _ | refine blk_drew ?_ | refine blk_alloc ?_ _)); exact BK232.out) hb); have n3_ := Aside0.mk (below_step (by repeat (first | (with_reducible first | exact HB.out | apply below_alloc | apply pw_below_drewN | apply below_drew1 | refine below_set ?_ (IsS51.ge HI226.out) | refine below_set ?_ GE232.out) | exact HB.out)) hb); clear HO230; clear HI226; clear BK232; clear HB; have HO230 := n0_; have HI226 := n1_; have BK232 := n2_; have HB := n3_; clear n0_ n1_ n2_ n3_; (try clear hb); (try clear hb2); (try clear hk); (try clear hi)))
        (try simp only [Act.put, List.setIfInBounds_toArray, List.set_cons_zero, List.set_cons_succ])
        go_cut [77] (fun v77 wc => ∃ (kq : Nat) (x77_12 : Bool), v77 = .bool x77_12 ∧ Aside0 (hodmanlaw6_RankBack.j0 kq (Int.tmod (wrap64 (a2)) t227) t233 x77_12 t227 t228 = some r) ∧ Aside0 (kq ≤ k) ∧ Aside0 (Kd.S (Kd.slice 53 (Kd.int .u64)) 38 wc w.heap.size (fun _ => True) (.slice Ao20 t228.length co20) t228) ∧ Aside0 (wc.heap[gb232]? = some (.cells #[.int .i64 t227, (.slice Ao20 t228.length co20)] 27 (0, 0))) ∧ Aside0 (Below w.heap.size w wc))
        case first =>
          have H := HC13.out
          clear HC13
          by_cases c24 : t235 = true
          · subst c24
            have H1 : (if t234 < (Int.tmod (wrap64 (a2)) t227) then (hodmanlaw6_RankBack.j0 k (Int.tmod (wrap64 (a2)) t227) t233 true t227 t228) else ((rank_Below.f k t227 t228 t234).bind fun t236 => (if t236 = t233 then (if 0 < (t228.length : Int) then ((hodmanref3_Has.f (rd_L1 t228 0) t234).bind fun t238 => (if t238 = true then ((hodmanref3_Has.f (rd_L1 t228 0) (Int.tmod (wrap64 (a2)) t227)).bind fun t240 => (hodmanlaw6_RankBack.j0 k (Int.tmod (wrap64 (a2)) t227) t233 (t240 != (t234 == (Int.tmod (wrap64 (a2)) t227))) t227 t228)) else (hodmanlaw6_RankBack.j0 k (Int.tmod (wrap64 (a2)) t227) t233 true t227 t228))) else (none)) else (hodmanlaw6_RankBack.j0 k (Int.tmod (wrap64 (a2)) t227) t233 true t227 t228)))) = some r := by rw [if_pos rfl] at H; exact H
            clear H
            have H := H1
            clear H1
            by_cases c25 : t234 < (Int.tmod (wrap64 (a2)) t227)
            · rw [if_pos c25] at H
              have c25b0 : decide (t234 < (Int.tmod (wrap64 (a2)) t227)) = true := decide_eq_true c25
              clear c25
              (first | rw [c25b0] | (simp only [i64_w, i32_w]; rw [c25b0]) | skip)
              have H' := Aside0.mk H
              clear H
              go_wp2
              go_meet
              case rel => exact ⟨_, (true), (by first | rfl | (simp; done) | (simp [*]; done)), H', ⟨by first | omega | exact Nat.le_refl _⟩, ⟨by (with_reducible repeat (first | apply Kd.S_alloc | apply Kd.S_drewN | apply Kd.S_drew)); exact HO230.out⟩, ⟨by (with_reducible repeat (first | refine blk_drewN ?_ _ | refine blk_drew ?_ | refine blk_alloc ?_ _)); exact BK232.out⟩, ⟨by repeat (first | (with_reducible first | exact HB.out | apply below_alloc | apply pw_below_drewN | apply below_drew1 | refine below_set ?_ (IsS51.ge HI226.out) | refine below_set ?_ GE232.out) | exact HB.out)⟩⟩
            · rw [if_neg c25] at H
              have c25b0 : decide (t234 < (Int.tmod (wrap64 (a2)) t227)) = false := decide_eq_false c25
              clear c25
              (first | rw [c25b0] | (simp only [i64_w, i32_w]; rw [c25b0]) | skip)
              replace H := Option.bind_eq_some_iff.mp H
              obtain ⟨t236, A260, H⟩ := H
              replace H : (if t236 = t233 then (if 0 < (t228.length : Int) then ((hodmanref3_Has.f (rd_L1 t228 0) t234).bind fun t238 => (if t238 = true then ((hodmanref3_Has.f (rd_L1 t228 0) (Int.tmod (wrap64 (a2)) t227)).bind fun t240 => (hodmanlaw6_RankBack.j0 k (Int.tmod (wrap64 (a2)) t227) t233 (t240 != (t234 == (Int.tmod (wrap64 (a2)) t227))) t227 t228)) else (hodmanlaw6_RankBack.j0 k (Int.tmod (wrap64 (a2)) t227) t233 true t227 t228))) else (none)) else (hodmanlaw6_RankBack.j0 k (Int.tmod (wrap64 (a2)) t227) t233 true t227 t228)) = some r := H
              have A26 := Aside0.mk A260
              clear A260
              by_cases c27 : t236 = t233
              · rw [if_pos c27] at H
                have c27b0 : (t236 == t233) = true := beq_iff_eq.mpr c27
                have c27b1 : (t236 != t233) = false := bne_eq_false_iff_eq.mpr c27
                clear c27
                by_cases c28 : 0 < (t228.length : Int)
                · rw [if_pos c28] at H
                  have c28b0 : decide (0 < (t228.length : Int)) = true := decide_eq_true c28
                  have c28b1 : decide (0 < t228.length) = true := decide_eq_true (by omega)
                  clear c28
                  replace H := Option.bind_eq_some_iff.mp H
                  obtain ⟨t238, A290, H⟩ := H
                  replace H : (if t238 = true then ((hodmanref3_Has.f (rd_L1 t228 0) (Int.tmod (wrap64 (a2)) t227)).bind fun t240 => (hodmanlaw6_RankBack.j0 k (Int.tmod (wrap64 (a2)) t227) t233 (t240 != (t234 == (Int.tmod (wrap64 (a2)) t227))) t227 t228)) else (hodmanlaw6_RankBack.j0 k (Int.tmod (wrap64 (a2)) t227) t233 true t227 t228)) = some r := H
                  have A29 := Aside0.mk A290
                  clear A290
                  by_cases c30 : t238 = true
                  · subst c30
                    have H1 : ((hodmanref3_Has.f (rd_L1 t228 0) (Int.tmod (wrap64 (a2)) t227)).bind fun t240 => (hodmanlaw6_RankBack.j0 k (Int.tmod (wrap64 (a2)) t227) t233 (t240 != (t234 == (Int.tmod (wrap64 (a2)) t227))) t227 t228)) = some r := by rw [if_pos rfl] at H; exact H
                    clear H
                    have H := H1
                    clear H1
                    replace H := Option.bind_eq_some_iff.mp H
                    obtain ⟨t240, A310, H⟩ := H
                    replace H : (hodmanlaw6_RankBack.j0 k (Int.tmod (wrap64 (a2)) t227) t233 (t240 != (t234 == (Int.tmod (wrap64 (a2)) t227))) t227 t228) = some r := H
                    have A31 := Aside0.mk A310
                    clear A310
                    have H' := Aside0.mk H
                    clear H
                    have hnb32 := NB232_226.out
                    have hnc32 := NB226_232.out
                    have hcz33_0 : w23.cell? ⟨gb232, 0, none⟩ = some (.int .i64 t227) := (blk_cell BK232.out 0).trans rfl
                    have hcz33_1 : w23.cell? ⟨gb232, 1, none⟩ = some (.slice Ao20 t228.length co20) := (blk_cell BK232.out 1).trans rfl
                    have hfz33_0 := blk_frozen BK232.out 0
                    have hfz33_1 := blk_frozen BK232.out 1
                    go_wp2_with (first | (go_at_call 14; (with_reducible refine (rank_Below.calls k t227 _ _ t228 t234 t236 _ ?side1 ?side2 A26.out).mono ?_); (case side1 => repeat (first | exact (Kd.S_reads' HO230.out).2.2 | (with_reducible refine Kd.C_alloc ?_ _) | (with_reducible refine Kd.C_drewN ?_ _) | (with_reducible refine Kd.C_drew ?_))); (case side2 => exact (Kd.S_reads' HO230.out).2.1); rintro e w34 ⟨rfl, hb⟩; have n0_ := Aside0.mk (Kd.S_below (by (with_reducible repeat (first | apply Kd.S_alloc | apply Kd.S_drewN | apply Kd.S_drew)); exact HO230.out) hb); have n1_ := Aside0.mk (IsS51.below (by repeat (first | (with_reducible first | exact HI226.out | apply IsS51.alloc | apply IsS51.drewN | apply IsS51.drew | apply IsS51.set_1 | refine IsS51.far ?_ NB226_232.out _) | exact HI226.out)) hb); have n2_ := Aside0.mk (blk_below (g := gb232) (o := .cells #[.int .i64 t227, .slice Ao20 t228.length co20] 27 (0, 0)) (by (with_reducible repeat (first | refine blk_drewN ?_ _ | refine blk_drew ?_ | refine blk_alloc ?_ _)); exact BK232.out) hb); have n3_ := Aside0.mk (below_step (by repeat (first | (with_reducible first | exact HB.out | apply below_alloc | apply pw_below_drewN | apply below_drew1 | refine below_set ?_ (IsS51.ge HI226.out) | refine below_set ?_ GE232.out) | exact HB.out)) hb); clear HO230; clear HI226; clear BK232; clear HB; have HO230 := n0_; have HI226 := n1_; have BK232 := n2_; have HB := n3_; clear n0_ n1_ n2_ n3_; (try clear hb); (try clear hb2); (try clear hk); (try clear hi); have hcz35_0 : w34.cell? ⟨gb232, 0, none⟩ = some (.int .i64 t227) := (blk_cell BK232.out 0).trans rfl; have hcz35_1 : w34.cell? ⟨gb232, 1, none⟩ = some (.slice Ao20 t228.length co20) := (blk_cell BK232.out 1).trans rfl; have hfz35_0 := blk_frozen BK232.out 0; have hfz35_1 := blk_frozen BK232.out 1; have p237 : 0 ≤ (0 : Int) := (by omega); have q237 : 0 < (t228.length : Int) := of_decide_eq_true (by first | (with_reducible assumption) | assumption); obtain ⟨ad237, A237_0, c237_0, e237, hx237_0, hl237_0, hi237_0⟩ := at_L1 (Kd.S_reads' HO230.out).2.2 0 p237 q237; cases e237; obtain ⟨ce237, hce237, hMe237, hcc237⟩ := Kd.S_get HO230.out [] 0 p237 (by first | exact q237 | exact of_decide_eq_true (by first | (with_reducible assumption) | assumption) | (have e_ := (Kd.S_reads' HO230.out).1; omega)); obtain ⟨ve237_0, rfl, ge237_0⟩ := hMe237; have hv237_0 := hcc237 0 _ rfl; rw [Nat.add_zero, show ((Kd.slice 53 (Kd.int .u64))).sz = 1 from rfl, Nat.mul_one] at hv237_0; replace hv237_0 := Option.some.inj (hv237_0.symm.trans hx237_0); rw [hv237_0] at ge237_0; have HL237_0 := Aside0.mk (show Kd.R (Kd.int .u64) 53 _ _ _ _ (rd_L1 t228 0) from ge237_0); clear hv237_0 ge237_0; clear hcc237 hce237; have qi237 : (0 < t228.length) = True := eq_true (by omega); (try rw [show ((0 : Int)).toNat = 0 from rfl] at hx237_0); (try rw [Addr.add_zero'] at hx237_0); have HR237_0 := Aside0.mk hi237_0; have HC237_0 := Aside0.mk hl237_0; clear hi237_0 hl237_0; replace p237 := eq_true p237; replace q237 := eq_true q237) | (go_at_call 17; (with_reducible refine (hodmanref3_Has.calls _ _ (rd_L1 t228 0) t234 true _ ?side1 ?side2 A29.out).mono ?_); (case side1 => repeat (first | exact (by repeat (first | (with_reducible exact HR237_0.out) | (with_reducible refine Kd.C_alloc ?_ _) | (with_reducible refine Kd.C_drewN ?_ _) | (with_reducible refine Kd.C_drew ?_) | exact HR237_0.out)) | (with_reducible refine Kd.C_alloc ?_ _) | (with_reducible refine Kd.C_drewN ?_ _) | (with_reducible refine Kd.C_drew ?_))); (case side2 => exact HC237_0.out); rintro e w' ⟨rfl, ⟨nd, rfl⟩⟩; have p239 : 0 ≤ (0 : Int) := (by omega); have q239 : 0 < (t228.length : Int) := of_decide_eq_true (by first | (with_reducible assumption) | assumption); obtain ⟨ad239, A239_0, c239_0, e239, hx239_0, hl239_0, hi239_0⟩ := at_L1 (Kd.S_reads' HO230.out).2.2 0 p239 q239; obtain rfl : ad237 = ad239 := (by injection e239); obtain ⟨ce239, hce239, hMe239, hcc239⟩ := Kd.S_get HO230.out [] 0 p239 (by first | exact q239 | exact of_decide_eq_true (by first | (with_reducible assumption) | assumption) | (have e_ := (Kd.S_reads' HO230.out).1; omega)); obtain ⟨ve239_0, rfl, ge239_0⟩ := hMe239; have hv239_0 := hcc239 0 _ rfl; rw [Nat.add_zero, show ((Kd.slice 53 (Kd.int .u64))).sz = 1 from rfl, Nat.mul_one] at hv239_0; replace hv239_0 := Option.some.inj (hv239_0.symm.trans hx239_0); rw [hv239_0] at ge239_0; have HL239_0 := Aside0.mk (show Kd.R (Kd.int .u64) 53 _ _ _ _ (rd_L1 t228 0) from ge239_0); clear hv239_0 ge239_0; clear hcc239 hce239; have qi239 : (0 < t228.length) = True := eq_true (by omega); (try rw [show ((0 : Int)).toNat = 0 from rfl] at hx239_0); (try rw [Addr.add_zero'] at hx239_0); have HR239_0 := Aside0.mk hi239_0; have HC239_0 := Aside0.mk hl239_0; clear hi239_0 hl239_0; replace p239 := eq_true p239; replace q239 := eq_true q239; have ea_ := Option.some.inj (hx237_0.symm.trans hx239_0); injection ea_ with ea_ en_ ec_; subst ea_; subst ec_; clear en_) | (go_at_call 17; (with_reducible refine (hodmanref3_Has.calls _ _ (rd_L1 t228 0) (Int.tmod (wrap64 (a2)) t227) t240 _ ?side1 ?side2 A31.out).mono ?_); (case side1 => repeat (first | exact (by repeat (first | (with_reducible exact HR239_0.out) | (with_reducible refine Kd.C_alloc ?_ _) | (with_reducible refine Kd.C_drewN ?_ _) | (with_reducible refine Kd.C_drew ?_) | exact HR239_0.out)) | (with_reducible refine Kd.C_alloc ?_ _) | (with_reducible refine Kd.C_drewN ?_ _) | (with_reducible refine Kd.C_drew ?_))); (case side2 => exact HC239_0.out); rintro e w' ⟨rfl, ⟨nd, rfl⟩⟩))
                    go_meet
                    case rel => exact ⟨_, ((t240 != (t234 == (Int.tmod (wrap64 (a2)) t227)))), (by first | rfl | (simp; done) | (simp [*]; done)), H', ⟨by first | omega | exact Nat.le_refl _⟩, ⟨by (with_reducible repeat (first | apply Kd.S_alloc | apply Kd.S_drewN | apply Kd.S_drew)); exact HO230.out⟩, ⟨by (with_reducible repeat (first | refine blk_drewN ?_ _ | refine blk_drew ?_ | refine blk_alloc ?_ _)); exact BK232.out⟩, ⟨by repeat (first | (with_reducible first | exact HB.out | apply below_alloc | apply pw_below_drewN | apply below_drew1 | refine below_set ?_ (IsS51.ge HI226.out) | refine below_set ?_ GE232.out) | exact HB.out)⟩⟩
                  · replace c30 := Bool.eq_false_iff.mpr c30
                    subst c30
                    have H1 : (hodmanlaw6_RankBack.j0 k (Int.tmod (wrap64 (a2)) t227) t233 true t227 t228) = some r := by rw [if_neg (show ¬ (false = true) by decide)] at H; exact H
                    clear H
                    have H := H1
                    clear H1
                    have H' := Aside0.mk H
                    clear H
                    have hnb36 := NB232_226.out
                    have hnc36 := NB226_232.out
                    have hcz37_0 : w23.cell? ⟨gb232, 0, none⟩ = some (.int .i64 t227) := (blk_cell BK232.out 0).trans rfl
                    have hcz37_1 : w23.cell? ⟨gb232, 1, none⟩ = some (.slice Ao20 t228.length co20) := (blk_cell BK232.out 1).trans rfl
                    have hfz37_0 := blk_frozen BK232.out 0
                    have hfz37_1 := blk_frozen BK232.out 1
                    go_wp2_with (first | (go_at_call 14; (with_reducible refine (rank_Below.calls k t227 _ _ t228 t234 t236 _ ?side1 ?side2 A26.out).mono ?_); (case side1 => repeat (first | exact (Kd.S_reads' HO230.out).2.2 | (with_reducible refine Kd.C_alloc ?_ _) | (with_reducible refine Kd.C_drewN ?_ _) | (with_reducible refine Kd.C_drew ?_))); (case side2 => exact (Kd.S_reads' HO230.out).2.1); rintro e w38 ⟨rfl, hb⟩; have n0_ := Aside0.mk (Kd.S_below (by (with_reducible repeat (first | apply Kd.S_alloc | apply Kd.S_drewN | apply Kd.S_drew)); exact HO230.out) hb); have n1_ := Aside0.mk (IsS51.below (by repeat (first | (with_reducible first | exact HI226.out | apply IsS51.alloc | apply IsS51.drewN | apply IsS51.drew | apply IsS51.set_1 | refine IsS51.far ?_ NB226_232.out _) | exact HI226.out)) hb); have n2_ := Aside0.mk (blk_below (g := gb232) (o := .cells #[.int .i64 t227, .slice Ao20 t228.length co20] 27 (0, 0)) (by (with_reducible repeat (first | refine blk_drewN ?_ _ | refine blk_drew ?_ | refine blk_alloc ?_ _)); exact BK232.out) hb); have n3_ := Aside0.mk (below_step (by repeat (first | (with_reducible first | exact HB.out | apply below_alloc | apply pw_below_drewN | apply below_drew1 | refine below_set ?_ (IsS51.ge HI226.out) | refine below_set ?_ GE232.out) | exact HB.out)) hb); clear HO230; clear HI226; clear BK232; clear HB; have HO230 := n0_; have HI226 := n1_; have BK232 := n2_; have HB := n3_; clear n0_ n1_ n2_ n3_; (try clear hb); (try clear hb2); (try clear hk); (try clear hi); have hcz39_0 : w38.cell? ⟨gb232, 0, none⟩ = some (.int .i64 t227) := (blk_cell BK232.out 0).trans rfl; have hcz39_1 : w38.cell? ⟨gb232, 1, none⟩ = some (.slice Ao20 t228.length co20) := (blk_cell BK232.out 1).trans rfl; have hfz39_0 := blk_frozen BK232.out 0; have hfz39_1 := blk_frozen BK232.out 1; have p237 : 0 ≤ (0 : Int) := (by omega); have q237 : 0 < (t228.length : Int) := of_decide_eq_true (by first | (with_reducible assumption) | assumption); obtain ⟨ad237, A237_0, c237_0, e237, hx237_0, hl237_0, hi237_0⟩ := at_L1 (Kd.S_reads' HO230.out).2.2 0 p237 q237; cases e237; obtain ⟨ce237, hce237, hMe237, hcc237⟩ := Kd.S_get HO230.out [] 0 p237 (by first | exact q237 | exact of_decide_eq_true (by first | (with_reducible assumption) | assumption) | (have e_ := (Kd.S_reads' HO230.out).1; omega)); obtain ⟨ve237_0, rfl, ge237_0⟩ := hMe237; have hv237_0 := hcc237 0 _ rfl; rw [Nat.add_zero, show ((Kd.slice 53 (Kd.int .u64))).sz = 1 from rfl, Nat.mul_one] at hv237_0; replace hv237_0 := Option.some.inj (hv237_0.symm.trans hx237_0); rw [hv237_0] at ge237_0; have HL237_0 := Aside0.mk (show Kd.R (Kd.int .u64) 53 _ _ _ _ (rd_L1 t228 0) from ge237_0); clear hv237_0 ge237_0; clear hcc237 hce237; have qi237 : (0 < t228.length) = True := eq_true (by omega); (try rw [show ((0 : Int)).toNat = 0 from rfl] at hx237_0); (try rw [Addr.add_zero'] at hx237_0); have HR237_0 := Aside0.mk hi237_0; have HC237_0 := Aside0.mk hl237_0; clear hi237_0 hl237_0; replace p237 := eq_true p237; replace q237 := eq_true q237) | (go_at_call 17; (with_reducible refine (hodmanref3_Has.calls _ _ (rd_L1 t228 0) t234 false _ ?side1 ?side2 A29.out).mono ?_); (case side1 => repeat (first | exact (by repeat (first | (with_reducible exact HR237_0.out) | (with_reducible refine Kd.C_alloc ?_ _) | (with_reducible refine Kd.C_drewN ?_ _) | (with_reducible refine Kd.C_drew ?_) | exact HR237_0.out)) | (with_reducible refine Kd.C_alloc ?_ _) | (with_reducible refine Kd.C_drewN ?_ _) | (with_reducible refine Kd.C_drew ?_))); (case side2 => exact HC237_0.out); rintro e w' ⟨rfl, ⟨nd, rfl⟩⟩))
                    go_meet
                    case rel => exact ⟨_, (true), (by first | rfl | (simp; done) | (simp [*]; done)), H', ⟨by first | omega | exact Nat.le_refl _⟩, ⟨by (with_reducible repeat (first | apply Kd.S_alloc | apply Kd.S_drewN | apply Kd.S_drew)); exact HO230.out⟩, ⟨by (with_reducible repeat (first | refine blk_drewN ?_ _ | refine blk_drew ?_ | refine blk_alloc ?_ _)); exact BK232.out⟩, ⟨by repeat (first | (with_reducible first | exact HB.out | apply below_alloc | apply pw_below_drewN | apply below_drew1 | refine below_set ?_ (IsS51.ge HI226.out) | refine below_set ?_ GE232.out) | exact HB.out)⟩⟩
                · rw [if_neg c28] at H
                  exact absurd H (by simp)
              · rw [if_neg c27] at H
                have c27b0 : (t236 == t233) = false := beq_eq_false_iff_ne.mpr c27
                have c27b1 : (t236 != t233) = true := bne_iff_ne.mpr c27
                have H' := Aside0.mk H
                clear H
                have hnb40 := NB232_226.out
                have hnc40 := NB226_232.out
                have hcz41_0 : w23.cell? ⟨gb232, 0, none⟩ = some (.int .i64 t227) := (blk_cell BK232.out 0).trans rfl
                have hcz41_1 : w23.cell? ⟨gb232, 1, none⟩ = some (.slice Ao20 t228.length co20) := (blk_cell BK232.out 1).trans rfl
                have hfz41_0 := blk_frozen BK232.out 0
                have hfz41_1 := blk_frozen BK232.out 1
                go_wp2_with (first | (go_at_call 14; (with_reducible refine (rank_Below.calls k t227 _ _ t228 t234 t236 _ ?side1 ?side2 A26.out).mono ?_); (case side1 => repeat (first | exact (Kd.S_reads' HO230.out).2.2 | (with_reducible refine Kd.C_alloc ?_ _) | (with_reducible refine Kd.C_drewN ?_ _) | (with_reducible refine Kd.C_drew ?_))); (case side2 => exact (Kd.S_reads' HO230.out).2.1); rintro e w42 ⟨rfl, hb⟩; have n0_ := Aside0.mk (Kd.S_below (by (with_reducible repeat (first | apply Kd.S_alloc | apply Kd.S_drewN | apply Kd.S_drew)); exact HO230.out) hb); have n1_ := Aside0.mk (IsS51.below (by repeat (first | (with_reducible first | exact HI226.out | apply IsS51.alloc | apply IsS51.drewN | apply IsS51.drew | apply IsS51.set_1 | refine IsS51.far ?_ NB226_232.out _) | exact HI226.out)) hb); have n2_ := Aside0.mk (blk_below (g := gb232) (o := .cells #[.int .i64 t227, .slice Ao20 t228.length co20] 27 (0, 0)) (by (with_reducible repeat (first | refine blk_drewN ?_ _ | refine blk_drew ?_ | refine blk_alloc ?_ _)); exact BK232.out) hb); have n3_ := Aside0.mk (below_step (by repeat (first | (with_reducible first | exact HB.out | apply below_alloc | apply pw_below_drewN | apply below_drew1 | refine below_set ?_ (IsS51.ge HI226.out) | refine below_set ?_ GE232.out) | exact HB.out)) hb); clear HO230; clear HI226; clear BK232; clear HB; have HO230 := n0_; have HI226 := n1_; have BK232 := n2_; have HB := n3_; clear n0_ n1_ n2_ n3_; (try clear hb); (try clear hb2); (try clear hk); (try clear hi)))
                go_meet
                case rel => exact ⟨_, (true), (by first | rfl | (simp; done) | (simp [*]; done)), H', ⟨by first | omega | exact Nat.le_refl _⟩, ⟨by (with_reducible repeat (first | apply Kd.S_alloc | apply Kd.S_drewN | apply Kd.S_drew)); exact HO230.out⟩, ⟨by (with_reducible repeat (first | refine blk_drewN ?_ _ | refine blk_drew ?_ | refine blk_alloc ?_ _)); exact BK232.out⟩, ⟨by repeat (first | (with_reducible first | exact HB.out | apply below_alloc | apply pw_below_drewN | apply below_drew1 | refine below_set ?_ (IsS51.ge HI226.out) | refine below_set ?_ GE232.out) | exact HB.out)⟩⟩
          · replace c24 := Bool.eq_false_iff.mpr c24
            subst c24
            have H1 : (if 0 < (t228.length : Int) then ((hodmanref3_Has.f (rd_L1 t228 0) (Int.tmod (wrap64 (a2)) t227)).bind fun t242 => (hodmanlaw6_RankBack.j0 k (Int.tmod (wrap64 (a2)) t227) t233 (t242 != false) t227 t228)) else (none)) = some r := by rw [if_neg (show ¬ (false = true) by decide)] at H; exact H
            clear H
            have H := H1
            clear H1
            by_cases c43 : 0 < (t228.length : Int)
            · rw [if_pos c43] at H
              have c43b0 : decide (0 < (t228.length : Int)) = true := decide_eq_true c43
              have c43b1 : decide (0 < t228.length) = true := decide_eq_true (by omega)
              clear c43
              replace H := Option.bind_eq_some_iff.mp H
              obtain ⟨t242, A440, H⟩ := H
              replace H : (hodmanlaw6_RankBack.j0 k (Int.tmod (wrap64 (a2)) t227) t233 (t242 != false) t227 t228) = some r := H
              have A44 := Aside0.mk A440
              clear A440
              have H' := Aside0.mk H
              clear H
              have hnb45 := NB232_226.out
              have hnc45 := NB226_232.out
              have hcz46_0 : w23.cell? ⟨gb232, 0, none⟩ = some (.int .i64 t227) := (blk_cell BK232.out 0).trans rfl
              have hcz46_1 : w23.cell? ⟨gb232, 1, none⟩ = some (.slice Ao20 t228.length co20) := (blk_cell BK232.out 1).trans rfl
              have hfz46_0 := blk_frozen BK232.out 0
              have hfz46_1 := blk_frozen BK232.out 1
              have p241 : 0 ≤ (0 : Int) := (by omega)
              have q241 : 0 < (t228.length : Int) := of_decide_eq_true (by first | (with_reducible assumption) | assumption)
              obtain ⟨ad241, A241_0, c241_0, e241, hx241_0, hl241_0, hi241_0⟩ := at_L1 (Kd.S_reads' HO230.out).2.2 0 p241 q241
              cases e241
              obtain ⟨ce241, hce241, hMe241, hcc241⟩ := Kd.S_get HO230.out [] 0 p241 (by first | exact q241 | exact of_decide_eq_true (by first | (with_reducible assumption) | assumption) | (have e_ := (Kd.S_reads' HO230.out).1; omega))
              obtain ⟨ve241_0, rfl, ge241_0⟩ := hMe241
              have hv241_0 := hcc241 0 _ rfl
              rw [Nat.add_zero, show ((Kd.slice 53 (Kd.int .u64))).sz = 1 from rfl, Nat.mul_one] at hv241_0
              replace hv241_0 := Option.some.inj (hv241_0.symm.trans hx241_0)
              rw [hv241_0] at ge241_0
              have HL241_0 := Aside0.mk (show Kd.R (Kd.int .u64) 53 _ _ _ _ (rd_L1 t228 0) from ge241_0)
              clear hv241_0 ge241_0
              clear hcc241 hce241
              have qi241 : (0 < t228.length) = True := eq_true (by omega)
              (try rw [show ((0 : Int)).toNat = 0 from rfl] at hx241_0)
              (try rw [Addr.add_zero'] at hx241_0)
              have HR241_0 := Aside0.mk hi241_0
              have HC241_0 := Aside0.mk hl241_0
              clear hi241_0 hl241_0
              replace p241 := eq_true p241
              replace q241 := eq_true q241
              go_wp2_with (first | (go_at_call 17; (with_reducible refine (hodmanref3_Has.calls _ _ (rd_L1 t228 0) (Int.tmod (wrap64 (a2)) t227) t242 _ ?side1 ?side2 A44.out).mono ?_); (case side1 => repeat (first | exact (by repeat (first | (with_reducible exact HR241_0.out) | (with_reducible refine Kd.C_alloc ?_ _) | (with_reducible refine Kd.C_drewN ?_ _) | (with_reducible refine Kd.C_drew ?_) | exact HR241_0.out)) | (with_reducible refine Kd.C_alloc ?_ _) | (with_reducible refine Kd.C_drewN ?_ _) | (with_reducible refine Kd.C_drew ?_))); (case side2 => exact HC241_0.out); rintro e w' ⟨rfl, ⟨nd, rfl⟩⟩))
              go_meet
              case rel => exact ⟨_, ((t242 != false)), (by first | rfl | (simp; done) | (simp [*]; done)), H', ⟨by first | omega | exact Nat.le_refl _⟩, ⟨by (with_reducible repeat (first | apply Kd.S_alloc | apply Kd.S_drewN | apply Kd.S_drew)); exact HO230.out⟩, ⟨by (with_reducible repeat (first | refine blk_drewN ?_ _ | refine blk_drew ?_ | refine blk_alloc ?_ _)); exact BK232.out⟩, ⟨by repeat (first | (with_reducible first | exact HB.out | apply below_alloc | apply pw_below_drewN | apply below_drew1 | refine below_set ?_ (IsS51.ge HI226.out) | refine below_set ?_ GE232.out) | exact HB.out)⟩⟩
            · rw [if_neg c43] at H
              exact absurd H (by simp)
        case rest =>
          clear HC13
          try clear c1
          try clear c2
          try clear p2
          try clear q2
          try clear hx2
          try clear qi2
          try clear c3
          try clear c4
          try clear c5
          try clear c6
          try clear c6b0
          try clear c6b1
          try clear p6
          try clear c9
          try clear c10
          try clear c10b0
          try clear c10b1
          try clear c11
          try clear c12
          try clear c14
          try clear c18
          try clear c23
          try clear p23
          try clear q23
          try clear hx23
          try clear qi23
          try clear c24
          try clear p24
          try clear q24
          try clear hx24
          try clear qi24
          try clear c25
          try clear c25b0
          try clear c27
          try clear c27b0
          try clear c27b1
          try clear c28
          try clear c28b0
          try clear c28b1
          try clear c30
          try clear c32
          try clear c36
          try clear c40
          try clear c43
          try clear c43b0
          try clear c43b1
          try clear c45
          try clear hcz19_0
          try clear hcz19_1
          try clear hcz22_0
          try clear hcz22_1
          try clear hcz33_0
          try clear hcz33_1
          try clear hcz35_0
          try clear hcz35_1
          try clear hcz37_0
          try clear hcz37_1
          try clear hcz39_0
          try clear hcz39_1
          try clear hcz41_0
          try clear hcz41_1
          try clear hcz46_0
          try clear hcz46_1
          try clear hfz19_0
          try clear hfz19_1
          try clear hfz22_0
          try clear hfz22_1
          try clear hfz33_0
          try clear hfz33_1
          try clear hfz35_0
          try clear hfz35_1
          try clear hfz37_0
          try clear hfz37_1
          try clear hfz39_0
          try clear hfz39_1
          try clear hfz41_0
          try clear hfz41_1
          try clear hfz46_0
          try clear hfz46_1
          try clear hx237_0
          try clear hx239_0
          try clear hx241_0
          try clear p237
          try clear p239
          try clear p241
          try clear q237
          try clear q239
          try clear q241
          obtain ⟨kq, x77_12, rfl, HA, HJ12, HO_233001, BK232, HB⟩ := hcut
          cases kq with
          | zero => exact absurd HA.out (by simp [hodmanlaw6_RankBack.j0])
          | succ kj12 =>
            have H := HA.out
            clear HA
            simp only [hodmanlaw6_RankBack.j0] at H
            by_cases c47 : x77_12 = true
            · subst c47
              have H1 : (some false) = some r := by rw [if_pos rfl] at H; exact H
              clear H
              have H := H1
              clear H1
              exact absurd ((Option.some.inj H).trans HRT.out) (by decide)
            · replace c47 := Bool.eq_false_iff.mpr c47
              subst c47
              have H1 : ((rank_Below.f kj12 t227 t228 t227).bind fun t243 => ((rank_Nth.f kj12 t227 t228 t243).bind fun bt244 => (if bt244.2 = true then (some false) else ((rank_Zeros.f kj12 t227 t228).bind fun t246 => (if (wrap64 (t246 + t243)) = t227 then (if t233 ≤ t243 then (some (decide (t233 ≤ (Int.tmod (wrap64 (a2)) t227)))) else (some false)) else (some false)))))) = some r := by rw [if_neg (show ¬ (false = true) by decide)] at H; exact H
              clear H
              have H := H1
              clear H1
              replace H := Option.bind_eq_some_iff.mp H
              obtain ⟨t243, A480, H⟩ := H
              replace H : ((rank_Nth.f kj12 t227 t228 t243).bind fun bt244 => (if bt244.2 = true then (some false) else ((rank_Zeros.f kj12 t227 t228).bind fun t246 => (if (wrap64 (t246 + t243)) = t227 then (if t233 ≤ t243 then (some (decide (t233 ≤ (Int.tmod (wrap64 (a2)) t227)))) else (some false)) else (some false))))) = some r := H
              have A48 := Aside0.mk A480
              clear A480
              replace H := Option.bind_eq_some_iff.mp H
              obtain ⟨⟨t244, t245⟩, A490, H⟩ := H
              replace H : (if t245 = true then (some false) else ((rank_Zeros.f kj12 t227 t228).bind fun t246 => (if (wrap64 (t246 + t243)) = t227 then (if t233 ≤ t243 then (some (decide (t233 ≤ (Int.tmod (wrap64 (a2)) t227)))) else (some false)) else (some false)))) = some r := H
              have A49 := Aside0.mk A490
              clear A490
              by_cases c50 : t245 = true
              · subst c50
                have H1 : (some false) = some r := by rw [if_pos rfl] at H; exact H
                clear H
                have H := H1
                clear H1
                exact absurd ((Option.some.inj H).trans HRT.out) (by decide)
              · replace c50 := Bool.eq_false_iff.mpr c50
                subst c50
                have H1 : ((rank_Zeros.f kj12 t227 t228).bind fun t246 => (if (wrap64 (t246 + t243)) = t227 then (if t233 ≤ t243 then (some (decide (t233 ≤ (Int.tmod (wrap64 (a2)) t227)))) else (some false)) else (some false))) = some r := by rw [if_neg (show ¬ (false = true) by decide)] at H; exact H
                clear H
                have H := H1
                clear H1
                replace H := Option.bind_eq_some_iff.mp H
                obtain ⟨t246, A510, H⟩ := H
                replace H : (if (wrap64 (t246 + t243)) = t227 then (if t233 ≤ t243 then (some (decide (t233 ≤ (Int.tmod (wrap64 (a2)) t227)))) else (some false)) else (some false)) = some r := H
                have A51 := Aside0.mk A510
                clear A510
                by_cases c52 : (wrap64 (t246 + t243)) = t227
                · rw [if_pos c52] at H
                  have c52b0 : ((wrap64 (t246 + t243)) == t227) = true := beq_iff_eq.mpr c52
                  have c52b1 : ((wrap64 (t246 + t243)) != t227) = false := bne_eq_false_iff_eq.mpr c52
                  clear c52
                  by_cases c53 : t233 ≤ t243
                  · rw [if_pos c53] at H
                    have c53b0 : decide (t233 ≤ t243) = true := decide_eq_true c53
                    clear c53
                    obtain rfl := Option.some.inj H
                    have hcz54_0 : wc.cell? ⟨gb232, 0, none⟩ = some (.int .i64 t227) := (blk_cell BK232.out 0).trans rfl
                    have hcz54_1 : wc.cell? ⟨gb232, 1, none⟩ = some (.slice Ao20 t228.length co20) := (blk_cell BK232.out 1).trans rfl
                    have hfz54_0 := blk_frozen BK232.out 0
                    have hfz54_1 := blk_frozen BK232.out 1
                    try go_wp2_with (first | ((with_reducible refine gate_callee (f := 14) rfl ?_); refine goesL_ (some 81) rfl rfl Try.func14 (by kernel_rfl) rfl #[.agg #[.int .i64 t227, .slice Ao20 t228.length co20], .int .i64 t227] rfl (by (try simp only [List.map_toArray, List.map_cons, List.map_nil]); first | done | rfl | (simp only [List.length_drop, List.length_take]; rfl)) ?_; (with_reducible refine (rank_Below.calls kj12 t227 _ _ t228 t227 t243 _ ?side1 ?side2 A48.out).mono ?_); (case side1 => repeat (first | exact (Kd.S_reads' HO_233001.out).2.2 | (with_reducible refine Kd.C_alloc ?_ _) | (with_reducible refine Kd.C_drewN ?_ _) | (with_reducible refine Kd.C_drew ?_))); (case side2 => exact (Kd.S_reads' HO_233001.out).2.1); rintro e w55 ⟨rfl, hb⟩; refine ⟨_, rfl, ?_⟩; have n0_ := Aside0.mk (Kd.S_below (by (with_reducible repeat (first | apply Kd.S_alloc | apply Kd.S_drewN | apply Kd.S_drew)); exact HO_233001.out) hb); have n1_ := Aside0.mk (blk_below (g := gb232) (o := .cells #[.int .i64 t227, .slice Ao20 t228.length co20] 27 (0, 0)) (by (with_reducible repeat (first | refine blk_drewN ?_ _ | refine blk_drew ?_ | refine blk_alloc ?_ _)); exact BK232.out) hb); have n2_ := Aside0.mk (below_step (by repeat (first | (with_reducible first | exact HB.out | apply below_alloc | apply pw_below_drewN | apply below_drew1 | refine below_set ?_ GE232.out) | exact HB.out)) hb); clear HO_233001; clear BK232; clear HB; have HO_233001 := n0_; have BK232 := n1_; have HB := n2_; clear n0_ n1_ n2_; (try clear hb); (try clear hb2); (try clear hk); (try clear hi); have hcz56_0 : w55.cell? ⟨gb232, 0, none⟩ = some (.int .i64 t227) := (blk_cell BK232.out 0).trans rfl; have hcz56_1 : w55.cell? ⟨gb232, 1, none⟩ = some (.slice Ao20 t228.length co20) := (blk_cell BK232.out 1).trans rfl; have hfz56_0 := blk_frozen BK232.out 0; have hfz56_1 := blk_frozen BK232.out 1) | ((with_reducible refine gate_callee (f := 12) rfl ?_); refine goesL_ (some 85) rfl rfl Try.func12 (by kernel_rfl) rfl #[.agg #[.int .i64 t227, .slice Ao20 t228.length co20], .int .i64 t243] rfl (by (try simp only [List.map_toArray, List.map_cons, List.map_nil]); first | done | rfl | (simp only [List.length_drop, List.length_take]; rfl)) ?_; (with_reducible refine (rank_Nth.calls kj12 t227 _ _ t228 t243 t244 false _ ?side1 ?side2 A49.out).mono ?_); (case side1 => repeat (first | exact (Kd.S_reads' HO_233001.out).2.2 | (with_reducible refine Kd.C_alloc ?_ _) | (with_reducible refine Kd.C_drewN ?_ _) | (with_reducible refine Kd.C_drew ?_))); (case side2 => exact (Kd.S_reads' HO_233001.out).2.1); rintro e w57 ⟨rfl, hb⟩; refine ⟨_, rfl, ?_⟩; have n0_ := Aside0.mk (Kd.S_below (by (with_reducible repeat (first | apply Kd.S_alloc | apply Kd.S_drewN | apply Kd.S_drew)); exact HO_233001.out) hb); have n1_ := Aside0.mk (blk_below (g := gb232) (o := .cells #[.int .i64 t227, .slice Ao20 t228.length co20] 27 (0, 0)) (by (with_reducible repeat (first | refine blk_drewN ?_ _ | refine blk_drew ?_ | refine blk_alloc ?_ _)); exact BK232.out) hb); have n2_ := Aside0.mk (below_step (by repeat (first | (with_reducible first | exact HB.out | apply below_alloc | apply pw_below_drewN | apply below_drew1 | refine below_set ?_ GE232.out) | exact HB.out)) hb); clear HO_233001; clear BK232; clear HB; have HO_233001 := n0_; have BK232 := n1_; have HB := n2_; clear n0_ n1_ n2_; (try clear hb); (try clear hb2); (try clear hk); (try clear hi)))
                    have n0_ := Aside0.mk (Kd.S_drew HO_233001.out)
                    have n1_ := Aside0.mk (blk_drew BK232.out)
                    have n2_ := Aside0.mk (below_drew1 HB.out)
                    clear HO_233001
                    clear BK232
                    clear HB
                    have HO_233001 := n0_
                    have BK232 := n1_
                    have HB := n2_
                    clear n0_ n1_ n2_
                    refine start_ (n := 22) (S := fun w' => w'.cell? ⟨gb232, 0, none⟩ = some (.int .i64 t227) ∧ w'.cell? ⟨gb232, 1, none⟩ = some (.slice Ao20 t228.length co20)) (ds := []) #[false, false, false, false, false, false, false, false, false, false, false, false, false, false, false, false, false, false, false, false, false, false] (by kernel_rfl) rfl rfl ⟨(blk_cell BK232.out 0).trans rfl, (blk_cell BK232.out 1).trans rfl⟩ (fun hHeld => ?_); refine with_tabW hodmanlaw6_RankBack.tab13 hodmanlaw6_RankBack.bits13 (fun HT_ HW_ => ?_)
                    generalize w57.drew = w58 at HO_233001 BK232 HB hHeld ⊢
                    refine pure_ (i := 0) (N := some 88) (v := ?_) (a' := ?_) #[true, false, false, false, false, false, false, false, false, false, false, false, false, false, false, false, false, false, false, false, false, false] rfl rfl (any_of HT_.out (by kernel_rfl)) (fun _ _ _ h => h) (Or.inl ⟨by rfl, ?_⟩) ?_ ?_
                    rotate_left
                    · intro w'
                      go_simp
                      with_reducible rfl
                    rotate_left
                    · simp only [Act.put, List.setIfInBounds_toArray, List.set_cons_zero, List.set_cons_succ, i64_w, i32_w]
                      rfl
                    refine pure_ (i := 1) (N := some 89) (v := ?_) (a' := ?_) #[true, true, false, false, false, false, false, false, false, false, false, false, false, false, false, false, false, false, false, false, false, false] rfl rfl (any_of HT_.out (by kernel_rfl)) (fun _ _ _ h => h) (Or.inl ⟨by rfl, ?_⟩) ?_ ?_
                    rotate_left
                    · intro w'
                      go_simp
                      with_reducible rfl
                    rotate_left
                    · simp only [Act.put, List.setIfInBounds_toArray, List.set_cons_zero, List.set_cons_succ, i64_w, i32_w]
                      rfl
                    refine pure_ (i := 2) (N := some 90) (v := ?_) (a' := ?_) #[true, true, true, false, false, false, false, false, false, false, false, false, false, false, false, false, false, false, false, false, false, false] rfl rfl (any_of HT_.out (by kernel_rfl)) (fun _ _ _ h => h) (Or.inl ⟨by rfl, ?_⟩) ?_ ?_
                    rotate_left
                    · intro w'
                      go_simp
                      with_reducible rfl
                    rotate_left
                    · simp only [Act.put, List.setIfInBounds_toArray, List.set_cons_zero, List.set_cons_succ, i64_w, i32_w]
                      rfl
                    refine pure_ (i := 5) (N := some 93) (v := ?_) (a' := ?_) #[true, true, true, false, false, true, false, false, false, false, false, false, false, false, false, false, false, false, false, false, false, false] rfl rfl (any_of HT_.out (by kernel_rfl)) (fun _ _ _ h => h) (Or.inl ⟨by rfl, ?_⟩) ?_ ?_
                    rotate_left
                    · intro w'
                      go_simp
                      with_reducible rfl
                    rotate_left
                    · simp only [Act.put, List.setIfInBounds_toArray, List.set_cons_zero, List.set_cons_succ, i64_w, i32_w]
                      rfl
                    refine pure_ (i := 7) (N := some 95) (v := ?_) (a' := ?_) #[true, true, true, false, false, true, false, true, false, false, false, false, false, false, false, false, false, false, false, false, false, false] rfl rfl (any_of HT_.out (by kernel_rfl)) (fun _ _ _ h => h) (Or.inl ⟨by rfl, ?_⟩) ?_ ?_
                    rotate_left
                    · intro w'
                      go_simp
                      with_reducible rfl
                    rotate_left
                    · simp only [Act.put, List.setIfInBounds_toArray, List.set_cons_zero, List.set_cons_succ, i64_w, i32_w]
                      rfl
                    refine take_ (i := 3) (N := some 91) (v := ?_) (a' := ?_) #[true, true, true, true, false, true, false, true, false, false, false, false, false, false, false, false, false, false, false, false, false, false] rfl rfl (take_ofW HT_.out HW_.out (by kernel_rfl)) (fun _ _ _ h => h) (Or.inl ⟨by rfl, ?_⟩) hHeld ?_ ?_
                    rotate_left
                    · rintro w' ⟨s0, s1⟩
                      go_simp
                      with_reducible rfl
                    rotate_left
                    · simp only [Act.put, List.setIfInBounds_toArray, List.set_cons_zero, List.set_cons_succ, i64_w, i32_w]
                      rfl
                    refine take_ (i := 8) (N := some 96) (v := ?_) (a' := ?_) #[true, true, true, true, false, true, false, true, true, false, false, false, false, false, false, false, false, false, false, false, false, false] rfl rfl (take_ofW HT_.out HW_.out (by kernel_rfl)) (fun _ _ _ h => h) (Or.inl ⟨by rfl, ?_⟩) hHeld ?_ ?_
                    rotate_left
                    · rintro w' ⟨s0, s1⟩
                      go_simp
                      with_reducible rfl
                    rotate_left
                    · simp only [Act.put, List.setIfInBounds_toArray, List.set_cons_zero, List.set_cons_succ, i64_w, i32_w]
                      rfl
                    refine one_ (i := 4) (N := some 92) #[true, true, true, true, true, true, false, true, true, false, false, false, false, false, false, false, false, false, false, false, false, false] rfl rfl (one_of HT_.out (by kernel_rfl)) (by decide) (fun K hK => ?_)
                    refine goes_ Try.func16 (by kernel_rfl) rfl #[.agg #[.int .i64 t227, .slice Ao20 t228.length co20]] (by rfl) rfl rfl (by (try simp only [List.map_toArray, List.map_cons, List.map_nil]); first | done | rfl | (simp only [List.length_drop, List.length_take]; rfl)) ?_
                    with_reducible refine (rank_Zeros.calls kj12 t227 _ _ t228 t246 _ ?side1 ?side2 A51.out).mono ?_
                    (case side1 => repeat (first | exact (Kd.S_reads' HO_233001.out).2.2 | (with_reducible refine Kd.C_alloc ?_ _) | (with_reducible refine Kd.C_drewN ?_ _) | (with_reducible refine Kd.C_drew ?_)))
                    (case side2 => exact (Kd.S_reads' HO_233001.out).2.1)
                    rintro e w59 ⟨rfl, hb⟩
                    refine ⟨_, rfl, ?_⟩
                    have n0_ := Aside0.mk (Kd.S_below (by (with_reducible repeat (first | apply Kd.S_alloc | apply Kd.S_drewN | apply Kd.S_drew)); exact HO_233001.out) hb)
                    have n1_ := Aside0.mk (blk_below (g := gb232) (o := .cells #[.int .i64 t227, .slice Ao20 t228.length co20] 27 (0, 0)) (by (with_reducible repeat (first | refine blk_drewN ?_ _ | refine blk_drew ?_ | refine blk_alloc ?_ _)); exact BK232.out) hb)
                    have n2_ := Aside0.mk (below_step (by repeat (first | (with_reducible first | exact HB.out | apply below_alloc | apply pw_below_drewN | apply below_drew1 | refine below_set ?_ GE232.out) | exact HB.out)) hb)
                    clear HO_233001
                    clear BK232
                    clear HB
                    have HO_233001 := n0_
                    have BK232 := n1_
                    have HB := n2_
                    clear n0_ n1_ n2_
                    (try clear hb)
                    (try clear hb2)
                    (try clear hk)
                    (try clear hi)
                    refine hK.out _ _ ⟨(blk_cell BK232.out 0).trans rfl, (blk_cell BK232.out 1).trans rfl⟩ (fun hHeld => ?_)
                    clear hK K
                    refine norm_ (a' := ?_) ?_ ?_
                    rotate_left
                    · show Act.put _ (some 92) _ = _
                      simp only [Act.put, List.setIfInBounds_toArray, List.set_cons_zero, List.set_cons_succ, i64_w, i32_w]
                      rfl
                    refine pure_ (i := 6) (N := some 94) (v := ?_) (a' := ?_) #[true, true, true, true, true, true, true, true, true, false, false, false, false, false, false, false, false, false, false, false, false, false] rfl rfl (any_of HT_.out (by kernel_rfl)) (fun _ _ _ h => h) (Or.inl ⟨by rfl, ?_⟩) ?_ ?_
                    rotate_left
                    · intro w'
                      go_simp
                      with_reducible rfl
                    rotate_left
                    · simp only [Act.put, List.setIfInBounds_toArray, List.set_cons_zero, List.set_cons_succ, i64_w, i32_w]
                      rfl
                    refine pure_ (i := 9) (N := some 97) (v := ?_) (a' := ?_) #[true, true, true, true, true, true, true, true, true, true, false, false, false, false, false, false, false, false, false, false, false, false] rfl rfl (any_of HT_.out (by kernel_rfl)) (fun _ _ _ h => h) (Or.inl ⟨by rfl, ?_⟩) ?_ ?_
                    rotate_left
                    · intro w'
                      go_simp
                      with_reducible rfl
                    rotate_left
                    · simp only [Act.put, List.setIfInBounds_toArray, List.set_cons_zero, List.set_cons_succ, i64_w, i32_w]
                      rfl
                    refine pure_ (i := 10) (N := some 98) (v := ?_) (a' := ?_) #[true, true, true, true, true, true, true, true, true, true, true, false, false, false, false, false, false, false, false, false, false, false] rfl rfl (any_of HT_.out (by kernel_rfl)) (fun _ _ _ h => h) (Or.inl ⟨by rfl, ?_⟩) ?_ ?_
                    rotate_left
                    · intro w'
                      go_simp
                      with_reducible rfl
                    rotate_left
                    · simp only [Act.put, List.setIfInBounds_toArray, List.set_cons_zero, List.set_cons_succ, i64_w, i32_w]
                      rfl
                    refine pure_ (i := 11) (N := some 99) (v := ?_) (a' := ?_) #[true, true, true, true, true, true, true, true, true, true, true, true, false, false, false, false, false, false, false, false, false, false] rfl rfl (any_of HT_.out (by kernel_rfl)) (fun _ _ _ h => h) (Or.inl ⟨by rfl, ?_⟩) ?_ ?_
                    rotate_left
                    · intro w'
                      go_simp
                      with_reducible rfl
                    rotate_left
                    · simp only [Act.put, List.setIfInBounds_toArray, List.set_cons_zero, List.set_cons_succ, i64_w, i32_w]
                      rfl
                    refine pure_ (i := 12) (N := some 100) (v := ?_) (a' := ?_) #[true, true, true, true, true, true, true, true, true, true, true, true, true, false, false, false, false, false, false, false, false, false] rfl rfl (any_of HT_.out (by kernel_rfl)) (fun _ _ _ h => h) (Or.inl ⟨by rfl, ?_⟩) ?_ ?_
                    rotate_left
                    · intro w'
                      go_simp
                      with_reducible rfl
                    rotate_left
                    · simp only [Act.put, List.setIfInBounds_toArray, List.set_cons_zero, List.set_cons_succ, i64_w, i32_w]
                      rfl
                    refine pure_ (i := 13) (N := some 101) (v := ?_) (a' := ?_) #[true, true, true, true, true, true, true, true, true, true, true, true, true, true, false, false, false, false, false, false, false, false] rfl rfl (any_of HT_.out (by kernel_rfl)) (fun _ _ _ h => h) (Or.inl ⟨by rfl, ?_⟩) ?_ ?_
                    rotate_left
                    · intro w'
                      go_simp
                      with_reducible rfl
                    rotate_left
                    · simp only [Act.put, List.setIfInBounds_toArray, List.set_cons_zero, List.set_cons_succ, i64_w, i32_w]
                      rfl
                    refine pure_ (i := 14) (N := some 102) (v := ?_) (a' := ?_) #[true, true, true, true, true, true, true, true, true, true, true, true, true, true, true, false, false, false, false, false, false, false] rfl rfl (any_of HT_.out (by kernel_rfl)) (fun _ _ _ h => h) (Or.inl ⟨by rfl, ?_⟩) ?_ ?_
                    rotate_left
                    · intro w'
                      go_simp
                      with_reducible rfl
                    rotate_left
                    · simp only [Act.put, List.setIfInBounds_toArray, List.set_cons_zero, List.set_cons_succ, i64_w, i32_w]
                      rfl
                    refine pure_ (i := 15) (N := some 103) (v := ?_) (a' := ?_) #[true, true, true, true, true, true, true, true, true, true, true, true, true, true, true, true, false, false, false, false, false, false] rfl rfl (any_of HT_.out (by kernel_rfl)) (fun _ _ _ h => h) (Or.inl ⟨by rfl, ?_⟩) ?_ ?_
                    rotate_left
                    · intro w'
                      go_simp
                      with_reducible rfl
                    rotate_left
                    · simp only [Act.put, List.setIfInBounds_toArray, List.set_cons_zero, List.set_cons_succ, i64_w, i32_w]
                      rfl
                    refine pure_ (i := 16) (N := some 104) (v := ?_) (a' := ?_) #[true, true, true, true, true, true, true, true, true, true, true, true, true, true, true, true, true, false, false, false, false, false] rfl rfl (any_of HT_.out (by kernel_rfl)) (fun _ _ _ h => h) (Or.inl ⟨by rfl, ?_⟩) ?_ ?_
                    rotate_left
                    · intro w'
                      go_simp
                      with_reducible rfl
                    rotate_left
                    · simp only [Act.put, List.setIfInBounds_toArray, List.set_cons_zero, List.set_cons_succ, i64_w, i32_w]
                      rfl
                    refine pure_ (i := 17) (N := some 105) (v := ?_) (a' := ?_) #[true, true, true, true, true, true, true, true, true, true, true, true, true, true, true, true, true, true, false, false, false, false] rfl rfl (any_of HT_.out (by kernel_rfl)) (fun _ _ _ h => h) (Or.inl ⟨by rfl, ?_⟩) ?_ ?_
                    rotate_left
                    · intro w'
                      go_simp
                      with_reducible rfl
                    rotate_left
                    · simp only [Act.put, List.setIfInBounds_toArray, List.set_cons_zero, List.set_cons_succ, i64_w, i32_w]
                      rfl
                    refine pure_ (i := 18) (N := some 106) (v := ?_) (a' := ?_) #[true, true, true, true, true, true, true, true, true, true, true, true, true, true, true, true, true, true, true, false, false, false] rfl rfl (any_of HT_.out (by kernel_rfl)) (fun _ _ _ h => h) (Or.inl ⟨by rfl, ?_⟩) ?_ ?_
                    rotate_left
                    · intro w'
                      go_simp
                      with_reducible rfl
                    rotate_left
                    · simp only [Act.put, List.setIfInBounds_toArray, List.set_cons_zero, List.set_cons_succ, i64_w, i32_w]
                      rfl
                    refine pure_ (i := 19) (N := some 107) (v := ?_) (a' := ?_) #[true, true, true, true, true, true, true, true, true, true, true, true, true, true, true, true, true, true, true, true, false, false] rfl rfl (any_of HT_.out (by kernel_rfl)) (fun _ _ _ h => h) (Or.inl ⟨by rfl, ?_⟩) ?_ ?_
                    rotate_left
                    · intro w'
                      go_simp
                      with_reducible rfl
                    rotate_left
                    · simp only [Act.put, List.setIfInBounds_toArray, List.set_cons_zero, List.set_cons_succ, i64_w, i32_w]
                      rfl
                    refine pure_ (i := 20) (N := some 108) (v := ?_) (a' := ?_) #[true, true, true, true, true, true, true, true, true, true, true, true, true, true, true, true, true, true, true, true, true, false] rfl rfl (any_of HT_.out (by kernel_rfl)) (fun _ _ _ h => h) (Or.inl ⟨by rfl, ?_⟩) ?_ ?_
                    rotate_left
                    · intro w'
                      go_simp
                      with_reducible rfl
                    rotate_left
                    · simp only [Act.put, List.setIfInBounds_toArray, List.set_cons_zero, List.set_cons_succ, i64_w, i32_w]
                      rfl
                    refine pure_ (i := 21) (N := some 6) (v := ?_) (a' := ?_) #[true, true, true, true, true, true, true, true, true, true, true, true, true, true, true, true, true, true, true, true, true, true] rfl rfl (any_of HT_.out (by kernel_rfl)) (fun _ _ _ h => h) (Or.inl ⟨by rfl, ?_⟩) ?_ ?_
                    rotate_left
                    · intro w'
                      go_simp
                      with_reducible rfl
                    rotate_left
                    · simp only [Act.put, List.setIfInBounds_toArray, List.set_cons_zero, List.set_cons_succ, i64_w, i32_w]
                      rfl
                    refine done_ (done_of HT_.out (by kernel_rfl)) ?_
                    try go_wp2
                    go_ret
                    exact ⟨by first | rfl | (simp [errW_none, errW_some] <;> rfl) | (simp [*, errW_none, errW_some] <;> rfl), by repeat (first | (with_reducible first | exact HB.out | apply below_alloc | apply pw_below_drewN | apply below_drew1 | refine below_set ?_ GE232.out) | exact HB.out)⟩
                  · rw [if_neg c53] at H
                    have c53b0 : decide (t233 ≤ t243) = false := decide_eq_false c53
                    clear c53
                    exact absurd ((Option.some.inj H).trans HRT.out) (by decide)
                · rw [if_neg c52] at H
                  have c52b0 : ((wrap64 (t246 + t243)) == t227) = false := beq_eq_false_iff_ne.mpr c52
                  have c52b1 : ((wrap64 (t246 + t243)) != t227) = true := bne_iff_ne.mpr c52
                  exact absurd ((Option.some.inj H).trans HRT.out) (by decide)
  · replace c5 := Bool.eq_false_iff.mpr c5
    subst c5
    have H1 : (some false) = some r := by rw [if_neg (show ¬ (false = true) by decide)] at H; exact H
    clear H
    have H := H1
    clear H1
    exact absurd ((Option.some.inj H).trans HRT.out) (by decide)

/-- THE ONE PURE STATEMENT of hodmanlaw6_RankBack: yours. -/
def hodmanlaw6_RankBack.Pure : Prop := ∀ (l0 : List Int) (a1 : Int) (a2 : Int), l0.length ≤ maxLen → l0.length * 1 ≤ 140737488351232 → (∀ x ∈ l0, (Lit.int .u8 x).wf = true) → (Lit.int .u16 a1).wf = true → (Lit.int .u16 a2).wf = true → ∃ k, hodmanlaw6_RankBack.f k l0 a1 a2 = some true
theorem hodmanlaw6_RankBack.walk (P : hodmanlaw6_RankBack.Pure) (a0 : Option Addr) (len0 cap0 : Nat) (z0 : List Int) (a1 : Int) (a2 : Int) (w : World) (w0 : (a0 = none ∧ len0 = 0 ∧ cap0 = 0 ∧ z0 = []) ∨ ∃ x, a0 = some x ∧ len0 ≤ cap0 ∧ cap0 ≤ maxLen ∧ z0.length = cap0 ∧ (∀ i, i < z0.length → w.cell? (x.add i) = some (.int .u8 (z0.getD i 0))) ∧ ∀ n ∈ z0, (Lit.int .u8 n).wf = true) (y0 : len0 * 1 ≤ 140737488351232) (w1 : (Lit.int .u16 a1).wf = true) (w2 : (Lit.int .u16 a2).wf = true) :
    Calls Try.prog 4 #[.slice a0 len0 cap0, .int .u16 a1, .int .u16 a2] w fun e w' => e = .returned (.bool true) ∧ Below w.heap.size w w' := by
  obtain ⟨l0, rfl, hr0, hm0, hw0, hc0⟩ := ReadsInt.ofRowC w0
  obtain ⟨k, h⟩ := P l0 a1 a2 hm0 y0 hw0 w1 w2
  refine (hodmanlaw6_RankBack.calls k _ _ l0 a1 a2 true w (Kd.C_of_reads (d := (0 : Int)) (h1 := fun _ => rfl) hr0) hc0 h rfl).mono ?_
  rintro e w' ⟨rfl, hd⟩
  exact ⟨rfl, hd⟩

end Go.Proofs.Ytgbkdmcbdilgaaa.PRankM
