/- Written by a program of this session (wip/tools/ext.py) out of the translation: Go functions told as Lean functions, with their walks; or the row of a law out of its plain part. Lean checks it. -/
import Derived.Test.YtjjfcpffbooboaaPMemSx0
import Derived.Test.YtjjfcpffbooboaaPMemSx1
namespace Go.Proofs.Ytjjfcpffbooboaa.PMemS
open Go.RowKit Go.Proofs.YtjjfcpffbooboaaW.PrintWords Go.Proofs.YtjjfcpffbooboaaW.PrintLast Go.Proofs.YtjjfcpffbooboaaW.PrintMore
attribute [local go_sem] max2_int min2_int max_two min_two max_three min_three max_four min_four   -- for this text's walks alone
set_option linter.unusedVariables false
set_option linter.unusedSimpArgs false

/-! ### mem_Move: function 14 -/
-- by hand
/-- mem.Move, where what is to be moved isn't there -/
theorem move_walkF1 (A0 : Option Addr) (c0 : Nat) (l0 : List Int) (a1 a2 a3 : Int) (w : World) (hr0 : Kd.C (Kd.int .u8) w A0 l0.length l0) (hc0 : l0.length ≤ c0) (t127 : List Int) (h1 : slices_Clone_byte_byte.f l0 = some t127) (h2 : mem_within.f l0 a1 a3 = some false) :
    Calls Try.prog 14 #[.slice A0 l0.length c0, .int .i64 a1, .int .i64 a2, .int .i64 a3] w fun e w' => ∃ v0_ : Value, e = .returned (.tuple #[v0_, .bool false]) ∧ Kd.R (Kd.int .u8) 5 w' w.heap.size (fun _ => True) v0_ t127 ∧ Below w.heap.size w w' := by
  have HR0 := Aside0.mk hr0
  have HC0 := Aside0.mk hc0
  have A4 := Aside0.mk h1
  have A5 := Aside0.mk h2
  clear hr0 hc0 h1 h2
  have HB := Aside0.mk (Below.refl w.heap.size w)
  go_enter Try.func14, Try.ntmps14
  go_wp2_with (first | ((with_reducible refine gate_callee (f := 23) rfl ?_); refine goesL_ (some 12) rfl rfl Try.func23 (by kernel_rfl) rfl #[.slice A0 l0.length c0] rfl (by (try simp only [List.map_toArray, List.map_cons, List.map_nil]); first | done | rfl | (simp only [List.length_drop, List.length_take]; rfl)) ?_; (with_reducible refine (slices_Clone_byte_byte.calls _ _ l0 t127 _ ?side1 ?side2 A4.out).mono ?_); (case side1 => repeat (first | exact HR0.out | (with_reducible refine Kd.C_alloc ?_ _) | (with_reducible refine Kd.C_drewN ?_ _) | (with_reducible refine Kd.C_drew ?_))); (case side2 => exact HC0.out); rintro e w10 ⟨v128, rfl, ho0, hb⟩; refine ⟨_, rfl, ?_⟩; have n0_ := Aside0.mk (Kd.R_lower ho0 (below_size (by repeat (first | (with_reducible first | exact HB.out | apply below_alloc | apply pw_below_drewN | apply below_drew1) | exact HB.out)))); have n1_ := Aside0.mk (below_step (by repeat (first | (with_reducible first | exact HB.out | apply below_alloc | apply pw_below_drewN | apply below_drew1) | exact HB.out)) hb); clear HB; have HO129 := n0_; have HB := n1_; clear n0_ n1_; (try clear hb); (try clear hb2); (try clear hk); (try clear hi); (try clear ho0); obtain ⟨Ao11, co11, eo11⟩ := Kd.R_slice HO129.out; subst eo11) | ((with_reducible refine gate_callee (f := 24) rfl ?_); refine goesL_ (some 16) rfl rfl Try.func24 (by kernel_rfl) rfl #[.slice A0 l0.length c0, .int .i64 a1, .int .i64 a3] rfl (by (try simp only [List.map_toArray, List.map_cons, List.map_nil]); first | done | rfl | (simp only [List.length_drop, List.length_take]; rfl)) ?_; (with_reducible refine (mem_within.calls _ _ l0 a1 a3 false _ ?side1 ?side2 A5.out).mono ?_); (case side1 => repeat (first | exact (Kd.C_below HR0.out HB.out) | (with_reducible refine Kd.C_alloc ?_ _) | (with_reducible refine Kd.C_drewN ?_ _) | (with_reducible refine Kd.C_drew ?_))); (case side2 => exact HC0.out); rintro e w' ⟨rfl, ⟨nd, rfl⟩⟩; refine ⟨_, rfl, ?_⟩; (try (rw [drewN_self w10]; generalize hq_ : World.drewN w10 _ = w10; have n0_ : Aside0 (Kd.R (Kd.int .u8) 5 w10 w.heap.size (fun _ => True) (.slice Ao11 t127.length co11) t127) := ⟨by rw [← hq_]; exact (by (with_reducible repeat (first | apply Kd.R_alloc | apply Kd.R_drewN | apply Kd.R_drew)); exact HO129.out)⟩; have n1_ : Aside0 (Below w.heap.size w w10) := ⟨by rw [← hq_]; exact (by repeat (first | (with_reducible first | exact HB.out | apply below_alloc | apply pw_below_drewN | apply below_drew1) | exact HB.out))⟩; clear HO129 HB hq_; have HO129 := n0_; have HB := n1_; clear n0_ n1_))))
  go_ret2
  exact ⟨_, rfl, HO129.out, HB.out⟩
/-- mem.Move, where the place isn't there -/
theorem move_walkF2 (A0 : Option Addr) (c0 : Nat) (l0 : List Int) (a1 a2 a3 : Int) (w : World) (hr0 : Kd.C (Kd.int .u8) w A0 l0.length l0) (hc0 : l0.length ≤ c0) (t127 : List Int) (h1 : slices_Clone_byte_byte.f l0 = some t127) (h2 : mem_within.f l0 a1 a3 = some true) (h3 : mem_within.f l0 a2 a3 = some false) :
    Calls Try.prog 14 #[.slice A0 l0.length c0, .int .i64 a1, .int .i64 a2, .int .i64 a3] w fun e w' => ∃ v0_ : Value, e = .returned (.tuple #[v0_, .bool false]) ∧ Kd.R (Kd.int .u8) 5 w' w.heap.size (fun _ => True) v0_ t127 ∧ Below w.heap.size w w' := by
  have HR0 := Aside0.mk hr0
  have HC0 := Aside0.mk hc0
  have A4 := Aside0.mk h1
  have A5 := Aside0.mk h2
  have A6 := Aside0.mk h3
  clear hr0 hc0 h1 h2 h3
  have HB := Aside0.mk (Below.refl w.heap.size w)
  go_enter Try.func14, Try.ntmps14
  go_wp2_with (first | ((with_reducible refine gate_callee (f := 23) rfl ?_); refine goesL_ (some 12) rfl rfl Try.func23 (by kernel_rfl) rfl #[.slice A0 l0.length c0] rfl (by (try simp only [List.map_toArray, List.map_cons, List.map_nil]); first | done | rfl | (simp only [List.length_drop, List.length_take]; rfl)) ?_; (with_reducible refine (slices_Clone_byte_byte.calls _ _ l0 t127 _ ?side1 ?side2 A4.out).mono ?_); (case side1 => repeat (first | exact HR0.out | (with_reducible refine Kd.C_alloc ?_ _) | (with_reducible refine Kd.C_drewN ?_ _) | (with_reducible refine Kd.C_drew ?_))); (case side2 => exact HC0.out); rintro e w10 ⟨v128, rfl, ho0, hb⟩; refine ⟨_, rfl, ?_⟩; have n0_ := Aside0.mk (Kd.R_lower ho0 (below_size (by repeat (first | (with_reducible first | exact HB.out | apply below_alloc | apply pw_below_drewN | apply below_drew1) | exact HB.out)))); have n1_ := Aside0.mk (below_step (by repeat (first | (with_reducible first | exact HB.out | apply below_alloc | apply pw_below_drewN | apply below_drew1) | exact HB.out)) hb); clear HB; have HO129 := n0_; have HB := n1_; clear n0_ n1_; (try clear hb); (try clear hb2); (try clear hk); (try clear hi); (try clear ho0); obtain ⟨Ao11, co11, eo11⟩ := Kd.R_slice HO129.out; subst eo11) | ((with_reducible refine gate_callee (f := 24) rfl ?_); refine goesL_ (some 16) rfl rfl Try.func24 (by kernel_rfl) rfl #[.slice A0 l0.length c0, .int .i64 a1, .int .i64 a3] rfl (by (try simp only [List.map_toArray, List.map_cons, List.map_nil]); first | done | rfl | (simp only [List.length_drop, List.length_take]; rfl)) ?_; (with_reducible refine (mem_within.calls _ _ l0 a1 a3 true _ ?side1 ?side2 A5.out).mono ?_); (case side1 => repeat (first | exact (Kd.C_below HR0.out HB.out) | (with_reducible refine Kd.C_alloc ?_ _) | (with_reducible refine Kd.C_drewN ?_ _) | (with_reducible refine Kd.C_drew ?_))); (case side2 => exact HC0.out); rintro e w' ⟨rfl, ⟨nd, rfl⟩⟩; refine ⟨_, rfl, ?_⟩; (try (rw [drewN_self w10]; generalize hq_ : World.drewN w10 _ = w10; have n0_ : Aside0 (Kd.R (Kd.int .u8) 5 w10 w.heap.size (fun _ => True) (.slice Ao11 t127.length co11) t127) := ⟨by rw [← hq_]; exact (by (with_reducible repeat (first | apply Kd.R_alloc | apply Kd.R_drewN | apply Kd.R_drew)); exact HO129.out)⟩; have n1_ : Aside0 (Below w.heap.size w w10) := ⟨by rw [← hq_]; exact (by repeat (first | (with_reducible first | exact HB.out | apply below_alloc | apply pw_below_drewN | apply below_drew1) | exact HB.out))⟩; clear HO129 HB hq_; have HO129 := n0_; have HB := n1_; clear n0_ n1_))) | (go_at_call 24; (with_reducible refine (mem_within.calls _ _ l0 a2 a3 false _ ?side1 ?side2 A6.out).mono ?_); (case side1 => repeat (first | exact (Kd.C_below HR0.out HB.out) | (with_reducible refine Kd.C_alloc ?_ _) | (with_reducible refine Kd.C_drewN ?_ _) | (with_reducible refine Kd.C_drew ?_))); (case side2 => exact HC0.out); rintro e w' ⟨rfl, ⟨nd, rfl⟩⟩; (try (rw [drewN_self w10]; generalize hq_ : World.drewN w10 _ = w10; have n0_ : Aside0 (Kd.R (Kd.int .u8) 5 w10 w.heap.size (fun _ => True) (.slice Ao11 t127.length co11) t127) := ⟨by rw [← hq_]; exact (by (with_reducible repeat (first | apply Kd.R_alloc | apply Kd.R_drewN | apply Kd.R_drew)); exact HO129.out)⟩; have n1_ : Aside0 (Below w.heap.size w w10) := ⟨by rw [← hq_]; exact (by repeat (first | (with_reducible first | exact HB.out | apply below_alloc | apply pw_below_drewN | apply below_drew1) | exact HB.out))⟩; clear HO129 HB hq_; have HO129 := n0_; have HB := n1_; clear n0_ n1_))))
  go_ret2
  exact ⟨_, rfl, HO129.out, HB.out⟩
theorem cut_slice_w (ad : Addr) (len co : Nat) (a1 a2 : Int) (h0 : 0 ≤ a1) (h1 : 0 < a2) (h2 : a1 + a2 ≤ len) (hc : len ≤ co) (hm : len ≤ 9223372036854775807) (W : World) :
    (Instr.slice 22 (.slice (some ad) len co) (some (.int .i64 a1)) (some (.int .i64 (wrap64 (a1 + a2)))) none).run Try.prog W = .ok (.slice (some (ad.add (a1.toNat * 1))) a2.toNat (co - a1.toNat)) W := by
  rw [wrap_sum len hm a1 a2 h0 h1 h2]
  have h3 := run_slice_lh (P := Try.prog) (w := W) (t := 22) (a := some ad) (len := len) (cap := co) Try.underlying22 .i64 .i64 a1 (a1 + a2) h0 (by omega) (by omega)
  have hs : ((sizeOf (Try.prog.elem 22)).run Try.prog W) = .ok 1 W := by kernel_rfl
  rw [h3, hs]
  simp only [Result.andThen, sliced]
  rw [if_neg (by omega)]
  have : (a1 + a2).toNat - a1.toNat = a2.toNat := by omega
  rw [this]
  rfl
theorem move_copy {w : World} {base : Nat} {ok : Nat → Prop} {g co c0 : Nat} {ad : Addr} {xs l0 : List Int} {a1 a2 a3 : Int} (HO : Kd.R (Kd.int .u8) 5 w base ok (.slice (some ⟨g, 0, none⟩) xs.length co) xs) (HC : Kd.C (Kd.int .u8) w (some ad) l0.length l0) (ht : xs.length = l0.length) (p0 : 0 ≤ a1) (q0 : 0 ≤ a2) (p1 : 0 < a3) (p2 : a1 + a3 ≤ l0.length) (q2 : a2 + a3 ≤ l0.length) :
    (Builtin.copy_ #[22, 22] 3 #[.slice (some ⟨g, a2.toNat, none⟩) a3.toNat (co - a2.toNat), .slice (some (ad.add (a1.toNat * 1))) a3.toNat (c0 - a1.toNat)]).run Try.prog w = .ok (goInt (((l0.drop a1.toNat).take a3.toNat).map (Value.int .u8)).length) (w.setCells g a2.toNat (((l0.drop a1.toNat).take a3.toNat).map (Value.int .u8))) := by
  have hlen : (((l0.drop a1.toNat).take a3.toNat).map (Value.int .u8)).length = a3.toNat := by
    rw [List.length_map, List.length_take, List.length_drop]
    omega
  have hcell : ∀ j, j < a3.toNat → (w.cell? ⟨g, a2.toNat + j, none⟩).isSome = true ∧ w.frozen? ⟨g, a2.toNat + j, none⟩ = false := by
    intro j hj
    obtain ⟨hx, hf⟩ := Kd.R_celln 0 HO ((a2.toNat + j : Nat) : Int) (by omega) (by omega)
    rw [Int.toNat_natCast] at hx hf
    exact ⟨by rw [hx]; rfl, hf⟩
  refine run_copy_cells w 22 22 3 5 g a2.toNat a3.toNat (co - a2.toNat) _ a3.toNat (c0 - a1.toNat) _ Try.underlying22 (by kernel_rfl) (by rw [hlen]; exact (Nat.min_self _).symm) (fun j v hv => ?_) (fun j hj => (hcell j (by omega)).1) (fun j hj => (hcell j (by omega)).2) (fun v hv => ?_)
  · have hj : j < a3.toNat := by
      rcases Nat.lt_or_ge j a3.toNat with h | h
      · exact h
      · rw [List.getElem?_eq_none (by omega)] at hv
        cases hv
    rw [List.getElem?_map, List.getElem?_take, if_pos hj, List.getElem?_drop] at hv
    obtain ⟨x, hx, rfl⟩ := Option.map_eq_some_iff.1 hv
    obtain ⟨ad', e', hc⟩ := Kd.at_int HC ((a1.toNat + j : Nat) : Int) (by omega) (by omega)
    obtain rfl : ad = ad' := Option.some.inj e'
    rw [Int.toNat_natCast] at hc
    rw [Nat.mul_one, Go.Deep.add_add, hc]
    unfold rd
    rw [Int.toNat_natCast, List.getD_eq_getElem?_getD, hx]
    rfl
  · obtain ⟨x, _, rfl⟩ := List.mem_map.1 hv
    rfl
/-- mem.Move, where something is moved -/
theorem move_walk (A0 : Option Addr) (c0 : Nat) (l0 : List Int) (a1 a2 a3 : Int) (w : World) (hr0 : Kd.C (Kd.int .u8) w A0 l0.length l0) (hc0 : l0.length ≤ c0) (t127 : List Int) (h1 : slices_Clone_byte_byte.f l0 = some t127) (h2 : mem_within.f l0 a1 a3 = some true) (h3 : mem_within.f l0 a2 a3 = some true) (ht : t127.length = l0.length) (p0 : 0 ≤ a1) (q0 : 0 ≤ a2) (p1 : 0 < a3) (p2 : a1 + a3 ≤ l0.length) (q2 : a2 + a3 ≤ l0.length) :
    Calls Try.prog 14 #[.slice A0 l0.length c0, .int .i64 a1, .int .i64 a2, .int .i64 a3] w fun e w' => ∃ v0_ : Value, e = .returned (.tuple #[v0_, .bool true]) ∧ Kd.R (Kd.int .u8) 5 w' w.heap.size (fun _ => True) v0_ (MemW.putL t127 a2.toNat ((l0.drop a1.toNat).take a3.toNat)) ∧ Below w.heap.size w w' := by
  obtain ⟨ad, eA, _⟩ := Kd.at_int hr0 0 (by omega) (by omega)
  subst eA
  have HR0 := Aside0.mk hr0
  have HC0 := Aside0.mk hc0
  have A4 := Aside0.mk h1
  have A5 := Aside0.mk h2
  have A6 := Aside0.mk h3
  have PT := Aside0.mk ht
  have P0 := Aside0.mk p0
  have Q0 := Aside0.mk q0
  have P1 := Aside0.mk p1
  have P2 := Aside0.mk p2
  have Q2 := Aside0.mk q2
  clear hr0 hc0 h1 h2 h3 ht p0 q0 p1 p2 q2
  have HB := Aside0.mk (Below.refl w.heap.size w)
  go_enter Try.func14, Try.ntmps14
  go_wp2_with (first | ((with_reducible refine gate_callee (f := 23) rfl ?_); refine goesL_ (some 12) rfl rfl Try.func23 (by kernel_rfl) rfl #[.slice (some ad) l0.length c0] rfl (by (try simp only [List.map_toArray, List.map_cons, List.map_nil]); first | done | rfl | (simp only [List.length_drop, List.length_take]; rfl)) ?_; (with_reducible refine (slices_Clone_byte_byte.calls _ _ l0 t127 _ ?side1 ?side2 A4.out).mono ?_); (case side1 => repeat (first | exact HR0.out | (with_reducible refine Kd.C_alloc ?_ _) | (with_reducible refine Kd.C_drewN ?_ _) | (with_reducible refine Kd.C_drew ?_))); (case side2 => exact HC0.out); rintro e w10 ⟨v128, rfl, ho0, hb⟩; refine ⟨_, rfl, ?_⟩; have n0_ := Aside0.mk (Kd.R_lower ho0 (below_size (by repeat (first | (with_reducible first | exact HB.out | apply below_alloc | apply pw_below_drewN | apply below_drew1) | exact HB.out)))); have n1_ := Aside0.mk (below_step (by repeat (first | (with_reducible first | exact HB.out | apply below_alloc | apply pw_below_drewN | apply below_drew1) | exact HB.out)) hb); clear HB; have HO129 := n0_; have HB := n1_; clear n0_ n1_; (try clear hb); (try clear hb2); (try clear hk); (try clear hi); (try clear ho0); obtain ⟨Ao11, co11, eo11⟩ := Kd.R_slice HO129.out; subst eo11) | ((with_reducible refine gate_callee (f := 24) rfl ?_); refine goesL_ (some 16) rfl rfl Try.func24 (by kernel_rfl) rfl #[.slice (some ad) l0.length c0, .int .i64 a1, .int .i64 a3] rfl (by (try simp only [List.map_toArray, List.map_cons, List.map_nil]); first | done | rfl | (simp only [List.length_drop, List.length_take]; rfl)) ?_; (with_reducible refine (mem_within.calls _ _ l0 a1 a3 true _ ?side1 ?side2 A5.out).mono ?_); (case side1 => repeat (first | exact (Kd.C_below HR0.out HB.out) | (with_reducible refine Kd.C_alloc ?_ _) | (with_reducible refine Kd.C_drewN ?_ _) | (with_reducible refine Kd.C_drew ?_))); (case side2 => exact HC0.out); rintro e w' ⟨rfl, ⟨nd, rfl⟩⟩; refine ⟨_, rfl, ?_⟩; (try (rw [drewN_self w10]; generalize hq_ : World.drewN w10 _ = w10; have n0_ : Aside0 (Kd.R (Kd.int .u8) 5 w10 w.heap.size (fun _ => True) (.slice Ao11 t127.length co11) t127) := ⟨by rw [← hq_]; exact (by (with_reducible repeat (first | apply Kd.R_alloc | apply Kd.R_drewN | apply Kd.R_drew)); exact HO129.out)⟩; have n1_ : Aside0 (Below w.heap.size w w10) := ⟨by rw [← hq_]; exact (by repeat (first | (with_reducible first | exact HB.out | apply below_alloc | apply pw_below_drewN | apply below_drew1) | exact HB.out))⟩; clear HO129 HB hq_; have HO129 := n0_; have HB := n1_; clear n0_ n1_))) | (go_at_call 24; (with_reducible refine (mem_within.calls _ _ l0 a2 a3 true _ ?side1 ?side2 A6.out).mono ?_); (case side1 => repeat (first | exact (Kd.C_below HR0.out HB.out) | (with_reducible refine Kd.C_alloc ?_ _) | (with_reducible refine Kd.C_drewN ?_ _) | (with_reducible refine Kd.C_drew ?_))); (case side2 => exact HC0.out); rintro e w' ⟨rfl, ⟨nd, rfl⟩⟩; (try (rw [drewN_self w10]; generalize hq_ : World.drewN w10 _ = w10; have n0_ : Aside0 (Kd.R (Kd.int .u8) 5 w10 w.heap.size (fun _ => True) (.slice Ao11 t127.length co11) t127) := ⟨by rw [← hq_]; exact (by (with_reducible repeat (first | apply Kd.R_alloc | apply Kd.R_drewN | apply Kd.R_drew)); exact HO129.out)⟩; have n1_ : Aside0 (Below w.heap.size w w10) := ⟨by rw [← hq_]; exact (by repeat (first | (with_reducible first | exact HB.out | apply below_alloc | apply pw_below_drewN | apply below_drew1) | exact HB.out))⟩; clear HO129 HB hq_; have HO129 := n0_; have HB := n1_; clear n0_ n1_)); obtain ⟨go9, co9, eo9, gb9, gl9, cl9, HG9⟩ := Kd.R_form HO129.out (by have := P0.out; have := P1.out; have := P2.out; have := PT.out; omega); (first | cases eo9 | (injection eo9 with ea_ en_ ec_; (first | subst ea_ | (injection ea_ with ea_; subst ea_)); subst ec_; clear en_)); have GB9 := Aside0.mk gb9; have GG9 := Aside0.mk HG9; clear gb9 gl9 HG9))
  have hsl := zero_slice_w go9 t127.length co11 a2 a3 Q0.out P1.out (by have := Q2.out; have := PT.out; omega) (Kd.R_reads' HO129.out).2.1 (Kd.C_max (Kd.R_reads' HO129.out).2.2)
  have hsl2 := cut_slice_w ad l0.length c0 a1 a3 P0.out P1.out P2.out HC0.out (Kd.C_max HR0.out)
  have hcp := fun W HO HC => move_copy (w := W) (base := w.heap.size) (ok := fun _ => True) (g := go9) (co := co11) (c0 := c0) (ad := ad) (xs := t127) (l0 := l0) HO HC PT.out P0.out Q0.out P1.out P2.out Q2.out
  have hcp1 := Aside0.mk hcp
  clear hcp
  have hw1 : IntKind.i64.wrap (a2 + a3) = a2 + a3 := (Go.Proofs.YtjjfcpffbooboaaW.PrintLast.i64_w _).trans <| wrap_sum t127.length (Kd.C_max (Kd.R_reads' HO129.out).2.2) a2 a3 Q0.out P1.out (by have := Q2.out; have := PT.out; omega)
  have hw2 : IntKind.i64.wrap (a1 + a3) = a1 + a3 := (Go.Proofs.YtjjfcpffbooboaaW.PrintLast.i64_w _).trans <| wrap_sum l0.length (Kd.C_max HR0.out) a1 a3 P0.out P1.out P2.out
  have hn1 : (a2 + a3).toNat - a2.toNat = a3.toNat := by have := P1.out; have := Q0.out; omega
  have hn2 : (a1 + a3).toNat - a1.toNat = a3.toNat := by have := P1.out; have := P0.out; omega
  have hc1 : ¬ co11 = a2.toNat := by have := (Kd.R_reads' HO129.out).2.1; have := Q2.out; have := PT.out; have := P1.out; omega
  have hc2 : ¬ c0 = a1.toNat := by have := HC0.out; have := P2.out; have := P1.out; omega
  have hi1 : 0 ≤ a2 + a3 ∧ a2 + a3 ≤ (co11 : Int) := by have := (Kd.R_reads' HO129.out).2.1; have := Q2.out; have := PT.out; have := P1.out; have := Q0.out; omega
  have hi2 : 0 ≤ a1 + a3 ∧ a1 + a3 ≤ (c0 : Int) := by have := HC0.out; have := P2.out; have := P1.out; have := P0.out; omega
  have hj1 : 0 ≤ a2 ∧ a2 ≤ max (a2 + a3) 0 := by have := P1.out; have := Q0.out; omega
  have hj2 : 0 ≤ a1 ∧ a1 ≤ max (a1 + a3) 0 := by have := P1.out; have := P0.out; omega
  go_still_tail 12, (by kernel_rfl)
  change wpList _ _ _ _ _ w10.drew
  have n0_ := Aside0.mk (Kd.R_drew HO129.out)
  have n1_ := Aside0.mk (below_drew1 HB.out)
  generalize w10.drew = w11 at n0_ n1_ ⊢
  have hcp := hcp1.out w11 n0_.out (Kd.C_below HR0.out n1_.out)
  rw [Nat.mul_one] at hcp
  go_wp2
  go_ret2
  refine ⟨_, rfl, ?_, ?_⟩
  · have h3 := MemW.R_setCells ((l0.drop a1.toNat).take a3.toNat) a2.toNat w11 t127 n0_.out
    rw [List.map_take, List.map_drop] at h3
    exact h3
  · exact MemW.below_setCells GB9.out _ _ _ n1_.out
/-- mem.Move, where nothing is to be moved -/
theorem move_walk0 (A0 : Option Addr) (c0 : Nat) (l0 : List Int) (a1 a2 : Int) (w : World) (hr0 : Kd.C (Kd.int .u8) w A0 l0.length l0) (hc0 : l0.length ≤ c0) (t127 : List Int) (h1 : slices_Clone_byte_byte.f l0 = some t127) (h2 : mem_within.f l0 a1 0 = some true) (h3 : mem_within.f l0 a2 0 = some true) (ht : t127.length = l0.length) (p0 : 0 ≤ a1) (q0 : 0 ≤ a2) (p2 : a1 ≤ l0.length) (q2 : a2 ≤ l0.length) :
    Calls Try.prog 14 #[.slice A0 l0.length c0, .int .i64 a1, .int .i64 a2, .int .i64 0] w fun e w' => ∃ v0_ : Value, e = .returned (.tuple #[v0_, .bool true]) ∧ Kd.R (Kd.int .u8) 5 w' w.heap.size (fun _ => True) v0_ t127 ∧ Below w.heap.size w w' := by
  have HR0 := Aside0.mk hr0
  have HC0 := Aside0.mk hc0
  have A4 := Aside0.mk h1
  have A5 := Aside0.mk h2
  have A6 := Aside0.mk h3
  have PT := Aside0.mk ht
  have P0 := Aside0.mk p0
  have Q0 := Aside0.mk q0
  have P2 := Aside0.mk p2
  have Q2 := Aside0.mk q2
  clear hr0 hc0 h1 h2 h3 ht p0 q0 p2 q2
  have HB := Aside0.mk (Below.refl w.heap.size w)
  go_enter Try.func14, Try.ntmps14
  go_wp2_with (first | ((with_reducible refine gate_callee (f := 23) rfl ?_); refine goesL_ (some 12) rfl rfl Try.func23 (by kernel_rfl) rfl #[.slice A0 l0.length c0] rfl (by (try simp only [List.map_toArray, List.map_cons, List.map_nil]); first | done | rfl | (simp only [List.length_drop, List.length_take]; rfl)) ?_; (with_reducible refine (slices_Clone_byte_byte.calls _ _ l0 t127 _ ?side1 ?side2 A4.out).mono ?_); (case side1 => repeat (first | exact HR0.out | (with_reducible refine Kd.C_alloc ?_ _) | (with_reducible refine Kd.C_drewN ?_ _) | (with_reducible refine Kd.C_drew ?_))); (case side2 => exact HC0.out); rintro e w10 ⟨v128, rfl, ho0, hb⟩; refine ⟨_, rfl, ?_⟩; have n0_ := Aside0.mk (Kd.R_lower ho0 (below_size (by repeat (first | (with_reducible first | exact HB.out | apply below_alloc | apply pw_below_drewN | apply below_drew1) | exact HB.out)))); have n1_ := Aside0.mk (below_step (by repeat (first | (with_reducible first | exact HB.out | apply below_alloc | apply pw_below_drewN | apply below_drew1) | exact HB.out)) hb); clear HB; have HO129 := n0_; have HB := n1_; clear n0_ n1_; (try clear hb); (try clear hb2); (try clear hk); (try clear hi); (try clear ho0); obtain ⟨Ao11, co11, eo11⟩ := Kd.R_slice HO129.out; subst eo11) | ((with_reducible refine gate_callee (f := 24) rfl ?_); refine goesL_ (some 16) rfl rfl Try.func24 (by kernel_rfl) rfl #[.slice A0 l0.length c0, .int .i64 a1, .int .i64 0] rfl (by (try simp only [List.map_toArray, List.map_cons, List.map_nil]); first | done | rfl | (simp only [List.length_drop, List.length_take]; rfl)) ?_; (with_reducible refine (mem_within.calls _ _ l0 a1 0 true _ ?side1 ?side2 A5.out).mono ?_); (case side1 => repeat (first | exact (Kd.C_below HR0.out HB.out) | (with_reducible refine Kd.C_alloc ?_ _) | (with_reducible refine Kd.C_drewN ?_ _) | (with_reducible refine Kd.C_drew ?_))); (case side2 => exact HC0.out); rintro e w' ⟨rfl, ⟨nd, rfl⟩⟩; refine ⟨_, rfl, ?_⟩; (try (rw [drewN_self w10]; generalize hq_ : World.drewN w10 _ = w10; have n0_ : Aside0 (Kd.R (Kd.int .u8) 5 w10 w.heap.size (fun _ => True) (.slice Ao11 t127.length co11) t127) := ⟨by rw [← hq_]; exact (by (with_reducible repeat (first | apply Kd.R_alloc | apply Kd.R_drewN | apply Kd.R_drew)); exact HO129.out)⟩; have n1_ : Aside0 (Below w.heap.size w w10) := ⟨by rw [← hq_]; exact (by repeat (first | (with_reducible first | exact HB.out | apply below_alloc | apply pw_below_drewN | apply below_drew1) | exact HB.out))⟩; clear HO129 HB hq_; have HO129 := n0_; have HB := n1_; clear n0_ n1_))) | (go_at_call 24; (with_reducible refine (mem_within.calls _ _ l0 a2 0 true _ ?side1 ?side2 A6.out).mono ?_); (case side1 => repeat (first | exact (Kd.C_below HR0.out HB.out) | (with_reducible refine Kd.C_alloc ?_ _) | (with_reducible refine Kd.C_drewN ?_ _) | (with_reducible refine Kd.C_drew ?_))); (case side2 => exact HC0.out); rintro e w' ⟨rfl, ⟨nd, rfl⟩⟩; (try (rw [drewN_self w10]; generalize hq_ : World.drewN w10 _ = w10; have n0_ : Aside0 (Kd.R (Kd.int .u8) 5 w10 w.heap.size (fun _ => True) (.slice Ao11 t127.length co11) t127) := ⟨by rw [← hq_]; exact (by (with_reducible repeat (first | apply Kd.R_alloc | apply Kd.R_drewN | apply Kd.R_drew)); exact HO129.out)⟩; have n1_ : Aside0 (Below w.heap.size w w10) := ⟨by rw [← hq_]; exact (by repeat (first | (with_reducible first | exact HB.out | apply below_alloc | apply pw_below_drewN | apply below_drew1) | exact HB.out))⟩; clear HO129 HB hq_; have HO129 := n0_; have HB := n1_; clear n0_ n1_))))
  have hw1 : IntKind.i64.wrap a2 = a2 := by
    have := Kd.C_max (Kd.R_reads' HO129.out).2.2; have := Q0.out; have := Q2.out; have := PT.out
    rw [Go.Proofs.YtjjfcpffbooboaaW.PrintLast.i64_w]
    unfold wrap64
    omega
  have hw2 : IntKind.i64.wrap a1 = a1 := by
    have := Kd.C_max HR0.out; have := P0.out; have := P2.out
    rw [Go.Proofs.YtjjfcpffbooboaaW.PrintLast.i64_w]
    unfold wrap64
    omega
  have hi1 : 0 ≤ a2 ∧ a2 ≤ (co11 : Int) := by have := (Kd.R_reads' HO129.out).2.1; have := Q2.out; have := PT.out; have := Q0.out; omega
  have hi2 : 0 ≤ a1 ∧ a1 ≤ (c0 : Int) := by have := HC0.out; have := P2.out; have := P0.out; omega
  have hj1 : 0 ≤ a2 ∧ a2 ≤ max a2 0 := by have := Q0.out; omega
  have hj2 : 0 ≤ a1 ∧ a1 ≤ max a1 0 := by have := P0.out; omega
  have hcp := fun (W : World) (d a : Option Addr) (dc sc : Nat) => run_copy_none (P := Try.prog) W 22 22 3 5 d a 0 dc 0 sc Try.underlying22 (by kernel_rfl) rfl
  go_still_tail 12, (by kernel_rfl)
  change wpList _ _ _ _ _ w10.drew
  have n0_ := Aside0.mk (Kd.R_drew HO129.out)
  have n1_ := Aside0.mk (below_drew1 HB.out)
  generalize w10.drew = w11 at n0_ n1_ ⊢
  go_wp2
  all_goals go_ret2
  all_goals first | exact ⟨_, rfl, n0_.out, n1_.out⟩ | (subst_vars; exact ⟨_, rfl, n0_.out, n1_.out⟩)
def mem_Move.f (l0 : List Int) (a1 : Int) (a2 : Int) (a3 : Int) : Option (List Int × Bool) := (slices_Clone_byte_byte.f l0).bind fun t => ((mem_within.f l0 a1 a3).bind fun b => (if b = true then ((mem_within.f l0 a2 a3).bind fun c => (if c = true then (some (MemW.putL t a2.toNat ((l0.drop a1.toNat).take a3.toNat), true)) else (some (t, false)))) else (some (t, false))))
theorem clone_same {l t : List Int} (h : slices_Clone_byte_byte.f l = some t) : t.length = l.length := by
  unfold slices_Clone_byte_byte.f at h
  simp only [Option.bind_some] at h
  split at h
  · obtain rfl := Option.some.inj h
    simp
  · cases h
theorem mem_Move.calls (A0 : Option Addr) (c0 : Nat) (l0 : List Int) (a1 : Int) (a2 : Int) (a3 : Int) (r1 : List Int) (r2 : Bool) (w : World) (hr0 : Kd.C (Kd.int .u8) w A0 l0.length l0) (hc0 : l0.length ≤ c0) (h : mem_Move.f l0 a1 a2 a3 = some (r1, r2)) :
    Calls Try.prog 14 #[.slice A0 l0.length c0, .int .i64 a1, .int .i64 a2, .int .i64 a3] w fun e w' => ∃ v0_ : Value, e = .returned (.tuple #[v0_, .bool r2]) ∧ Kd.R (Kd.int .u8) 5 w' w.heap.size (fun _ => True) v0_ r1 ∧ Below w.heap.size w w' := by
  unfold mem_Move.f at h
  obtain ⟨t, h1, h⟩ := Option.bind_eq_some_iff.mp h
  obtain ⟨b, h2, h⟩ := Option.bind_eq_some_iff.mp h
  cases b with
  | false =>
    rw [if_neg (by decide)] at h
    simp only [Option.some.injEq, Prod.mk.injEq] at h
    obtain ⟨rfl, rfl⟩ := h
    exact move_walkF1 A0 c0 l0 a1 a2 a3 w hr0 hc0 t h1 h2
  | true =>
    rw [if_pos rfl] at h
    obtain ⟨b, h3, h⟩ := Option.bind_eq_some_iff.mp h
    cases b with
    | false =>
      rw [if_neg (by decide)] at h
      simp only [Option.some.injEq, Prod.mk.injEq] at h
      obtain ⟨rfl, rfl⟩ := h
      exact move_walkF2 A0 c0 l0 a1 a2 a3 w hr0 hc0 t h1 h2 h3
    | true =>
      rw [if_pos rfl] at h
      simp only [Option.some.injEq, Prod.mk.injEq] at h
      obtain ⟨rfl, rfl⟩ := h
      have hs := clone_same h1
      obtain ⟨p0, p1, p2⟩ := within_true h2 (Kd.C_max hr0)
      obtain ⟨q0, q1, q2⟩ := within_true h3 (Kd.C_max hr0)
      by_cases hz : a3 = 0
      · subst hz
        exact move_walk0 A0 c0 l0 a1 a2 w hr0 hc0 t h1 h2 h3 hs p0 q0 (by omega) (by omega)
      · exact move_walk A0 c0 l0 a1 a2 a3 w hr0 hc0 t h1 h2 h3 hs p0 q0 (by omega) p2 q2
/-! ### mem_Get: function 16 -/
def mem_Get.f (l0 : List Int) (a1 : Int) : Option (Int × Bool) := (mem_within.f l0 a1 1).bind fun t107 => (if t107 = true then (if 0 ≤ a1 then (if a1 < (l0.length : Int) then (some (rd l0 a1, true)) else (none)) else (none)) else (some (0, false)))
set_option maxHeartbeats 8000000 in
set_option maxRecDepth 100000 in
theorem mem_Get.calls (A0 : Option Addr) (c0 : Nat) (l0 : List Int) (a1 : Int) (r1 : Int) (r2 : Bool) (w : World) (hr0 : Kd.C (Kd.int .u8) w A0 l0.length l0) (hc0 : l0.length ≤ c0) (h : mem_Get.f l0 a1 = some (r1, r2)) :
    Calls Try.prog 16 #[.slice A0 l0.length c0, .int .i64 a1] w fun e w' => e = .returned (.tuple #[.int .u8 r1, .bool r2]) ∧ Drawn0 w w' := by
  have HR0 := Aside0.mk hr0
  have HC0 := Aside0.mk hc0
  clear hr0 hc0
  have H : ((mem_within.f l0 a1 1).bind fun t107 => (if t107 = true then (if 0 ≤ a1 then (if a1 < (l0.length : Int) then (some (rd l0 a1, true)) else (none)) else (none)) else (some (0, false)))) = some (r1, r2) := h
  clear h
  replace H := Option.bind_eq_some_iff.mp H
  obtain ⟨t107, A30, H⟩ := H
  replace H : (if t107 = true then (if 0 ≤ a1 then (if a1 < (l0.length : Int) then (some (rd l0 a1, true)) else (none)) else (none)) else (some (0, false))) = some (r1, r2) := H
  have A3 := Aside0.mk A30
  clear A30
  by_cases c4 : t107 = true
  · subst c4
    have H1 : (if 0 ≤ a1 then (if a1 < (l0.length : Int) then (some (rd l0 a1, true)) else (none)) else (none)) = some (r1, r2) := by rw [if_pos rfl] at H; exact H
    clear H
    have H := H1
    clear H1
    by_cases c5 : 0 ≤ a1
    · rw [if_pos c5] at H
      have c5b0 : decide (0 ≤ a1) = true := decide_eq_true c5
      clear c5
      by_cases c6 : a1 < (l0.length : Int)
      · rw [if_pos c6] at H
        have c6b0 : decide (a1 < (l0.length : Int)) = true := decide_eq_true c6
        clear c6
        simp only [Option.some.injEq, Prod.mk.injEq] at H
        obtain ⟨rfl, rfl⟩ := H
        go_enter Try.func16, Try.ntmps16
        go_wp2_with (first | ((with_reducible refine gate_callee (f := 24) rfl ?_); refine goesL_ (some 8) rfl rfl Try.func24 (by kernel_rfl) rfl #[.slice A0 l0.length c0, .int .i64 a1, .int .i64 1] rfl (by (try simp only [List.map_toArray, List.map_cons, List.map_nil]); first | done | rfl | (simp only [List.length_drop, List.length_take]; rfl)) ?_; (with_reducible refine (mem_within.calls _ _ l0 a1 1 true _ ?side1 ?side2 A3.out).mono ?_); (case side1 => repeat (first | exact HR0.out | (with_reducible refine Kd.C_alloc ?_ _) | (with_reducible refine Kd.C_drewN ?_ _) | (with_reducible refine Kd.C_drew ?_))); (case side2 => exact HC0.out); rintro e w' ⟨rfl, ⟨nd, rfl⟩⟩; refine ⟨_, rfl, ?_⟩; have p108 : 0 ≤ (a1 : Int) := of_decide_eq_true (by first | (with_reducible assumption) | assumption); have q108 : a1 < (l0.length : Int) := of_decide_eq_true (by first | (with_reducible assumption) | assumption); obtain ⟨ad108, e108, hx108_0⟩ := Kd.at_int HR0.out a1 p108 q108; cases e108; replace p108 := eq_true p108; replace q108 := eq_true q108))
        go_ret2
        exact ⟨by first | rfl | (simp; done) | (simp [*]; done) | (simp [Int.tdiv_eq_ediv_of_nonneg]; done), by repeat (first | exact Drawn0.refl _ | apply Drawn0.step)⟩
      · rw [if_neg c6] at H
        exact absurd H (by simp)
    · rw [if_neg c5] at H
      exact absurd H (by simp)
  · replace c4 := Bool.eq_false_iff.mpr c4
    subst c4
    have H1 : (some (0, false)) = some (r1, r2) := by rw [if_neg (show ¬ (false = true) by decide)] at H; exact H
    clear H
    have H := H1
    clear H1
    simp only [Option.some.injEq, Prod.mk.injEq] at H
    obtain ⟨rfl, rfl⟩ := H
    go_enter Try.func16, Try.ntmps16
    go_wp2_with (first | ((with_reducible refine gate_callee (f := 24) rfl ?_); refine goesL_ (some 8) rfl rfl Try.func24 (by kernel_rfl) rfl #[.slice A0 l0.length c0, .int .i64 a1, .int .i64 1] rfl (by (try simp only [List.map_toArray, List.map_cons, List.map_nil]); first | done | rfl | (simp only [List.length_drop, List.length_take]; rfl)) ?_; (with_reducible refine (mem_within.calls _ _ l0 a1 1 false _ ?side1 ?side2 A3.out).mono ?_); (case side1 => repeat (first | exact HR0.out | (with_reducible refine Kd.C_alloc ?_ _) | (with_reducible refine Kd.C_drewN ?_ _) | (with_reducible refine Kd.C_drew ?_))); (case side2 => exact HC0.out); rintro e w' ⟨rfl, ⟨nd, rfl⟩⟩; refine ⟨_, rfl, ?_⟩))
    go_ret2
    exact ⟨by first | rfl | (simp; done) | (simp [*]; done) | (simp [Int.tdiv_eq_ediv_of_nonneg]; done), by repeat (first | exact Drawn0.refl _ | apply Drawn0.step)⟩

/-! ### mem_Put: function 17 -/
def mem_Put.f (l0 : List Int) (a1 : Int) (a2 : Int) : Option (List Int × Bool) := (slices_Clone_byte_byte.f l0).bind fun t109 => ((mem_within.f t109 a1 1).bind fun t112 => (if t112 = true then (if 0 ≤ a1 then (if a1 < (t109.length : Int) then (some ((t109.set (a1 : Int).toNat a2), true)) else (none)) else (none)) else (some (t109, false))))
set_option maxHeartbeats 8000000 in
set_option maxRecDepth 100000 in
theorem mem_Put.calls (A0 : Option Addr) (c0 : Nat) (l0 : List Int) (a1 : Int) (a2 : Int) (r1 : List Int) (r2 : Bool) (w : World) (hr0 : Kd.C (Kd.int .u8) w A0 l0.length l0) (hc0 : l0.length ≤ c0) (h : mem_Put.f l0 a1 a2 = some (r1, r2)) :
    Calls Try.prog 17 #[.slice A0 l0.length c0, .int .i64 a1, .int .u8 a2] w fun e w' => ∃ v0_ : Value, e = .returned (.tuple #[v0_, .bool r2]) ∧ Kd.R (Kd.int .u8) 5 w' w.heap.size (fun _ => True) v0_ r1 ∧ Below w.heap.size w w' := by
  have HR0 := Aside0.mk hr0
  have HC0 := Aside0.mk hc0
  clear hr0 hc0
  have HB := Aside0.mk (Below.refl w.heap.size w)
  have H : ((slices_Clone_byte_byte.f l0).bind fun t109 => ((mem_within.f t109 a1 1).bind fun t112 => (if t112 = true then (if 0 ≤ a1 then (if a1 < (t109.length : Int) then (some ((t109.set (a1 : Int).toNat a2), true)) else (none)) else (none)) else (some (t109, false))))) = some (r1, r2) := h
  clear h
  replace H := Option.bind_eq_some_iff.mp H
  obtain ⟨t109, A40, H⟩ := H
  replace H : ((mem_within.f t109 a1 1).bind fun t112 => (if t112 = true then (if 0 ≤ a1 then (if a1 < (t109.length : Int) then (some ((t109.set (a1 : Int).toNat a2), true)) else (none)) else (none)) else (some (t109, false)))) = some (r1, r2) := H
  have A4 := Aside0.mk A40
  clear A40
  replace H := Option.bind_eq_some_iff.mp H
  obtain ⟨t112, A50, H⟩ := H
  replace H : (if t112 = true then (if 0 ≤ a1 then (if a1 < (t109.length : Int) then (some ((t109.set (a1 : Int).toNat a2), true)) else (none)) else (none)) else (some (t109, false))) = some (r1, r2) := H
  have A5 := Aside0.mk A50
  clear A50
  by_cases c6 : t112 = true
  · subst c6
    have H1 : (if 0 ≤ a1 then (if a1 < (t109.length : Int) then (some ((t109.set (a1 : Int).toNat a2), true)) else (none)) else (none)) = some (r1, r2) := by rw [if_pos rfl] at H; exact H
    clear H
    have H := H1
    clear H1
    by_cases c7 : 0 ≤ a1
    · rw [if_pos c7] at H
      have c7b0 : decide (0 ≤ a1) = true := decide_eq_true c7
      clear c7
      by_cases c8 : a1 < (t109.length : Int)
      · rw [if_pos c8] at H
        have c8b0 : decide (a1 < (t109.length : Int)) = true := decide_eq_true c8
        clear c8
        obtain ⟨y113, hy113⟩ : ∃ y_ : List Int, y_ = (t109.set (a1 : Int).toNat a2) := ⟨_, rfl⟩
        replace H : (some (y113, true)) = some (r1, r2) := by first | (rw [hy113]; with_reducible exact H) | (have H2_ := (Option.bind_some _ _).symm.trans H; rw [hy113]; with_reducible exact H2_) | (have H2_ := (Option.bind_some _ _).symm.trans H; with_reducible exact H2_) | with_reducible exact H | (rw [hy113]; exact H) | exact H
        have Ny113 := Aside0.mk hy113
        clear hy113
        simp only [Option.some.injEq, Prod.mk.injEq] at H
        obtain ⟨rfl, rfl⟩ := H
        go_enter Try.func17, Try.ntmps17
        go_wp2_with (first | ((with_reducible refine gate_callee (f := 23) rfl ?_); refine goesL_ (some 9) rfl rfl Try.func23 (by kernel_rfl) rfl #[.slice A0 l0.length c0] rfl (by (try simp only [List.map_toArray, List.map_cons, List.map_nil]); first | done | rfl | (simp only [List.length_drop, List.length_take]; rfl)) ?_; (with_reducible refine (slices_Clone_byte_byte.calls _ _ l0 t109 _ ?side1 ?side2 A4.out).mono ?_); (case side1 => repeat (first | exact HR0.out | (with_reducible refine Kd.C_alloc ?_ _) | (with_reducible refine Kd.C_drewN ?_ _) | (with_reducible refine Kd.C_drew ?_))); (case side2 => exact HC0.out); rintro e w10 ⟨v110, rfl, ho0, hb⟩; refine ⟨_, rfl, ?_⟩; have n0_ := Aside0.mk (Kd.R_lower ho0 (below_size (by repeat (first | (with_reducible first | exact HB.out | apply below_alloc | apply pw_below_drewN | apply below_drew1) | exact HB.out)))); have n1_ := Aside0.mk (below_step (by repeat (first | (with_reducible first | exact HB.out | apply below_alloc | apply pw_below_drewN | apply below_drew1) | exact HB.out)) hb); clear HB; have HO111 := n0_; have HB := n1_; clear n0_ n1_; (try clear hb); (try clear hb2); (try clear hk); (try clear hi); (try clear ho0); obtain ⟨Ao11, co11, eo11⟩ := Kd.R_slice HO111.out; subst eo11) | ((with_reducible refine gate_callee (f := 24) rfl ?_); refine goesL_ (some 12) rfl rfl Try.func24 (by kernel_rfl) rfl #[.slice Ao11 t109.length co11, .int .i64 a1, .int .i64 1] rfl (by (try simp only [List.map_toArray, List.map_cons, List.map_nil]); first | done | rfl | (simp only [List.length_drop, List.length_take]; rfl)) ?_; (with_reducible refine (mem_within.calls _ _ t109 a1 1 true _ ?side1 ?side2 A5.out).mono ?_); (case side1 => repeat (first | exact (Kd.R_reads' HO111.out).2.2 | (with_reducible refine Kd.C_alloc ?_ _) | (with_reducible refine Kd.C_drewN ?_ _) | (with_reducible refine Kd.C_drew ?_))); (case side2 => exact (Kd.R_reads' HO111.out).2.1); rintro e w' ⟨rfl, ⟨nd, rfl⟩⟩; refine ⟨_, rfl, ?_⟩; (try (rw [drewN_self w10]; generalize hq_ : World.drewN w10 _ = w10; have n0_ : Aside0 (Kd.R (Kd.int .u8) 5 w10 w.heap.size (fun _ => True) (.slice Ao11 t109.length co11) t109) := ⟨by rw [← hq_]; exact (by (with_reducible repeat (first | apply Kd.R_alloc | apply Kd.R_drewN | apply Kd.R_drew)); exact HO111.out)⟩; have n1_ : Aside0 (Below w.heap.size w w10) := ⟨by rw [← hq_]; exact (by repeat (first | (with_reducible first | exact HB.out | apply below_alloc | apply pw_below_drewN | apply below_drew1) | exact HB.out))⟩; clear HO111 HB hq_; have HO111 := n0_; have HB := n1_; clear n0_ n1_)); have p9 : 0 ≤ (a1 : Int) := of_decide_eq_true (by first | (with_reducible assumption) | assumption); have q9 : (a1 : Int) < ((t109.length : Int) : Int) := of_decide_eq_true (by first | (with_reducible assumption) | assumption); obtain ⟨go9, co9, eo9, gb9, gl9, cl9, HG9⟩ := Kd.R_form HO111.out (by omega); (first | cases eo9 | (injection eo9 with ea_ en_ ec_; (first | subst ea_ | (injection ea_ with ea_; subst ea_)); subst ec_; clear en_)); have GB9 := Aside0.mk gb9; have GG9 := Aside0.mk HG9; clear gb9 gl9 HG9; obtain ⟨hx9_0, hf9_0⟩ := Kd.R_celln 0 HO111.out (a1 : Int) p9 q9; replace p9 := eq_true p9; replace q9 := eq_true q9; obtain ⟨hy12_, hz12_⟩ := Kd.R_celln 0 HO111.out (a1 : Int) (of_decide_eq_true (by first | (with_reducible assumption) | assumption)) (of_decide_eq_true (by first | (with_reducible assumption) | assumption)); have HP12 := Kd.R_putg HO111.out (a1 : Int) a2) | ((with_reducible refine gate_store (t := 5) (p := 18) rfl ?_); refine store_event (t := 5) (p := 18) (v := ?vo_w13) (w1 := (w10.setCell ⟨go9, (a1 : Int).toNat, none⟩ (.int .u8 a2))) ?hg ?ho ?hn ?hr ?_; (case ho => rfl); (case hg => rfl); (case hn => rfl); (case hr => first | (go_simp; done) | (go_simp; rfl)); intro w13 hw; have hg : w10.grownBy w13 (some go9) := (by rw [hw]; exact HP12.2); have hp_ : Kd.R (Kd.int .u8) 5 w13 w.heap.size (fun _ => True) (.slice (some ⟨go9, 0, none⟩) t109.length co11) y113 := (by rw [hw, Ny113.out]; exact HP12.1); clear HP12; have n0_ := Aside0.mk (hp_); have n1_ := Aside0.mk ((by rw [hw]; exact below_set (HB.out) GB9.out : Below w.heap.size w w13)); clear HO111; clear HB; have HO111 := n0_; have HB := n1_; clear n0_ n1_; clear hg hw hp_))
        go_ret2
        exact ⟨_, by first | rfl | (simp [errW_none, errW_some] <;> rfl) | (simp [*, errW_none, errW_some] <;> rfl), by (with_reducible repeat (first | apply Kd.R_alloc | apply Kd.R_drewN | apply Kd.R_drew)); exact HO111.out, by repeat (first | (with_reducible first | exact HB.out | apply below_alloc | apply pw_below_drewN | apply below_drew1) | exact HB.out)⟩
      · rw [if_neg c8] at H
        exact absurd H (by simp)
    · rw [if_neg c7] at H
      exact absurd H (by simp)
  · replace c6 := Bool.eq_false_iff.mpr c6
    subst c6
    have H1 : (some (t109, false)) = some (r1, r2) := by rw [if_neg (show ¬ (false = true) by decide)] at H; exact H
    clear H
    have H := H1
    clear H1
    simp only [Option.some.injEq, Prod.mk.injEq] at H
    obtain ⟨rfl, rfl⟩ := H
    go_enter Try.func17, Try.ntmps17
    go_wp2_with (first | ((with_reducible refine gate_callee (f := 23) rfl ?_); refine goesL_ (some 9) rfl rfl Try.func23 (by kernel_rfl) rfl #[.slice A0 l0.length c0] rfl (by (try simp only [List.map_toArray, List.map_cons, List.map_nil]); first | done | rfl | (simp only [List.length_drop, List.length_take]; rfl)) ?_; (with_reducible refine (slices_Clone_byte_byte.calls _ _ l0 t109 _ ?side1 ?side2 A4.out).mono ?_); (case side1 => repeat (first | exact HR0.out | (with_reducible refine Kd.C_alloc ?_ _) | (with_reducible refine Kd.C_drewN ?_ _) | (with_reducible refine Kd.C_drew ?_))); (case side2 => exact HC0.out); rintro e w14 ⟨v110, rfl, ho0, hb⟩; refine ⟨_, rfl, ?_⟩; have n0_ := Aside0.mk (Kd.R_lower ho0 (below_size (by repeat (first | (with_reducible first | exact HB.out | apply below_alloc | apply pw_below_drewN | apply below_drew1) | exact HB.out)))); have n1_ := Aside0.mk (below_step (by repeat (first | (with_reducible first | exact HB.out | apply below_alloc | apply pw_below_drewN | apply below_drew1) | exact HB.out)) hb); clear HB; have HO111 := n0_; have HB := n1_; clear n0_ n1_; (try clear hb); (try clear hb2); (try clear hk); (try clear hi); (try clear ho0); obtain ⟨Ao15, co15, eo15⟩ := Kd.R_slice HO111.out; subst eo15) | ((with_reducible refine gate_callee (f := 24) rfl ?_); refine goesL_ (some 12) rfl rfl Try.func24 (by kernel_rfl) rfl #[.slice Ao15 t109.length co15, .int .i64 a1, .int .i64 1] rfl (by (try simp only [List.map_toArray, List.map_cons, List.map_nil]); first | done | rfl | (simp only [List.length_drop, List.length_take]; rfl)) ?_; (with_reducible refine (mem_within.calls _ _ t109 a1 1 false _ ?side1 ?side2 A5.out).mono ?_); (case side1 => repeat (first | exact (Kd.R_reads' HO111.out).2.2 | (with_reducible refine Kd.C_alloc ?_ _) | (with_reducible refine Kd.C_drewN ?_ _) | (with_reducible refine Kd.C_drew ?_))); (case side2 => exact (Kd.R_reads' HO111.out).2.1); rintro e w' ⟨rfl, ⟨nd, rfl⟩⟩; refine ⟨_, rfl, ?_⟩))
    go_ret2
    exact ⟨_, by first | rfl | (simp [errW_none, errW_some] <;> rfl) | (simp [*, errW_none, errW_some] <;> rfl), by (with_reducible repeat (first | apply Kd.R_alloc | apply Kd.R_drewN | apply Kd.R_drew)); exact HO111.out, by repeat (first | (with_reducible first | exact HB.out | apply below_alloc | apply pw_below_drewN | apply below_drew1) | exact HB.out)⟩

end Go.Proofs.Ytjjfcpffbooboaa.PMemS
