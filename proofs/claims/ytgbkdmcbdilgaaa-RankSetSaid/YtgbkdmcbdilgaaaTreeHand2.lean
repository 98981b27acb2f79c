/- slices.Clone at a tree's levels by hand: the cells are copied. -/
import Derived.Test.YtgbkdmcbdilgaaaTreeHand1
namespace Go.Proofs.Ytgbkdmcbdilgaaa.PRankS
open Go.RowKit Go.Proofs.YtgbkdmcbdilgaaaW.PrintWords Go.Proofs.YtgbkdmcbdilgaaaW.PrintLast Go.Proofs.YtgbkdmcbdilgaaaW.PrintMore
set_option linter.unusedVariables false
set_option linter.unusedSimpArgs false

theorem tw_info38 : (Try.prog.info? 38).map (fun i => (i.zero, i.size, i.bytes)) = some (some (.slice none 0 0), 1, 24) := by kernel_rfl
theorem raw_own {w : World} {base : Nat} {v : Value} {vs : List Value} (h : Kd.R (Kd.raw 1) 38 w base (fun _ => True) v (vs.map fun x => [x])) : w.ownsRow base 38 1 v vs.length vs := by
  obtain ⟨_, inner, ho, hr⟩ := h
  have hlen : inner.length = vs.length := by have := hr.1; rw [List.length_map] at this; have h9 : inner.length = vs.length * 1 := this; omega
  have : inner = vs := by
    apply List.ext_getElem?
    intro j
    by_cases hj : j < vs.length
    · have h1 := hr.2 j [vs[j]] (by rw [List.getElem?_map, List.getElem?_eq_getElem hj]; rfl)
      have h2 : (inner.drop (j * 1)).take 1 = [vs[j]] := h1.1
      rw [Nat.mul_one] at h2
      have h3 : ((inner.drop j).take 1)[0]? = some vs[j] := by rw [h2]; rfl
      rw [List.getElem?_take, if_pos (by decide), List.getElem?_drop, Nat.add_zero] at h3
      rw [h3, List.getElem?_eq_getElem hj]
    · rw [List.getElem?_eq_none (by omega), List.getElem?_eq_none (by omega)]
  rw [List.length_map, this] at ho
  exact ho
theorem raw_of {w : World} {A : Option Addr} {lv : List (List Int)} (h : Kd.C (Kd.slice 53 (Kd.int .u64)) w A lv.length lv) : ∃ vs : List Value, vs.length = lv.length ∧ Kd.C (Kd.raw 1) w A vs.length (vs.map fun x => [x]) ∧ ∀ j, j < lv.length → ∃ Aj cj, vs[j]? = some (.slice Aj (lv.getD j []).length cj) ∧ (lv.getD j []).length ≤ cj ∧ Kd.C (Kd.int .u64) w Aj (lv.getD j []).length (lv.getD j []) := by
  obtain ⟨h1, h2, h3⟩ := h
  by_cases h0 : lv.length = 0
  · refine ⟨[], by rw [h0]; rfl, ⟨rfl, by simp, fun hc => absurd hc (by simp)⟩, fun j hj => by omega⟩
  · obtain ⟨ad, rfl, hc⟩ := h3 (by omega)
    have hch : ∀ j : Nat, ∃ v : Value, j < lv.length → (∃ Aj cj, v = .slice Aj (lv.getD j []).length cj ∧ (lv.getD j []).length ≤ cj ∧ Kd.C (Kd.int .u64) w Aj (lv.getD j []).length (lv.getD j [])) ∧ w.cell? (ad.add j) = some v := by
      intro j
      by_cases hj : j < lv.length
      · obtain ⟨c, hcl, hK, hcell⟩ := hc j _ (List.getElem?_eq_getElem hj)
        obtain ⟨Aj, cj, rfl, hle, hC⟩ := hK
        have he : lv.getD j [] = lv[j] := by rw [List.getD_eq_getElem?_getD, List.getElem?_eq_getElem hj]; rfl
        rw [he]
        refine ⟨_, fun _ => ⟨⟨Aj, cj, rfl, hle, hC⟩, ?_⟩⟩
        have := hcell 0 _ rfl
        rwa [show j * (Kd.slice 53 (Kd.int .u64)).sz + 0 = j from by show j * 1 + 0 = j; omega] at this
      · exact ⟨.bool false, fun hj2 => absurd hj2 hj⟩
    refine ⟨(List.range lv.length).map fun j => (hch j).choose, by rw [List.length_map, List.length_range], ⟨by rw [List.length_map], by rw [List.length_map, List.length_range]; omega, fun _ => ⟨ad, rfl, fun j p hp => ?_⟩⟩, fun j hj => ?_⟩
    · rw [List.getElem?_map, List.getElem?_map] at hp
      by_cases hj : j < lv.length
      · rw [List.getElem?_range hj] at hp
        obtain rfl := Option.some.inj hp
        obtain ⟨⟨Aj, cj, he, _, _⟩, hcl⟩ := (hch j).choose_spec hj
        refine ⟨_, rfl, ⟨rfl, rfl, fun u hu => by rw [List.mem_singleton.1 hu]; show (hch j).choose.oneCell' = true; rw [he]; rfl⟩, fun i u hu => ?_⟩
        cases i with
        | zero =>
          obtain rfl := Option.some.inj hu
          rw [show j * (Kd.raw 1).sz + 0 = j from by show j * 1 + 0 = j; omega]
          exact hcl
        | succ i => simp at hu
      · rw [List.getElem?_eq_none (by rw [List.length_range]; omega)] at hp
        cases hp
    · obtain ⟨⟨Aj, cj, he, hle, hC⟩, _⟩ := (hch j).choose_spec hj
      refine ⟨Aj, cj, ?_, hle, hC⟩
      rw [List.getElem?_map, List.getElem?_range hj, ← he]
      rfl
set_option maxHeartbeats 8000000 in
theorem clone48_calls (A0 : Option Addr) (c0 : Nat) (vs : List Value) (w : World) (hr0 : Kd.C (Kd.raw 1) w A0 vs.length (vs.map fun x => [x])) (hc0 : vs.length ≤ c0) (hm : vs.length < 1000000) :
    Calls Try.prog 48 #[.slice A0 vs.length c0] w fun e w' => ∃ v0_ : Value, e = .returned (v0_) ∧ w'.ownsRow w.heap.size 38 1 v0_ vs.length vs ∧ Below w.heap.size w w' := by
  have HR0 := Aside0.mk hr0
  have HC0 := Aside0.mk hc0
  have HM := Aside0.mk hm
  clear hr0 hc0 hm
  have HB := Aside0.mk (Below.refl w.heap.size w)
  rcases A0 with _ | ad0
  · have hl0 : vs = [] := by
      cases vs with
      | nil => rfl
      | cons x r =>
        obtain ⟨ad, e, _⟩ := HR0.out.2.2 (by simp)
        cases e
    subst hl0
    clear HR0 HC0 HM
    have hsp : ∀ W : World, (binOp .eql 25 (.slice none 0 c0) (.slice none 0 0)).run Try.prog W = .ok (.bool true) W := fun W => Lib.run_eql_slice_nil W 25 38 none 0 c0 0 0 Try.underlying25
    show Calls Try.prog 48 #[.slice none 0 c0] w _
    go_enter Try.func48, Try.ntmps48
    go_wp2
    go_ret
    exact ⟨_, rfl, World.ownsRow_nil _ _ _ _, HB.out⟩
  · have hsp : ∀ W : World, (binOp .eql 25 (.slice (some ad0) vs.length c0) (.slice none 0 0)).run Try.prog W = .ok (.bool false) W := fun W => Lib.run_eql_slice_nil W 25 38 (some ad0) vs.length c0 0 0 Try.underlying25
    go_enter Try.func48, Try.ntmps48
    go_wp2_with (first | ((with_reducible refine gate_dst (N := 5) rfl ?_); refine Kd.R_lit (Kd.raw 1) _ 38 ?hg (N := 5) ?hd (xs := ([] : List (List Value))) (inner := []) (ok := fun _ => True) (okp := fun _ => True) ?hr ?hp (fun _ hk => hk) trivial (Below.refl _ _) (Nat.le_refl _) (by simp) ?_; (case hd => rfl); (case hg => rfl); (case hr => first | (go_simp; done) | (go_simp; rfl)); (case hp => exact (Reps.none _ _)); intro v179 w3 ho4 hb hg_ hnew_; clear hg_ hnew_; have HO := Aside0.mk (Kd.R_lower ho4 (below_size HB.out)); have HB1 := Aside0.mk (below_step HB.out hb); clear hb ho4) | ((with_reducible refine gate_builtin (b := .append) (xs := #[.tmp 5, .tmp 6]) rfl ?_); at_builtin; refine Kd.R_append_rows (Kd.raw 1) (w0 := w) w.heap.size rfl (.tmp 5) (.tmp 6) 25 38 (.slice none 0 0) 24 rfl Try.underlying25 tw_info38 rfl (by decide) (by omega) v179 [] (vs.map fun x => [x]) _ _ _ (fun _ => True) (fun _ => False) rfl (by show Value.slice (some ad0) vs.length c0 = .slice (some ad0) (vs.map fun x => [x]).length c0; rw [List.length_map]) HO.out (by rw [List.length_map]; exact Kd.C_below HR0.out HB1.out) (fun _ _ h => h) (fun _ h => h.elim) (fun _ _ => trivial) HB1.out (below_size HB1.out) (by have := HM.out; rw [List.length_map]; simp; omega) ?_; intro v182 w5 ho hb hg hat; rw [List.nil_append] at ho; have HO5 := Aside0.mk (raw_own ho); have HB5 := Aside0.mk hb; clear ho hb hg hat))
    go_ret
    exact ⟨_, rfl, HO5.out, HB5.out⟩
end Go.Proofs.Ytgbkdmcbdilgaaa.PRankS
