/- tree.Set walked. -/
import Derived.Test.YtmookafmdonopaaGreatM07
/- tree.Set walked. -/
namespace Go.Proofs.YtmookafmdonopaaGreat.Top
open Go Go.RowKit
set_option linter.unusedVariables false
set_option linter.unusedSimpArgs false
attribute [local go_sem] max2_int min2_int max_two min_two max_three

def setB (b : Nat → Bool) (f n : Nat) (on : Bool) : Nat → Bool := fun i => if f ≤ i ∧ i < f + n then on else b i
/-- k words from lo on are anew -/
def lA (size : Nat) (b b' : Nat → Bool) (lo k : Nat) : List Nat := (List.range (nW size)).map fun j => if lo ≤ j ∧ j < lo + k then tw size b' j else tw size b j
theorem lA_len (size : Nat) (b b' : Nat → Bool) (lo k : Nat) : (lA size b b' lo k).length = nW size := by simp [lA]
theorem lA_at (size : Nat) (b b' : Nat → Bool) (lo k j : Nat) (h : j < nW size) : (lA size b b' lo k)[j]? = some (if lo ≤ j ∧ j < lo + k then tw size b' j else tw size b j) := by
 unfold lA; rw [List.getElem?_map, List.getElem?_range h]; rfl
theorem lA_0 (size : Nat) (b b' : Nat → Bool) (lo : Nat) : lA size b b' lo 0 = lv0 size b := by
 unfold lA lv0
 refine List.map_congr_left fun j _ => ?_
 rw [if_neg (by omega)]
theorem lA_succ (size : Nat) (b b' : Nat → Bool) (lo k : Nat) (h : lo + k < nW size) : lA size b b' lo (k + 1) = (lA size b b' lo k).set (lo + k) (tw size b' (lo + k)) := by
 apply List.ext_getElem?
 intro j
 by_cases e : lo + k = j
 · subst e
   rw [List.getElem?_set_self (by rw [lA_len]; exact h), lA_at _ _ _ _ _ _ h, if_pos (by omega)]
 · rw [List.getElem?_set_ne e]
   rcases Nat.lt_or_ge j (nW size) with hj | hj
   · rw [lA_at _ _ _ _ _ _ hj, lA_at _ _ _ _ _ _ hj]
     by_cases h2 : lo ≤ j ∧ j < lo + k
     · rw [if_pos (by omega), if_pos h2]
     · rw [if_neg (by omega), if_neg h2]
   · rw [List.getElem?_eq_none (by rw [lA_len]; exact hj), List.getElem?_eq_none (by rw [lA_len]; exact hj)]
theorem tw_out (size : Nat) (b : Nat → Bool) (f n : Nat) (on : Bool) (j : Nat) (h : j < f / 64 ∨ (f + n - 1) / 64 < j) (hn : 1 ≤ n) : tw size (setB b f n on) j = tw size b j := by
 refine wb_congr fun t ht => ?_
 unfold twF setB
 rw [if_neg (by omega)]
theorem lA_all (size : Nat) (b : Nat → Bool) (f n : Nat) (on : Bool) (hn : 1 ≤ n) : lA size b (setB b f n on) (f / 64) ((f + n - 1) / 64 + 1 - f / 64) = lv0 size (setB b f n on) := by
 unfold lA lv0
 refine List.map_congr_left fun j _ => ?_
 by_cases h : f / 64 ≤ j ∧ j < f / 64 + ((f + n - 1) / 64 + 1 - f / 64)
 · rw [if_pos h]
 · rw [if_neg h]
   have h2 : f / 64 ≤ (f + n - 1) / 64 := Nat.div_le_div_right (by omega)
   exact (tw_out size b f n on j (by omega) hn).symm
theorem word_step (size : Nat) (b : Nat → Bool) (f n : Nat) (on : Bool) (i fi cn : Nat) (h1 : fi = f - i * 64) (h2 : fi + cn = min (f + n - 1 - i * 64) 63 + 1) (h3 : i * 64 ≤ f + n - 1) (h4 : f < i * 64 + 64) (hn : 1 ≤ n) (hs : f + n ≤ size) :
 tw size (setB b f n on) i = wb (fun t => if on then (twF size b i t && !rng fi cn t) || rng fi cn t else twF size b i t && !rng fi cn t) := by
 refine wb_congr fun t ht => ?_
 unfold twF setB rng
 by_cases h : f ≤ i * 64 + t ∧ i * 64 + t < f + n
 · rw [if_pos h, decide_eq_true (show fi ≤ t by omega), decide_eq_true (show t < fi + cn by omega), decide_eq_false (show ¬ size ≤ i * 64 + t by omega)]
   cases on <;> simp
 · rw [if_neg h]
   by_cases h5 : fi ≤ t
   · rw [decide_eq_true h5, decide_eq_false (show ¬ t < fi + cn by omega)]
     cases on <;> simp
   · rw [decide_eq_false h5]
     cases on <;> simp
theorem sums_all (size : Nat) (b : Nat → Bool) (f n : Nat) (on : Bool) (hn : 1 ≤ n) (hs : f + n ≤ size) :
 wb (sumTo (lv0 size (setB b f n on)) (swF size b) (f / 64) ((f + n - 1) / 64 + 1 - f / 64)) = wb (swF size (setB b f n on)) := by
 refine wb_congr fun j hj => ?_
 have h2 : f / 64 ≤ (f + n - 1) / 64 := Nat.div_le_div_right (by omega)
 have h3 : nW size = (size - 1) / 64 + 1 := rfl
 unfold sumTo swF
 by_cases h : f / 64 ≤ j ∧ j < f / 64 + ((f + n - 1) / 64 + 1 - f / 64)
 · rw [if_pos h]
   have hjn : j < nW size := by omega
   rw [List.getD_eq_getElem?_getD, lv0_at size _ j hjn, decide_eq_false (show ¬ nW size ≤ j by omega), Bool.false_or]
   rfl
 · rw [if_neg h, tw_out size b f n on j (by omega) hn]
theorem TOwn.h0 {L : List (Nat × (Obj → Prop))} {R : World → Prop} {w0 w : World} {gh n ch : Nat} {l0 : List Nat} {r : List (List Nat)} (h : TOwn L R w0 w (.slice (some ⟨gh, 0, none⟩) n ch) (l0 :: r)) : n = r.length + 1 ∧ ∃ g c0, w.cell? ⟨gh, 0, none⟩ = some (.slice (some ⟨g, 0, none⟩) l0.length c0) := by
 obtain ⟨gh', ch', gs, hv, h2, h3, h4, h5⟩ := h
 injection hv with e1 e2 e3
 injection e1 with e1
 injection e1 with e1 _ _
 subst e1
 refine ⟨e2, ?_⟩
 obtain ⟨p, hp⟩ : ∃ p, gs[0]? = some p := ⟨gs[0]'(by rw [h3]; simp), List.getElem?_eq_getElem _⟩
 have z := h5.get List.mem_cons_self 0 (by cases gs with | nil => simp at hp | cons a t => simp [heads])
 rw [heads_at hp (show (l0 :: r)[0]? = some l0 from rfl)] at z
 exact ⟨_, _, z⟩
theorem TOwn.form {L : List (Nat × (Obj → Prop))} {R : World → Prop} {w0 w : World} {v : Value} {lv : List (List Nat)} (h : TOwn L R w0 w v lv) : ∃ gh ch, v = .slice (some ⟨gh, 0, none⟩) lv.length ch := by
 obtain ⟨gh', ch', gs, hv, _⟩ := h
 exact ⟨_, _, hv⟩
/-- the levels behind the first -/
def lvR (size : Nat) (b : Nat → Bool) : List (List Nat) := if size ≤ 64 then [] else [[wb (swF size b)]]
theorem lvs_eq (size : Nat) (b : Nat → Bool) : lvs size b = lv0 size b :: lvR size b := by unfold lvs lvR; split <;> rfl
theorem lvs_rows (size : Nat) (b : Nat → Bool) (h2 : size ≤ 65536) : 0 < (lvs size b).length ∧ (lvs size b).length ≤ 1000 ∧ ∀ l, l ∈ lvs size b → 0 < l.length ∧ l.length ≤ 1000000 := by
 have hn : nW size = (size - 1) / 64 + 1 := rfl
 unfold lvs
 split
 · refine ⟨by simp, by simp, fun l hl => ?_⟩
   rw [List.mem_singleton.1 hl, lv0_len]
   omega
 · refine ⟨by simp, by simp, fun l hl => ?_⟩
   rcases List.mem_cons.1 hl with e | hl
   · rw [e, lv0_len]; omega
   · rw [List.mem_singleton.1 hl]; simp
theorem tree_Set_no (size : Nat) (b : Nat → Bool) (A : Option Addr) (n c : Nat) (w : World) (h : Lev w (.slice A n c) (lvs size b)) (h2 : size ≤ 65536) :
 Calls Tryz.prog 117 #[.agg #[.int .i64 size, .slice A n c], .int .i64 0, .int .i64 0, .bool true] w fun e w' => ∃ v, e = .returned (.agg #[.int .i64 size, v]) ∧ LevF w.heap.size w' v (lvs size b) ∧ Below w.heap.size w w' := by
 obtain ⟨l1, l2, l3⟩ := lvs_rows size b h2
 have H := As.mk h
 have L3 := As.mk l3
 have HO := As.mk (((Own.start (X := []) w).box #[.int .i64 size, .slice A n c] 132).box #[.int .i64 0, .slice none 0 0] 132)
 clear h l3
 go_enter Tryz.func117, Tryz.ntmps117
 go_wp2_with fail
 refine (tree_twin (size : Int) A n c (lvs size b) _ (H.out.below HO.out.toBelow) l1 l2 L3.out).mono ?_
 rintro e w1 ⟨v, rfl, ht⟩
 have ht2 := TOwn.merge HO.out ht
 rw [World.size_alloc] at ht2
 obtain ⟨gh, ch, rfl⟩ := ht.form
 have z0 := ht2.getL (g := w.heap.size) (e := 132) (cs := [.int .i64 size, .slice A n c]) (by simp) 0 (by simp)
 have z1 := ht2.getL (g := w.heap.size) (e := 132) (cs := [.int .i64 size, .slice A n c]) (by simp) 1 (by simp)
 have ht3 := (ht2.setL 1 (g := w.heap.size) (e := 132) (cs := [.int .i64 size, .slice A n c]) rfl 0 (.int .i64 size) (by simp)).setL 1 (g := w.heap.size) (e := 132) (cs := [.int .i64 size, .slice A n c]) rfl 1 (.slice (some ⟨gh, 0, none⟩) (lvs size b).length ch) (by simp)
 simp only [zq6, zq5] at ht3
 have ht4 := (ht3.setL 0 (g := w.heap.size + 1) (e := 132) (cs := [.int .i64 0, .slice none 0 0]) rfl 0 (.int .i64 size) (by simp)).setL 0 (g := w.heap.size + 1) (e := 132) (cs := [.int .i64 size, .slice none 0 0]) rfl 1 (.slice (some ⟨gh, 0, none⟩) (lvs size b).length ch) (by simp)
 have y0 := (ht2.getL (g := w.heap.size + 1) (e := 132) (cs := [.int .i64 0, .slice none 0 0]) (by simp) 0 (by simp))
 have y1 := (ht2.getL (g := w.heap.size + 1) (e := 132) (cs := [.int .i64 0, .slice none 0 0]) (by simp) 1 (by simp))
 have x0 := y0.1
 have x1 := y1.1
 have x2 := y0.2
 have x3 := y1.2
 have x4 := z0.1
 have x5 := z1.1
 have x6 := z0.2
 have x7 := z1.2
 clear ht2 ht3 z0 z1 y0 y1 ht
 have HT := As.mk ht4
 clear ht4 HO H L3 l1 l2
 go_wp2
 refine bodyPost_ret (v := .agg #[.int .i64 size, .slice (some ⟨gh, 0, none⟩) (lvs size b).length ch]) (by simp [results, go_sem, *]) rfl ?_
 exact ⟨_, rfl, HT.out.levF, HT.out.rest.toBelow⟩
def LvK (size : Nat) (b b' : Nat → Bool) (lo k : Nat) : List (List Nat) := lA size b b' lo k :: lvR size b
theorem LvK_len (size : Nat) (b b' : Nat → Bool) (lo k : Nat) : (LvK size b b' lo k).length = (lvR size b).length + 1 := rfl
/-- what Set owns beside its tree -/
def SetL (h size : Nat) (V : Value) : List (Nat × (Obj → Prop)) := [(h + 1, EC 132 [.int .i64 0, .slice none 0 0]), (h, EC 132 [.int .i64 size, V])]
theorem setL_cells {w0 w : World} {h size : Nat} {V v : Value} {R : World → Prop} {lv : List (List Nat)} (H : TOwn (SetL h size V) R w0 w v lv) :
 w.cell? ⟨h, 0, none⟩ = some (.int .i64 size) ∧ w.cell? ⟨h, 1, none⟩ = some V :=
 ⟨(H.getL (g := h) (e := 132) (cs := [.int .i64 size, V]) (by simp [SetL]) 0 (by simp)).1, (H.getL (g := h) (e := 132) (cs := [.int .i64 size, V]) (by simp [SetL]) 1 (by simp)).1⟩
theorem h0_cell {L : List (Nat × (Obj → Prop))} {R : World → Prop} {w0 w : World} {gh n ch : Nat} {size : Nat} {b b' : Nat → Bool} {lo k : Nat} (h : TOwn L R w0 w (.slice (some ⟨gh, 0, none⟩) n ch) (LvK size b b' lo k)) : ∃ g c0, w.cell? ⟨gh, 0, none⟩ = some (.slice (some ⟨g, 0, none⟩) (nW size) c0) := by
 have z := TOwn.h0 h
 rw [lA_len] at z
 exact z.2
theorem tree_Set (size : Nat) (b : Nat → Bool) (A : Option Addr) (n c : Nat) (f m : Nat) (on : Bool) (w : World) (h : Lev w (.slice A n c) (lvs size b)) (h2 : size ≤ 4096) (hm : 1 ≤ m) (hs : f + m ≤ size) :
 Calls Tryz.prog 117 #[.agg #[.int .i64 size, .slice A n c], .int .i64 f, .int .i64 m, .bool on] w fun e w' => ∃ v, e = .returned (.agg #[.int .i64 size, v]) ∧ LevF w.heap.size w' v (lvs size (setB b f m on)) ∧ Below w.heap.size w w' := by
 obtain ⟨l1, l2, l3⟩ := lvs_rows size b (by omega)
 have H := As.mk h
 have L3 := As.mk l3
 have HO := As.mk (((Own.start (X := []) w).box #[.int .i64 size, .slice A n c] 132).box #[.int .i64 0, .slice none 0 0] 132)
 clear h l3
 go_enter Tryz.func117, Tryz.ntmps117
 go_wp2_with fail
 refine (tree_twin (size : Int) A n c (lvs size b) _ (H.out.below HO.out.toBelow) l1 l2 L3.out).mono ?_
 rintro e w1 ⟨v, rfl, ht⟩
 have ht2 := TOwn.merge HO.out ht
 rw [World.size_alloc] at ht2
 obtain ⟨gh, ch, rfl⟩ := ht.form
 have z0 := ht2.getL (g := w.heap.size) (e := 132) (cs := [.int .i64 size, .slice A n c]) (by simp) 0 (by simp)
 have z1 := ht2.getL (g := w.heap.size) (e := 132) (cs := [.int .i64 size, .slice A n c]) (by simp) 1 (by simp)
 have ht3 := (ht2.setL 1 (g := w.heap.size) (e := 132) (cs := [.int .i64 size, .slice A n c]) rfl 0 (.int .i64 size) (by simp)).setL 1 (g := w.heap.size) (e := 132) (cs := [.int .i64 size, .slice A n c]) rfl 1 (.slice (some ⟨gh, 0, none⟩) (lvs size b).length ch) (by simp)
 simp only [zq6, zq5] at ht3
 have ht4 : TOwn (SetL w.heap.size size (.slice (some ⟨gh, 0, none⟩) (lvs size b).length ch)) (fun _ => True) w ((w1.setCell ⟨w.heap.size, 0, none⟩ (.int .i64 size)).setCell ⟨w.heap.size, 1, none⟩ (.slice (some ⟨gh, 0, none⟩) (lvs size b).length ch)) (.slice (some ⟨gh, 0, none⟩) (lvs size b).length ch) (LvK size b (setB b f m on) (f / 64) 0) := by
  have e : LvK size b (setB b f m on) (f / 64) 0 = lvs size b := by unfold LvK; rw [lA_0, lvs_eq]
  rw [e]
  exact ht3.imp fun _ _ => trivial
 have x4 := z0.1
 have x5 := z1.1
 have x6 := z0.2
 have x7 := z1.2
 have en : (lvs size b).length = (lvR size b).length + 1 := by rw [lvs_eq]; rfl
 rw [en] at ht4 ⊢
 clear ht2 ht3 z0 z1 ht
 have HT := As.mk ht4
 clear ht4 HO H L3 l1 l2
 have EN := As.mk en
 clear en
 have c1 : ((f : Int) < 0) = False := eq_false (by omega)
 have c2 : ((m : Int) < 1) = False := eq_false (by omega)
 have c3 : (size ≤ f) = False := eq_false (by omega)
 have c4 : (((lvR size b).length : Int) + 1 == 0) = false := beqF (by omega)
 obtain ⟨hi, hhi⟩ : ∃ hi, hi = (f + m - 1) / 64 := ⟨_, rfl⟩
 obtain ⟨lo, hlo⟩ : ∃ lo, lo = f / 64 := ⟨_, rfl⟩
 rw [← hlo] at HT
 have d1 : (f : Int) / 64 = (lo : Int) := by omega
 have d2 : min (m : Int) ((size : Int) - (f : Int)) = (m : Int) := by omega
 have d3 : (f : Int) + (m : Int) - 1 = ((f + m - 1 : Nat) : Int) := by omega
 have d4 : ((f + m - 1 : Nat) : Int) / 64 = (hi : Int) := by omega
 obtain ⟨la, hla⟩ : ∃ la, la = f + m - 1 := ⟨_, rfl⟩
 rw [← hla] at d3 d4
 have nw : nW size = (size - 1) / 64 + 1 := rfl
 have hn : hi ≤ nW size - 1 := by omega
 have hlh : lo ≤ hi := by omega
 have d5 : min (hi : Int) ((nW size : Nat) - 1) = (hi : Int) := by omega
 have F := As.mk (And.intro hhi (And.intro hlo hla))
 have NW := As.mk nw
 have nw1 : nW size ≤ 64 := by omega
 have nw2 : 1 ≤ nW size := by omega
 have SG := As.mk (sums_all size b f m on hm hs)
 have LA := As.mk (lA_all size b f m on hm)
 rw [← hlo, ← hhi] at SG LA
 have rl : (lvR size b).length ≤ 1 := by unfold lvR; split <;> simp
 obtain ⟨r, hr⟩ : ∃ r, r = (lvR size b).length := ⟨_, rfl⟩
 rw [← hr] at rl
 have HR := As.mk hr
 rw [← hr] at c4 HT ⊢
 clear hr
 clear hhi hlo hla nw
 go_wp2_with fail
 go_loopw [10] (fun i wr => ∃ k : Nat, k ≤ hi + 1 - lo ∧ i = .int .i64 ((lo + k : Nat) : Int) ∧ TOwn (SetL w.heap.size size (.slice (some ⟨gh, 0, none⟩) (r + 1) ch)) (fun _ => True) w wr (.slice (some ⟨gh, 0, none⟩) (r + 1) ch) (LvK size b (setB b f m on) lo k)) (fun i _ => hi + 1 - (intOf i).toNat)
 case atStart => exact ⟨0, Nat.zero_le _, rfl, HT.out⟩
 case round =>
  clear HT x4 x5 x6 x7
  obtain ⟨k, hk, rfl, ht⟩ := hrel
  have HT := As.mk ht
  have z0 := (setL_cells ht).1
  have z1 := (setL_cells ht).2
  obtain ⟨g0, c0, z2⟩ := h0_cell ht
  clear ht
  obtain ⟨p, hp⟩ : ∃ p, p = lo + k := ⟨_, rfl⟩
  rw [← hp]
  by_cases hlt : p ≤ hi
  · have hpn : p < nW size := by omega
    obtain ⟨F1, F2, F3⟩ := F.out
    obtain ⟨fi, hfi⟩ : ∃ fi, fi = f - p * 64 := ⟨_, rfl⟩
    obtain ⟨cn, hcn⟩ : ∃ cn, cn = min (la - p * 64) 63 + 1 - fi := ⟨_, rfl⟩
    have e1 : max ((f : Int) - (p : Int) * 64) 0 = (fi : Int) := by omega
    have e2 : min ((la : Int) - (p : Int) * 64) 63 - (fi : Int) + 1 = (cn : Int) := by omega
    have hfi64 : fi < 64 := by omega
    have hcn1 : 1 ≤ cn := by omega
    have hcn2 : fi + cn ≤ 64 := by omega
    have WS := As.mk (word_step size b f m on p fi cn hfi (by omega) (by omega) (by omega) hm hs)
    have hat : atW (LvK size b (setB b f m on) lo k) 0 p = wb (twF size b p) := by
     show (lA size b (setB b f m on) lo k).getD p fullW = _
     rw [List.getD_eq_getElem?_getD, lA_at _ _ _ _ _ _ hpn, if_neg (by omega)]
     rfl
    have HA := As.mk (fun wx hL => hat ▸ tree_at_i size (some ⟨gh, 0, none⟩) (r + 1) ch (LvK size b (setB b f m on) lo k) 0 p 0 (p : Int) wx hL rfl rfl)
    have HPU := As.mk (fun u wx h => tree_put_i (SetL w.heap.size size (.slice (some ⟨gh, 0, none⟩) (r + 1) ch)) (fun _ => True) size (some ⟨gh, 0, none⟩) (r + 1) ch 0 p u 0 (p : Int) (LvK size b (setB b f m on) lo k) w wx h (by simp [LvK]) (by simp only [LvK, zq3, lA_len]; exact hpn) rfl rfl)
    have HSTEP := As.mk (show ∀ u, u = tw size (setB b f m on) p → (LvK size b (setB b f m on) lo k).set 0 ((lA size b (setB b f m on) lo k).set p u) = LvK size b (setB b f m on) lo (k + 1) by
     intro u hu
     unfold LvK
     rw [zq5, hu, lA_succ _ _ _ _ _ (by omega), ← hp])
    have F4 := As.mk (And.intro hp (And.intro hfi hcn))
    clear F1 F2 F3 hp hfi hcn hat
    go_wp2_with fail
    refine (word_Mask fi cn _ hfi64 hcn1 hcn2).mono ?_
    rintro e w2 ⟨rfl, rfl⟩
    go_wp2_with fail
    refine (HA.out _ HT.out.lev).mono ?_
    rintro e w2 ⟨rfl, hb⟩
    have HT1 := As.mk (HT.out.below hb)
    have y0 := (setL_cells HT1.out).1
    have y1 := (setL_cells HT1.out).2
    clear hb z0 z1 z2
    have ha := u64_andNot (twF size b p) (rng fi cn)
    have ho := u64_or (fun t => twF size b p t && !rng fi cn t) (rng fi cn)
    cases on with
    | true =>
     go_wp2_with fail
     refine (HPU.out _ _ HT1.out).mono ?_
     rintro e w3 ⟨rfl, ht⟩
     have HT2 := As.mk ht
     clear ht ha ho y0 y1
     go_wp2_with fail
     go_roundw
     case rel => exact ⟨k + 1, by have := F4.out; omega, by rw [F4.out.1]; go_num, by rw [← HSTEP.out _ WS.out.symm]; exact HT2.out⟩
     case measure => simp [intOf]; omega
    | false =>
     go_wp2_with fail
     refine (HPU.out _ _ HT1.out).mono ?_
     rintro e w3 ⟨rfl, ht⟩
     have HT2 := As.mk ht
     clear ht ha ho y0 y1
     go_wp2_with fail
     go_roundw
     case rel => exact ⟨k + 1, by have := F4.out; omega, by rw [F4.out.1]; go_num, by rw [← HSTEP.out _ WS.out.symm]; exact HT2.out⟩
     case measure => simp [intOf]; omega
  · have e : k = hi + 1 - lo := by omega
    have hgt : ((p : Int) ≤ (hi : Int)) = False := eq_false (by omega)
    have HT1 : As (TOwn (SetL w.heap.size size (.slice (some ⟨gh, 0, none⟩) (r + 1) ch)) (fun _ => True) w wr (.slice (some ⟨gh, 0, none⟩) (r + 1) ch) (lv0 size (setB b f m on) :: lvR size b)) := by
     have h9 := HT.out
     unfold LvK at h9
     rw [e, LA.out] at h9
     exact As.mk h9
    clear HT e hp
    go_wp2_with fail
    go_quiet (fail)
    have HT2 : As (TOwn (SetL w.heap.size size (.slice (some ⟨gh, 0, none⟩) (r + 1) ch)) (fun _ => True) w (wr.drewN nq) (.slice (some ⟨gh, 0, none⟩) (r + 1) ch) (lv0 size (setB b f m on) :: lvR size b)) := As.mk (HT1.out.below ⟨rfl, rfl, rfl, Nat.le_refl _, fun _ _ => rfl⟩)
    clear HT1 z0 z1 z2
    obtain ⟨wd, hwd⟩ : ∃ wd, wd = wr.drewN nq := ⟨_, rfl⟩
    rw [← hwd] at HT2 ⊢
    clear hwd hgt
    go_wp2_with fail
    go_loopw [14, 15, 16] (fun a b' i wr => ∃ q : Nat, q ≤ r ∧ i = .int .i64 ((1 + q : Nat) : Int) ∧ (∃ x y : Nat, x ≤ 64 ∧ y ≤ 64 ∧ a = .int .i64 x ∧ b' = .int .i64 y ∧ (q = 0 → x = lo ∧ y = hi)) ∧ TOwn (SetL w.heap.size size (.slice (some ⟨gh, 0, none⟩) (r + 1) ch)) (fun _ => True) w wr (.slice (some ⟨gh, 0, none⟩) (r + 1) ch) (lv0 size (setB b f m on) :: (if q = 0 then lvR size b else lvR size (setB b f m on)))) (fun _ _ i _ => r + 2 - (intOf i).toNat)
    case atStart => exact ⟨0, Nat.zero_le _, rfl, ⟨lo, hi, by omega, by omega, rfl, rfl, fun _ => ⟨rfl, rfl⟩⟩, by rw [if_pos rfl]; exact HT2.out⟩
    case round =>
     clear HT2
     obtain ⟨q, hq, rfl, ⟨x, y, hx, hy, rfl, rfl, hxy⟩, ht⟩ := hrel
     have z0 := (setL_cells ht).1
     have z1 := (setL_cells ht).2
     have HT := As.mk ht
     clear ht
     by_cases hqr : q < r
     · have hq0 : q = 0 := by omega
       subst hq0
       obtain ⟨rfl, rfl⟩ := hxy rfl
       have hnle : ¬ size ≤ 64 := by
        intro e
        have h9 := HR.out
        unfold lvR at h9
        rw [if_pos e] at h9
        have h10 : r = 0 := h9
        omega
       have HT1 : As (TOwn (SetL w.heap.size size (.slice (some ⟨gh, 0, none⟩) (r + 1) ch)) (fun _ => True) w wr (.slice (some ⟨gh, 0, none⟩) (r + 1) ch) [lv0 size (setB b f m on), [wb (swF size b)]]) := by
        have h9 := HT.out
        rw [if_pos rfl] at h9
        unfold lvR at h9
        rw [if_neg hnle] at h9
        exact As.mk h9
       have hle2 : lvR size (setB b f m on) = [[wb (swF size (setB b f m on))]] := by unfold lvR; rw [if_neg hnle]
       clear HT
       go_wp2_with fail
       refine (tree_sums _ _ (size : Int) _ (r + 1) ch (lv0 size (setB b f m on)) (swF size b) x y w wr HT1.out hlh (by rw [lv0_len]; omega) (by rw [lv0_len]; omega)).mono ?_
       rintro e w3 ⟨rfl, ht⟩
       rw [SG.out] at ht
       have HT2 := As.mk ht
       clear ht z0 z1 HT1
       have hx2 : x / 64 ≤ 64 := by omega
       have hy2 : y / 64 ≤ 64 := by omega
       go_wp2_with fail
       go_roundw
       case rel => exact ⟨1, by omega, rfl, ⟨x / 64, y / 64, hx2, hy2, rfl, rfl, fun h => absurd h (by decide)⟩, by rw [if_neg (by decide), hle2]; exact HT2.out⟩
       case measure => simp [intOf] <;> omega
     · have hqe : q = r := by omega
       subst hqe
       have hfin : (if q = 0 then lvR size b else lvR size (setB b f m on)) = lvR size (setB b f m on) := by
        split
        · rename_i h0
          have h9 := HR.out
          rw [h0] at h9
          have e : size ≤ 64 := by
           refine Decidable.byContradiction fun e => ?_
           unfold lvR at h9
           rw [if_neg e] at h9
           cases h9
          unfold lvR
          rw [if_pos e, if_pos e]
        · rfl
       have ht := HT.out
       rw [hfin, ← lvs_eq] at ht
       have ht4 := (ht.setL 0 (g := w.heap.size + 1) (e := 132) (cs := [.int .i64 0, .slice none 0 0]) rfl 0 (.int .i64 size) (by simp)).setL 0 (g := w.heap.size + 1) (e := 132) (cs := [.int .i64 size, .slice none 0 0]) rfl 1 (.slice (some ⟨gh, 0, none⟩) (q + 1) ch) (by simp)
       have x0 := (ht.getL (g := w.heap.size + 1) (e := 132) (cs := [.int .i64 0, .slice none 0 0]) (by simp [SetL]) 0 (by simp)).1
       have x1 := (ht.getL (g := w.heap.size + 1) (e := 132) (cs := [.int .i64 0, .slice none 0 0]) (by simp [SetL]) 1 (by simp)).1
       have x2 := (ht.getL (g := w.heap.size + 1) (e := 132) (cs := [.int .i64 0, .slice none 0 0]) (by simp [SetL]) 0 (by simp)).2
       have x3 := (ht.getL (g := w.heap.size + 1) (e := 132) (cs := [.int .i64 0, .slice none 0 0]) (by simp [SetL]) 1 (by simp)).2
       have HT1 := As.mk ht4
       clear ht4 ht HT
       have hgt : ¬ ((1 + q : Nat) : Int) < ((q + 1 : Nat) : Int) := by omega
       go_wp2
       refine bodyPost_ret (v := .agg #[.int .i64 size, .slice (some ⟨gh, 0, none⟩) (q + 1) ch]) (by simp [results, go_sem, *]) rfl ?_
       exact ⟨_, rfl, HT1.out.levF, HT1.out.rest.toBelow⟩
end Go.Proofs.YtmookafmdonopaaGreat.Top
/- tree.FirstZero walked, from 0. -/
namespace Go.Proofs.YtmookafmdonopaaGreat.Top
open Go Go.RowKit
set_option linter.unusedVariables false
set_option linter.unusedSimpArgs false
attribute [local go_sem] max2_int min2_int max_two min_two max_three

/-- the first bit that is not set -/
def FZ (size : Nat) (b : Nat → Bool) (v : Int) (ok : Bool) : Prop :=
 (ok = true ∧ ∃ i : Nat, v = (i : Int) ∧ i < size ∧ b i = false ∧ ∀ j, j < i → b j = true) ∨ (ok = false ∧ ∀ j, j < size → b j = true)
theorem full_bits (size : Nat) (b : Nat → Bool) (s : Nat) (h : tw size b s = fullW) : ∀ t, t < 64 → twF size b s t = true := by
 intro t ht
 have e : wb (twF size b s) = wb (fun _ => true) := by rw [wb_full]; exact h
 exact wb_inj e t ht
theorem full_low {f : Nat → Bool} (h : low (fun t => !f t) = 64) : ∀ t, t < 64 → f t = true := by
 intro t ht
 have h2 := (low_spec (fun t => !f t)).2.1 t (by omega)
 simpa using h2
theorem not_full {size : Nat} {b : Nat → Bool} {s : Nat} (h : tw size b s ≠ fullW) : low (fun t => !twF size b s t) < 64 := by
 have h1 := (low_spec (fun t => !twF size b s t)).1
 refine Decidable.byContradiction fun hn => h ?_
 have h2 := full_low (f := twF size b s) (by omega)
 have e : tw size b s = wb (fun _ => true) := wb_congr h2
 rw [e, wb_full]
 rfl
theorem FZ_word {size : Nat} {b : Nat → Bool} {y x : Nat} (hx : x = low (fun t => !twF size b y t)) (h64 : x < 64) (hb : ∀ s, s < y → ∀ t, t < 64 → twF size b s t = true) : y * 64 + x < size ∧ FZ size b ((y * 64 + x : Nat) : Int) true := by
 obtain ⟨-, l2, l3⟩ := low_spec (fun t => !twF size b y t)
 rw [← hx] at l2 l3
 have l4 := l3 h64
 unfold twF at l4
 have e1 : y * 64 + x < size := by
  refine Decidable.byContradiction fun hn => ?_
  rw [decide_eq_true (by omega)] at l4
  simp at l4
 rw [decide_eq_false (by omega)] at l4
 refine ⟨e1, Or.inl ⟨rfl, _, rfl, e1, by simpa using l4, fun j hj => ?_⟩⟩
 by_cases hy : j / 64 < y
 · have h9 := hb (j / 64) hy (j % 64) (by omega)
   unfold twF at h9
   rw [show j / 64 * 64 + j % 64 = j by omega, decide_eq_false (by omega)] at h9
   simpa using h9
 · have h9 := l2 (j % 64) (by omega)
   unfold twF at h9
   rw [show y * 64 + j % 64 = j by omega, decide_eq_false (by omega)] at h9
   simpa using h9
theorem FZ_all {size : Nat} {b : Nat → Bool} {v : Int} (hb : ∀ s, s < nW size → ∀ t, t < 64 → twF size b s t = true) : FZ size b v false := by
 refine Or.inr ⟨rfl, fun j hj => ?_⟩
 have hn : nW size = (size - 1) / 64 + 1 := rfl
 have h9 := hb (j / 64) (by omega) (j % 64) (by omega)
 unfold twF at h9
 rw [show j / 64 * 64 + j % 64 = j by omega, decide_eq_false (by omega)] at h9
 simpa using h9
/-- the second level, the first word left out -/
def swG (size : Nat) (b : Nat → Bool) : Nat → Bool := fun t => swF size b t || rng 0 1 t
theorem swG_spec {size : Nat} {b : Nat → Bool} {y : Nat} (hy : y = low (fun t => !swG size b t)) (h0 : ∀ t, t < 64 → twF size b 0 t = true) (hs : size ≤ 4096) :
 (y < 64 → y < nW size ∧ tw size b y ≠ fullW ∧ ∀ s, s < y → ∀ t, t < 64 → twF size b s t = true) ∧ (¬ y < 64 → ∀ s, s < nW size → ∀ t, t < 64 → twF size b s t = true) := by
 have hn : nW size = (size - 1) / 64 + 1 := rfl
 obtain ⟨l1, l2, l3⟩ := low_spec (fun t => !swG size b t)
 rw [← hy] at l1 l2 l3
 have key : ∀ s, s < y → s < nW size → ∀ t, t < 64 → twF size b s t = true := by
  intro s hs1 hs2
  have h9 := l2 s hs1
  unfold swG swF rng at h9
  by_cases h00 : s = 0
  · subst h00; exact h0
  · rw [decide_eq_false (show ¬ nW size ≤ s by omega), decide_eq_false (show ¬ s < 0 + 1 by omega)] at h9
    refine full_bits size b s ?_
    simpa using h9
 refine ⟨fun h => ?_, fun h s hs1 => key s (by omega) hs1⟩
 have h9 := l3 h
 unfold swG swF rng at h9
 have e1 : y < nW size := by
  refine Decidable.byContradiction fun hne => ?_
  rw [decide_eq_true (show nW size ≤ y by omega)] at h9
  simp at h9
 rw [decide_eq_false (show ¬ nW size ≤ y by omega)] at h9
 refine ⟨e1, fun e => ?_, fun s hs1 => key s hs1 (by omega)⟩
 rw [decide_eq_true e] at h9
 simp at h9
theorem or_0 (f : Nat → Bool) : Go.bits .or .u64 (wb f : Int) 0 = (wb f : Int) := by
 have h := u64_or f (fun _ => false)
 have e : wb (fun _ => false) = 0 := by decide +kernel
 rw [e] at h
 simpa using h
def FZr (size : Nat) (b : Nat → Bool) (e : Ending) : Prop := ∃ v ok, e = .returned (.tuple #[.int .i64 v, .bool ok]) ∧ FZ size b v ok
set_option maxHeartbeats 1000000 in
theorem tree_FirstZero (size : Nat) (b : Nat → Bool) (A : Option Addr) (n c : Nat) (w : World) (h : Lev w (.slice A n c) (lvs size b)) (h1 : 1 ≤ size) (h2 : size ≤ 4096) :
 Calls Tryz.prog 119 #[.agg #[.int .i64 size, .slice A n c], .int .i64 0] w fun e w' => FZr size b e ∧ Below w.heap.size w w' := by
 have hn := h.len
 have hn2 : n = if size ≤ 64 then 1 else 2 := by rw [hn]; unfold lvs; split <;> rfl
 have H := As.mk h
 have HN := As.mk hn2
 have n1 : 1 ≤ n := by rw [hn2]; split <;> omega
 have HO := As.mk ((Own.start (X := []) w).box #[.int .i64 size, .slice A n c] 132)
 have nw : nW size = (size - 1) / 64 + 1 := rfl
 have nw1 : nW size ≤ 64 := by omega
 have nw2 : 1 ≤ nW size := by omega
 have NW := As.mk nw
 have HN0 := As.mk hn
 clear h nw hn2 hn
 have s0 : (size ≤ 0) = False := eq_false (by omega)
 have m0 : (0 : Int) % 64 = 0 := by omega
 have m1 : (1 : Int) % 64 = 1 := by omega
 have m2 : (0 : Int) / 64 = 0 := by omega
 have m3 : (1 : Int) / 64 = 0 := by omega
 go_enter Tryz.func119, Tryz.ntmps119
 go_wp2_with fail
 go_loopw [6, 7] (fun k a wr => ∃ q : Nat, q ≤ 2 ∧ k = .int .i64 (q : Int) ∧ a = .int .i64 (if q = 0 then 0 else 1) ∧ (1 ≤ q → ∀ t, t < 64 → twF size b 0 t = true) ∧ (2 ≤ q → ∀ s, s < nW size → ∀ t, t < 64 → twF size b s t = true) ∧ Own [] [(w.heap.size, EC 132 [.int .i64 size, .slice A n c])] (fun _ => True) w wr) (fun k _ _ => 3 - (intOf k).toNat)
 case atStart => exact ⟨0, by omega, rfl, rfl, fun h => absurd h (by omega), fun h => absurd h (by omega), HO.out⟩
 case round =>
  clear HO
  obtain ⟨q, hq, rfl, rfl, hq1, hq2, ho⟩ := hrel
  have z0 := ho.get (g := w.heap.size) (e := 132) (cs := [.int .i64 size, .slice A n c]) (by simp) 0 (by simp)
  have z1 := ho.get (g := w.heap.size) (e := 132) (cs := [.int .i64 size, .slice A n c]) (by simp) 1 (by simp)
  have HO := As.mk ho
  have Q1 := As.mk hq1
  have Q2 := As.mk hq2
  clear ho hq1 hq2
  rcases Nat.lt_or_ge q n with hqn | hqn
  · have hq3 : q = 0 ∨ q = 1 := by have := HN.out; split at this <;> omega
    rcases hq3 with rfl | rfl
    · obtain ⟨bb, oo, A2, c2, rfl, hc, -⟩ := (H.out.below HO.out.toBelow).at_ 0 (by have := HN0.out; omega)
      have e0 : (lvs size b)[0]'(by have := HN0.out; omega) = lv0 size b := by simp only [lvs_eq]; rfl
      rw [e0, lv0_len, Nat.add_zero] at hc
      have hat := lvs_at0 size b 0 (by omega)
      have HA := As.mk (fun wx hL => hat ▸ tree_at_i size (some ⟨bb, oo, none⟩) n c (lvs size b) 0 0 0 0 wx hL rfl rfl)
      have ho := or_0 (twF size b 0)
      have et : tw size b 0 = wb (twF size b 0) := rfl
      have HLZ := As.mk (fun w => word_LowZero (twF size b 0) w)
      rw [et] at HA
      obtain ⟨u, hu⟩ : ∃ u, u = wb (twF size b 0) := ⟨_, rfl⟩
      rw [← hu] at ho HA HLZ
      have hz := (low_spec (fun t => !twF size b 0 t)).1
      obtain ⟨z, hze⟩ : ∃ z, z = low (fun t => !twF size b 0 t) := ⟨_, rfl⟩
      rw [← hze] at hz HLZ
      have ZE := As.mk hze
      clear hat et hu e0 hze
      by_cases h64 : z < 64
      · have hZ := FZ_word ZE.out h64 (fun s hs => absurd hs (by omega))
        have hzs : z < size := by have := hZ.1; omega
        have HZ := As.mk hZ.2
        clear hZ
        go_wp2_with fail
        refine (HA.out _ (H.out.below HO.out.toBelow)).mono ?_
        rintro e w1 ⟨rfl, hb⟩
        have HO1 := As.mk (HO.out.below hb)
        have y0 := HO1.out.get (g := w.heap.size) (e := 132) (cs := [.int .i64 size, .slice (some ⟨bb, oo, none⟩) n c]) (by simp) 0 (by simp)
        have y1 := HO1.out.get (g := w.heap.size) (e := 132) (cs := [.int .i64 size, .slice (some ⟨bb, oo, none⟩) n c]) (by simp) 1 (by simp)
        clear hb z0 z1 hc
        go_wp2_with fail
        refine (word_Mask_0 0 _ (by decide)).mono ?_
        rintro e w2 ⟨rfl, rfl⟩
        go_wp2_with fail
        refine (HLZ.out _).mono ?_
        rintro e w3 ⟨rfl, rfl⟩
        go_wp2_with fail
        clear HA HLZ HO
        go_loopw [6, 7] (fun k a wr => k = .int .i64 0 ∧ a = .int .i64 z ∧ Own [] [(w.heap.size, EC 132 [.int .i64 size, .slice (some ⟨bb, oo, none⟩) n c])] (fun _ => True) w wr) (fun k _ _ => 0)
        case atStart => exact ⟨rfl, rfl, HO1.out⟩
        case round =>
         clear HO1 y0 y1
         obtain ⟨rfl, rfl, ho1⟩ := hrel
         have y0 := ho1.get (g := w.heap.size) (e := 132) (cs := [.int .i64 size, .slice (some ⟨bb, oo, none⟩) n c]) (by simp) 0 (by simp)
         have HO1 := As.mk ho1
         clear ho1
         go_wp2_with fail
         go_quiet (fail)
         go_wp2_with fail
         refine bodyPost_ret (v := .tuple #[.int .i64 z, .bool true]) (by simp [results, Tryz.f119, go_sem]) rfl ⟨⟨_, _, rfl, ?_⟩, (HO1.out.drewN _).toBelow⟩
         have e : ((0 * 64 + z : Nat) : Int) = (z : Int) := by omega
         rw [← e]
         exact HZ.out
      · have h64' : z = 64 := by omega
        subst h64'
        go_wp2_with fail
        refine (HA.out _ (H.out.below HO.out.toBelow)).mono ?_
        rintro e w1 ⟨rfl, hb⟩
        have HO1 := As.mk (HO.out.below hb)
        clear hb z0 z1 hc
        go_wp2_with fail
        refine (word_Mask_0 0 _ (by decide)).mono ?_
        rintro e w2 ⟨rfl, rfl⟩
        go_wp2_with fail
        refine (HLZ.out _).mono ?_
        rintro e w3 ⟨rfl, rfl⟩
        go_wp2_with fail
        go_roundw
        case rel => exact ⟨1, by omega, rfl, rfl, fun _ => full_low ZE.out.symm, fun h => absurd h (by omega), HO1.out⟩
        case measure => simp [intOf]
    · have hs64 : ¬ size ≤ 64 := by intro e; have := HN.out; rw [if_pos e] at this; omega
      have e9 : lvs size b = [lv0 size b, [wb (swF size b)]] := by unfold lvs; rw [if_neg hs64]
      obtain ⟨bb, oo, A2, c2, rfl, hc, -⟩ := (H.out.below HO.out.toBelow).at_ 1 (by have := HN0.out; omega)
      have e0 : (lvs size b)[1]'(by have := HN0.out; omega) = [wb (swF size b)] := by simp only [e9]; rfl
      rw [e0] at hc
      have hc2 := hc
      replace hc2 : wr.cell? ⟨bb, oo + 1, none⟩ = some (.slice A2 1 c2) := hc2
      have hat : atW (lvs size b) 1 0 = wb (swF size b) := by rw [e9]; rfl
      have HA := As.mk (fun wx hL => hat ▸ tree_at_i size (some ⟨bb, oo, none⟩) n c (lvs size b) 1 0 1 0 wx hL rfl rfl)
      have ho := u64_or (swF size b) (rng 0 1)
      have eg : wb (fun t => swF size b t || rng 0 1 t) = wb (swG size b) := rfl
      rw [eg] at ho
      have HLZ := As.mk (fun w => word_LowZero (swG size b) w)
      obtain ⟨u, hu⟩ : ∃ u, u = wb (swF size b) := ⟨_, rfl⟩
      rw [← hu] at ho HA
      obtain ⟨u2, hu2⟩ : ∃ u2, u2 = wb (swG size b) := ⟨_, rfl⟩
      rw [← hu2] at ho HLZ
      have hz := (low_spec (fun t => !swG size b t)).1
      obtain ⟨z, hze⟩ : ∃ z, z = low (fun t => !swG size b t) := ⟨_, rfl⟩
      rw [← hze] at hz HLZ
      obtain ⟨g1, g2⟩ := swG_spec hze (Q1.out (by omega)) h2
      have G1 := As.mk g1
      have G2 := As.mk g2
      clear hat hu e0 hze hc eg g1 g2 hu2
      by_cases h64 : z < 64
      · go_wp2_with fail
        obtain ⟨k1, k2, k3⟩ := G1.out h64
        have hx := not_full k2
        obtain ⟨x, hxe⟩ : ∃ x, x = low (fun t => !twF size b z t) := ⟨_, rfl⟩
        have hZ := FZ_word hxe (by rw [hxe]; exact hx) k3
        have hat2 := lvs_at0 size b z k1
        have HA2 := As.mk (fun wx hL => hat2 ▸ tree_at_i size (some ⟨bb, oo, none⟩) n c (lvs size b) 0 z 0 (z : Int) wx hL rfl rfl)
        have et : tw size b z = wb (twF size b z) := rfl
        have HLZ2 := As.mk (fun w => word_LowZero (twF size b z) w)
        rw [et] at HA2
        obtain ⟨u3, hu3⟩ : ∃ u3, u3 = wb (twF size b z) := ⟨_, rfl⟩
        rw [← hu3] at HA2 HLZ2
        rw [← hxe] at HLZ2 hx
        have HZ := As.mk hZ.2
        have hzx : ((z : Int) * 64 + (x : Int) < (size : Int)) = True := eq_true (by have := hZ.1; omega)
        have h64i : decide ((z : Int) < 64) = true := decide_eq_true (by omega)
        clear hat2 et hu3 hxe hZ k2 k3
        refine (HA.out _ (H.out.below HO.out.toBelow)).mono ?_
        rintro e w1 ⟨rfl, hb⟩
        have HO1 := As.mk (HO.out.below hb)
        clear hb z0 z1 hc2
        go_wp2_with fail
        refine (word_Mask 0 1 _ (by decide) (by decide) (by decide)).mono ?_
        rintro e w2 ⟨rfl, rfl⟩
        go_wp2_with fail
        refine (HLZ.out _).mono ?_
        rintro e w3 ⟨rfl, rfl⟩
        clear HA HLZ HO
        go_wp2_with fail
        go_loopw [6, 7] (fun k a wr => ∃ q : Nat, q ≤ 1 ∧ k = .int .i64 q ∧ a = .int .i64 (if q = 1 then (z : Int) else (z : Int) * 64 + (x : Int)) ∧ Own [] [(w.heap.size, EC 132 [.int .i64 size, .slice (some ⟨bb, oo, none⟩) n c])] (fun _ => True) w wr) (fun k _ _ => (intOf k).toNat)
        case atStart => exact ⟨1, Nat.le_refl _, rfl, rfl, HO1.out⟩
        case round =>
         clear HO1
         obtain ⟨q, hq, rfl, rfl, ho1⟩ := hrel
         have y0 := ho1.get (g := w.heap.size) (e := 132) (cs := [.int .i64 size, .slice (some ⟨bb, oo, none⟩) n c]) (by simp) 0 (by simp)
         have y1 := ho1.get (g := w.heap.size) (e := 132) (cs := [.int .i64 size, .slice (some ⟨bb, oo, none⟩) n c]) (by simp) 1 (by simp)
         have HO1 := As.mk ho1
         clear ho1
         have hq3 : q = 1 ∨ q = 0 := by omega
         rcases hq3 with rfl | rfl
         · go_wp2_with fail
           refine (HA2.out _ (H.out.below HO1.out.toBelow)).mono ?_
           rintro e w1 ⟨rfl, hb⟩
           have HO2 := As.mk (HO1.out.below hb)
           clear hb y0 y1
           go_wp2_with fail
           refine (HLZ2.out _).mono ?_
           rintro e w3 ⟨rfl, rfl⟩
           go_wp2_with fail
           go_roundw
           case rel => exact ⟨0, by omega, rfl, rfl, HO2.out⟩
           case measure => simp [intOf]
         · go_wp2_with fail
           go_quiet (fail)
           go_wp2_with fail
           refine bodyPost_ret (v := .tuple #[.int .i64 ((z : Int) * 64 + (x : Int)), .bool true]) (by simp [results, Tryz.f119, go_sem]) rfl ⟨⟨_, _, rfl, ?_⟩, (HO1.out.drewN _).toBelow⟩
           have e : ((z * 64 + x : Nat) : Int) = (z : Int) * 64 + (x : Int) := by omega
           rw [← e]
           exact HZ.out
      · have h64' : z = 64 := by omega
        subst h64'
        go_wp2_with fail
        refine (HA.out _ (H.out.below HO.out.toBelow)).mono ?_
        rintro e w1 ⟨rfl, hb⟩
        have HO1 := As.mk (HO.out.below hb)
        clear hb z0 z1 hc2
        go_wp2_with fail
        refine (word_Mask 0 1 _ (by decide) (by decide) (by decide)).mono ?_
        rintro e w2 ⟨rfl, rfl⟩
        go_wp2_with fail
        refine (HLZ.out _).mono ?_
        rintro e w3 ⟨rfl, rfl⟩
        go_wp2_with fail
        go_roundw
        case rel => exact ⟨2, by omega, rfl, rfl, fun _ => Q1.out (by omega), fun h => G2.out (by omega), HO1.out⟩
        case measure => simp [intOf]
  · have q0 : 1 ≤ q := by omega
    have hall : ∀ s, s < nW size → ∀ t, t < 64 → twF size b s t = true := by
     by_cases hq2 : 2 ≤ q
     · exact Q2.out hq2
     · intro s hs
       have h8 := HN.out
       have h9 := NW.out
       split at h8
       · have e : s = 0 := by omega
         subst e
         exact Q1.out q0
       · omega
    have HF := As.mk (FZ_all (v := 0) hall)
    clear hall
    go_wp2_with fail
    exact bodyPost_ret (v := .tuple #[.int .i64 0, .bool false]) (by simp [results, Tryz.f119, go_sem]) rfl ⟨⟨_, _, rfl, HF.out⟩, HO.out.toBelow⟩
end Go.Proofs.YtmookafmdonopaaGreat.Top
