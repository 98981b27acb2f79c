/- (*heap.Heap).pages walked. -/
import Derived.Test.YtmookafmdonopaaGreatM13
/- (*heap.Heap).pages walked. -/
namespace Go.Proofs.YtmookafmdonopaaGreat.Top
open Go Go.RowKit
set_option linter.unusedVariables false
set_option linter.unusedSimpArgs false
attribute [local go_sem] max2_int min2_int max_two min_two max_three

/-- which pages are met -/
def metB (met : List Nat) : List Bool := met.map fun m => decide (0 < m)
/-- the first k of them told, the others no -/
def metTo (met : List Nat) (k : Nat) : List Value := ((metB met).map Value.bool).take k ++ List.replicate (met.length - k) (.bool false)
theorem metTo_0 (met : List Nat) : metTo met 0 = List.replicate met.length (.bool false) := by simp [metTo]
theorem metTo_len (met : List Nat) (k : Nat) (h : k ≤ met.length) : (metTo met k).length = met.length := by simp [metTo, metB]; omega
theorem metTo_all (met : List Nat) : metTo met met.length = (metB met).map Value.bool := by
  unfold metTo
  rw [Nat.sub_self, List.take_of_length_le (by simp [metB])]
  simp
theorem metTo_succ (met : List Nat) (k m : Nat) (h : met[k]? = some m) : (metTo met k).set k (.bool (decide (0 < m))) = metTo met (k + 1) := by
  have hk := (List.getElem?_eq_some_iff.1 h).1
  apply List.ext_getElem?
  intro j
  by_cases e : k = j
  · subst e
    rw [List.getElem?_set_self (by rw [metTo_len met k (by omega)]; exact hk)]
    unfold metTo
    rw [List.getElem?_append_left (by simp [metB]; omega), List.getElem?_take, if_pos (by omega)]
    simp [metB, h]
  · rw [List.getElem?_set_ne e]
    unfold metTo
    rcases Nat.lt_or_ge j k with h1 | h1
    · rw [List.getElem?_append_left (by simp [metB]; omega), List.getElem?_append_left (by simp [metB]; omega), List.getElem?_take, List.getElem?_take, if_pos h1, if_pos (by omega)]
    · rw [List.getElem?_append_right (by simp [metB]; omega), List.getElem?_append_right (by simp [metB]; omega)]
      have e1 : (List.take k ((metB met).map Value.bool)).length = k := by simp [metB]; omega
      have e2 : (List.take (k + 1) ((metB met).map Value.bool)).length = k + 1 := by simp [metB]; omega
      rw [e1, e2, List.getElem?_replicate, List.getElem?_replicate]
      by_cases h2 : j < met.length
      · rw [if_pos (by omega), if_pos (by omega)]
      · rw [if_neg (by omega), if_neg (by omega)]
theorem natsV_at (l : List Nat) (k m : Nat) (h : l[k]? = some m) : (natsV l)[k]? = some (.int .i64 (m : Int)) := by simp [natsV, h]
set_option maxHeartbeats 1000000 in
theorem heap_pages (h : Nat) (A : Option Addr) (c : Nat) (met : List Nat) (w : World) (hc : w.cell? ⟨h, 15, none⟩ = some (.slice A met.length c)) (hr : Row w (.slice A met.length c) met.length (natsV met)) (hl : met.length ≤ 100000) :
    Calls Tryz.prog 43 #[.pointer (some ⟨h, 0, none⟩)] w fun e w' => ∃ v, e = .returned v ∧ Fr w.heap.size w' 4 v met.length ((metB met).map Value.bool) ∧ Below w.heap.size w w' := by
  have HR := As.mk hr
  have HC := As.mk hc
  have HS := As.mk (Own.start (X := []) w)
  obtain ⟨n, hn⟩ : ∃ n, n = met.length := ⟨_, rfl⟩
  have HN := As.mk hn
  rw [← hn] at HR HC hl hc ⊢
  have M0 := As.mk (metTo_0 met)
  rw [← hn] at M0
  clear hr hn
  go_enter Tryz.func43, Tryz.ntmps43
  go_wp2_with (first | (at_make; refine go_make rfl _ _ 56 4 (.bool false) 1 rfl Tryz.underlying56 info4 rfl _ _ _ _ n rfl rfl (by first | rfl | omega) (by first | rfl | omega) (by omega) (by simp only [maxLen]; omega) HS.out ?_; intro w1 ho hb; have z0 := cell_below hb HC.out; have HO := As.mk ho; clear ho hb))
  go_loopw [17] (fun i wr => ∃ k : Nat, k ≤ n ∧ i = .int .i64 (k : Int) ∧ Own [] [(w.heap.size, EC 4 (metTo met k))] (fun _ => True) w wr) (fun i _ => n - (intOf i).toNat)
  case atStart => exact ⟨0, Nat.zero_le _, rfl, by rw [M0.out]; exact HO.out⟩
  case round =>
    clear HO z0 hc
    obtain ⟨k, hk, rfl, ho⟩ := hrel
    have HO := As.mk ho
    have hln := metTo_len met k (by have := HN.out; omega)
    by_cases hkn : k < n
    · obtain ⟨m, hm⟩ : ∃ m, met[k]? = some m := ⟨met[k]'(by have := HN.out; omega), List.getElem?_eq_getElem _⟩
      obtain ⟨b, o, rfl, hnc, hcell⟩ := HR.out.cell (by have := HN.out; simp [natsV]; omega)
      have z1 := cell_below ho.toBelow (hcell k _ (natsV_at met k m hm))
      have hx : ∃ y, wr.cell? ⟨w.heap.size, k, none⟩ = some y := by
        have y := ho.get List.mem_cons_self k (by rw [hln]; have := HN.out; omega)
        rw [List.getElem?_eq_getElem (by rw [hln]; have := HN.out; omega)] at y
        exact ⟨_, y⟩
      obtain ⟨y, z2⟩ := hx
      have z3 := ho.frozen (g := w.heap.size) (e := 4) (cs := metTo met k) List.mem_cons_self k
      have hset := ho.set 0 (g := w.heap.size) (e := 4) (cs := metTo met k) rfl k (.bool (decide (0 < m))) (by rw [hln]; have := HN.out; omega)
      rw [metTo_succ met k m hm] at hset
      have HSET := As.mk hset
      have e0 : decide ((0 : Int) < (m : Int)) = decide (0 < m) := by simp
      clear hcell hm hset ho HO hln
      go_wp2_with fail
      go_roundw
      case rel => exact ⟨k + 1, by omega, by go_num, HSET.out⟩
      case measure => simp [intOf]; omega
    · have e : k = n := by omega
      subst e
      have HF : As (Own [] [(w.heap.size, EC 4 ((metB met).map Value.bool))] (fun _ => True) w wr) := by
        have h9 := HO.out
        rw [HN.out, metTo_all] at h9
        exact As.mk h9
      clear HO hln ho
      go_wp2
      go_ret
      exact ⟨_, rfl, HF.out.fr List.mem_cons_self (Nat.le_refl _), HF.out.toBelow⟩
end Go.Proofs.YtmookafmdonopaaGreat.Top
/- (*heap.Heap).Conf walked. -/
namespace Go.Proofs.YtmookafmdonopaaGreat.Top
open Go Go.RowKit
set_option linter.unusedVariables false
set_option linter.unusedSimpArgs false
attribute [local go_sem] max2_int min2_int max_two min_two max_three

/-- a heap's eight cells of its configuration, read -/
structure ConfR (w : World) (h : Nat) (c : Cf) : Prop where
  c0 : w.cell? ⟨h, 0, none⟩ = some (.int .i64 c.G)
  c1 : w.cell? ⟨h, 1, none⟩ = some (.int .i64 c.N)
  c2 : w.cell? ⟨h, 2, none⟩ = some (.int .i64 c.M)
  c3 : w.cell? ⟨h, 3, none⟩ = some (.int .i64 c.L)
  c4 : w.cell? ⟨h, 4, none⟩ = some (.int .i64 c.Page)
  c5 : w.cell? ⟨h, 5, none⟩ = some (.int .i64 c.P)
  c6 : w.cell? ⟨h, 6, none⟩ = some (.int .i64 c.H)
  c7 : w.cell? ⟨h, 7, none⟩ = some (.int .i64 c.Seed)
theorem ConfR.below {w w1 : World} {h : Nat} {c : Cf} (k : ConfR w h c) (hb : Below w.heap.size w w1) : ConfR w1 h c :=
  ⟨cell_below hb k.c0, cell_below hb k.c1, cell_below hb k.c2, cell_below hb k.c3, cell_below hb k.c4, cell_below hb k.c5, cell_below hb k.c6, cell_below hb k.c7⟩
set_option maxHeartbeats 1000000 in
theorem heap_Conf (h : Nat) (c : Cf) (w : World) (k : ConfR w h c) :
    Calls Tryz.prog 14 #[.pointer (some ⟨h, 0, none⟩)] w fun e w' => e = .returned c.v ∧ Below w.heap.size w w' := by
  have HO := As.mk ((Own.start (X := []) w).box #[.int .i64 0, .int .i64 0, .int .i64 0, .int .i64 0, .int .i64 0, .int .i64 0, .int .i64 0, .int .i64 0] 34)
  obtain ⟨z0, z1, z2, z3, z4, z5, z6, z7⟩ := k.below HO.out.toBelow
  clear k
  have HB := As.mk HO.out.toBelow
  unfold Cf.v
  go_enter Tryz.func14, Tryz.ntmps14
  go_wp2
  refine bodyPost_ret (v := .agg #[.int .i64 c.G, .int .i64 c.N, .int .i64 c.M, .int .i64 c.L, .int .i64 c.Page, .int .i64 c.P, .int .i64 c.H, .int .i64 c.Seed]) (by simp [results, Tryz.f14, go_sem, *]) rfl ?_
  exact ⟨rfl, box_below _ _⟩
end Go.Proofs.YtmookafmdonopaaGreat.Top
/- The heap's map: its keys are a struct of one number. Its laws as equations. -/
namespace Go.Proofs.YtmookafmdonopaaGreat.Top
open Go Go.RowKit Go.Instr Go.ChangeMaps
set_option linter.unusedVariables false
set_option linter.unusedSimpArgs false

def keyV (a : Nat) : Value := .agg #[.int .i64 (a : Int)]
theorem stood101 : Tryz.prog.stoodInHeld 101 = false := by kernel_rfl
theorem equalIn3 (d : Nat) (a b : Int) (w : World) : (Op.equalIn (d + 1) 3 (.int .i64 a) (.int .i64 b)).run Tryz.prog w = .ok (a == b) w := by
  simp [Op.equalIn, run_underlying Tryz.underlying3]
theorem part3 (cs : Array Value) (u : Value) (h : cs[0]? = some u) (w : World) : (part 3 cs 0).run Tryz.prog w = .ok u w := by
  simp [part, run_underlying Tryz.underlying3, h]
theorem check3 (d : Nat) (e : Bool) (u : Int) (w : World) : (checkKey e (d + 1) 3 (.int .i64 u)).run Tryz.prog w = .ok () w := by
  simp [checkKey, run_underlying Tryz.underlying3]
theorem equalIn101 (d a b : Nat) (w : World) : (Op.equalIn (d + 1 + 1) 101 (keyV a) (keyV b)).run Tryz.prog w = .ok (decide (a = b)) w := by
  unfold keyV
  rw [Op.equalIn]
  simp [run_underlying Tryz.underlying101, stood101, equalIn3]
  rw [part3 _ (.int .i64 (a : Int)) rfl]
  simp only [Result.andThen_ok]
  rw [part3 _ (.int .i64 (b : Int)) rfl]
  simp only [Result.andThen_ok, equalIn3]
  by_cases h : a = b
  · subst h; simp
  · have h2 : ((a : Int) == (b : Int)) = false := by simp; omega
    rw [h2]
    simp [h]
theorem equal101 (a b : Nat) (w : World) : (Op.equal 101 (keyV a) (keyV b)).run Tryz.prog w = .ok (decide (a = b)) w := equalIn101 9998 a b w
theorem check101' (d : Nat) (e : Bool) (a : Nat) (w : World) : (checkKey e (d + 1 + 1) 101 (keyV a)).run Tryz.prog w = .ok () w := by
  unfold keyV
  rw [checkKey]
  simp [run_underlying Tryz.underlying101]
  rw [part3 _ (.int .i64 (a : Int)) rfl]
  simp only [Result.andThen_ok, check3]
theorem check101 (e : Bool) (a : Nat) (w : World) : (checkKey e 10000 101 (keyV a)).run Tryz.prog w = .ok () w := check101' 9998 e a w
/-- where a key lies, and what it leads to -/
def fm (a : Nat) : List (Nat × Value) → Nat → Option (Nat × Value)
  | [], _ => none
  | p :: r, i => if a = p.1 then some (i, p.2) else fm a r (i + 1)
def MEs (es : List MapEntry) (ms : List (Nat × Value)) : Prop := es.map (fun e => (e.key, e.val)) = ms.map fun p => (keyV p.1, p.2)
theorem find_run (a : Nat) (w : World) : ∀ (es : List MapEntry) (ms : List (Nat × Value)) (i : Nat), MEs es ms → (findAsking 101 (keyV a) es i).run Tryz.prog w = .ok (fm a ms i) w
  | [], ms, i, h => by
    cases ms with
    | nil => rfl
    | cons p r => simp [MEs] at h
  | e :: es, [], i, h => by simp [MEs] at h
  | e :: es, p :: r, i, h => by
    unfold MEs at h
    simp only [List.map_cons, List.cons.injEq, Prod.mk.injEq] at h
    obtain ⟨⟨h1, h2⟩, h3⟩ := h
    simp only [findAsking, Sem.run_bind, h1, equal101, Result.andThen_ok, fm]
    by_cases c : a = p.1
    · simp [c, h2]
    · simp only [c, decide_false, Bool.false_eq_true, if_false]
      exact find_run a w es r (i + 1) h3
theorem findKey_run (a : Nat) (w : World) (es : List MapEntry) (ms : List (Nat × Value)) (h : MEs es ms) : (findKey 101 (keyV a) es).run Tryz.prog w = .ok (fm a ms 0) w := by
  cases es with
  | nil =>
    cases ms with
    | nil => simp [findKey, run_underlying Tryz.underlying101, findNow, fm]
    | cons p r => simp [MEs] at h
  | cons e es =>
    simp [findKey, run_underlying Tryz.underlying101, findNow, sameNow]
    exact find_run a w (e :: es) ms 0 h
theorem fm_at (a : Nat) : ∀ (ms : List (Nat × Value)) (i : Nat), (∃ q v, fm a ms i = some (i + q, v) ∧ ms[q]? = some (a, v)) ∨ (fm a ms i = none ∧ ∀ v, (a, v) ∉ ms)
  | [], i => Or.inr ⟨rfl, by simp⟩
  | p :: r, i => by
    unfold fm
    by_cases c : a = p.1
    · refine Or.inl ⟨0, p.2, by simp [c], ?_⟩
      subst c
      rfl
    · rcases fm_at a r (i + 1) with ⟨q, v, h1, h2⟩ | ⟨h1, h2⟩
      · refine Or.inl ⟨q + 1, v, ?_, by simpa using h2⟩
        rw [if_neg c, h1]
        congr 2
        omega
      · refine Or.inr ⟨by rw [if_neg c, h1], fun v hm => ?_⟩
        rcases List.mem_cons.1 hm with e | hm
        · exact c (by rw [← e])
        · exact h2 v hm
/-- a map's block: what a key leads to -/
def MapP (f : Nat → Option Value) : Obj → Prop := fun o => ∃ es clock ms, o = .map es clock ∧ MEs es.toList ms ∧ (ms.map Prod.fst).Nodup ∧ ∀ a v, f a = some v ↔ (a, v) ∈ ms
theorem MapP.none_ : MapP (fun _ => none) (.map #[] 0) := ⟨#[], 0, [], rfl, rfl, by simp, by simp⟩
theorem lookup_run (t e : TypeId) (ht : Tryz.prog.underlying t = some (.map 101 e)) (z : Value) (w : World) (hz : (zeroValue e).run Tryz.prog w = .ok z w) (g a : Nat) (ok : Bool) (o : Obj) (ho : w.heap[g]? = some o) (f : Nat → Option Value) (hp : MapP f o) :
    (Instr.lookup t (.map (some g)) (keyV a) ok).run Tryz.prog w = .ok (if ok then .tuple #[(f a).getD z, .bool (f a).isSome] else (f a).getD z) w := by
  obtain ⟨es, clock, ms, rfl, hm, hn, hf⟩ := hp
  have hk := findKey_run a w es.toList ms hm
  rcases fm_at a ms 0 with ⟨q, v, h1, h2⟩ | ⟨h1, h2⟩
  · have e1 : f a = some v := (hf a v).2 (List.mem_of_getElem? h2)
    cases ok <;> simp [Instr.lookup, run_underlying ht, MapKept.run_getObj_map ho, check101, hk, h1, e1, Result.andThen]
  · have e1 : f a = none := by
      cases hh : f a with
      | none => rfl
      | some v => exact absurd ((hf a v).1 hh) (h2 v)
    cases ok <;> simp [Instr.lookup, run_underlying ht, MapKept.run_getObj_map ho, check101, hk, h1, e1, hz, Result.andThen]
theorem update_run (t e : TypeId) (ht : Tryz.prog.underlying t = some (.map 101 e)) (w : World) (g a : Nat) (v : Value) (o : Obj) (ho : w.heap[g]? = some o) (f : Nat → Option Value) (hp : MapP f o) (hno : f a = none) :
    ∃ o', (Instr.mapUpdate t (.map (some g)) (keyV a) v).run Tryz.prog w = .ok () (setBlock w g o') ∧ MapP (fun x => if x = a then some v else f x) o' := by
  obtain ⟨es, clock, ms, rfl, hm, hn, hf⟩ := hp
  have hk := findKey_run a w es.toList ms hm
  have hnm : ∀ u, (a, u) ∉ ms := fun u hu => by rw [(hf a u).2 hu] at hno; cases hno
  rcases fm_at a ms 0 with ⟨q, u, h1, h2⟩ | ⟨h1, h2⟩
  · exact absurd (List.mem_of_getElem? h2) (hnm u)
  · refine ⟨.map (es.push { key := keyV a, val := v, born := clock }) (clock + 1), ?_, _, _, ms ++ [(a, v)], rfl, ?_, ?_, ?_⟩
    · simp [Instr.mapUpdate, run_underlying ht, MapKept.run_getObj_map ho, check101, hk, h1, Result.andThen, MapKept.run_setObj_map _ ho, setBlock]
    · unfold MEs at hm ⊢
      simp [hm]
    · rw [List.map_append, List.nodup_append]
      refine ⟨hn, by simp, ?_⟩
      intro x hx y hy
      simp at hy
      subst hy
      intro e1
      subst e1
      obtain ⟨⟨b, u⟩, hb, rfl⟩ := List.mem_map.1 hx
      exact hnm u hb
    · intro x u
      by_cases hx : x = a
      · subst hx
        simp [hnm u]
        exact eq_comm
      · simp [hx, hf]
theorem delete_run (t ty e : TypeId) (ht : Tryz.prog.underlying t = some (.map 101 e)) (tk : TypeId) (w : World) (g a : Nat) (o : Obj) (ho : w.heap[g]? = some o) (f : Nat → Option Value) (hp : MapP f o) :
    ∃ o', (Builtin.delete_ #[t, tk] ty #[.map (some g), keyV a]).run Tryz.prog w = .ok (.tuple #[]) (setBlock w g o') ∧ MapP (fun x => if x = a then none else f x) o' := by
  obtain ⟨es, clock, ms, rfl, hm, hn, hf⟩ := hp
  have hk := findKey_run a w es.toList ms hm
  rcases fm_at a ms 0 with ⟨q, u, h1, h2⟩ | ⟨h1, h2⟩
  · have hq : q < ms.length := (List.getElem?_eq_some_iff.1 h2).1
    have hlen : es.size = ms.length := by
      have := congrArg List.length hm
      simpa using this
    refine ⟨.map (es.eraseIdxIfInBounds q) clock, ?_, _, _, ms.eraseIdx q, rfl, ?_, ?_, ?_⟩
    · simp [Builtin.delete_, run_underlying ht, MapKept.run_getObj_map ho, check101, hk, h1, Result.andThen, MapKept.run_setObj_map _ ho, setBlock]
    · have hq2 : q < es.size := by omega
      unfold MEs at hm ⊢
      rw [Array.eraseIdxIfInBounds, dif_pos hq2, Array.toList_eraseIdx, Go.ChangeMaps.map_eraseIdx, hm, ← Go.ChangeMaps.map_eraseIdx]
    · rw [Go.ChangeMaps.map_eraseIdx]
      exact hn.sublist (List.eraseIdx_sublist _ _)
    · intro x u'
      have hmem : (x, u') ∈ ms.eraseIdx q ↔ (x, u') ∈ ms ∧ x ≠ a := by
        rw [List.mem_eraseIdx_iff_getElem?]
        constructor
        · rintro ⟨i, hi, h3⟩
          refine ⟨List.mem_of_getElem? h3, ?_⟩
          rintro rfl
          have k1 : (ms.map Prod.fst)[i]? = some x := by rw [List.getElem?_map, h3]; rfl
          have k2 : (ms.map Prod.fst)[q]? = some x := by rw [List.getElem?_map, h2]; rfl
          exact hi ((List.getElem?_inj (by rw [List.length_map]; exact (List.getElem?_eq_some_iff.1 h3).1) hn).1 (k1.trans k2.symm))
        · rintro ⟨h3, h4⟩
          obtain ⟨i, hi⟩ := List.mem_iff_getElem?.1 h3
          refine ⟨i, ?_, hi⟩
          rintro rfl
          rw [h2] at hi
          injection hi with hi
          injection hi with hi _
          exact h4 hi.symm
      rw [hmem]
      by_cases hx : x = a
      · simp [hx]
      · simp [hx, hf]
  · refine ⟨.map es clock, ?_, _, _, ms, rfl, hm, hn, ?_⟩
    · simp [Builtin.delete_, run_underlying ht, MapKept.run_getObj_map ho, check101, hk, h1, Result.andThen, MapKept.run_setObj_map _ ho, setBlock]
    · intro x u
      by_cases hx : x = a
      · subst hx
        simp [h2 u]
      · simp [hx, hf]
/-- a map of the walk's own is turned -/
theorem Own.setMap {X : List Nat} {L : List (Nat × (Obj → Prop))} {R : World → Prop} {w0 w : World} {g : Nat} {p q : Obj → Prop} (h : Own X L R w0 w) (i : Nat) (hi : L[i]? = some (g, p)) (o' : Obj) (hq : q o') : Own X (L.set i (g, q)) R w0 (setBlock w g o') := by
  obtain ⟨o, ho, _⟩ := h.at_ g p (List.mem_of_getElem? hi)
  have hl := heap_lt ho
  refine h.put i hi rfl rfl rfl (by simp [setBlock]) (fun k _ hne => ?_) (x := o') ?_ hq
  · show (w.heap.setIfInBounds g o')[k]? = _
    rw [Array.getElem?_setIfInBounds_ne (fun e => hne e.symm)]
  · show (w.heap.setIfInBounds g o')[g]? = _
    rw [Array.getElem?_setIfInBounds_self_of_lt hl]
end Go.Proofs.YtmookafmdonopaaGreat.Top
/- (*heap.Heap).meets walked. -/
namespace Go.Proofs.YtmookafmdonopaaGreat.Top
open Go Go.RowKit
set_option linter.unusedVariables false
set_option linter.unusedSimpArgs false
attribute [local go_sem] max2_int min2_int max_two min_two max_three

def intsV (l : List Int) : List Value := l.map fun i => Value.int .i64 i
/-- k pages from f on, counted by B -/
def addM (met : List Int) (f : Nat) (B : Int) (k : Nat) : List Int := met.mapIdx fun i x => if f ≤ i ∧ i < f + k then x + B else x
theorem addM_len (met : List Int) (f : Nat) (B : Int) (k : Nat) : (addM met f B k).length = met.length := by simp [addM]
theorem addM_0 (met : List Int) (f : Nat) (B : Int) : addM met f B 0 = met := by
  apply List.ext_getElem?
  intro j
  unfold addM
  rw [List.getElem?_mapIdx]
  cases met[j]? with
  | none => rfl
  | some x => simp; omega
theorem addM_at (met : List Int) (f : Nat) (B : Int) (k j : Nat) : (addM met f B k)[j]? = met[j]?.map fun x => if f ≤ j ∧ j < f + k then x + B else x := by
  unfold addM
  rw [List.getElem?_mapIdx]
theorem addM_succ (met : List Int) (f : Nat) (B : Int) (k : Nat) (x : Int) (h : met[f + k]? = some x) : (addM met f B k).set (f + k) (x + B) = addM met f B (k + 1) := by
  have hl := (List.getElem?_eq_some_iff.1 h).1
  apply List.ext_getElem?
  intro j
  by_cases e : f + k = j
  · subst e
    rw [List.getElem?_set_self (by rw [addM_len]; exact hl), addM_at, h]
    simp
  · rw [List.getElem?_set_ne e, addM_at, addM_at]
    congr 1
    funext y
    by_cases h2 : f ≤ j ∧ j < f + k
    · rw [if_pos h2, if_pos (by omega)]
    · rw [if_neg h2, if_neg (by omega)]
theorem intsV_len (l : List Int) : (intsV l).length = l.length := by simp [intsV]
theorem intsV_at (l : List Int) (k : Nat) (x : Int) (h : l[k]? = some x) : (intsV l)[k]? = some (.int .i64 x) := by simp [intsV, h]
theorem intsV_set (l : List Int) (k : Nat) (x : Int) : (intsV l).set k (.int .i64 x) = intsV (l.set k x) := by simp [intsV]
set_option maxHeartbeats 1000000 in
theorem heap_meets (L : List (Nat × (Obj → Prop))) (R : World → Prop) (w0 w : World) (h g cap : Nat) (hcs : List Value) (met : List Int) (page at_ ch f bh : Nat) (asked B : Int)
    (H : Own [] ((g, EC 3 (intsV met)) :: L) R w0 w) (hh : (h, EC 85 hcs) ∈ L) (hp : hcs[4]? = some (.int .i64 page)) (hm : hcs[15]? = some (.slice (some ⟨g, 0, none⟩) met.length cap)) (hmc : met.length ≤ cap)
    (h1 : 1 ≤ page) (h2 : 1 ≤ ch) (h3 : at_ ≤ 65536) (h4 : ch ≤ 65536) (h5 : page ≤ 65536) (hf : f = at_ / page) (hb : bh = (at_ + ch - 1) / page + 1) (hbm : bh ≤ met.length) (hml : met.length ≤ 100000) (hB : -1 ≤ B ∧ B ≤ 1) (hx : ∀ x ∈ met, -1000000 ≤ x ∧ x ≤ 1000000) :
    Calls Tryz.prog 90 #[.pointer (some ⟨h, 0, none⟩), .agg #[.int .i64 at_, .int .i64 ch, .int .i64 asked], .int .i64 B] w fun e w' => e = .returned (.tuple #[]) ∧ Own [] ((g, EC 3 (intsV (addM met f B (bh - f)))) :: L) R w0 w' := by
  have HP := As.mk (fun W => pin_Pages page at_ ch W h1 h2 (by omega) (by omega) (by omega))
  rw [← hf, ← hb] at HP
  have hfb : f < bh := by
    rw [hf, hb]
    exact Nat.lt_succ_of_le (Nat.div_le_div_right (by omega))
  have hl4 := (List.getElem?_eq_some_iff.1 hp).1
  have hl15 := (List.getElem?_eq_some_iff.1 hm).1
  obtain ⟨L', hL'⟩ : ∃ L', L' = (w.heap.size, EC 48 [.int .i64 (at_ : Int), .int .i64 (ch : Int), .int .i64 asked]) :: L := ⟨_, rfl⟩
  have hh' : (h, EC 85 hcs) ∈ L' := hL' ▸ List.mem_cons_of_mem _ hh
  have hb' : (w.heap.size, EC 48 [.int .i64 (at_ : Int), .int .i64 (ch : Int), .int .i64 asked]) ∈ L' := hL' ▸ List.mem_cons_self
  have HC := As.mk (fun (W : World) (met' : List Int) (k : Own [] ((g, EC 3 (intsV met')) :: L') R w0 W) => And.intro ((k.get (List.mem_cons_of_mem _ hh') 4 hl4).trans hp) ((k.get (List.mem_cons_of_mem _ hh') 15 hl15).trans hm))
  have HX := As.mk hx
  have ho : Own [] ((g, EC 3 (intsV met)) :: L') R w0 (w.alloc (.cells #[.int .i64 at_, .int .i64 ch, .int .i64 asked] 48)) := by
    rw [hL']
    exact (H.box #[.int .i64 at_, .int .i64 ch, .int .i64 asked] 48).swap
  obtain ⟨z4, z15⟩ := HC.out _ _ ho
  have b0 := ho.get (List.mem_cons_of_mem _ hb') 0 (by simp)
  have b1 := ho.get (List.mem_cons_of_mem _ hb') 1 (by simp)
  have HO := As.mk ho
  have HL := As.mk hL'
  obtain ⟨n, hn⟩ : ∃ n, n = met.length := ⟨_, rfl⟩
  have HN := As.mk hn
  rw [← hn] at HC z15 hmc hbm hml
  have FB := As.mk (And.intro hf hb)
  clear ho hx H hh hp hm hL' hf hb hn hl4 hl15 hh' hb'
  go_enter Tryz.func90, Tryz.ntmps90
  go_wp2_with fail
  refine rgn [(0, 1), (1, 1), (2, 1), (3, 1), (4, 0), (5, 1), (6, 0), (7, 1), (8, 0), (9, 2), (10, 1), (11, 1), (12, 1), (13, 1), (14, 1)] [] (fun W => W.cell? ⟨h, 4, none⟩ = some (.int .i64 page) ∧ W.cell? ⟨w.heap.size, 0, none⟩ = some (.int .i64 at_) ∧ W.cell? ⟨w.heap.size, 1, none⟩ = some (.int .i64 ch)) (by kernel_rfl) (by kernel_rfl) (fun _ _ _ d _ h => by cases d <;> exact h) ⟨z4, b0, b1⟩ ?_
  iterate 4 (refine Run.pu (v := ?_) (a' := ?_) rfl rfl (Or.inl ⟨by rfl, ?_⟩) ?_ ?_; rotate_left 2; (focus (intro W; go_simp; with_reducible rfl)); (focus (simp only [Act.put, List.setIfInBounds_toArray, List.set_cons_zero, List.set_cons_succ]; rfl)))
  refine Run.rd (v := ?_) (a' := ?_) rfl rfl (Or.inl ⟨by rfl, ?_⟩) ?_ ?_; rotate_left 2; (focus (rintro W ⟨hW1, hW2, hW3⟩; go_simp; with_reducible rfl)); (focus (simp only [Act.put, List.setIfInBounds_toArray, List.set_cons_zero, List.set_cons_succ]; rfl))
  refine Run.pu (v := ?_) (a' := ?_) rfl rfl (Or.inl ⟨by rfl, ?_⟩) ?_ ?_; rotate_left 2; (focus (intro W; go_simp; with_reducible rfl)); (focus (simp only [Act.put, List.setIfInBounds_toArray, List.set_cons_zero, List.set_cons_succ]; rfl))
  refine Run.rd (v := ?_) (a' := ?_) rfl rfl (Or.inl ⟨by rfl, ?_⟩) ?_ ?_; rotate_left 2; (focus (rintro W ⟨hW1, hW2, hW3⟩; go_simp; with_reducible rfl)); (focus (simp only [Act.put, List.setIfInBounds_toArray, List.set_cons_zero, List.set_cons_succ]; rfl))
  refine Run.pu (v := ?_) (a' := ?_) rfl rfl (Or.inl ⟨by rfl, ?_⟩) ?_ ?_; rotate_left 2; (focus (intro W; go_simp; with_reducible rfl)); (focus (simp only [Act.put, List.setIfInBounds_toArray, List.set_cons_zero, List.set_cons_succ]; rfl))
  refine Run.rd (v := ?_) (a' := ?_) rfl rfl (Or.inl ⟨by rfl, ?_⟩) ?_ ?_; rotate_left 2; (focus (rintro W ⟨hW1, hW2, hW3⟩; go_simp; with_reducible rfl)); (focus (simp only [Act.put, List.setIfInBounds_toArray, List.set_cons_zero, List.set_cons_succ]; rfl))
  refine Run.ef rfl (fun K hK => ?_)
  simp only [List.getElem_toArray, List.getElem_cons_succ, List.getElem_cons_zero]
  go_wp2_with fail
  refine (HP.out _).mono ?_
  rintro e w1 ⟨rfl, nq, rfl⟩
  go_wp2
  refine hK.out _ _ ⟨z4, b0, b1⟩ ?_
  clear hK K
  iterate 5 (refine Run.pu (v := ?_) (a' := ?_) rfl rfl (Or.inl ⟨by rfl, ?_⟩) ?_ ?_; rotate_left 2; (focus (intro W; go_simp; with_reducible rfl)); (focus (simp only [Act.put, List.setIfInBounds_toArray, List.set_cons_zero, List.set_cons_succ]; rfl)))
  refine Run.nil ?_
  simp only [List.getElem_toArray, List.getElem_cons_succ, List.getElem_cons_zero]
  have HO1 := As.mk (HO.out.drewN (1 + nq))
  clear z4 z15 b0 b1 HO HP
  go_wp2_with fail
  go_loopw [8] (fun i wr => ∃ k : Nat, k ≤ bh - f ∧ i = .int .i64 ((f + k : Nat) : Int) ∧ Own [] ((g, EC 3 (intsV (addM met f B k))) :: L') R w0 wr) (fun i _ => bh - (intOf i).toNat)
  case atStart => exact ⟨0, Nat.zero_le _, rfl, by rw [addM_0]; exact HO1.out⟩
  case round =>
    clear HO1
    obtain ⟨k, hk, rfl, ho⟩ := hrel
    obtain ⟨z4, z15⟩ := HC.out _ _ ho
    have HO := As.mk ho
    have hln : (addM met f B k).length = n := by rw [addM_len, HN.out]
    obtain ⟨p, hp⟩ : ∃ p, p = f + k := ⟨_, rfl⟩
    rw [← hp]
    have HPE := As.mk hp
    have d1 : min (bh : Int) (n : Int) = (bh : Int) := by omega
    by_cases hlt : p < bh
    · obtain ⟨x, hx⟩ : ∃ x, met[p]? = some x := ⟨met[p]'(by have := HN.out; omega), List.getElem?_eq_getElem _⟩
      have hax : (addM met f B k)[p]? = some x := by rw [addM_at, hx, Option.map_some, if_neg (by omega)]
      have z1 := ho.get List.mem_cons_self p (by rw [intsV_len, hln]; omega)
      rw [intsV_at _ _ _ hax] at z1
      have z3 := ho.frozen (g := g) (e := 3) (cs := intsV (addM met f B k)) List.mem_cons_self p
      have hset := ho.set 0 (g := g) (e := 3) (cs := intsV (addM met f B k)) rfl p (.int .i64 (x + B)) (by rw [intsV_len, hln]; omega)
      have hxb := HX.out x (List.mem_of_getElem? hx)
      rw [intsV_set, hp, addM_succ met f B k x (by rw [← hp]; exact hx), ← hp] at hset
      have HSET := As.mk hset
      have d2 : ((p : Int) < (bh : Int)) = True := eq_true (by omega)
      clear hset hx hax ho HO hln hp
      go_wp2_with fail
      go_roundw
      case rel => exact ⟨k + 1, by have := HPE.out; omega, by rw [HPE.out]; go_num, HSET.out⟩
      case measure => simp [intOf]; omega
    · have e : k = bh - f := by omega
      subst e
      have d2 : ((p : Int) < (bh : Int)) = False := eq_false (by omega)
      clear hp ho hln
      go_wp2
      go_end0
      refine ⟨rfl, ?_⟩
      have h9 := HO.out
      rw [HL.out] at h9
      exact h9.drop2
end Go.Proofs.YtmookafmdonopaaGreat.Top
