/- tree.sums walked. -/
import Derived.Test.YtmookafmdonopaaGreatM07
/- tree.sums walked. -/
namespace Go.Proofs.YtmookafmdonopaaGreat.Top
open Go Go.RowKit
set_option linter.unusedVariables false
set_option linter.unusedSimpArgs false
attribute [local go_sem] max2_int min2_int max_two min_two max_three

section
variable {L : List (Nat × (Obj → Prop))} {R R2 : World → Prop} {w0 w w1 : World} {v : Value} {lv : List (List Nat)}
theorem TOwn.merge (h : Own [] L R w0 w) (k : TOwn [] R2 w w1 v lv) : TOwn L (fun W => R W ∧ R2 W) w0 w1 v lv := by
  obtain ⟨gh, ch, gs, h1, h2, h3, h4, h5⟩ := k
  have h6 := h.merge h5
  rw [List.append_nil] at h6
  exact ⟨gh, ch, gs, h1, h2, h3, h4, h6⟩
theorem TOwn.setL (h : TOwn L R w0 w v lv) (i : Nat) {g e : Nat} {cs : List Value} (hi : L[i]? = some (g, EC e cs)) (o : Nat) (u : Value) (ho : o < cs.length) : TOwn (L.set i (g, EC e (cs.set o u))) R w0 (w.setCell ⟨g, o, none⟩ u) v lv := by
  obtain ⟨gh, ch, gs, h1, h2, h3, h4, h5⟩ := h
  have h6 := h5.set (i + (rowsE gs lv).length + 1) (by rw [List.getElem?_cons_succ, List.getElem?_append_right (by omega), show i + (rowsE gs lv).length - (rowsE gs lv).length = i by omega]; exact hi) o u ho
  rw [List.set_cons_succ, List.set_append_right _ _ (by omega), show i + (rowsE gs lv).length - (rowsE gs lv).length = i by omega] at h6
  exact ⟨gh, ch, gs, h1, h2, h3, h4, h6⟩
theorem TOwn.imp (h : TOwn L R w0 w v lv) (hr : ∀ W, R W → R2 W) : TOwn L R2 w0 w v lv := by
  obtain ⟨gh, ch, gs, h1, h2, h3, h4, h5⟩ := h
  exact ⟨gh, ch, gs, h1, h2, h3, h4, h5.imp hr⟩
theorem TOwn.getL (h : TOwn L R w0 w v lv) {g e : Nat} {cs : List Value} (hm : (g, EC e cs) ∈ L) (o : Nat) (ho : o < cs.length) : w.cell? ⟨g, o, none⟩ = cs[o]? ∧ w.frozen? ⟨g, o, none⟩ = false := ⟨h.rest.get hm o ho, h.rest.frozen hm o⟩
theorem TOwn.levF (h : TOwn L R w0 w v lv) : LevF w0.heap.size w v lv := by
  obtain ⟨gh, ch, gs, rfl, h2, h3, h4, h5⟩ := h
  intro W hW
  refine ⟨heads gs lv, by simp [heads, h3], (h5.fr List.mem_cons_self h2).row hW, fun j x l hj hl => ?_⟩
  have hjl := (List.getElem?_eq_some_iff.1 hl).1
  have hg : gs[j]? = some gs[j] := List.getElem?_eq_getElem (by omega)
  rw [heads_at hg hl] at hj
  injection hj with hj
  subst hj
  exact (h5.fr (List.mem_cons_of_mem _ (List.mem_append_left _ (List.mem_of_getElem? (rowsE_at hg hl)))) (h4 j _ l hg hl)).row hW
end
theorem tree_at_i (size : Int) (A : Option Addr) (n c : Nat) (lv : List (List Nat)) (k i : Nat) (K I : Int) (w : World) (h : Lev w (.slice A n c) lv) (hK : K = (k : Int)) (hI : I = (i : Int)) :
    Calls Tryz.prog 125 #[.agg #[.int .i64 size, .slice A n c], .int .i64 K, .int .i64 I] w fun e w' => e = .returned (.int .u64 (atW lv k i : Int)) ∧ Below w.heap.size w w' := by
  subst hK; subst hI
  exact tree_at size A n c lv k i w h
theorem tree_put_i (L : List (Nat × (Obj → Prop))) (R : World → Prop) (size : Int) (A : Option Addr) (n c k i u : Nat) (K I : Int) (lv : List (List Nat)) (w0 w : World) (h : TOwn L R w0 w (.slice A n c) lv) (hk : k < lv.length) (hi : i < lv[k].length) (hK : K = (k : Int)) (hI : I = (i : Int)) :
    Calls Tryz.prog 126 #[.agg #[.int .i64 size, .slice A n c], .int .i64 K, .int .i64 I, .int .u64 u] w fun e w' => e = .returned (.tuple #[]) ∧ TOwn L R w0 w' (.slice A n c) (lv.set k (lv[k].set i u)) := by
  subst hK; subst hI
  exact tree_put L R size A n c k i u lv w0 w h hk hi
/-- k sums from lo on are anew -/
def sumTo (l0 : List Nat) (f : Nat → Bool) (lo k : Nat) : Nat → Bool := fun j => if lo ≤ j ∧ j < lo + k then decide (l0.getD j fullW = fullW) else f j
theorem one_shl (i : Nat) (h : i < 64) : IntKind.u64.wrap (2 ^ i) = (wb (rng i 1) : Int) := by
  have h2 : (2 : Int) ^ i = ((2 ^ i : Nat) : Int) := by rw [Int.natCast_pow]; rfl
  have h3 := mask_shl i 1 (by omega)
  have h4 : (2 ^ 1 - 1) * 2 ^ i = 2 ^ i := by rw [show 2 ^ 1 - 1 = 1 from rfl, Nat.one_mul]
  rw [h4] at h3
  rw [h2, h3]
  exact wu64 _ (wb_lt _)
theorem sum_step (l0 : List Nat) (f : Nat → Bool) (lo k : Nat) :
    wb (sumTo l0 f lo (k + 1)) = if l0.getD (lo + k) fullW = fullW then wb (fun t => (sumTo l0 f lo k t && !rng (lo + k) 1 t) || rng (lo + k) 1 t) else wb (fun t => sumTo l0 f lo k t && !rng (lo + k) 1 t) := by
  have key : ∀ t, sumTo l0 f lo (k + 1) t = if t = lo + k then decide (l0.getD (lo + k) fullW = fullW) else sumTo l0 f lo k t := by
    intro t
    unfold sumTo
    by_cases e : t = lo + k
    · subst e
      rw [if_pos rfl, if_pos (by omega)]
    · rw [if_neg e]
      by_cases h : lo ≤ t ∧ t < lo + k
      · rw [if_pos (by omega), if_pos h]
      · rw [if_neg (by omega), if_neg h]
  have hr : ∀ t, rng (lo + k) 1 t = decide (t = lo + k) := by
    intro t
    unfold rng
    by_cases e : t = lo + k
    · subst e; simp
    · rw [decide_eq_false e]
      by_cases h : lo + k ≤ t
      · rw [decide_eq_false (show ¬ t < lo + k + 1 by omega), Bool.and_false]
      · rw [decide_eq_false h, Bool.false_and]
  by_cases hf : l0.getD (lo + k) fullW = fullW
  · rw [if_pos hf]
    refine wb_congr fun t _ => ?_
    rw [key, hr]
    by_cases e : t = lo + k
    · rw [if_pos e, decide_eq_true hf, decide_eq_true e]; simp
    · rw [if_neg e, decide_eq_false e]; simp
  · rw [if_neg hf]
    refine wb_congr fun t _ => ?_
    rw [key, hr]
    by_cases e : t = lo + k
    · rw [if_pos e, decide_eq_false hf, decide_eq_true e]; simp
    · rw [if_neg e, decide_eq_false e]; simp
set_option maxHeartbeats 1000000 in
theorem tree_sums (L : List (Nat × (Obj → Prop))) (R : World → Prop) (size : Int) (A : Option Addr) (n c : Nat) (l0 : List Nat) (f : Nat → Bool) (lo hi : Nat) (w0 w : World) (h : TOwn L R w0 w (.slice A n c) [l0, [wb f]]) (hl : lo ≤ hi) (hh : hi < l0.length) (h64 : l0.length ≤ 64) :
    Calls Tryz.prog 127 #[.agg #[.int .i64 size, .slice A n c], .int .i64 1, .int .i64 lo, .int .i64 hi] w fun e w' => e = .returned (.tuple #[]) ∧ TOwn L R w0 w' (.slice A n c) [l0, [wb (sumTo l0 f lo (hi + 1 - lo))]] := by
  have ht := h.below (box_below w (.cells #[.int .i64 size, .slice A n c] 132))
  have HT := As.mk (show TOwn ((w.heap.size, EC 132 [.int .i64 size, .slice A n c]) :: L) R w0 (w.alloc (.cells #[.int .i64 size, .slice A n c] 132)) (.slice A n c) [l0, [wb f]] from by
    obtain ⟨gh, ch, gs, h1, h2, h3, h4, h5⟩ := h
    refine ⟨gh, ch, gs, h1, h2, h3, h4, (h5.box #[.int .i64 size, .slice A n c] 132).perm ?_⟩
    exact (List.Perm.cons _ List.perm_middle).trans (List.Perm.swap _ _ _))
  clear ht h
  go_enter Tryz.func127, Tryz.ntmps127
  go_wp2
  go_loopw [8] (fun i wr => ∃ k : Nat, k ≤ hi + 1 - lo ∧ i = .int .i64 ((lo + k : Nat) : Int) ∧ TOwn ((w.heap.size, EC 132 [.int .i64 size, .slice A n c]) :: L) R w0 wr (.slice A n c) [l0, [wb (sumTo l0 f lo k)]]) (fun i _ => hi + 1 - (intOf i).toNat)
  case atStart =>
    refine ⟨0, Nat.zero_le _, rfl, ?_⟩
    have e : wb (sumTo l0 f lo 0) = wb f := wb_congr fun t _ => by unfold sumTo; rw [if_neg (by omega)]
    rw [e]
    exact HT.out
  case round =>
    clear HT
    obtain ⟨k, hk, rfl, ht⟩ := hrel
    have HT := As.mk ht
    have z0 := (ht.getL List.mem_cons_self 0 (by simp)).1
    have z1 := (ht.getL List.mem_cons_self 1 (by simp)).1
    clear ht
    by_cases hlt : lo + k ≤ hi
    · have HS := As.mk (sum_step l0 f lo k)
      have hA0 : atW [l0, [wb (sumTo l0 f lo k)]] 0 (lo + k) = l0.getD (lo + k) fullW := rfl
      have hA1 : atW [l0, [wb (sumTo l0 f lo k)]] 1 0 = wb (sumTo l0 f lo k) := rfl
      have hs := one_shl (lo + k) (by omega)
      have hd : ((lo + k : Nat) : Int) / 64 = 0 := by omega
      have hd2 : ((lo + k : Nat) : Int) % 64 = ((lo + k : Nat) : Int) := by omega
      have h1 := u64_andNot (sumTo l0 f lo k) (rng (lo + k) 1)
      have h2 := u64_or (fun t => sumTo l0 f lo k t && !rng (lo + k) 1 t) (rng (lo + k) 1)
      obtain ⟨p, hp⟩ : ∃ p, p = lo + k := ⟨_, rfl⟩
      rw [← hp] at HS hA0 hs hd hd2 h1 h2 hlt ⊢
      have HP := As.mk hp
      clear hp
      obtain ⟨q, hq⟩ : ∃ q, q = l0.getD p fullW := ⟨_, rfl⟩
      rw [← hq] at HS hA0
      clear hq
      have HA0 := As.mk (fun w hL => hA0 ▸ tree_at_i size A n c [l0, [wb (sumTo l0 f lo k)]] 0 p 0 (p : Int) w hL rfl rfl)
      have HA1 := As.mk (fun w hL => hA1 ▸ tree_at_i size A n c [l0, [wb (sumTo l0 f lo k)]] 1 0 1 0 w hL rfl rfl)
      clear hA0 hA1
      have hp64 : p < 64 := by omega
      by_cases hf : q = fullW
      · have hf' : (q : Int) = 18446744073709551615 := by rw [hf]; rfl
        have hfb := beqT hf'
        clear hf'
        have HS2 := As.mk (show wb (sumTo l0 f lo (k + 1)) = wb (fun t => (sumTo l0 f lo k t && !rng p 1 t) || rng p 1 t) by rw [HS.out, if_pos hf])
        have HPU := As.mk (fun wx h => tree_put_i ((w.heap.size, EC 132 [.int .i64 size, .slice A n c]) :: L) R size A n c 1 0 (wb (fun t => (sumTo l0 f lo k t && !rng p 1 t) || rng p 1 t)) 1 0 [l0, [wb (sumTo l0 f lo k)]] w0 wx h (by simp) (by simp) rfl rfl)
        clear hf HS
        go_wp2_with fail
        refine (HA1.out _ HT.out.lev).mono ?_
        rintro e w1 ⟨rfl, hb⟩
        have HT1 := As.mk (HT.out.below hb)
        have z2 := (HT1.out.getL List.mem_cons_self 0 (by simp)).1
        have z3 := (HT1.out.getL List.mem_cons_self 1 (by simp)).1
        clear hb
        go_wp2_with fail
        refine (HA0.out _ HT1.out.lev).mono ?_
        rintro e w2 ⟨rfl, hb⟩
        have HT2 := As.mk (HT1.out.below hb)
        have z4 := (HT2.out.getL List.mem_cons_self 0 (by simp)).1
        have z5 := (HT2.out.getL List.mem_cons_self 1 (by simp)).1
        clear hb
        go_wp2_with fail
        refine (HPU.out _ HT2.out).mono ?_
        rintro e w3 ⟨rfl, ht⟩
        have HT3 := As.mk ht
        clear ht h1 h2 hs hd hd2
        go_wp2_with fail
        go_roundw
        case rel => exact ⟨k + 1, by have := HP.out; omega, by rw [HP.out]; go_num, by rw [HS2.out]; exact HT3.out⟩
        case measure => simp [intOf]; omega
      · have hf' : ¬ (q : Int) = 18446744073709551615 := by
          intro e
          apply hf
          have h9 : (q : Int) = (fullW : Int) := e
          exact Int.ofNat_inj.1 h9
        have hfb := beqF hf'
        clear hf'
        have HS2 := As.mk (show wb (sumTo l0 f lo (k + 1)) = wb (fun t => sumTo l0 f lo k t && !rng p 1 t) by rw [HS.out, if_neg hf])
        have HPU := As.mk (fun wx h => tree_put_i ((w.heap.size, EC 132 [.int .i64 size, .slice A n c]) :: L) R size A n c 1 0 (wb (fun t => sumTo l0 f lo k t && !rng p 1 t)) 1 0 [l0, [wb (sumTo l0 f lo k)]] w0 wx h (by simp) (by simp) rfl rfl)
        clear hf HS
        go_wp2_with fail
        refine (HA1.out _ HT.out.lev).mono ?_
        rintro e w1 ⟨rfl, hb⟩
        have HT1 := As.mk (HT.out.below hb)
        have z2 := (HT1.out.getL List.mem_cons_self 0 (by simp)).1
        have z3 := (HT1.out.getL List.mem_cons_self 1 (by simp)).1
        clear hb
        go_wp2_with fail
        refine (HA0.out _ HT1.out.lev).mono ?_
        rintro e w2 ⟨rfl, hb⟩
        have HT2 := As.mk (HT1.out.below hb)
        have z4 := (HT2.out.getL List.mem_cons_self 0 (by simp)).1
        have z5 := (HT2.out.getL List.mem_cons_self 1 (by simp)).1
        clear hb
        go_wp2_with fail
        refine (HPU.out _ HT2.out).mono ?_
        rintro e w3 ⟨rfl, ht⟩
        have HT3 := As.mk ht
        clear ht h1 h2 hs hd hd2
        go_wp2_with fail
        go_roundw
        case rel => exact ⟨k + 1, by have := HP.out; omega, by rw [HP.out]; go_num, by rw [HS2.out]; exact HT3.out⟩
        case measure => simp [intOf]; omega
    · have e : k = hi + 1 - lo := by omega
      subst e
      have hgt : ¬ ((lo + (hi + 1 - lo) : Nat) : Int) ≤ (hi : Int) := by omega
      go_wp2
      go_end0
      refine ⟨rfl, ?_⟩
      obtain ⟨gh, ch, gs, h1, h2, h3, h4, h5⟩ := HT.out
      exact ⟨gh, ch, gs, h1, h2, h3, h4, h5.sub (by
        have h6 := h5.nd
        exact h6.sublist (List.Sublist.map _ (List.Sublist.cons_cons _ (List.Sublist.append_left (List.sublist_cons_self _ _) _)))) (fun y hy => by
        rcases List.mem_cons.1 hy with e | hy
        · exact e ▸ List.mem_cons_self
        · rcases List.mem_append.1 hy with hy | hy
          · exact List.mem_cons_of_mem _ (List.mem_append_left _ hy)
          · exact List.mem_cons_of_mem _ (List.mem_append_right _ (List.mem_cons_of_mem _ hy)))⟩
end Go.Proofs.YtmookafmdonopaaGreat.Top
/- tree.Set walked. -/
namespace Go.Proofs.YtmookafmdonopaaGreat.Top
open Go Go.RowKit
set_option linter.unusedVariables false
set_option linter.unusedSimpArgs false
attribute [local go_sem] max2_int min2_int max_two min_two max_three

def setB (b : Nat → Bool) (f n : Nat) (on : Bool) : Nat → Bool := fun i => if f ≤ i ∧ i < f + n then on else b i
/-- k words from lo on are anew -/
def lA (size : Nat) (b b' : Nat → Bool) (lo k : Nat) : List Nat := (List.range (nW size)).map fun j => if lo ≤ j ∧ j < lo + k then tw size b' j else tw size b j
theorem lA_len (size : Nat) (b b' : Nat → Bool) (lo k : Nat) : (lA size b b' lo k).length = nW size := by simp [lA]
theorem lA_at (size : Nat) (b b' : Nat → Bool) (lo k j : Nat) (h : j < nW size) : (lA size b b' lo k)[j]? = some (if lo ≤ j ∧ j < lo + k then tw size b' j else tw size b j) := by
  unfold lA; rw [List.getElem?_map, List.getElem?_range h]; rfl
theorem lA_0 (size : Nat) (b b' : Nat → Bool) (lo : Nat) : lA size b b' lo 0 = lv0 size b := by
  unfold lA lv0
  refine List.map_congr_left fun j _ => ?_
  rw [if_neg (by omega)]
theorem lA_succ (size : Nat) (b b' : Nat → Bool) (lo k : Nat) (h : lo + k < nW size) : lA size b b' lo (k + 1) = (lA size b b' lo k).set (lo + k) (tw size b' (lo + k)) := by
  apply List.ext_getElem?
  intro j
  by_cases e : lo + k = j
  · subst e
    rw [List.getElem?_set_self (by rw [lA_len]; exact h), lA_at _ _ _ _ _ _ h, if_pos (by omega)]
  · rw [List.getElem?_set_ne e]
    rcases Nat.lt_or_ge j (nW size) with hj | hj
    · rw [lA_at _ _ _ _ _ _ hj, lA_at _ _ _ _ _ _ hj]
      by_cases h2 : lo ≤ j ∧ j < lo + k
      · rw [if_pos (by omega), if_pos h2]
      · rw [if_neg (by omega), if_neg h2]
    · rw [List.getElem?_eq_none (by rw [lA_len]; exact hj), List.getElem?_eq_none (by rw [lA_len]; exact hj)]
theorem tw_out (size : Nat) (b : Nat → Bool) (f n : Nat) (on : Bool) (j : Nat) (h : j < f / 64 ∨ (f + n - 1) / 64 < j) (hn : 1 ≤ n) : tw size (setB b f n on) j = tw size b j := by
  refine wb_congr fun t ht => ?_
  unfold twF setB
  rw [if_neg (by omega)]
theorem lA_all (size : Nat) (b : Nat → Bool) (f n : Nat) (on : Bool) (hn : 1 ≤ n) : lA size b (setB b f n on) (f / 64) ((f + n - 1) / 64 + 1 - f / 64) = lv0 size (setB b f n on) := by
  unfold lA lv0
  refine List.map_congr_left fun j _ => ?_
  by_cases h : f / 64 ≤ j ∧ j < f / 64 + ((f + n - 1) / 64 + 1 - f / 64)
  · rw [if_pos h]
  · rw [if_neg h]
    have h2 : f / 64 ≤ (f + n - 1) / 64 := Nat.div_le_div_right (by omega)
    exact (tw_out size b f n on j (by omega) hn).symm
theorem word_step (size : Nat) (b : Nat → Bool) (f n : Nat) (on : Bool) (i fi cn : Nat) (h1 : fi = f - i * 64) (h2 : fi + cn = min (f + n - 1 - i * 64) 63 + 1) (h3 : i * 64 ≤ f + n - 1) (h4 : f < i * 64 + 64) (hn : 1 ≤ n) (hs : f + n ≤ size) :
    tw size (setB b f n on) i = wb (fun t => if on then (twF size b i t && !rng fi cn t) || rng fi cn t else twF size b i t && !rng fi cn t) := by
  refine wb_congr fun t ht => ?_
  unfold twF setB rng
  by_cases h : f ≤ i * 64 + t ∧ i * 64 + t < f + n
  · rw [if_pos h, decide_eq_true (show fi ≤ t by omega), decide_eq_true (show t < fi + cn by omega), decide_eq_false (show ¬ size ≤ i * 64 + t by omega)]
    cases on <;> simp
  · rw [if_neg h]
    by_cases h5 : fi ≤ t
    · rw [decide_eq_true h5, decide_eq_false (show ¬ t < fi + cn by omega)]
      cases on <;> simp
    · rw [decide_eq_false h5]
      cases on <;> simp
theorem sums_all (size : Nat) (b : Nat → Bool) (f n : Nat) (on : Bool) (hn : 1 ≤ n) (hs : f + n ≤ size) :
    wb (sumTo (lv0 size (setB b f n on)) (swF size b) (f / 64) ((f + n - 1) / 64 + 1 - f / 64)) = wb (swF size (setB b f n on)) := by
  refine wb_congr fun j hj => ?_
  have h2 : f / 64 ≤ (f + n - 1) / 64 := Nat.div_le_div_right (by omega)
  have h3 : nW size = (size - 1) / 64 + 1 := rfl
  unfold sumTo swF
  by_cases h : f / 64 ≤ j ∧ j < f / 64 + ((f + n - 1) / 64 + 1 - f / 64)
  · rw [if_pos h]
    have hjn : j < nW size := by omega
    rw [List.getD_eq_getElem?_getD, lv0_at size _ j hjn, decide_eq_false (show ¬ nW size ≤ j by omega), Bool.false_or]
    rfl
  · rw [if_neg h, tw_out size b f n on j (by omega) hn]
theorem TOwn.h0 {L : List (Nat × (Obj → Prop))} {R : World → Prop} {w0 w : World} {gh n ch : Nat} {l0 : List Nat} {r : List (List Nat)} (h : TOwn L R w0 w (.slice (some ⟨gh, 0, none⟩) n ch) (l0 :: r)) : n = r.length + 1 ∧ ∃ g c0, w.cell? ⟨gh, 0, none⟩ = some (.slice (some ⟨g, 0, none⟩) l0.length c0) := by
  obtain ⟨gh', ch', gs, hv, h2, h3, h4, h5⟩ := h
  injection hv with e1 e2 e3
  injection e1 with e1
  injection e1 with e1 _ _
  subst e1
  refine ⟨e2, ?_⟩
  obtain ⟨p, hp⟩ : ∃ p, gs[0]? = some p := ⟨gs[0]'(by rw [h3]; simp), List.getElem?_eq_getElem _⟩
  have z := h5.get List.mem_cons_self 0 (by cases gs with | nil => simp at hp | cons a t => simp [heads])
  rw [heads_at hp (show (l0 :: r)[0]? = some l0 from rfl)] at z
  exact ⟨_, _, z⟩
theorem TOwn.form {L : List (Nat × (Obj → Prop))} {R : World → Prop} {w0 w : World} {v : Value} {lv : List (List Nat)} (h : TOwn L R w0 w v lv) : ∃ gh ch, v = .slice (some ⟨gh, 0, none⟩) lv.length ch := by
  obtain ⟨gh', ch', gs, hv, _⟩ := h
  exact ⟨_, _, hv⟩
/-- the levels behind the first -/
def lvR (size : Nat) (b : Nat → Bool) : List (List Nat) := if size ≤ 64 then [] else [[wb (swF size b)]]
theorem lvs_eq (size : Nat) (b : Nat → Bool) : lvs size b = lv0 size b :: lvR size b := by unfold lvs lvR; split <;> rfl
theorem lvs_rows (size : Nat) (b : Nat → Bool) (h2 : size ≤ 65536) : 0 < (lvs size b).length ∧ (lvs size b).length ≤ 1000 ∧ ∀ l, l ∈ lvs size b → 0 < l.length ∧ l.length ≤ 1000000 := by
  have hn : nW size = (size - 1) / 64 + 1 := rfl
  unfold lvs
  split
  · refine ⟨by simp, by simp, fun l hl => ?_⟩
    rw [List.mem_singleton.1 hl, lv0_len]
    omega
  · refine ⟨by simp, by simp, fun l hl => ?_⟩
    rcases List.mem_cons.1 hl with e | hl
    · rw [e, lv0_len]; omega
    · rw [List.mem_singleton.1 hl]; simp
theorem tree_Set_no (size : Nat) (b : Nat → Bool) (A : Option Addr) (n c : Nat) (w : World) (h : Lev w (.slice A n c) (lvs size b)) (h2 : size ≤ 65536) :
    Calls Tryz.prog 117 #[.agg #[.int .i64 size, .slice A n c], .int .i64 0, .int .i64 0, .bool true] w fun e w' => ∃ v, e = .returned (.agg #[.int .i64 size, v]) ∧ LevF w.heap.size w' v (lvs size b) ∧ Below w.heap.size w w' := by
  obtain ⟨l1, l2, l3⟩ := lvs_rows size b h2
  have H := As.mk h
  have L3 := As.mk l3
  have HO := As.mk (((Own.start (X := []) w).box #[.int .i64 size, .slice A n c] 132).box #[.int .i64 0, .slice none 0 0] 132)
  clear h l3
  go_enter Tryz.func117, Tryz.ntmps117
  go_wp2_with fail
  refine (tree_twin (size : Int) A n c (lvs size b) _ (H.out.below HO.out.toBelow) l1 l2 L3.out).mono ?_
  rintro e w1 ⟨v, rfl, ht⟩
  have ht2 := TOwn.merge HO.out ht
  rw [World.size_alloc] at ht2
  obtain ⟨gh, ch, rfl⟩ := ht.form
  have z0 := ht2.getL (g := w.heap.size) (e := 132) (cs := [.int .i64 size, .slice A n c]) (by simp) 0 (by simp)
  have z1 := ht2.getL (g := w.heap.size) (e := 132) (cs := [.int .i64 size, .slice A n c]) (by simp) 1 (by simp)
  have ht3 := (ht2.setL 1 (g := w.heap.size) (e := 132) (cs := [.int .i64 size, .slice A n c]) rfl 0 (.int .i64 size) (by simp)).setL 1 (g := w.heap.size) (e := 132) (cs := [.int .i64 size, .slice A n c]) rfl 1 (.slice (some ⟨gh, 0, none⟩) (lvs size b).length ch) (by simp)
  simp only [List.set_cons_succ, List.set_cons_zero] at ht3
  have ht4 := (ht3.setL 0 (g := w.heap.size + 1) (e := 132) (cs := [.int .i64 0, .slice none 0 0]) rfl 0 (.int .i64 size) (by simp)).setL 0 (g := w.heap.size + 1) (e := 132) (cs := [.int .i64 size, .slice none 0 0]) rfl 1 (.slice (some ⟨gh, 0, none⟩) (lvs size b).length ch) (by simp)
  have y0 := (ht2.getL (g := w.heap.size + 1) (e := 132) (cs := [.int .i64 0, .slice none 0 0]) (by simp) 0 (by simp))
  have y1 := (ht2.getL (g := w.heap.size + 1) (e := 132) (cs := [.int .i64 0, .slice none 0 0]) (by simp) 1 (by simp))
  have x0 := y0.1
  have x1 := y1.1
  have x2 := y0.2
  have x3 := y1.2
  have x4 := z0.1
  have x5 := z1.1
  have x6 := z0.2
  have x7 := z1.2
  clear ht2 ht3 z0 z1 y0 y1 ht
  have HT := As.mk ht4
  clear ht4 HO H L3 l1 l2
  go_wp2
  refine bodyPost_ret (v := .agg #[.int .i64 size, .slice (some ⟨gh, 0, none⟩) (lvs size b).length ch]) (by simp [results, go_sem, *]) rfl ?_
  exact ⟨_, rfl, HT.out.levF, HT.out.rest.toBelow⟩
def LvK (size : Nat) (b b' : Nat → Bool) (lo k : Nat) : List (List Nat) := lA size b b' lo k :: lvR size b
theorem LvK_len (size : Nat) (b b' : Nat → Bool) (lo k : Nat) : (LvK size b b' lo k).length = (lvR size b).length + 1 := rfl
/-- what Set owns beside its tree -/
def SetL (h size : Nat) (V : Value) : List (Nat × (Obj → Prop)) := [(h + 1, EC 132 [.int .i64 0, .slice none 0 0]), (h, EC 132 [.int .i64 size, V])]
theorem setL_cells {w0 w : World} {h size : Nat} {V v : Value} {R : World → Prop} {lv : List (List Nat)} (H : TOwn (SetL h size V) R w0 w v lv) :
    w.cell? ⟨h, 0, none⟩ = some (.int .i64 size) ∧ w.cell? ⟨h, 1, none⟩ = some V :=
  ⟨(H.getL (g := h) (e := 132) (cs := [.int .i64 size, V]) (by simp [SetL]) 0 (by simp)).1, (H.getL (g := h) (e := 132) (cs := [.int .i64 size, V]) (by simp [SetL]) 1 (by simp)).1⟩
theorem h0_cell {L : List (Nat × (Obj → Prop))} {R : World → Prop} {w0 w : World} {gh n ch : Nat} {size : Nat} {b b' : Nat → Bool} {lo k : Nat} (h : TOwn L R w0 w (.slice (some ⟨gh, 0, none⟩) n ch) (LvK size b b' lo k)) : ∃ g c0, w.cell? ⟨gh, 0, none⟩ = some (.slice (some ⟨g, 0, none⟩) (nW size) c0) := by
  have z := TOwn.h0 h
  rw [lA_len] at z
  exact z.2
theorem tree_Set (size : Nat) (b : Nat → Bool) (A : Option Addr) (n c : Nat) (f m : Nat) (on : Bool) (w : World) (h : Lev w (.slice A n c) (lvs size b)) (h2 : size ≤ 4096) (hm : 1 ≤ m) (hs : f + m ≤ size) :
    Calls Tryz.prog 117 #[.agg #[.int .i64 size, .slice A n c], .int .i64 f, .int .i64 m, .bool on] w fun e w' => ∃ v, e = .returned (.agg #[.int .i64 size, v]) ∧ LevF w.heap.size w' v (lvs size (setB b f m on)) ∧ Below w.heap.size w w' := by
  obtain ⟨l1, l2, l3⟩ := lvs_rows size b (by omega)
  have H := As.mk h
  have L3 := As.mk l3
  have HO := As.mk (((Own.start (X := []) w).box #[.int .i64 size, .slice A n c] 132).box #[.int .i64 0, .slice none 0 0] 132)
  clear h l3
  go_enter Tryz.func117, Tryz.ntmps117
  go_wp2_with fail
  refine (tree_twin (size : Int) A n c (lvs size b) _ (H.out.below HO.out.toBelow) l1 l2 L3.out).mono ?_
  rintro e w1 ⟨v, rfl, ht⟩
  have ht2 := TOwn.merge HO.out ht
  rw [World.size_alloc] at ht2
  obtain ⟨gh, ch, rfl⟩ := ht.form
  have z0 := ht2.getL (g := w.heap.size) (e := 132) (cs := [.int .i64 size, .slice A n c]) (by simp) 0 (by simp)
  have z1 := ht2.getL (g := w.heap.size) (e := 132) (cs := [.int .i64 size, .slice A n c]) (by simp) 1 (by simp)
  have ht3 := (ht2.setL 1 (g := w.heap.size) (e := 132) (cs := [.int .i64 size, .slice A n c]) rfl 0 (.int .i64 size) (by simp)).setL 1 (g := w.heap.size) (e := 132) (cs := [.int .i64 size, .slice A n c]) rfl 1 (.slice (some ⟨gh, 0, none⟩) (lvs size b).length ch) (by simp)
  simp only [List.set_cons_succ, List.set_cons_zero] at ht3
  have ht4 : TOwn (SetL w.heap.size size (.slice (some ⟨gh, 0, none⟩) (lvs size b).length ch)) (fun _ => True) w ((w1.setCell ⟨w.heap.size, 0, none⟩ (.int .i64 size)).setCell ⟨w.heap.size, 1, none⟩ (.slice (some ⟨gh, 0, none⟩) (lvs size b).length ch)) (.slice (some ⟨gh, 0, none⟩) (lvs size b).length ch) (LvK size b (setB b f m on) (f / 64) 0) := by
    have e : LvK size b (setB b f m on) (f / 64) 0 = lvs size b := by unfold LvK; rw [lA_0, lvs_eq]
    rw [e]
    exact ht3.imp fun _ _ => trivial
  have x4 := z0.1
  have x5 := z1.1
  have x6 := z0.2
  have x7 := z1.2
  have en : (lvs size b).length = (lvR size b).length + 1 := by rw [lvs_eq]; rfl
  rw [en] at ht4 ⊢
  clear ht2 ht3 z0 z1 ht
  have HT := As.mk ht4
  clear ht4 HO H L3 l1 l2
  have EN := As.mk en
  clear en
  have c1 : ((f : Int) < 0) = False := eq_false (by omega)
  have c2 : ((m : Int) < 1) = False := eq_false (by omega)
  have c3 : (size ≤ f) = False := eq_false (by omega)
  have c4 : (((lvR size b).length : Int) + 1 == 0) = false := beqF (by omega)
  obtain ⟨hi, hhi⟩ : ∃ hi, hi = (f + m - 1) / 64 := ⟨_, rfl⟩
  obtain ⟨lo, hlo⟩ : ∃ lo, lo = f / 64 := ⟨_, rfl⟩
  rw [← hlo] at HT
  have d1 : (f : Int) / 64 = (lo : Int) := by omega
  have d2 : min (m : Int) ((size : Int) - (f : Int)) = (m : Int) := by omega
  have d3 : (f : Int) + (m : Int) - 1 = ((f + m - 1 : Nat) : Int) := by omega
  have d4 : ((f + m - 1 : Nat) : Int) / 64 = (hi : Int) := by omega
  obtain ⟨la, hla⟩ : ∃ la, la = f + m - 1 := ⟨_, rfl⟩
  rw [← hla] at d3 d4
  have nw : nW size = (size - 1) / 64 + 1 := rfl
  have hn : hi ≤ nW size - 1 := by omega
  have hlh : lo ≤ hi := by omega
  have d5 : min (hi : Int) ((nW size : Nat) - 1) = (hi : Int) := by omega
  have F := As.mk (And.intro hhi (And.intro hlo hla))
  have NW := As.mk nw
  have nw1 : nW size ≤ 64 := by omega
  have nw2 : 1 ≤ nW size := by omega
  have SG := As.mk (sums_all size b f m on hm hs)
  have LA := As.mk (lA_all size b f m on hm)
  rw [← hlo, ← hhi] at SG LA
  have rl : (lvR size b).length ≤ 1 := by unfold lvR; split <;> simp
  obtain ⟨r, hr⟩ : ∃ r, r = (lvR size b).length := ⟨_, rfl⟩
  rw [← hr] at rl
  have HR := As.mk hr
  rw [← hr] at c4 HT ⊢
  clear hr
  clear hhi hlo hla nw
  go_wp2_with fail
  go_loopw [10] (fun i wr => ∃ k : Nat, k ≤ hi + 1 - lo ∧ i = .int .i64 ((lo + k : Nat) : Int) ∧ TOwn (SetL w.heap.size size (.slice (some ⟨gh, 0, none⟩) (r + 1) ch)) (fun _ => True) w wr (.slice (some ⟨gh, 0, none⟩) (r + 1) ch) (LvK size b (setB b f m on) lo k)) (fun i _ => hi + 1 - (intOf i).toNat)
  case atStart => exact ⟨0, Nat.zero_le _, rfl, HT.out⟩
  case round =>
    clear HT x4 x5 x6 x7
    obtain ⟨k, hk, rfl, ht⟩ := hrel
    have HT := As.mk ht
    have z0 := (setL_cells ht).1
    have z1 := (setL_cells ht).2
    obtain ⟨g0, c0, z2⟩ := h0_cell ht
    clear ht
    obtain ⟨p, hp⟩ : ∃ p, p = lo + k := ⟨_, rfl⟩
    rw [← hp]
    by_cases hlt : p ≤ hi
    · have hpn : p < nW size := by omega
      obtain ⟨F1, F2, F3⟩ := F.out
      obtain ⟨fi, hfi⟩ : ∃ fi, fi = f - p * 64 := ⟨_, rfl⟩
      obtain ⟨cn, hcn⟩ : ∃ cn, cn = min (la - p * 64) 63 + 1 - fi := ⟨_, rfl⟩
      have e1 : max ((f : Int) - (p : Int) * 64) 0 = (fi : Int) := by omega
      have e2 : min ((la : Int) - (p : Int) * 64) 63 - (fi : Int) + 1 = (cn : Int) := by omega
      have hfi64 : fi < 64 := by omega
      have hcn1 : 1 ≤ cn := by omega
      have hcn2 : fi + cn ≤ 64 := by omega
      have WS := As.mk (word_step size b f m on p fi cn hfi (by omega) (by omega) (by omega) hm hs)
      have hat : atW (LvK size b (setB b f m on) lo k) 0 p = wb (twF size b p) := by
        show (lA size b (setB b f m on) lo k).getD p fullW = _
        rw [List.getD_eq_getElem?_getD, lA_at _ _ _ _ _ _ hpn, if_neg (by omega)]
        rfl
      have HA := As.mk (fun wx hL => hat ▸ tree_at_i size (some ⟨gh, 0, none⟩) (r + 1) ch (LvK size b (setB b f m on) lo k) 0 p 0 (p : Int) wx hL rfl rfl)
      have HPU := As.mk (fun u wx h => tree_put_i (SetL w.heap.size size (.slice (some ⟨gh, 0, none⟩) (r + 1) ch)) (fun _ => True) size (some ⟨gh, 0, none⟩) (r + 1) ch 0 p u 0 (p : Int) (LvK size b (setB b f m on) lo k) w wx h (by simp [LvK]) (by simp only [LvK, List.getElem_cons_zero, lA_len]; exact hpn) rfl rfl)
      have HSTEP := As.mk (show ∀ u, u = tw size (setB b f m on) p → (LvK size b (setB b f m on) lo k).set 0 ((lA size b (setB b f m on) lo k).set p u) = LvK size b (setB b f m on) lo (k + 1) by
        intro u hu
        unfold LvK
        rw [List.set_cons_zero, hu, lA_succ _ _ _ _ _ (by omega), ← hp])
      have F4 := As.mk (And.intro hp (And.intro hfi hcn))
      clear F1 F2 F3 hp hfi hcn hat
      go_wp2_with fail
      refine (word_Mask fi cn _ hfi64 hcn1 hcn2).mono ?_
      rintro e w2 ⟨rfl, rfl⟩
      go_wp2_with fail
      refine (HA.out _ HT.out.lev).mono ?_
      rintro e w2 ⟨rfl, hb⟩
      have HT1 := As.mk (HT.out.below hb)
      have y0 := (setL_cells HT1.out).1
      have y1 := (setL_cells HT1.out).2
      clear hb z0 z1 z2
      have ha := u64_andNot (twF size b p) (rng fi cn)
      have ho := u64_or (fun t => twF size b p t && !rng fi cn t) (rng fi cn)
      cases on with
      | true =>
        go_wp2_with fail
        refine (HPU.out _ _ HT1.out).mono ?_
        rintro e w3 ⟨rfl, ht⟩
        have HT2 := As.mk ht
        clear ht ha ho y0 y1
        go_wp2_with fail
        go_roundw
        case rel => exact ⟨k + 1, by have := F4.out; omega, by rw [F4.out.1]; go_num, by rw [← HSTEP.out _ WS.out.symm]; exact HT2.out⟩
        case measure => simp [intOf]; omega
      | false =>
        go_wp2_with fail
        refine (HPU.out _ _ HT1.out).mono ?_
        rintro e w3 ⟨rfl, ht⟩
        have HT2 := As.mk ht
        clear ht ha ho y0 y1
        go_wp2_with fail
        go_roundw
        case rel => exact ⟨k + 1, by have := F4.out; omega, by rw [F4.out.1]; go_num, by rw [← HSTEP.out _ WS.out.symm]; exact HT2.out⟩
        case measure => simp [intOf]; omega
    · have e : k = hi + 1 - lo := by omega
      have hgt : ((p : Int) ≤ (hi : Int)) = False := eq_false (by omega)
      have HT1 : As (TOwn (SetL w.heap.size size (.slice (some ⟨gh, 0, none⟩) (r + 1) ch)) (fun _ => True) w wr (.slice (some ⟨gh, 0, none⟩) (r + 1) ch) (lv0 size (setB b f m on) :: lvR size b)) := by
        have h9 := HT.out
        unfold LvK at h9
        rw [e, LA.out] at h9
        exact As.mk h9
      clear HT e hp
      go_wp2_with fail
      go_quiet (fail)
      have HT2 : As (TOwn (SetL w.heap.size size (.slice (some ⟨gh, 0, none⟩) (r + 1) ch)) (fun _ => True) w (wr.drewN nq) (.slice (some ⟨gh, 0, none⟩) (r + 1) ch) (lv0 size (setB b f m on) :: lvR size b)) := As.mk (HT1.out.below ⟨rfl, rfl, rfl, Nat.le_refl _, fun _ _ => rfl⟩)
      clear HT1 z0 z1 z2
      obtain ⟨wd, hwd⟩ : ∃ wd, wd = wr.drewN nq := ⟨_, rfl⟩
      rw [← hwd] at HT2 ⊢
      clear hwd hgt
      go_wp2_with fail
      go_loopw [14, 15, 16] (fun a b' i wr => ∃ q : Nat, q ≤ r ∧ i = .int .i64 ((1 + q : Nat) : Int) ∧ (∃ x y : Nat, x ≤ 64 ∧ y ≤ 64 ∧ a = .int .i64 x ∧ b' = .int .i64 y ∧ (q = 0 → x = lo ∧ y = hi)) ∧ TOwn (SetL w.heap.size size (.slice (some ⟨gh, 0, none⟩) (r + 1) ch)) (fun _ => True) w wr (.slice (some ⟨gh, 0, none⟩) (r + 1) ch) (lv0 size (setB b f m on) :: (if q = 0 then lvR size b else lvR size (setB b f m on)))) (fun _ _ i _ => r + 2 - (intOf i).toNat)
      case atStart => exact ⟨0, Nat.zero_le _, rfl, ⟨lo, hi, by omega, by omega, rfl, rfl, fun _ => ⟨rfl, rfl⟩⟩, by rw [if_pos rfl]; exact HT2.out⟩
      case round =>
        clear HT2
        obtain ⟨q, hq, rfl, ⟨x, y, hx, hy, rfl, rfl, hxy⟩, ht⟩ := hrel
        have z0 := (setL_cells ht).1
        have z1 := (setL_cells ht).2
        have HT := As.mk ht
        clear ht
        by_cases hqr : q < r
        · have hq0 : q = 0 := by omega
          subst hq0
          obtain ⟨rfl, rfl⟩ := hxy rfl
          have hnle : ¬ size ≤ 64 := by
            intro e
            have h9 := HR.out
            unfold lvR at h9
            rw [if_pos e] at h9
            have h10 : r = 0 := h9
            omega
          have HT1 : As (TOwn (SetL w.heap.size size (.slice (some ⟨gh, 0, none⟩) (r + 1) ch)) (fun _ => True) w wr (.slice (some ⟨gh, 0, none⟩) (r + 1) ch) [lv0 size (setB b f m on), [wb (swF size b)]]) := by
            have h9 := HT.out
            rw [if_pos rfl] at h9
            unfold lvR at h9
            rw [if_neg hnle] at h9
            exact As.mk h9
          have hle2 : lvR size (setB b f m on) = [[wb (swF size (setB b f m on))]] := by unfold lvR; rw [if_neg hnle]
          clear HT
          go_wp2_with fail
          refine (tree_sums _ _ (size : Int) _ (r + 1) ch (lv0 size (setB b f m on)) (swF size b) x y w wr HT1.out hlh (by rw [lv0_len]; omega) (by rw [lv0_len]; omega)).mono ?_
          rintro e w3 ⟨rfl, ht⟩
          rw [SG.out] at ht
          have HT2 := As.mk ht
          clear ht z0 z1 HT1
          have hx2 : x / 64 ≤ 64 := by omega
          have hy2 : y / 64 ≤ 64 := by omega
          go_wp2_with fail
          go_roundw
          case rel => exact ⟨1, by omega, rfl, ⟨x / 64, y / 64, hx2, hy2, rfl, rfl, fun h => absurd h (by decide)⟩, by rw [if_neg (by decide), hle2]; exact HT2.out⟩
          case measure => simp [intOf] <;> omega
        · have hqe : q = r := by omega
          subst hqe
          have hfin : (if q = 0 then lvR size b else lvR size (setB b f m on)) = lvR size (setB b f m on) := by
            split
            · rename_i h0
              have h9 := HR.out
              rw [h0] at h9
              have e : size ≤ 64 := by
                refine Decidable.byContradiction fun e => ?_
                unfold lvR at h9
                rw [if_neg e] at h9
                cases h9
              unfold lvR
              rw [if_pos e, if_pos e]
            · rfl
          have ht := HT.out
          rw [hfin, ← lvs_eq] at ht
          have ht4 := (ht.setL 0 (g := w.heap.size + 1) (e := 132) (cs := [.int .i64 0, .slice none 0 0]) rfl 0 (.int .i64 size) (by simp)).setL 0 (g := w.heap.size + 1) (e := 132) (cs := [.int .i64 size, .slice none 0 0]) rfl 1 (.slice (some ⟨gh, 0, none⟩) (q + 1) ch) (by simp)
          have x0 := (ht.getL (g := w.heap.size + 1) (e := 132) (cs := [.int .i64 0, .slice none 0 0]) (by simp [SetL]) 0 (by simp)).1
          have x1 := (ht.getL (g := w.heap.size + 1) (e := 132) (cs := [.int .i64 0, .slice none 0 0]) (by simp [SetL]) 1 (by simp)).1
          have x2 := (ht.getL (g := w.heap.size + 1) (e := 132) (cs := [.int .i64 0, .slice none 0 0]) (by simp [SetL]) 0 (by simp)).2
          have x3 := (ht.getL (g := w.heap.size + 1) (e := 132) (cs := [.int .i64 0, .slice none 0 0]) (by simp [SetL]) 1 (by simp)).2
          have HT1 := As.mk ht4
          clear ht4 ht HT
          have hgt : ¬ ((1 + q : Nat) : Int) < ((q + 1 : Nat) : Int) := by omega
          go_wp2
          refine bodyPost_ret (v := .agg #[.int .i64 size, .slice (some ⟨gh, 0, none⟩) (q + 1) ch]) (by simp [results, go_sem, *]) rfl ?_
          exact ⟨_, rfl, HT1.out.levF, HT1.out.rest.toBelow⟩
end Go.Proofs.YtmookafmdonopaaGreat.Top
