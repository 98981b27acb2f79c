/- slots.Use walked. -/
import Derived.Test.YtmookafmdonopaaGreatM09
import Derived.Laws.CopyRow
import Derived.Lib.AppendZerosOnto
import Derived.Lib.Overlaps
/- slots.Use walked. -/
namespace Go.Proofs.YtmookafmdonopaaGreat.Top
open Go Go.RowKit
set_option linter.unusedVariables false
set_option linter.unusedSimpArgs false
attribute [local go_sem] max2_int min2_int max_two min_two max_three

theorem SOwn.below {L : List (Nat × (Obj → Prop))} {R : World → Prop} {w0 w w1 : World} {g cap n : Nat} {sz : Nat → Nat} {lf : Nat → List (List Nat)} (h : SOwn L R w0 w g cap n sz lf) (hb : Below w.heap.size w w1) : SOwn L R w0 w1 g cap n sz lf := by
 obtain ⟨us, xs, h1, h2, h3, h4⟩ := h
 exact ⟨us, xs, h1, h2, h3, h4.below hb⟩
theorem SOwn.box {L : List (Nat × (Obj → Prop))} {R : World → Prop} {w0 w : World} {g cap n : Nat} {sz : Nat → Nat} {lf : Nat → List (List Nat)} (h : SOwn L R w0 w g cap n sz lf) (cs : Array Value) (T : TypeId) : SOwn ((w.heap.size, EC T cs.toList) :: L) R w0 (w.alloc (.cells cs T)) g cap n sz lf := by
 obtain ⟨us, xs, h1, h2, h3, h4⟩ := h
 exact ⟨us, xs, h1, h2, h3, (h4.box cs T).swap⟩
theorem SOwn.drop {L : List (Nat × (Obj → Prop))} {R : World → Prop} {w0 w : World} {g cap n : Nat} {x : Nat × (Obj → Prop)} {sz : Nat → Nat} {lf : Nat → List (List Nat)} (h : SOwn (x :: L) R w0 w g cap n sz lf) : SOwn L R w0 w g cap n sz lf := by
 obtain ⟨us, xs, h1, h2, h3, h4⟩ := h
 exact ⟨us, xs, h1, h2, h3, h4.drop2⟩
theorem SOwn.rest {L : List (Nat × (Obj → Prop))} {R : World → Prop} {w0 w : World} {g cap n : Nat} {sz : Nat → Nat} {lf : Nat → List (List Nat)} (h : SOwn L R w0 w g cap n sz lf) : Own [] L R w0 w := by
 obtain ⟨us, xs, h1, h2, h3, h4⟩ := h
 exact h4.drop.imp fun W hW => hW.1
theorem SOwn.imp {L : List (Nat × (Obj → Prop))} {R R2 : World → Prop} {w0 w : World} {g cap n : Nat} {sz : Nat → Nat} {lf : Nat → List (List Nat)} (h : SOwn L R w0 w g cap n sz lf) (hr : ∀ W, R W → R2 W) : SOwn L R2 w0 w g cap n sz lf := by
 obtain ⟨us, xs, h1, h2, h3, h4⟩ := h
 exact ⟨us, xs, h1, h2, h3, h4.imp fun W hW => ⟨hr W hW.1, hW.2⟩⟩
theorem SOwn.result {L : List (Nat × (Obj → Prop))} {R R2 : World → Prop} {w0 w w1 : World} {g cap n : Nat} {sz : Nat → Nat} {lf : Nat → List (List Nat)} (h : SOwn L R w0 w g cap n sz lf) (hb : Below w.heap.size w w1) (hr : ∀ W : World, (∀ k, w.heap.size ≤ k → k < w1.heap.size → W.heap[k]? = w1.heap[k]?) → R2 W) : SOwn L (fun W => R W ∧ R2 W) w0 w1 g cap n sz lf := by
 obtain ⟨us, xs, h1, h2, h3, h4⟩ := h
 exact ⟨us, xs, h1, h2, h3, (h4.result hb hr).imp fun W hW => ⟨⟨hW.1.1, hW.2⟩, hW.1.2⟩⟩
/-- another own block is stored to -/
theorem SOwn.set {L : List (Nat × (Obj → Prop))} {R : World → Prop} {w0 w : World} {g cap n : Nat} {sz : Nat → Nat} {lf : Nat → List (List Nat)} (h : SOwn L R w0 w g cap n sz lf) (i : Nat) {a e : Nat} {cs : List Value} (hi : L[i]? = some (a, EC e cs)) (o : Nat) (u : Value) (ho : o < cs.length) : SOwn (L.set i (a, EC e (cs.set o u))) R w0 (w.setCell ⟨a, o, none⟩ u) g cap n sz lf := by
 obtain ⟨us, xs, h1, h2, h3, h4⟩ := h
 exact ⟨us, xs, h1, h2, h3, h4.set (i + 1) (by rw [List.getElem?_cons_succ]; exact hi) o u ho⟩
/-- a tree that the walk owns -/
theorem SOwn.tree {L : List (Nat × (Obj → Prop))} {R : World → Prop} {w0 w : World} {g cap n : Nat} {sz : Nat → Nat} {lf : Nat → List (List Nat)} (h : SOwn L R w0 w g cap n sz lf) (k : Nat) (hk : k < n) : w.cell? ⟨g, k * 2, none⟩ = some (.int .i64 (sz k)) ∧ ∃ A m d, w.cell? ⟨g, k * 2 + 1, none⟩ = some (.slice A m d) ∧ Lev w (.slice A m d) (lf k) := by
 obtain ⟨us, xs, h1, h2, h3, h4⟩ := h
 obtain ⟨u, hu⟩ : ∃ u, us[k]? = some u := ⟨us[k], List.getElem?_eq_getElem (by omega)⟩
 obtain ⟨c1, c2⟩ := h3.2 k u hu
 obtain ⟨A, m, d, rfl, hl⟩ := (h4.ro w (fun _ _ _ _ => rfl)).2 k u hu
 have l1 := (List.getElem?_eq_some_iff.1 c1).1
 have l2 := (List.getElem?_eq_some_iff.1 c2).1
 exact ⟨by rw [h4.get List.mem_cons_self _ l1, c1], A, m, d, by rw [h4.get List.mem_cons_self _ l2, c2], hl⟩
/-- a tree is put back -/
theorem SOwn.put {L : List (Nat × (Obj → Prop))} {R : World → Prop} {w0 w : World} {g cap n : Nat} {sz : Nat → Nat} {lf lf' : Nat → List (List Nat)} {A : Option Addr} {m d : Nat} (k : Nat) (hk : k < n) (h : SOwn L (fun W => R W ∧ Lev W (.slice A m d) (lf' k)) w0 w g cap n sz lf) (hl : ∀ j, j ≠ k → lf' j = lf j) : SOwn L R w0 ((w.setCell ⟨g, k * 2, none⟩ (.int .i64 (sz k))).setCell ⟨g, k * 2 + 1, none⟩ (.slice A m d)) g cap n sz lf' := by
 obtain ⟨us, xs, h1, h2, h3, h4⟩ := h
 have hx := h3.1
 have h5 := (h4.set 0 rfl (k * 2) (.int .i64 (sz k)) (by omega)).set 0 rfl (k * 2 + 1) (.slice A m d) (by rw [List.length_set]; omega)
 exact ⟨_, _, h1, by rw [List.length_set]; exact h2, h3.set k (.slice A m d) (by omega), h5.imp fun W hW => ⟨hW.1.1, hW.2.set hW.1.2 hl⟩⟩
theorem SOwn.frozen {L : List (Nat × (Obj → Prop))} {R : World → Prop} {w0 w : World} {g cap n : Nat} {sz : Nat → Nat} {lf : Nat → List (List Nat)} (h : SOwn L R w0 w g cap n sz lf) (o : Nat) : w.frozen? ⟨g, o, none⟩ = false := by
 obtain ⟨us, xs, h1, h2, h3, h4⟩ := h
 exact h4.frozen List.mem_cons_self o
theorem TrR.ge {w : World} {v : Value} {L : Nat} {sz : Nat → Nat} {lf : Nat → List (List Nat)} (h : TrR w v L sz lf) : ∃ g c, v = .slice (some ⟨g, 0, none⟩) L c := by
 obtain ⟨g, c, h1, _⟩ := h
 exact ⟨g, c, h1⟩
theorem SOwn.merge {L : List (Nat × (Obj → Prop))} {R R2 : World → Prop} {w0 w w1 : World} {g cap n : Nat} {sz : Nat → Nat} {lf : Nat → List (List Nat)} (h : Own [] L R w0 w) (k : SOwn [] R2 w w1 g cap n sz lf) : SOwn L (fun W => R W ∧ R2 W) w0 w1 g cap n sz lf := by
 obtain ⟨us, xs, h1, h2, h3, h4⟩ := k
 exact ⟨us, xs, h1, h2, h3, (Own.merge h h4).imp fun W hW => ⟨⟨hW.1, hW.2.1⟩, hW.2.2⟩⟩
set_option maxHeartbeats 1000000 in
theorem slots_Use_no (v : Value) (L : Nat) (sz : Nat → Nat) (b : Nat → Nat → Bool) (w : World) (h : TrR w v L sz (fun k => lvs (sz k) (b k))) (hL : 1 ≤ L) (hL2 : L ≤ 17) (hs : ∀ k, k < L → sz k ≤ 65536) :
 Calls Tryz.prog 107 #[.agg #[v], .int .i64 0, .int .i64 0, .bool true] w fun e w' => ∃ v', e = .returned (.agg #[v']) ∧ TrF w.heap.size w' v' L sz (fun k => lvs (sz k) (b k)) ∧ Below w.heap.size w w' := by
 obtain ⟨g, c, rfl⟩ := h.ge
 have H := As.mk h
 have HO := As.mk (((Own.start (X := []) w).box #[.slice (some ⟨g, 0, none⟩) L c] 80).box #[.slice none 0 0] 80)
 have HSZ := As.mk hs
 have hl0 : ((L : Int) == 0) = false := beqF (by omega)
 clear h hs
 go_enter Tryz.func107, Tryz.ntmps107
 go_wp2_with fail
 refine (slots_twin _ L sz b _ (H.out.below HO.out.toBelow) hL hL2 HSZ.out).mono ?_
 rintro e w1 ⟨g', cap, rfl, ht⟩
 have ht2 := (SOwn.merge HO.out ht).box #[.slice (some ⟨g', 0, none⟩) L cap] 80
 rw [World.size_alloc] at ht2
 have HT := As.mk ht2
 clear ht ht2 HO
 have hset := HT.out.set 1 (a := w.heap.size + 1) (e := 80) (cs := [.slice none 0 0]) rfl 0 (.slice (some ⟨g', 0, none⟩) L cap) (by simp)
 have x0 := HT.out.rest.get (g := w.heap.size + 1) (e := 80) (cs := [.slice none 0 0]) (by simp) 0 (by simp)
 have x1 := HT.out.rest.frozen (g := w.heap.size + 1) (e := 80) (cs := [.slice none 0 0]) (by simp) 0
 have HS := As.mk hset
 clear hset HT
 go_wp2
 refine bodyPost_ret (v := .agg #[.slice (some ⟨g', 0, none⟩) L cap]) (by simp [results, Tryz.f107, go_sem, *]) rfl ?_
 exact ⟨_, rfl, HS.out.trF, HS.out.rest.toBelow⟩
theorem tree_Set_i (size : Nat) (b : Nat → Bool) (A : Option Addr) (n c : Nat) (f m : Nat) (F M : Int) (on : Bool) (w : World) (h : Lev w (.slice A n c) (lvs size b)) (h2 : size ≤ 4096) (hm : 1 ≤ m) (hs : f + m ≤ size) (hF : F = (f : Int)) (hM : M = (m : Int)) :
 Calls Tryz.prog 117 #[.agg #[.int .i64 size, .slice A n c], .int .i64 F, .int .i64 M, .bool on] w fun e w' => ∃ v, e = .returned (.agg #[.int .i64 size, v]) ∧ LevF w.heap.size w' v (lvs size (setB b f m on)) ∧ Below w.heap.size w w' := by
 subst hF; subst hM
 exact tree_Set size b A n c f m on w h h2 hm hs
theorem lfU_0 (n : Nat) (b B : Nat → Bool) : lfU n b B 0 = fun j => lvs (n / 2 ^ j) (bk b j) := by
 funext j
 unfold lfU
 rw [if_neg (by omega)]
theorem lfU_all (n L : Nat) (b B : Nat → Bool) (j : Nat) (hj : j < L) : lfU n b B L j = lvs (n / 2 ^ j) (bk B j) := by
 unfold lfU
 rw [if_pos hj]
theorem lfU_at (n : Nat) (b B : Nat → Bool) (k : Nat) : lfU n b B k k = lvs (n / 2 ^ k) (bk b k) := by
 unfold lfU
 rw [if_neg (by omega)]
theorem lfU_low (n : Nat) (b B : Nat → Bool) (k j : Nat) (h : j < k) : lfU n b B k j = lvs (n / 2 ^ j) (bk B j) := by
 unfold lfU
 rw [if_pos h]
/-- what Use owns beside its trees -/
def UL (h g L c g' cap q : Nat) : List (Nat × (Obj → Prop)) := [(q, EC 80 [.slice (some ⟨g', 0, none⟩) L cap]), (h + 1, EC 80 [.slice none 0 0]), (h, EC 80 [.slice (some ⟨g, 0, none⟩) L c])]
set_option maxHeartbeats 1000000 in
theorem slots_Use (v : Value) (L n a m : Nat) (b : Nat → Bool) (on : Bool) (w : World) (h : TrR w v L (fun k => n / 2 ^ k) (fun k => lvs (n / 2 ^ k) (bk b k))) (hL : 1 ≤ L) (hL2 : L ≤ 17) (hn : n ≤ 4096) (hd : 2 ^ (L - 1) ∣ n) (hm : 1 ≤ m) (ham : a + m ≤ n) :
 Calls Tryz.prog 107 #[.agg #[v], .int .i64 a, .int .i64 m, .bool on] w fun e w' => ∃ v', e = .returned (.agg #[v']) ∧ TrF w.heap.size w' v' L (fun k => n / 2 ^ k) (fun k => lvs (n / 2 ^ k) (bk (setB b a m on) k)) ∧ Below w.heap.size w w' := by
 obtain ⟨g, c, rfl⟩ := h.ge
 have H := As.mk h
 have HO := As.mk (((Own.start (X := []) w).box #[.slice (some ⟨g, 0, none⟩) L c] 80).box #[.slice none 0 0] 80)
 have hsz : ∀ k, n / 2 ^ k ≤ n := fun k => Nat.div_le_self _ _
 have HSZ := As.mk (show ∀ k, k < L → n / 2 ^ k ≤ 65536 from fun k _ => Nat.le_trans (hsz k) (by omega))
 have HSZ2 := As.mk (show ∀ k, n / 2 ^ k ≤ 4096 from fun k => Nat.le_trans (hsz k) hn)
 have HD := As.mk hd
 clear h hsz hd
 have c0 : ((L : Int) == 0) = false := beqF (by omega)
 have c1 : ((a : Int) < 0) = False := eq_false (by omega)
 have c2 : ((m : Int) < 1) = False := eq_false (by omega)
 have c3 : ((n : Int) ≤ (a : Int)) = False := eq_false (by omega)
 have c3' : (n ≤ a) = False := eq_false (by omega)
 have c4 : min (m : Int) ((n : Int) - (a : Int)) = (m : Int) := by omega
 obtain ⟨la, hla⟩ : ∃ la, la = a + m - 1 := ⟨_, rfl⟩
 have c5 : (a : Int) + (m : Int) - 1 = (la : Int) := by omega
 have LA := As.mk hla
 have hlan : la < n := by omega
 have hala : a ≤ la := by omega
 clear hla
 go_enter Tryz.func107, Tryz.ntmps107
 go_wp2_with fail
 refine (slots_twin _ L _ (fun k => bk b k) _ (H.out.below HO.out.toBelow) hL hL2 HSZ.out).mono ?_
 rintro e w1 ⟨g', cap, rfl, ht⟩
 have ht2 := (SOwn.merge HO.out ht).box #[.slice (some ⟨g', 0, none⟩) L cap] 80
 rw [World.size_alloc] at ht2
 obtain ⟨z0, -⟩ := ht2.tree 0 (by omega)
 rw [Nat.zero_mul] at z0
 simp only [Nat.pow_zero, Nat.div_one] at z0
 obtain ⟨q9, hq9⟩ : ∃ q, q = w1.heap.size := ⟨_, rfl⟩
 have HT : As (SOwn (UL w.heap.size g L c g' cap q9) (fun _ => True) w (w1.alloc (.cells #[.slice (some ⟨g', 0, none⟩) L cap] 80)) g' cap L (fun k => n / 2 ^ k) (lfU n b (setB b a m on) 0)) := by
  rw [lfU_0]
  subst hq9
  exact As.mk (ht2.imp fun _ _ => trivial)
 have HQ9 := As.mk hq9
 clear hq9
 clear ht ht2 HO
 go_wp2_with fail
 rw [← HQ9.out]
 go_loopw [56] (fun i wr => ∃ k : Nat, k ≤ L ∧ i = .int .i64 (k : Int) ∧ SOwn (UL w.heap.size g L c g' cap q9) (fun _ => True) w wr g' cap L (fun k => n / 2 ^ k) (lfU n b (setB b a m on) k)) (fun i _ => L - (intOf i).toNat)
 case atStart => exact ⟨0, Nat.zero_le _, rfl, HT.out⟩
 case round =>
  clear HT z0
  obtain ⟨k, hk, rfl, ht⟩ := hrel
  by_cases hkL : k < L
  · obtain ⟨z1, A, d, e, z2, z3⟩ := ht.tree k hkL
    rw [lfU_at] at z3
    obtain ⟨sz, hsz⟩ : ∃ sz, sz = n / 2 ^ k := ⟨_, rfl⟩
    have z1' : wr.cell? ⟨g', k * 2, none⟩ = some (.int .i64 (sz : Int)) := by rw [z1, hsz]
    have ht2 := ht.box #[.int .i64 sz, .slice A d e] 132
    obtain ⟨q, hq⟩ : ∃ q, q = wr.heap.size := ⟨_, rfl⟩
    have hp := Nat.two_pow_pos k
    obtain ⟨lo, hlo⟩ : ∃ lo, lo = a / 2 ^ k := ⟨_, rfl⟩
    obtain ⟨hi, hhi⟩ : ∃ hi, hi = la / 2 ^ k := ⟨_, rfl⟩
    have d1 : (a : Int) / 2 ^ k = (lo : Int) := by
     rw [hlo, show ((a / 2 ^ k : Nat) : Int) = (a : Int) / ((2 ^ k : Nat) : Int) from rfl, Int.natCast_pow]; rfl
    have d2 : (la : Int) / 2 ^ k = (hi : Int) := by
     rw [hhi, show ((la / 2 ^ k : Nat) : Int) = (la : Int) / ((2 ^ k : Nat) : Int) from rfl, Int.natCast_pow]; rfl
    have hlh : lo ≤ hi := by rw [hlo, hhi]; exact Nat.div_le_div_right hala
    have hdk : 2 ^ k ∣ n := Nat.dvd_trans (Nat.pow_dvd_pow 2 (by omega)) HD.out
    have hhs : hi < sz := by
     rw [hhi, hsz]
     refine (Nat.div_lt_iff_lt_mul hp).2 ?_
     rw [Nat.div_mul_cancel hdk]
     exact hlan
    have hsz4 : sz ≤ 4096 := by rw [hsz]; exact HSZ2.out k
    have LEV := As.mk (z3.below (box_below wr (.cells #[.int .i64 sz, .slice A d e] 132)))
    rw [← hsz] at LEV
    have E := As.mk (And.intro hsz (And.intro hlo hhi))
    have HT := As.mk ht2
    have HQ := As.mk hq
    clear z1 z3 ht ht2 hsz hlo hhi hdk hp hq
    obtain ⟨df, hdf⟩ : ∃ df, df = hi - lo := ⟨_, rfl⟩
    have hh : (hi : Int) - (lo : Int) = (df : Int) := by omega
    have DF := As.mk hdf
    have hdf2 : lo + (df + 1) ≤ sz := by omega
    clear hdf
    go_wp2_with fail
    rw [← HQ.out]
    rw [← HQ.out] at HT
    refine (tree_Set_i sz (bk b k) A d e lo (df + 1) _ _ on _ LEV.out hsz4 (by omega) hdf2 rfl (by omega)).mono ?_
    rintro e2 w2 ⟨v2, rfl, hf, hb⟩
    obtain ⟨A2, d2', e2', rfl⟩ := hf.form
    have ht3 := HT.out.result (R2 := fun W => Lev W (.slice A2 d2' e2') (lvs sz (cst b (setB b a m on) a m k on 0))) hb (fun W hW => by
     have h9 := hf W hW
     unfold cst
     rw [if_pos (Or.inr (Or.inr rfl)), ← LA.out, ← E.out.2.1, ← E.out.2.2, ← DF.out]
     exact h9)
    have x0 := ht3.rest.get (g := q) (e := 132) (cs := [.int .i64 sz, .slice A d e]) (by simp) 0 (by simp)
    have x1 := ht3.rest.get (g := q) (e := 132) (cs := [.int .i64 sz, .slice A d e]) (by simp) 1 (by simp)
    have x2 := ht3.rest.frozen (g := q) (e := 132) (cs := [.int .i64 sz, .slice A d e]) (by simp) 0
    have x3 := ht3.rest.frozen (g := q) (e := 132) (cs := [.int .i64 sz, .slice A d e]) (by simp) 1
    have ht4 := (ht3.set 0 (a := q) (e := 132) (cs := [.int .i64 sz, .slice A d e]) rfl 0 (.int .i64 sz) (by simp)).set 0 (a := q) (e := 132) (cs := [.int .i64 sz, .slice A d e]) rfl 1 (.slice A2 d2' e2') (by simp)
    have ht5 := ht4.box #[.int .i64 lo, .int .i64 hi] 3
    rw [World.size_setCell, World.size_setCell] at ht5
    obtain ⟨q2, hq2⟩ : ∃ q2, q2 = w2.heap.size := ⟨_, rfl⟩
    have HT5 : As (SOwn ((q2, EC 3 [.int .i64 lo, .int .i64 hi]) :: (q, EC 132 [.int .i64 sz, .slice A2 d2' e2']) :: UL w.heap.size g L c g' cap q9) (fun W => True ∧ Lev W (.slice A2 d2' e2') (lvs sz (cst b (setB b a m on) a m k on 0))) w (((w2.setCell ⟨q, 0, none⟩ (.int .i64 sz)).setCell ⟨q, 1, none⟩ (.slice A2 d2' e2')).alloc (.cells #[.int .i64 lo, .int .i64 hi] 3)) g' cap L (fun k => n / 2 ^ k) (lfU n b (setB b a m on) k)) := by
     subst hq2
     exact As.mk ht5
    have HQ2 := As.mk hq2
    clear HT LEV ht3 ht4 ht5 hb hf hq2
    go_wp2_with fail
    rw [← HQ2.out]
    go_loopw [81] (fun i wr => ∃ (i' : Nat) (A2 : Option Addr) (d2 e2 : Nat), i' ≤ 2 ∧ i = .int .i64 (i' : Int) ∧ SOwn ((q2, EC 3 [.int .i64 lo, .int .i64 hi]) :: (q, EC 132 [.int .i64 sz, .slice A2 d2 e2]) :: UL w.heap.size g L c g' cap q9) (fun W => True ∧ Lev W (.slice A2 d2 e2) (lvs sz (cst b (setB b a m on) a m k on i'))) w wr g' cap L (fun k => n / 2 ^ k) (lfU n b (setB b a m on) k)) (fun i _ => 2 - (intOf i).toNat)
    case atStart => exact ⟨0, A2, d2', e2', by omega, rfl, HT5.out⟩
    case round =>
     clear HT5 x0 x1 x2 x3
     obtain ⟨i, A3, d3, e3, hi2, rfl, ht⟩ := hrel
     have y0 := ht.rest.get (g := q2) (e := 3) (cs := [.int .i64 lo, .int .i64 hi]) (by simp) 0 (by simp)
     have y1 := ht.rest.get (g := q2) (e := 3) (cs := [.int .i64 lo, .int .i64 hi]) (by simp) 1 (by simp)
     have y2 := ht.rest.get (g := q) (e := 132) (cs := [.int .i64 sz, .slice A3 d3 e3]) (by simp) 0 (by simp)
     have y3 := ht.rest.get (g := q) (e := 132) (cs := [.int .i64 sz, .slice A3 d3 e3]) (by simp) 1 (by simp)
     have y4 := ht.rest.get (g := q9) (e := 80) (cs := [.slice (some ⟨g', 0, none⟩) L cap]) (by simp [UL]) 0 (by simp)
     by_cases hi3 : i < 2
     · obtain ⟨e, he⟩ : ∃ e, e = if i = 0 then lo else hi := ⟨_, rfl⟩
       have y5 : wr.cell? ⟨q2, i, none⟩ = some (.int .i64 (e : Int)) := by
        rcases (show i = 0 ∨ i = 1 by omega) with rfl | rfl
        · rw [he, if_pos rfl]; exact y0
        · rw [he, if_neg (by decide)]; exact y1
       have he2 : e < sz := by rw [he]; split <;> omega
       have hea : e = if i = 0 then a / 2 ^ k else (a + m - 1) / 2 ^ k := by rw [he, ← LA.out, ← E.out.2.1, ← E.out.2.2]
       have HEA := As.mk hea
       have HT := As.mk ht
       clear he hea ht y0 y1
       by_cases hon : on = true ∨ k = 0
       · have hcs : cst b (setB b a m on) a m k on i = cst b (setB b a m on) a m k on (i + 1) := cst_same _ _ _ _ _ _ _ _ hon
         have HT2 : As (SOwn ((q2, EC 3 [.int .i64 lo, .int .i64 hi]) :: (q, EC 132 [.int .i64 sz, .slice A3 d3 e3]) :: UL w.heap.size g L c g' cap q9) (fun W => True ∧ Lev W (.slice A3 d3 e3) (lvs sz (cst b (setB b a m on) a m k on (i + 1)))) w wr g' cap L (fun k => n / 2 ^ k) (lfU n b (setB b a m on) k)) := by
          rw [← hcs]; exact HT
         clear HT hcs
         rcases hon with hon | hon
         · subst hon
           by_cases hk0 : 0 < k
           · have hk0' : ((0 : Int) < (k : Int)) = True := eq_true (by omega)
             go_wp2_with fail
             go_roundw
             case rel => exact ⟨i + 1, _, _, _, by omega, by go_num, HT2.out⟩
             case measure => simp [intOf]; omega
           · have hk0' : ((0 : Int) < (k : Int)) = False := eq_false (by omega)
             go_wp2_with fail
             go_roundw
             case rel => exact ⟨i + 1, _, _, _, by omega, by go_num, HT2.out⟩
             case measure => simp [intOf]; omega
         · have hk0' : ((0 : Int) < (k : Int)) = False := eq_false (by omega)
           go_wp2_with fail
           go_roundw
           case rel => exact ⟨i + 1, _, _, _, by omega, by go_num, HT2.out⟩
           case measure => simp [intOf]; omega
       · have hof : on = false := by cases on with | true => exact absurd (Or.inl rfl) hon | false => rfl
         subst hof
         obtain ⟨kk, hkk⟩ : ∃ kk, k = kk + 1 := ⟨k - 1, by simp at hon; omega⟩
         obtain ⟨t1, A4, d4, e4, t2, t3⟩ := HT.out.tree kk (by omega)
         rw [lfU_low _ _ _ _ _ (by omega)] at t3
         obtain ⟨s4, hs4⟩ : ∃ s4, s4 = n / 2 ^ kk := ⟨_, rfl⟩
         replace t1 : wr.cell? ⟨g', kk * 2, none⟩ = some (.int .i64 (s4 : Int)) := by rw [t1, hs4]
         rw [← hs4] at t3
         have hs42 : 2 * e + 1 < s4 := by
          have h8 := E.out.1
          rw [hkk, Nat.pow_succ, ← Nat.div_div_eq_div_mul, ← hs4] at h8
          have h9 : sz ≤ s4 / 2 := by omega
          omega
         have hs43 : s4 ≤ 65536 := by rw [hs4]; exact HSZ.out kk (by omega)
         have hki : (k : Int) - 1 = (kk : Int) := by omega
         have hk0' : ((0 : Int) < (k : Int)) = True := eq_true (by omega)
         have hkn : k ≠ 0 := by omega
         have HTK := As.mk (fun W (hL : Lev W (.slice A4 d4 e4) (lvs s4 (bk (setB b a m false) kk))) => slots_taken s4 (bk (setB b a m false) kk) A4 d4 e4 e e W hL hs43 hs42 rfl)
         have hbk : (bk (setB b a m false) kk (2 * e) || bk (setB b a m false) kk (2 * e + 1)) = bk (setB b a m false) k e := by rw [hkk]; rfl
         rw [hbk] at HTK
         have HST := As.mk (cst_step b (setB b a m false) a m k i e hkn hi3 HEA.out)
         obtain ⟨x, hx⟩ : ∃ x, x = bk (setB b a m false) k e := ⟨_, rfl⟩
         rw [← hx] at HTK HST
         have LV4 := As.mk t3
         have HS := As.mk (show ∀ W, Below wr.heap.size wr W → W.cell? ⟨q, 0, none⟩ = some (.int .i64 sz) ∧ W.cell? ⟨q, 1, none⟩ = some (.slice A3 d3 e3) ∧ W.cell? ⟨q9, 0, none⟩ = some (.slice (some ⟨g', 0, none⟩) L cap) ∧ W.cell? ⟨g', kk * 2, none⟩ = some (.int .i64 s4) ∧ W.cell? ⟨g', kk * 2 + 1, none⟩ = some (.slice A4 d4 e4) from
          fun W hb => ⟨cell_below hb y2, cell_below hb y3, cell_below hb y4, cell_below hb t1, cell_below hb t2⟩)
         have hkkL : kk < L := by omega
         have hwk : IntKind.i64.wrap (kk : Int) = (kk : Int) := iw64 _ (by omega) (by omega)
         have hbb : ((kk : Int) < (L : Int)) = True := eq_true (by omega)
         have hbc : (0 : Int) ≤ (kk : Int) := by omega
         clear t3 hx hbk hs4 hkk hon
         go_wp2_with fail
         refine rgn [(0, 0), (1, 1), (2, 1), (3, 0), (4, 1), (5, 1), (6, 1), (7, 0), (8, 1), (9, 2), (10, 2), (11, 3)] [11] (fun W => W.cell? ⟨q, 0, none⟩ = some (.int .i64 sz) ∧ W.cell? ⟨q, 1, none⟩ = some (.slice A3 d3 e3) ∧ W.cell? ⟨q9, 0, none⟩ = some (.slice (some ⟨g', 0, none⟩) L cap) ∧ W.cell? ⟨g', kk * 2, none⟩ = some (.int .i64 s4) ∧ W.cell? ⟨g', kk * 2 + 1, none⟩ = some (.slice A4 d4 e4)) (by kernel_rfl) (by kernel_rfl) (fun _ _ _ d _ h => by cases d <;> exact h) (HS.out _ (drew_below _)) ?_
         refine Run.rd (v := ?_) (a' := ?_) rfl rfl (Or.inl ⟨by rfl, ?_⟩) ?_ ?_; rotate_left 2; (focus (rintro W ⟨hW1, hW2, hW3, hW4, hW5⟩; go_simp; with_reducible rfl)); (focus (simp only [Act.put, zq4, zq5, zq6]; rfl))
         iterate 2 (refine Run.pu (v := ?_) (a' := ?_) rfl rfl (Or.inl ⟨by rfl, ?_⟩) ?_ ?_; rotate_left 2; (focus (intro W; go_simp; with_reducible rfl)); (focus (simp only [Act.put, zq4, zq5, zq6]; rfl)))
         refine Run.rd (v := ?_) (a' := ?_) rfl rfl (Or.inl ⟨by rfl, ?_⟩) ?_ ?_; rotate_left 2; (focus (rintro W ⟨hW1, hW2, hW3, hW4, hW5⟩; go_simp; with_reducible rfl)); (focus (simp only [Act.put, zq4, zq5, zq6]; rfl))
         iterate 3 (refine Run.pu (v := ?_) (a' := ?_) rfl rfl (Or.inl ⟨by rfl, ?_⟩) ?_ ?_; rotate_left 2; (focus (intro W; go_simp; with_reducible rfl)); (focus (simp only [Act.put, zq4, zq5, zq6]; rfl)))
         refine Run.rd (v := ?_) (a' := ?_) rfl rfl (Or.inl ⟨by rfl, ?_⟩) ?_ ?_; rotate_left 2; (focus (rintro W ⟨hW1, hW2, hW3, hW4, hW5⟩; go_simp; with_reducible rfl)); (focus (simp only [Act.put, zq4, zq5, zq6]; rfl))
         refine Run.pu (v := ?_) (a' := ?_) rfl rfl (Or.inl ⟨by rfl, ?_⟩) ?_ ?_; rotate_left 2; (focus (intro W; go_simp; with_reducible rfl)); (focus (simp only [Act.put, zq4, zq5, zq6]; rfl))
         refine Run.ef rfl (fun K hK => ?_)
         simp only [zq1, zq2, zq3]
         go_wp2_with fail
         refine (HTK.out _ (LV4.out.below (drew_below _))).mono ?_
         rintro e5 w5 ⟨rfl, hb⟩
         have HB := As.mk ((drew_below wr).trans (hb.mono (drew_below wr).size))
         clear hb
         go_wp2
         refine hK.out _ _ (HS.out _ HB.out) ?_
         clear hK K
         refine Run.ef rfl (fun K hK => ?_)
         simp only [zq1, zq2, zq3]
         go_wp2_with fail
         have HT1 := As.mk (HT.out.below HB.out)
         obtain ⟨us, xs, q1, q2', q3, q4⟩ := HT1.out
         have hl9 := (q4.ro w5 (fun _ _ _ _ => rfl)).1.2
         clear q1 q2' q3 q4
         refine (tree_Set_i sz _ A3 d3 e3 e 1 _ 1 x _ hl9 hsz4 (by decide) he2 rfl rfl).mono ?_
         rintro e6 w6 ⟨v6, rfl, hf, hb⟩
         obtain ⟨A6, d6, e6', rfl⟩ := hf.form
         rw [HST.out] at hf
         have HB2 := As.mk (HB.out.trans (hb.mono HB.out.size))
         have ht7 := (HT1.out.result (R2 := fun W => Lev W (.slice A6 d6 e6') (lvs sz (cst b (setB b a m false) a m k false (i + 1)))) hb (fun W hW => hf W hW)).imp (R2 := fun W => True ∧ Lev W (.slice A6 d6 e6') (lvs sz (cst b (setB b a m false) a m k false (i + 1)))) (fun W hW => ⟨trivial, hW.2⟩)
         have x0 := ht7.rest.get (g := q) (e := 132) (cs := [.int .i64 sz, .slice A3 d3 e3]) (by simp) 0 (by simp)
         have x1 := ht7.rest.get (g := q) (e := 132) (cs := [.int .i64 sz, .slice A3 d3 e3]) (by simp) 1 (by simp)
         have x2 := ht7.rest.frozen (g := q) (e := 132) (cs := [.int .i64 sz, .slice A3 d3 e3]) (by simp) 0
         have x3 := ht7.rest.frozen (g := q) (e := 132) (cs := [.int .i64 sz, .slice A3 d3 e3]) (by simp) 1
         have ht8 := (ht7.set 1 (a := q) (e := 132) (cs := [.int .i64 sz, .slice A3 d3 e3]) rfl 0 (.int .i64 sz) (by simp)).set 1 (a := q) (e := 132) (cs := [.int .i64 sz, .slice A3 d3 e3]) rfl 1 (.slice A6 d6 e6') (by simp)
         have HT8 := As.mk ht8
         clear ht7 ht8 hb hf hl9 HT HT1 y2 y3 y4 y5
         go_wp2
         refine hK.out _ _ (HS.out _ HB2.out) ?_
         clear hK K
         refine Run.la rfl (fun K hK => ?_)
         simp only [zq1, zq2, zq3]
         go_wp2
         refine hK.out _ _ ?_
         clear hK K x0 x1 x2 x3
         refine Run.nil ?_
         go_wp2_with fail
         go_roundw
         case rel => exact ⟨i + 1, _, _, _, by omega, by go_num, HT8.out⟩
         case measure => simp [intOf]; omega
     · have hi4 : i = 2 := by omega
       subst hi4
       obtain ⟨b1, A5, d5, e5, b2, -⟩ := ht.tree k hkL
       have b3 := ht.frozen (k * 2)
       have b4 := ht.frozen (k * 2 + 1)
       have ht2 : SOwn ((q2, EC 3 [.int .i64 lo, .int .i64 hi]) :: (q, EC 132 [.int .i64 sz, .slice A3 d3 e3]) :: UL w.heap.size g L c g' cap q9) (fun W => True ∧ Lev W (.slice A3 d3 e3) (lfU n b (setB b a m on) (k + 1) k)) w wr g' cap L (fun k => n / 2 ^ k) (lfU n b (setB b a m on) k) := by
        rw [cst_2 b a m k on hm] at ht
        rw [lfU_low n b (setB b a m on) (k + 1) k (by omega), ← E.out.1]
        exact ht
       have ht3 := (SOwn.put (lf' := lfU n b (setB b a m on) (k + 1)) k hkL ht2 (fun j hj => by
        unfold lfU
        by_cases h : j < k
        · rw [if_pos h, if_pos (by omega)]
        · rw [if_neg h, if_neg (by omega)])).drop.drop
       have HT3 : As (SOwn (UL w.heap.size g L c g' cap q9) (fun _ => True) w ((wr.setCell ⟨g', k * 2, none⟩ (.int .i64 (sz : Int))).setCell ⟨g', k * 2 + 1, none⟩ (.slice A3 d3 e3)) g' cap L (fun k => n / 2 ^ k) (lfU n b (setB b a m on) (k + 1))) := by
        have h9 := ht3
        have e9 : (sz : Int) = ((n / 2 ^ k : Nat) : Int) := by rw [E.out.1]
        rw [e9]
        exact As.mk h9
       clear ht ht2 ht3 y0 y1
       go_wp2_with fail
       go_roundw
       case rel => exact ⟨k + 1, by omega, by go_num, HT3.out⟩
       case measure => simp [intOf]; omega
  · have hkL' : k = L := by omega
    subst hkL'
    have ht2 : SOwn (UL w.heap.size g k c g' cap q9) (fun _ => True) w wr g' cap k (fun k => n / 2 ^ k) (fun j => lvs (n / 2 ^ j) (bk (setB b a m on) j)) := by
     obtain ⟨us, xs, q1, q2, q3, q4⟩ := ht
     refine ⟨us, xs, q1, q2, q3, q4.imp fun W hW => ⟨hW.1, fun j u hu => ?_⟩⟩
     obtain ⟨A, n1, d1, h1, h2⟩ := hW.2 j u hu
     rw [lfU_all n k b _ j (by have := (List.getElem?_eq_some_iff.1 hu).1; omega)] at h2
     exact ⟨A, n1, d1, h1, h2⟩
    have hset := ht2.set 1 (a := w.heap.size + 1) (e := 80) (cs := [.slice none 0 0]) rfl 0 (.slice (some ⟨g', 0, none⟩) k cap) (by simp)
    have x0 := ht2.rest.get (g := w.heap.size + 1) (e := 80) (cs := [.slice none 0 0]) (by simp [UL]) 0 (by simp)
    have x1 := ht2.rest.frozen (g := w.heap.size + 1) (e := 80) (cs := [.slice none 0 0]) (by simp [UL]) 0
    have x2 := ht2.rest.get (g := q9) (e := 80) (cs := [.slice (some ⟨g', 0, none⟩) k cap]) (by simp [UL]) 0 (by simp)
    have HS := As.mk hset
    clear hset ht2 ht
    go_wp2
    refine bodyPost_ret (v := .agg #[.slice (some ⟨g', 0, none⟩) k cap]) (by simp [results, Tryz.f107, go_sem, *]) rfl ?_
    exact ⟨_, rfl, HS.out.trF, HS.out.rest.toBelow⟩
end Go.Proofs.YtmookafmdonopaaGreat.Top
/- slots.Lowest walked. -/
namespace Go.Proofs.YtmookafmdonopaaGreat.Top
open Go Go.RowKit
set_option linter.unusedVariables false
set_option linter.unusedSimpArgs false
attribute [local go_sem] max2_int min2_int max_two min_two max_three

set_option maxHeartbeats 1000000 in
theorem slots_Lowest (v : Value) (L n k : Nat) (b : Nat → Bool) (w : World) (h : TrR w v L (fun k => n / 2 ^ k) (fun k => lvs (n / 2 ^ k) (bk b k))) (hk : k < L) (hn1 : 1 ≤ n / 2 ^ k) (hn : n ≤ 4096) :
 Calls Tryz.prog 111 #[.agg #[v], .int .i64 k] w fun e w' => FZr (n / 2 ^ k) (bk b k) e ∧ Below w.heap.size w w' := by
 obtain ⟨g, c, rfl⟩ := h.ge
 have hb := h.below (box_below w (.cells #[.slice (some ⟨g, 0, none⟩) L c] 80))
 obtain ⟨g2, c2, hv2, hc2, hk2⟩ := hb
 injection hv2 with e1 e2 e3
 injection e1 with e1
 injection e1 with e1 _ _
 subst e1
 subst e3
 obtain ⟨z1, A, d, e, z2, z3⟩ := hk2 k hk
 have hs4 : n / 2 ^ k ≤ 4096 := Nat.le_trans (Nat.div_le_self _ _) hn
 obtain ⟨sz, hsz⟩ : ∃ sz, sz = n / 2 ^ k := ⟨_, rfl⟩
 replace z1 : (w.alloc (.cells #[.slice (some ⟨g, 0, none⟩) L c] 80)).cell? ⟨g, k * 2, none⟩ = some (.int .i64 (sz : Int)) := by rw [z1, hsz]
 have z3' : Lev (w.alloc (.cells #[.slice (some ⟨g, 0, none⟩) L c] 80)) (.slice A d e) (lvs sz (bk b k)) := by rw [hsz]; exact z3
 rw [← hsz] at hn1 hs4 ⊢
 have HF := As.mk (tree_FirstZero sz (bk b k) A d e _ z3' hn1 hs4)
 have hk2' : (L ≤ k) = False := eq_false (by omega)
 have hk3' : ((L : Int) ≤ (k : Int)) = False := eq_false (by omega)
 clear h hk2 z3 z3' hsz
 go_enter Tryz.func111, Tryz.ntmps111
 go_wp2_with fail
 refine HF.out.mono ?_
 rintro e w1 ⟨⟨v, ok, rfl, hz⟩, hb⟩
 have HB := As.mk (below_trans1 hb)
 have HZ := As.mk hz
 clear HF hb hz
 go_wp2
 refine bodyPost_ret (v := .tuple #[.int .i64 v, .bool ok]) (by simp [results, Tryz.f111, go_sem, *]) rfl ?_
 exact ⟨⟨_, _, rfl, HZ.out⟩, HB.out⟩
end Go.Proofs.YtmookafmdonopaaGreat.Top
/- Blocks that are known whole; copy between slices of two cells each; append of zeros. -/
namespace Go.Proofs.YtmookafmdonopaaGreat.Top
open Go Go.RowKit
set_option linter.unusedVariables false
set_option linter.unusedSimpArgs false
attribute [local go_sem] max2_int min2_int max_two min_two max_three

/-- a block that is known whole -/
def EX (e : TypeId) (cs : List Value) : Obj → Prop := fun o => o = .cells cs.toArray e (0, 0)
theorem EX.ec {e : TypeId} {cs : List Value} (o : Obj) (h : EX e cs o) : EC e cs o := ⟨cs.toArray, [], h, by simp⟩
theorem Own.known {X : List Nat} {L : List (Nat × (Obj → Prop))} {R : World → Prop} {w0 w : World} {g : Nat} {p q : Obj → Prop} {o : Obj} (h : Own X ((g, p) :: L) R w0 w) (ho : w.heap[g]? = some o) (hq : q o) : Own X ((g, q) :: L) R w0 w := by
 refine ⟨h.nd, fun a r hm => ?_, fun a r hm => ?_, h.ro, h.upd⟩
 · rcases List.mem_cons.1 hm with e | hm
   · injection e with e1 e2
     subst e1; subst e2
     exact ⟨o, ho, hq⟩
   · exact h.at_ _ _ (List.mem_cons_of_mem _ hm)
 · rcases List.mem_cons.1 hm with e | hm
   · injection e with e1 e2
     subst e1
     exact h.ok _ _ List.mem_cons_self
   · exact h.ok _ _ (List.mem_cons_of_mem _ hm)
/-- an appended slice's block, known whole -/
theorem OwnS.whole {X : List Nat} {L : List (Nat × (Obj → Prop))} {R : World → Prop} {w0 w : World} {e size n : Nat} {v : Value} {xs : List Value} (h : OwnS X L R w0 w e size v n xs) (hn : 0 < n) :
 ∃ g cap cs, v = .slice (some ⟨g, 0, none⟩) n cap ∧ n ≤ cap ∧ cap ≤ maxLen ∧ cs.length = cap * size ∧ cs.take (n * size) = xs ∧ Own X ((g, EX e cs) :: L) R w0 w := by
 rcases h.2 with ⟨_, h0, _⟩ | ⟨g, cap, rfl, hg, h3⟩
 · omega
 · obtain ⟨o, ho, cur, rfl, a1, a2, a3, a4⟩ := h3.at_ _ _ List.mem_cons_self
   exact ⟨g, cap, cur.toList, rfl, a1, a2, by simpa using a3, a4, h3.known ho (by show _ = _; simp)⟩
/-- .. and back -/
theorem OwnS.ofWhole {L : List (Nat × (Obj → Prop))} {R : World → Prop} {w0 w : World} {e size n g cap : Nat} {cs xs : List Value} (h : Own [] ((g, EX e cs) :: L) R w0 w) (h1 : n ≤ cap) (h2 : cap ≤ maxLen) (h3 : cs.length = cap * size) (h4 : cs.take (n * size) = xs) :
 OwnS [] L R w0 w e size (.slice (some ⟨g, 0, none⟩) n cap) n xs := by
 refine ⟨?_, Or.inr ⟨g, cap, rfl, ?_, h.weak fun o ho => ⟨cs.toArray, ho, h1, h2, by simpa using h3, by simpa using h4⟩⟩⟩
 · rw [← h4, List.length_take, h3]
   exact Nat.min_eq_left (Nat.mul_le_mul_right _ h1)
 · rcases h.ok _ _ List.mem_cons_self with h5 | h5
   · simp at h5
   · exact h5
/-- a callee's new row -/
theorem OwnS.ofRow {L : List (Nat × (Obj → Prop))} {R : World → Prop} {w0 w w1 : World} {e size n : Nat} {v : Value} {xs : List Value} (h : Own [] L R w0 w) (hb : Below w.heap.size w w1) (k : w1.ownsRow w.heap.size e size v n xs) : OwnS [] L R w0 w1 e size v n xs := by
 refine ⟨k.1, ?_⟩
 rcases k.2 with ⟨h1, h2⟩ | ⟨g, cap, cur, h1, h2, h3, a1, a2, a3, a4⟩
 · exact Or.inl ⟨h1, h2, h.below hb⟩
 · exact Or.inr ⟨g, cap, h1, Nat.le_trans h.size h2, h.add hb h2 h3 ⟨cur, rfl, a1, a2, a3, a4⟩⟩
theorem Own.setRow {X : List Nat} {L : List (Nat × (Obj → Prop))} {R : World → Prop} {w0 w : World} {e g : Nat} {cs cs' : List Value} (h : Own X ((g, EX e cs) :: L) R w0 w) : Own X ((g, EX e cs') :: L) R w0 (w.setRow g cs'.toArray) := by
 obtain ⟨o, ho, hx⟩ := h.at_ _ _ List.mem_cons_self
 rw [show o = .cells cs.toArray e (0, 0) from hx] at ho
 exact h.put (q := EX e cs') 0 rfl rfl rfl rfl (by simp [World.setRow]) (fun k _ hne => setRow_other w g k _ hne) (setRow_heap w g _ cs'.toArray e (0, 0) ho) rfl
/-- cells laid over others -/
def over (cs : List Value) (o : Nat) (ns : List Value) : List Value := cs.take o ++ ns ++ cs.drop (o + ns.length)
theorem over_len {cs ns : List Value} {o : Nat} (h : o + ns.length ≤ cs.length) : (over cs o ns).length = cs.length := by simp [over]; omega
theorem run_copy_n (P : Program) (w : World) (dT sT ty elem : TypeId) (sz : Nat) (g o dLen dCap : Nat) (a : Addr) (sLen sCap : Nat) (cur : Array Value) (t : TypeId) (cs : List Value)
 (hu : P.underlying dT = some (.slice elem)) (hs : (P.info? elem).map (·.size) = some sz)
 (hg : w.heap[g]? = some (.cells cur t (0, 0))) (hn : cs.length = Nat.min sLen dLen * sz)
 (hsrc : ∀ j v, cs[j]? = some v → w.cell? (a.add j) = some v) (hfit : o + cs.length ≤ cur.size) (h1 : ∀ v ∈ cs, v.oneCell' = true) :
 (Builtin.copy_ #[dT, sT] ty #[.slice (some ⟨g, o, none⟩) dLen dCap, .slice (some a) sLen sCap]).run P w =
  .ok (goInt (Nat.min sLen dLen)) (w.setRow g (cur.toList.take o ++ cs ++ cur.toList.drop (o + cs.length)).toArray) := by
 have hl := run_loadCells_list (P := P) w a cs hsrc
 have hst := run_storeCells_at P g o t cs 0 cur w hg (by simpa using hfit) h1
 cases hq : P.info? elem with
 | none => simp [hq] at hs
 | some i =>
  have hi : i.size = sz := by simpa [hq] using hs
  simp only [Nat.add_zero] at hst
  simp [Builtin.copy_, run_underlying hu, Builtin.lenOf, Builtin.firstCells, sizeOf, typeInfo, hq, hi, ← hn, hl, hst]
section
variable {P : Program} {ops : Array Oper} {Q : Exit → Act → World → Prop} {rest : List Oper} {o : Oper} {a : Act} {X : List Nat} {L : List (Nat × (Obj → Prop))} {R : World → Prop} {w0 w : World}
/-- copy into a block of the walk's own -/
theorem go_copy (hgd : o.guard = none) (d s : Operand) (dT sT : TypeId) (ho : o.op = .call { callee := .builtin .copy, args := #[d, s], argTypes := #[dT, sT] })
 (elem sz : Nat) (hu : P.underlying dT = some (.slice elem)) (hsz : (P.info? elem).map (·.size) = some sz)
 (g off dLen dCap : Nat) (ad : Addr) (sLen sCap : Nat) (hd : a.eval d = .slice (some ⟨g, off, none⟩) dLen dCap) (hs : a.eval s = .slice (some ad) sLen sCap)
 (e : TypeId) (cs ns : List Value) (H : Own X ((g, EX e cs) :: L) R w0 w) (hn : ns.length = Nat.min sLen dLen * sz)
 (hsrc : ∀ j v, ns[j]? = some v → w.cell? (ad.add j) = some v) (hfit : off + ns.length ≤ cs.length) (h1 : ∀ v ∈ ns, v.oneCell' = true)
 (h : ∀ w1, Own X ((g, EX e (over cs off ns)) :: L) R w0 w1 → wpList P ops Q rest (a.put o.dst (goInt (Nat.min sLen dLen))) w1) : wpList P ops Q (o :: rest) a w := by
 refine wpList_plain hgd fun K hK => ?_
 obtain ⟨x, hx, hxx⟩ := H.at_ _ _ List.mem_cons_self
 rw [show x = .cells cs.toArray e (0, 0) from hxx] at hx
 have hrun := run_copy_n P w dT sT o.type elem sz g off dLen dCap ad sLen sCap cs.toArray e ns hu hsz hx hn hsrc (by simpa using hfit) h1
 unfold Oper.wp
 simp [execOp, ho, resolve, invoke, builtin, hd, hs, hrun, Result.andThen]
 have h5 := h _ (H.setRow (cs' := over cs off ns))
 simp only [over] at h5
 simp only [List.append_assoc] at h5
 exact hK _ _ h5
/-- append of zeros where there is no room -/
theorem go_appz (hgd : o.guard = none) (s x : Operand) (t tn : TypeId) (ho : o.op = .call { callee := .builtin .append, args := #[s, x], argTypes := #[t, tn] })
 (e : TypeId) (z : Value) (size bytes : Nat) (kq kn : IntKind) (ht : P.underlying t = some (.slice e)) (htn : P.underlying tn = some (.int kn)) (hinfo : (P.info? e).map (fun i => (i.zero, i.size, i.bytes)) = some (some z, size, bytes)) (hz : z.cells.size = size) (hs0 : 0 < size)
 (ad : Addr) (sLen sCap : Nat) (olds : List Value) (hs : a.eval s = .slice (some ad) sLen sCap) (hl : olds.length = sLen * size) (hold : ∀ j u, olds[j]? = some u → w.cell? (ad.add j) = some u)
 (k : Nat) (K : Int) (hK : K = (k : Int)) (hx : a.eval x = .int kq K) (h0 : 0 < k) (hg : sCap < sLen + k) (hlen : (sLen + k) * bytes ≤ 140737488355328) (hc : sCap ≤ sLen + k) (h63 : sLen + k ≤ maxLen)
 (H : Own X L R w0 w)
 (h : ∀ g cap cs w1, sLen + k ≤ cap → cap ≤ maxLen → cs.length = cap * size → cs.take (sLen * size) = olds → w.heap.size ≤ g → Own X ((g, EX e cs) :: L) R w0 w1 → Below w.heap.size w w1 → wpList P ops Q rest (a.put o.dst (.slice (some ⟨g, 0, none⟩) (sLen + k) cap)) w1) : wpList P ops Q (o :: rest) a w := by
 obtain ⟨i0, hi, hzz⟩ := Option.map_eq_some_iff.1 hinfo
 simp only [Prod.mk.injEq] at hzz
 obtain ⟨hz0, hz1, hz2⟩ := hzz
 subst hK
 refine wpList_plain hgd fun K hK => ?_
 have hold2 : (Builtin.firstCells i0.size sLen (.slice (some ad) sLen sCap)).run P w.drew = .ok olds.toArray w.drew := by
  rw [hz1]
  exact run_firstCells_some w.drew size sLen ad sLen sCap olds (by rw [hl]) hold
 have hfit := growslice_fits hg hlen
 have hb : k * bytes ≤ 281474976710656 := by
  have h9 : k * bytes ≤ (sLen + k) * bytes := Nat.mul_le_mul_right _ (by omega)
  omega
 have hrun := Lib.run_append_grow_zeros w t tn o.type e i0 z kq kn ht htn hi hz0 (some ad) sLen sCap olds hold2 k h0 (by omega) hg (by unfold maxLen at h63; omega) (by rw [hz2]; exact hb) (by rw [hz2]; exact hfit)
 have hge := grownCap_ge w (sLen + k) sCap e
 have hle := grownCap_le_maxLen w (sLen + k) sCap e h63
 obtain ⟨G, hG⟩ : ∃ G, G = grownCap w (sLen + k) sCap e := ⟨_, rfl⟩
 rw [← hG] at hrun hge hle
 have hlz : ∀ m, (Builtin.zeroCells z.cells m).size = m * size := by intro m; rw [← hz]; simp [Builtin.zeroCells]
 obtain ⟨row, hrow⟩ : ∃ row, row = olds.toArray ++ Builtin.zeroCells z.cells k ++ Builtin.zeroCells z.cells (G - (sLen + k)) := ⟨_, rfl⟩
 rw [← hrow] at hrun
 have hrl : row.size = G * size := by
  rw [hrow, Array.size_append, Array.size_append, hlz, hlz, List.size_toArray, hl, ← Nat.add_mul, ← Nat.add_mul]
  congr 1
  omega
 have h5 := h w.heap.size G row.toList (w.drew.alloc (.cells row e)) hge hle (by simpa using hrl) (by
  rw [hrow]
  simp only [Array.toList_append, List.append_assoc]
  rw [List.take_append_of_le_length (by rw [hl]; exact Nat.le_refl _), ← hl]
  exact List.take_length ..) (Nat.le_refl _) (H.drew.alloc (x := .cells row e) (p := EX e row.toList) (by simp [EX])) ((drew_below w).alloc (Nat.le_refl _) _)
 unfold Oper.wp
 simp [execOp, ho, resolve, invoke, builtin, hs, hx, hrun, Result.andThen]
 exact hK _ _ h5
end
end Go.Proofs.YtmookafmdonopaaGreat.Top
