/- slots.New and slots.twin walked. -/
import Derived.Test.YtmookafmdonopaaGreatM08
import Derived.Test.YtmookafmdonopaaGreatM04
/- slots.New and slots.twin walked. -/
namespace Go.Proofs.YtmookafmdonopaaGreat.Top
open Go Go.RowKit
set_option linter.unusedVariables false
set_option linter.unusedSimpArgs false
attribute [local go_sem] max2_int min2_int max_two min_two max_three

/-- a slice of trees, read -/
def TrR (w : World) (v : Value) (L : Nat) (sz : Nat → Nat) (lf : Nat → List (List Nat)) : Prop :=
 ∃ g c, v = .slice (some ⟨g, 0, none⟩) L c ∧ L ≤ c ∧ ∀ k, k < L → w.cell? ⟨g, k * 2, none⟩ = some (.int .i64 (sz k)) ∧ ∃ A n d, w.cell? ⟨g, k * 2 + 1, none⟩ = some (.slice A n d) ∧ Lev w (.slice A n d) (lf k)
def TrF (base : Nat) (w : World) (v : Value) (L : Nat) (sz : Nat → Nat) (lf : Nat → List (List Nat)) : Prop := ∀ W : World, (∀ k, base ≤ k → k < w.heap.size → W.heap[k]? = w.heap[k]?) → TrR W v L sz lf
/-- the cells of trees -/
def TC (sz : Nat → Nat) (us xs : List Value) : Prop := xs.length = us.length * 2 ∧ ∀ k u, us[k]? = some u → xs[k * 2]? = some (.int .i64 (sz k)) ∧ xs[k * 2 + 1]? = some u
def RkT (lf : Nat → List (List Nat)) (us : List Value) (W : World) : Prop := ∀ k u, us[k]? = some u → ∃ A n d, u = .slice A n d ∧ Lev W u (lf k)
theorem TC.nil (sz : Nat → Nat) : TC sz [] [] := ⟨rfl, fun k u h => by simp at h⟩
theorem TC.snoc {sz : Nat → Nat} {us xs : List Value} (h : TC sz us xs) (u : Value) : TC sz (us ++ [u]) (xs ++ [.int .i64 (sz us.length), u]) := by
 obtain ⟨h1, h2⟩ := h
 refine ⟨by simp [h1]; omega, fun k x hk => ?_⟩
 rcases Nat.lt_or_ge k us.length with h3 | h3
 · rw [List.getElem?_append_left h3] at hk
   rw [List.getElem?_append_left (by omega), List.getElem?_append_left (by omega)]
   exact h2 k x hk
 · rw [List.getElem?_append_right h3] at hk
   have e : k = us.length := by
    have := (List.getElem?_eq_some_iff.1 hk).1
    simp at this
    omega
   subst e
   rw [Nat.sub_self] at hk
   injection hk with hk
   subst hk
   rw [List.getElem?_append_right (by omega), List.getElem?_append_right (by omega), show us.length * 2 - xs.length = 0 by omega, show us.length * 2 + 1 - xs.length = 1 by omega]
   exact ⟨rfl, rfl⟩
theorem RkT.snoc {lf : Nat → List (List Nat)} {us : List Value} {W : World} {A : Option Addr} {n d : Nat} (h : RkT lf us W) (hu : Lev W (.slice A n d) (lf us.length)) : RkT lf (us ++ [.slice A n d]) W := by
 intro k x hk
 rcases Nat.lt_or_ge k us.length with h3 | h3
 · rw [List.getElem?_append_left h3] at hk
   exact h k x hk
 · rw [List.getElem?_append_right h3] at hk
   have e : k = us.length := by
    have := (List.getElem?_eq_some_iff.1 hk).1
    simp at this
    omega
   subst e
   rw [Nat.sub_self] at hk
   injection hk with hk
   subst hk
   exact ⟨_, _, _, rfl, hu⟩
theorem LevF.form {base : Nat} {w : World} {v : Value} {lv : List (List Nat)} (h : LevF base w v lv) : ∃ A n d, v = .slice A n d := by
 obtain ⟨hs, h1, h2, h3⟩ := h w (fun _ _ _ => rfl)
 obtain ⟨A, c, rfl⟩ := h2.form
 exact ⟨_, _, _, rfl⟩
/-- trees that were appended are told -/
theorem OwnS.trees {X : List Nat} {L : List (Nat × (Obj → Prop))} {w0 w : World} {v : Value} {n : Nat} {us xs : List Value} {sz : Nat → Nat} {lf : Nat → List (List Nat)} (h : OwnS X L (RkT lf us) w0 w 132 2 v n xs) (hc : TC sz us xs) (h1 : 1 ≤ n) : TrF w0.heap.size w v n sz lf := by
 intro W hW
 have hl : us.length = n := by have := h.1; have := hc.1; omega
 rcases h.2 with ⟨_, h0, _⟩ | ⟨g, cap, rfl, hg, h3⟩
 · omega
 · obtain ⟨o, ho, cur, rfl, a1, a2, a3, a4⟩ := h3.at_ _ _ List.mem_cons_self
   have hR : RkT lf us W := h3.ro W fun k hk h0 _ => hW k h0 hk
   have hx : W.heap[g]? = some (.cells cur 132 (0, 0)) := (hW g hg (heap_lt ho)).trans ho
   have hcell : ∀ j u, xs[j]? = some u → W.cell? ⟨g, j, none⟩ = some u := by
    intro j u hj
    have h5 : cur[j]? = some u := by
     rw [← a4, List.getElem?_take] at hj
     split at hj
     · simpa using hj
     · cases hj
    unfold World.cell?
    simp [hx, h5]
   refine ⟨g, cap, rfl, a1, fun k hk => ?_⟩
   obtain ⟨u, hu⟩ : ∃ u, us[k]? = some u := ⟨us[k], List.getElem?_eq_getElem (by omega)⟩
   obtain ⟨c1, c2⟩ := hc.2 k u hu
   obtain ⟨A, m, d, rfl, hl⟩ := hR k u hu
   exact ⟨hcell _ _ c1, A, m, d, hcell _ _ c2, hl⟩
theorem info132' : (Tryz.prog.info? 132).map (fun i => (i.zero, i.size, i.bytes)) = some (some (.agg #[(.int .i64 0), (.slice none 0 0)]), 2, 32) := info132
theorem tree_New_i (size : Nat) (S : Int) (w : World) (hS : S = (size : Int)) (h1 : 1 ≤ size) (h2 : size ≤ 4096) :
 Calls Tryz.prog 77 #[.int .i64 S] w fun e w' => ∃ v, e = .returned (.agg #[.int .i64 size, v]) ∧ LevF w.heap.size w' v (lvs size noB) ∧ Below w.heap.size w w' := by
 subst hS
 exact tree_New size w h1 h2
set_option maxHeartbeats 1000000 in
theorem slots_New (n L : Nat) (w : World) (h1 : 1 ≤ n) (h2 : n ≤ 4096) (hL : 1 ≤ L) (hL2 : L ≤ 17) (hd : 2 ^ (L - 1) ∣ n) :
 Calls Tryz.prog 57 #[.int .i64 n, .int .i64 L] w fun e w' => ∃ v, e = .returned (.agg #[v]) ∧ TrF w.heap.size w' v L (fun k => n / 2 ^ k) (fun k => lvs (n / 2 ^ k) noB) ∧ Below w.heap.size w w' := by
 have HO := As.mk (OwnS.nil (((Own.start (X := []) w).box #[.slice none 0 0] 80).imp (R' := RkT (fun k => lvs (n / 2 ^ k) noB) []) (fun W _ k u h => by simp at h)) 132 2)
 have hP : ∃ P : Nat, P = 2 ^ (L - 1) := ⟨_, rfl⟩
 obtain ⟨P, hP⟩ := hP
 have hp1 : 1 ≤ P := hP ▸ Nat.one_le_two_pow
 have hp2 : P ≤ 65536 := hP ▸ Nat.pow_le_pow_right (by decide) (show L - 1 ≤ 16 by omega)
 have hpow : wrap64 ((2 : Int) ^ (L - 1)) = (P : Int) := by
  have e : ((2 : Int) ^ (L - 1)) = (P : Int) := by rw [hP, Int.natCast_pow]; rfl
  rw [e, w64 _ (by omega) (by omega)]
 have hand : bits .and .i64 (n : Int) ((P : Int) - 1) = 0 := by
  have e : (P : Int) - 1 = ((2 ^ (L - 1) - 1 : Nat) : Int) := by rw [← hP]; omega
  rw [e, (i64_bits n _ (by omega) (by rw [← hP]; omega)).1, Nat.and_two_pow_sub_one_eq_mod, Nat.mod_eq_zero_of_dvd hd]
  rfl
 have c1 : ((L : Int) < 1) = False := eq_false (by omega)
 have c2 : (17 < (L : Int)) = False := eq_false (by omega)
 have c3 : ((n : Int) < 1) = False := eq_false (by omega)
 have c4 : (65536 < (n : Int)) = False := eq_false (by omega)
 have HD := As.mk hd
 have HP := As.mk hP
 clear hP hd
 go_enter Tryz.func57, Tryz.ntmps57
 go_wp2_with fail
 go_loopw [32] (fun i wr => ∃ (k : Nat) (v : Value) (us xs : List Value), k ≤ L ∧ i = .int .i64 (k : Int) ∧ us.length = k ∧ TC (fun k => n / 2 ^ k) us xs ∧ OwnS [] [(w.heap.size, EC 80 [v])] (RkT (fun k => lvs (n / 2 ^ k) noB) us) w wr 132 2 v k xs) (fun i _ => L - (intOf i).toNat)
 case atStart => exact ⟨0, _, [], [], by omega, rfl, rfl, TC.nil _, HO.out⟩
 case round =>
  clear HO
  obtain ⟨k, v, us, xs, hk, rfl, hus, hxs, ho⟩ := hrel
  obtain ⟨Av, cv, rfl⟩ := ho.slice
  have HO := As.mk ho
  have HX := As.mk hxs
  have HU := As.mk hus
  have z0 := ho.rest.get (g := w.heap.size) (e := 80) (cs := [.slice Av k cv]) (by simp) 0 (by simp)
  have Z0 := As.mk z0
  clear ho hxs hus
  by_cases hkL : k < L
  · have hkp : 2 ^ k ≤ n := Nat.le_trans (Nat.pow_le_pow_right (by decide) (by omega)) (Nat.le_of_dvd (by omega) HD.out)
    obtain ⟨q, hq⟩ : ∃ q, q = n / 2 ^ k := ⟨_, rfl⟩
    have hq1 : 1 ≤ q := hq ▸ (Nat.le_div_iff_mul_le (Nat.two_pow_pos k)).2 (by omega)
    have hq2 : q ≤ 4096 := hq ▸ Nat.le_trans (Nat.div_le_self _ _) h2
    have hdv : (n : Int) / 2 ^ k = (q : Int) := by
     rw [hq, show ((n / 2 ^ k : Nat) : Int) = (n : Int) / ((2 ^ k : Nat) : Int) from rfl, Int.natCast_pow]
     rfl
    have HQ := As.mk hq
    have hmin : (n : Int) / 2 ^ min k 64 = (q : Int) := by rw [Nat.min_eq_left (by omega)]; exact hdv
    clear hq hkp
    go_wp2_with fail
    refine rgn [(0, 1), (1, 0), (2, 1), (3, 1), (4, 1), (5, 1), (6, 2), (7, 2), (8, 2), (9, 1), (10, 3)] [10] (fun W => W.cell? ⟨w.heap.size, 0, none⟩ = some (.slice Av k cv)) (by kernel_rfl) (by kernel_rfl) (fun _ _ _ d _ h => by cases d <;> exact h) Z0.out ?_
    refine Run.pu (v := ?_) (a' := ?_) rfl rfl (Or.inl ⟨by rfl, ?_⟩) ?_ ?_; rotate_left 2; (focus (intro W; go_simp; with_reducible rfl)); (focus (simp only [Act.put, zq4, zq5, zq6]; rfl))
    refine Run.rd (v := ?_) (a' := ?_) rfl rfl (Or.inl ⟨by rfl, ?_⟩) ?_ ?_; rotate_left 2; (focus (intro W hW; go_simp; with_reducible rfl)); (focus (simp only [Act.put, zq4, zq5, zq6]; rfl))
    iterate 4 (refine Run.pu (v := ?_) (a' := ?_) rfl rfl (Or.inl ⟨by rfl, ?_⟩) ?_ ?_; rotate_left 2; (focus (intro W; go_simp; with_reducible rfl)); (focus (simp only [Act.put, zq4, zq5, zq6]; rfl)))
    refine Run.ef rfl (fun K hK => ?_)
    simp only [zq1, zq2, zq3]
    go_wp2_with fail
    refine (tree_New_i q _ _ hmin hq1 hq2).mono ?_
    rintro e w1 ⟨t, rfl, hf, hb⟩
    obtain ⟨At, nt, dt, rfl⟩ := hf.form
    have HO1 := As.mk (HO.out.drew.result (R' := fun W => Lev W (.slice At nt dt) (lvs q noB)) hb (fun W hW => hf W hW))
    clear hf hb HO
    go_wp2
    refine hK.out _ _ (HO1.out.rest.get List.mem_cons_self 0 (by simp)) ?_
    clear hK K
    refine Run.ef rfl (fun K hK => ?_)
    simp only [zq1, zq2, zq3]
    go_wp2
    refine hK.out _ _ ((HO1.out.alloc _).rest.get List.mem_cons_self 0 (by simp)) ?_
    clear hK K
    refine Run.ef rfl (fun K hK => ?_)
    simp only [zq1, zq2, zq3]
    refine go_app w rfl _ _ 78 132 _ 2 32 rfl Tryz.underlying78 info132 rfl (by decide) (.slice Av k cv) k xs rfl ⟨w1.heap.size, 0, none⟩ 1 1 [.int .i64 q, .slice At nt dt] rfl (HO1.out.alloc _) rfl (news _) (by intro u hu; simp at hu; rcases hu with rfl | rfl <;> rfl) (by simp [maxLen]; omega) (by omega) ?_
    intro v1 w2 hw2
    obtain ⟨A1, cq, rfl⟩ := hw2.slice
    have HW := As.mk hw2
    clear hw2
    go_wp2
    refine hK.out _ _ (HW.out.rest.get List.mem_cons_self 0 (by simp)) ?_
    clear hK K
    refine Run.pu (v := ?_) (a' := ?_) rfl rfl (Or.inl ⟨by rfl, ?_⟩) ?_ ?_; rotate_left 2; (focus (intro W; go_simp; with_reducible rfl)); (focus (simp only [Act.put, zq4, zq5, zq6]; rfl))
    refine Run.la rfl (fun K hK => ?_)
    simp only [zq1, zq2, zq3]
    have z2 := HW.out.rest.get List.mem_cons_self 0 (by simp)
    have z3 := HW.out.rest.frozen (o := 0) List.mem_cons_self
    go_wp2
    refine hK.out _ _ ?_
    clear hK K z2 z3
    refine Run.nil ?_
    have h5 := (HW.out.set 0 rfl 0 (.slice A1 (k + 1) cq) (by simp)).imp (R' := RkT (fun k => lvs (n / 2 ^ k) noB) (us ++ [Value.slice At nt dt])) (fun W hW => RkT.snoc (A := At) (n := nt) (d := dt) hW.1 (by rw [HU.out, ← HQ.out]; exact hW.2))
    have hxs : TC (fun k => n / 2 ^ k) (us ++ [.slice At nt dt]) (xs ++ [.int .i64 q, .slice At nt dt]) := by
     have h6 := HX.out.snoc (.slice At nt dt)
     rw [HU.out] at h6
     rw [HQ.out]
     exact h6
    have hus : (us ++ [Value.slice At nt dt]).length = k + 1 := by rw [List.length_append, HU.out]; rfl
    have H5 := As.mk (And.intro hus (And.intro hxs h5))
    clear h5 hxs hus
    go_wp2_with fail
    go_roundw
    case rel => exact ⟨k + 1, _, _, _, by omega, by go_num, H5.out.1, H5.out.2.1, H5.out.2.2⟩
    case measure => simp [intOf]; omega
  · have hk' : k = L := by omega
    subst hk'
    have y3 := HO.out.rest.frozen (g := w.heap.size) (e := 80) (cs := [.slice Av k cv]) (o := 0) List.mem_cons_self
    have hset := HO.out.set 0 rfl 0 (.slice Av k cv) (by simp)
    have HS := As.mk hset
    clear hset
    go_wp2
    refine bodyPost_ret (v := .agg #[.slice Av k cv]) (by simp [results, Tryz.f57, go_sem, *]) rfl ?_
    exact ⟨_, rfl, HS.out.trees HX.out hL, HS.out.rest.toBelow⟩
theorem TrR.below {w w1 : World} {v : Value} {L : Nat} {sz : Nat → Nat} {lf : Nat → List (List Nat)} (h : TrR w v L sz lf) (hb : Below w.heap.size w w1) : TrR w1 v L sz lf := by
 obtain ⟨g, c, h1, h2, h3⟩ := h
 refine ⟨g, c, h1, h2, fun k hk => ?_⟩
 obtain ⟨h4, A, n, d, h5, h6⟩ := h3 k hk
 exact ⟨cell_below hb h4, A, n, d, cell_below hb h5, h6.below hb⟩
theorem Own.weak {X : List Nat} {L : List (Nat × (Obj → Prop))} {R : World → Prop} {w0 w : World} {g : Nat} {p q : Obj → Prop} (h : Own X ((g, p) :: L) R w0 w) (hpq : ∀ o, p o → q o) : Own X ((g, q) :: L) R w0 w := by
 refine ⟨h.nd, fun a r hm => ?_, fun a r hm => ?_, h.ro, h.upd⟩
 · rcases List.mem_cons.1 hm with e | hm
   · injection e with e1 e2
     subst e1; subst e2
     obtain ⟨o, ho, hp⟩ := h.at_ _ _ List.mem_cons_self
     exact ⟨o, ho, hpq o hp⟩
   · exact h.at_ _ _ (List.mem_cons_of_mem _ hm)
 · rcases List.mem_cons.1 hm with e | hm
   · injection e with e1 e2
     subst e1
     exact h.ok _ _ List.mem_cons_self
   · exact h.ok _ _ (List.mem_cons_of_mem _ hm)
theorem ES.ec {e size n cap : Nat} {xs : List Value} (o : Obj) (h : ES e size n cap xs o) : EC e xs o := by
 obtain ⟨cur, rfl, h1, h2, h3, h4⟩ := h
 exact ⟨cur, cur.toList.drop (n * size), rfl, by rw [← h4, List.take_append_drop]⟩
/-- trees that are the walk's own -/
def SOwn (L : List (Nat × (Obj → Prop))) (R : World → Prop) (w0 w : World) (g cap n : Nat) (sz : Nat → Nat) (lf : Nat → List (List Nat)) : Prop :=
 ∃ us xs, n ≤ cap ∧ us.length = n ∧ TC sz us xs ∧ Own [] ((g, EC 132 xs) :: L) (fun W => R W ∧ RkT lf us W) w0 w
theorem SOwn.trF {L : List (Nat × (Obj → Prop))} {R : World → Prop} {w0 w : World} {g cap n : Nat} {sz : Nat → Nat} {lf : Nat → List (List Nat)} (h : SOwn L R w0 w g cap n sz lf) : TrF w0.heap.size w (.slice (some ⟨g, 0, none⟩) n cap) n sz lf := by
 obtain ⟨us, xs, h1, h2, h3, h4⟩ := h
 intro W hW
 obtain ⟨o, ho, cur, sp, rfl, hc⟩ := h4.at_ _ _ List.mem_cons_self
 have hg : w0.heap.size ≤ g := by
  rcases h4.ok _ _ List.mem_cons_self with h5 | h5
  · simp at h5
  · exact h5
 have hR : RkT lf us W := (h4.ro W fun k hk h0 _ => hW k h0 hk).2
 have hx : W.heap[g]? = some (.cells cur 132 (0, 0)) := (hW g hg (heap_lt ho)).trans ho
 have hcell : ∀ j u, xs[j]? = some u → W.cell? ⟨g, j, none⟩ = some u := by
  intro j u hj
  have h5 : cur[j]? = some u := by
   rw [← Array.getElem?_toList, hc, List.getElem?_append_left (List.getElem?_eq_some_iff.1 hj).1]
   exact hj
  unfold World.cell?
  simp [hx, h5]
 refine ⟨g, cap, rfl, h1, fun k hk => ?_⟩
 obtain ⟨u, hu⟩ : ∃ u, us[k]? = some u := ⟨us[k], List.getElem?_eq_getElem (by omega)⟩
 obtain ⟨c1, c2⟩ := h3.2 k u hu
 obtain ⟨A, m, d, rfl, hl⟩ := hR k u hu
 exact ⟨hcell _ _ c1, A, m, d, hcell _ _ c2, hl⟩
theorem OwnS.sown {L : List (Nat × (Obj → Prop))} {w0 w : World} {v : Value} {n : Nat} {us xs : List Value} {sz : Nat → Nat} {lf : Nat → List (List Nat)} (h : OwnS [] L (RkT lf us) w0 w 132 2 v n xs) (hc : TC sz us xs) (h1 : 1 ≤ n) (hu : us.length = n) : ∃ g cap, v = .slice (some ⟨g, 0, none⟩) n cap ∧ SOwn L (fun _ => True) w0 w g cap n sz lf := by
 rcases h.2 with ⟨_, h0, _⟩ | ⟨g, cap, rfl, hg, h3⟩
 · omega
 · refine ⟨g, cap, rfl, us, xs, ?_, hu, hc, ?_⟩
   · obtain ⟨o, ho, cur, rfl, a1, a2, a3, a4⟩ := h3.at_ _ _ List.mem_cons_self
     exact a1
   · exact (h3.weak (ES.ec)).imp fun W hW => ⟨trivial, hW⟩
theorem drew_below (w : World) : Below w.heap.size w w.drew := ⟨rfl, rfl, rfl, Nat.le_refl _, fun _ _ => rfl⟩
theorem drewN_below (w : World) (n : Nat) : Below w.heap.size w (w.drewN n) := ⟨rfl, rfl, rfl, Nat.le_refl _, fun _ _ => rfl⟩
theorem OwnS.box {X : List Nat} {L : List (Nat × (Obj → Prop))} {R : World → Prop} {w0 w : World} {e size n : Nat} {v : Value} {xs : List Value} (h : OwnS X L R w0 w e size v n xs) (cs : Array Value) (T : TypeId) :
 OwnS X ((w.heap.size, EC T cs.toList) :: L) R w0 (w.alloc (.cells cs T)) e size v n xs :=
 ⟨h.1, h.2.imp (fun h => ⟨h.1, h.2.1, h.2.2.box cs T⟩) (fun ⟨g, cap, h1, h2, h3⟩ => ⟨g, cap, h1, h2, (h3.box cs T).swap⟩)⟩
theorem OwnS.drop {X : List Nat} {L : List (Nat × (Obj → Prop))} {R : World → Prop} {w0 w : World} {e size n g : Nat} {p : Obj → Prop} {v : Value} {xs : List Value} (h : OwnS X ((g, p) :: L) R w0 w e size v n xs) : OwnS X L R w0 w e size v n xs :=
 ⟨h.1, h.2.imp (fun h => ⟨h.1, h.2.1, h.2.2.drop⟩) (fun ⟨g, cap, h1, h2, h3⟩ => ⟨g, cap, h1, h2, h3.drop2⟩)⟩
set_option maxHeartbeats 1000000 in
theorem slots_twin (v : Value) (L : Nat) (sz : Nat → Nat) (b : Nat → Nat → Bool) (w : World) (h : TrR w v L sz (fun k => lvs (sz k) (b k))) (hL : 1 ≤ L) (hL2 : L ≤ 17) (hs : ∀ k, k < L → sz k ≤ 65536) :
 Calls Tryz.prog 116 #[.agg #[v]] w fun e w' => ∃ g' cap, e = .returned (.agg #[.slice (some ⟨g', 0, none⟩) L cap]) ∧ SOwn [] (fun _ => True) w w' g' cap L sz (fun k => lvs (sz k) (b k)) := by
 obtain ⟨g, c, rfl, hc, hk⟩ := id h
 have H := As.mk h
 have HO := As.mk (OwnS.nil ((((Own.start (X := []) w).box #[.slice (some ⟨g, 0, none⟩) L c] 80).box #[.slice none 0 0] 80).imp (R' := RkT (fun k => lvs (sz k) (b k)) []) (fun W _ k u h => by simp at h)) 132 2)
 have HC := As.mk hc
 have HSZ := As.mk hs
 clear hk h hs hc
 go_enter Tryz.func116, Tryz.ntmps116
 go_wp2_with fail
 go_loopw [8] (fun i wr => ∃ (k : Nat) (v : Value) (us xs : List Value), k ≤ L ∧ i = .int .i64 (k : Int) ∧ us.length = k ∧ TC sz us xs ∧ OwnS [] [(w.heap.size + 1, EC 80 [v]), (w.heap.size, EC 80 [.slice (some ⟨g, 0, none⟩) L c])] (RkT (fun k => lvs (sz k) (b k)) us) w wr 132 2 v k xs) (fun i _ => L - (intOf i).toNat)
 case atStart =>
  have h9 := HO.out
  rw [World.size_alloc] at h9
  exact ⟨0, _, [], [], by omega, rfl, rfl, TC.nil _, h9⟩
 case round =>
  clear HO
  obtain ⟨k, v, us, xs, hk, rfl, hus, hxs, ho⟩ := hrel
  obtain ⟨Av, cv, rfl⟩ := ho.slice
  have HO := As.mk ho
  have HX := As.mk hxs
  have HU := As.mk hus
  clear ho hxs hus
  by_cases hkL : k < L
  · obtain ⟨g2, c2, hv2, hc2, hk2⟩ := H.out.below HO.out.rest.toBelow
    injection hv2 with e1 e2 e3
    injection e1 with e1
    injection e1 with e1 _ _
    subst e1
    subst e3
    obtain ⟨h4, A, n, d, h5, h6⟩ := hk2 k hkL
    replace h6 : Lev wr (.slice A n d) (lvs (sz k) (b k)) := h6
    have H6 := As.mk h6
    have hsz := HSZ.out k hkL
    obtain ⟨q, hq⟩ : ∃ q, q = sz k := ⟨_, rfl⟩
    rw [← hq] at h4 H6 hsz
    have HQ := As.mk hq
    clear hk2 h6 hq
    have HO1 := As.mk (HO.out.box #[.int .i64 q, .slice A n d] 132)
    have HT := As.mk (H6.out.below (box_below wr (.cells #[.int .i64 q, .slice A n d] 132)))
    clear HO H6
    have HS := As.mk (show ∀ (W : World) (R : World → Prop) (v : Value) (m : Nat) (ys : List Value), OwnS [] ((wr.heap.size, EC 132 [.int .i64 q, .slice A n d]) :: [(w.heap.size + 1, EC 80 [.slice Av k cv]), (w.heap.size, EC 80 [.slice (some ⟨g, 0, none⟩) L c])]) R w W 132 2 v m ys → W.cell? ⟨w.heap.size + 1, 0, none⟩ = some (.slice Av k cv) ∧ W.cell? ⟨wr.heap.size, 0, none⟩ = some (.int .i64 q) ∧ W.cell? ⟨wr.heap.size, 1, none⟩ = some (.slice A n d) from
     fun W R v m ys h => ⟨h.rest.get (g := w.heap.size + 1) (e := 80) (cs := [.slice Av k cv]) (by simp) 0 (by simp), h.rest.get (g := wr.heap.size) (e := 132) (cs := [.int .i64 q, .slice A n d]) (by simp) 0 (by simp), h.rest.get (g := wr.heap.size) (e := 132) (cs := [.int .i64 q, .slice A n d]) (by simp) 1 (by simp)⟩)
    go_wp2_with fail
    refine rgn [(0, 1), (1, 0), (2, 0), (3, 2), (4, 2), (5, 2), (6, 1), (7, 3)] [7] (fun W => W.cell? ⟨w.heap.size + 1, 0, none⟩ = some (.slice Av k cv) ∧ W.cell? ⟨wr.heap.size, 0, none⟩ = some (.int .i64 q) ∧ W.cell? ⟨wr.heap.size, 1, none⟩ = some (.slice A n d)) (by kernel_rfl) (by kernel_rfl) (fun _ _ _ d _ h => by cases d <;> exact h) (HS.out _ _ _ _ _ HO1.out.drew) ?_
    refine Run.pu (v := ?_) (a' := ?_) rfl rfl (Or.inl ⟨by rfl, ?_⟩) ?_ ?_; rotate_left 2; (focus (intro W; go_simp; with_reducible rfl)); (focus (simp only [Act.put, zq4, zq5, zq6]; rfl))
    iterate 2 (refine Run.rd (v := ?_) (a' := ?_) rfl rfl (Or.inl ⟨by rfl, ?_⟩) ?_ ?_; rotate_left 2; (focus (rintro W ⟨hW1, hW2, hW3⟩; go_simp; with_reducible rfl)); (focus (simp only [Act.put, zq4, zq5, zq6]; rfl)))
    refine Run.ef rfl (fun K hK => ?_)
    simp only [zq1, zq2, zq3]
    go_wp2_with fail
    refine (tree_Set_no q (b k) A n d _ (HT.out.below (drew_below _)) hsz).mono ?_
    rintro e w1 ⟨t, rfl, hf, hb⟩
    obtain ⟨At, nt, dt, rfl⟩ := hf.form
    have HO2 := As.mk (HO1.out.drew.result (R' := fun W => Lev W (.slice At nt dt) (lvs q (b k))) hb (fun W hW => hf W hW))
    clear hf hb HO1 HT
    go_wp2
    refine hK.out _ _ (HS.out _ _ _ _ _ HO2.out) ?_
    clear hK K
    refine Run.ef rfl (fun K hK => ?_)
    simp only [zq1, zq2, zq3]
    go_wp2
    refine hK.out _ _ (HS.out _ _ _ _ _ (HO2.out.alloc _)) ?_
    clear hK K
    refine Run.ef rfl (fun K hK => ?_)
    simp only [zq1, zq2, zq3]
    refine go_app w rfl _ _ 78 132 _ 2 32 rfl Tryz.underlying78 info132 rfl (by decide) (.slice Av k cv) k xs rfl ⟨w1.heap.size, 0, none⟩ 1 1 [.int .i64 q, .slice At nt dt] rfl (HO2.out.alloc _) rfl (news _) (by intro u hu; simp at hu; rcases hu with rfl | rfl <;> rfl) (by simp [maxLen]; omega) (by omega) ?_
    intro v1 w2 hw2
    obtain ⟨A1, cq, rfl⟩ := hw2.slice
    have HW := As.mk hw2
    clear hw2
    go_wp2
    refine hK.out _ _ (HS.out _ _ _ _ _ HW.out) ?_
    clear hK K
    refine Run.pu (v := ?_) (a' := ?_) rfl rfl (Or.inl ⟨by rfl, ?_⟩) ?_ ?_; rotate_left 2; (focus (intro W; go_simp; with_reducible rfl)); (focus (simp only [Act.put, zq4, zq5, zq6]; rfl))
    refine Run.la rfl (fun K hK => ?_)
    simp only [zq1, zq2, zq3]
    have z2 := (HS.out _ _ _ _ _ HW.out).1
    have z3 := HW.out.rest.frozen (g := w.heap.size + 1) (e := 80) (cs := [.slice Av k cv]) (o := 0) (by simp)
    go_wp2
    refine hK.out _ _ ?_
    clear hK K z2 z3
    refine Run.nil ?_
    have h5 := (HW.out.drop.set 0 rfl 0 (.slice A1 (k + 1) cq) (by simp)).imp (R' := RkT (fun k => lvs (sz k) (b k)) (us ++ [Value.slice At nt dt])) (fun W hW => RkT.snoc (A := At) (n := nt) (d := dt) hW.1 (by rw [HU.out, ← HQ.out]; exact hW.2))
    have hxs : TC sz (us ++ [.slice At nt dt]) (xs ++ [.int .i64 q, .slice At nt dt]) := by
     have h6 := HX.out.snoc (.slice At nt dt)
     rw [HU.out] at h6
     rw [HQ.out]
     exact h6
    have hus : (us ++ [Value.slice At nt dt]).length = k + 1 := by rw [List.length_append, HU.out]; rfl
    have H5 := As.mk (And.intro hus (And.intro hxs h5))
    clear h5 hxs hus HS
    go_wp2_with fail
    go_roundw
    case rel => exact ⟨k + 1, _, _, _, by omega, by go_num, H5.out.1, H5.out.2.1, H5.out.2.2⟩
    case measure => simp [intOf]; omega
  · have hk' : k = L := by omega
    subst hk'
    have y2 := HO.out.rest.get (g := w.heap.size + 1) (e := 80) (cs := [.slice Av k cv]) (by simp) 0 (by simp)
    have y3 := HO.out.rest.frozen (g := w.heap.size + 1) (e := 80) (cs := [.slice Av k cv]) (o := 0) List.mem_cons_self
    have hset := HO.out.set 0 rfl 0 (.slice Av k cv) (by simp)
    have HS := As.mk hset
    clear hset
    go_wp2
    refine bodyPost_ret (v := .agg #[.slice Av k cv]) (by simp [results, Tryz.f116, go_sem, *]) rfl ?_
    obtain ⟨g', cap, e1, e2⟩ := HS.out.drop.drop.sown HX.out hL HU.out
    exact ⟨g', cap, by rw [← e1], e2⟩
end Go.Proofs.YtmookafmdonopaaGreat.Top
/- slots.taken and slots.Use walked; what a class's bits are. -/
namespace Go.Proofs.YtmookafmdonopaaGreat.Top
open Go Go.RowKit
set_option linter.unusedVariables false
set_option linter.unusedSimpArgs false
attribute [local go_sem] max2_int min2_int max_two min_two max_three

/-- a class's bits -/
def bk (b : Nat → Bool) : Nat → Nat → Bool
 | 0, i => b i
 | k + 1, i => bk b k (2 * i) || bk b k (2 * i + 1)
theorem bk_iff (b : Nat → Bool) (k i : Nat) : bk b k i = true ↔ ∃ j, i * 2 ^ k ≤ j ∧ j < (i + 1) * 2 ^ k ∧ b j = true := by
 induction k generalizing i with
 | zero =>
  refine ⟨fun h => ⟨i, by simp, by simp, h⟩, fun ⟨j, h1, h2, h3⟩ => ?_⟩
  have e : j = i := by simp at h1 h2; omega
  exact e ▸ h3
 | succ k ih =>
  unfold bk
  rw [Bool.or_eq_true, ih, ih]
  have e1 : 2 * i * 2 ^ k = i * 2 ^ (k + 1) := by rw [Nat.pow_succ, Nat.mul_comm 2 i, Nat.mul_assoc, Nat.mul_comm 2]
  have e2 : (2 * i + 1 + 1) * 2 ^ k = (i + 1) * 2 ^ (k + 1) := by rw [Nat.pow_succ, show 2 * i + 1 + 1 = (i + 1) * 2 by omega, Nat.mul_assoc, Nat.mul_comm 2]
  have e3 : (2 * i + 1) * 2 ^ k ≤ (i + 1) * 2 ^ (k + 1) := by rw [← e2]; exact Nat.mul_le_mul_right _ (by omega)
  have e4 : i * 2 ^ (k + 1) ≤ (2 * i + 1) * 2 ^ k := by rw [← e1]; exact Nat.mul_le_mul_right _ (by omega)
  refine ⟨?_, fun ⟨j, h1, h2, h3⟩ => ?_⟩
  · rintro (⟨j, h1, h2, h3⟩ | ⟨j, h1, h2, h3⟩)
    · exact ⟨j, by omega, by omega, h3⟩
    · exact ⟨j, by omega, by omega, h3⟩
  · by_cases hj : j < (2 * i + 1) * 2 ^ k
    · exact Or.inl ⟨j, by omega, hj, h3⟩
    · exact Or.inr ⟨j, by omega, by omega, h3⟩
theorem in_div {k a i : Nat} : i * 2 ^ k ≤ a ∧ a < (i + 1) * 2 ^ k ↔ a / 2 ^ k = i := by
 have hp : 0 < 2 ^ k := Nat.two_pow_pos k
 constructor
 · rintro ⟨h1, h2⟩
   exact Nat.div_eq_of_lt_le h1 h2
 · intro h
   subst h
   refine ⟨Nat.div_mul_le_self _ _, ?_⟩
   rw [Nat.add_mul, Nat.one_mul]
   exact Nat.lt_div_mul_add hp
theorem bk_div (b : Nat → Bool) (k i : Nat) : bk b k i = true ↔ ∃ j, j / 2 ^ k = i ∧ b j = true := by
 rw [bk_iff]
 exact ⟨fun ⟨j, h1, h2, h3⟩ => ⟨j, in_div.1 ⟨h1, h2⟩, h3⟩, fun ⟨j, h1, h3⟩ => ⟨j, (in_div.2 h1).1, (in_div.2 h1).2, h3⟩⟩
theorem bool_ext {a b : Bool} (h : a = true ↔ b = true) : a = b := by cases a <;> cases b <;> simp_all
/-- bits that are let on -/
theorem bk_on (b : Nat → Bool) (a m k : Nat) (hm : 1 ≤ m) : setB (bk b k) (a / 2 ^ k) ((a + m - 1) / 2 ^ k - a / 2 ^ k + 1) true = bk (setB b a m true) k := by
 funext i
 have hp : 0 < 2 ^ k := Nat.two_pow_pos k
 have hle : a / 2 ^ k ≤ (a + m - 1) / 2 ^ k := Nat.div_le_div_right (by omega)
 apply bool_ext
 rw [bk_div]
 unfold setB
 constructor
 · intro h
   split at h
   · rename_i h2
     rcases Nat.lt_or_ge a (i * 2 ^ k) with h3 | h3
     · refine ⟨i * 2 ^ k, Nat.mul_div_cancel _ hp, ?_⟩
       rw [if_pos]
       refine ⟨by omega, ?_⟩
       have h4 : i ≤ (a + m - 1) / 2 ^ k := by omega
       have h5 := (Nat.le_div_iff_mul_le hp).1 h4
       omega
     · refine ⟨a, ?_, by rw [if_pos (by omega)]⟩
       have h4 := (Nat.le_div_iff_mul_le hp).2 h3
       omega
   · obtain ⟨j, h3, h4⟩ := (bk_div b k i).1 h
     exact ⟨j, h3, by split; rfl; exact h4⟩
 · rintro ⟨j, h3, h4⟩
   split
   · rfl
   · rename_i h2
     split at h4
     · rename_i h5
       exfalso
       apply h2
       have h6 : a / 2 ^ k ≤ j / 2 ^ k := Nat.div_le_div_right h5.1
       have h7 : j / 2 ^ k ≤ (a + m - 1) / 2 ^ k := Nat.div_le_div_right (by omega)
       omega
     · exact (bk_div b k i).2 ⟨j, h3, h4⟩
/-- bits that are let go: what lies at the ends is looked at -/
theorem bk_off (b : Nat → Bool) (a m k : Nat) (hm : 1 ≤ m) :
 setB (setB (setB (bk b k) (a / 2 ^ k) ((a + m - 1) / 2 ^ k - a / 2 ^ k + 1) false) (a / 2 ^ k) 1 (bk (setB b a m false) k (a / 2 ^ k))) ((a + m - 1) / 2 ^ k) 1 (bk (setB b a m false) k ((a + m - 1) / 2 ^ k)) = bk (setB b a m false) k := by
 funext i
 have hp : 0 < 2 ^ k := Nat.two_pow_pos k
 have hle : a / 2 ^ k ≤ (a + m - 1) / 2 ^ k := Nat.div_le_div_right (by omega)
 by_cases e1 : i = (a + m - 1) / 2 ^ k
 · subst e1
   show (if _ then _ else _) = _
   rw [if_pos (by omega)]
 · show (if _ then _ else _) = _
   rw [if_neg (by omega)]
   by_cases e2 : i = a / 2 ^ k
   · subst e2
     show (if _ then _ else _) = _
     rw [if_pos (by omega)]
   · show (if _ then _ else _) = _
     rw [if_neg (by omega)]
     apply bool_ext
     rw [bk_div]
     show (if _ then _ else _) = true ↔ _
     constructor
     · intro h
       split at h
       · cases h
       · rename_i h2
         obtain ⟨j, h3, h4⟩ := (bk_div b k i).1 h
         refine ⟨j, h3, ?_⟩
         unfold setB
         rw [if_neg]
         · exact h4
         · intro h5
           have h6 : a / 2 ^ k ≤ j / 2 ^ k := Nat.div_le_div_right h5.1
           have h7 : j / 2 ^ k ≤ (a + m - 1) / 2 ^ k := Nat.div_le_div_right (by omega)
           omega
     · rintro ⟨j, h3, h4⟩
       unfold setB at h4
       split at h4
       · cases h4
       · rename_i h5
         rw [if_neg]
         · exact (bk_div b k i).2 ⟨j, h3, h4⟩
         · intro h6
           apply h5
           obtain ⟨g1, g2⟩ := in_div.2 h3
           have h7 : a / 2 ^ k + 1 ≤ i := by omega
           have h8 : i + 1 ≤ (a + m - 1) / 2 ^ k := by omega
           have h9 := (Nat.le_div_iff_mul_le hp).1 h8
           have h10 : (a / 2 ^ k + 1) * 2 ^ k ≤ i * 2 ^ k := Nat.mul_le_mul_right _ h7
           have h11 := (in_div.2 (rfl : a / 2 ^ k = a / 2 ^ k)).2
           omega
set_option maxHeartbeats 1000000 in
theorem slots_taken (size : Nat) (b : Nat → Bool) (A : Option Addr) (n c : Nat) (i : Nat) (I : Int) (w : World) (h : Lev w (.slice A n c) (lvs size b)) (h2 : size ≤ 65536) (hi : 2 * i + 1 < size) (hI : I = (i : Int)) :
 Calls Tryz.prog 118 #[.agg #[.int .i64 size, .slice A n c], .int .i64 I] w fun e w' => e = .returned (.bool (b (2 * i) || b (2 * i + 1))) ∧ Below w.heap.size w w' := by
 subst hI
 have HA := As.mk (fun W (hL : Lev W (.slice A n c) (lvs size b)) => tree_Has size b A n c (2 * i) W hL (by omega) h2 (by omega))
 have HB := As.mk (fun W (hL : Lev W (.slice A n c) (lvs size b)) => tree_Has size b A n c (2 * i + 1) W hL (by omega) h2 (by omega))
 simp only [decide_eq_true (show 2 * i < size by omega), decide_eq_true hi, Bool.true_and] at HA HB
 have H := As.mk h
 have e1 : ((2 * i : Nat) : Int) = 2 * (i : Int) := by omega
 have e2 : ((2 * i + 1 : Nat) : Int) = 2 * (i : Int) + 1 := by omega
 rw [e1] at HA
 rw [e2] at HB
 have HO := As.mk ((Own.start (X := []) w).box #[.int .i64 size, .slice A n c] 132)
 obtain ⟨x, hx⟩ : ∃ x, x = b (2 * i) := ⟨_, rfl⟩
 obtain ⟨y, hy⟩ : ∃ y, y = b (2 * i + 1) := ⟨_, rfl⟩
 rw [← hx] at HA
 rw [← hy] at HB
 rw [← hx, ← hy]
 clear h hx hy e1 e2
 go_enter Tryz.func118, Tryz.ntmps118
 go_wp2_with fail
 refine (HA.out _ (H.out.below HO.out.toBelow)).mono ?_
 rintro e w1 ⟨rfl, hb⟩
 have HO1 := As.mk (HO.out.below hb)
 have z0 := HO1.out.get (g := w.heap.size) (e := 132) (cs := [.int .i64 size, .slice A n c]) (by simp) 0 (by simp)
 have z1 := HO1.out.get (g := w.heap.size) (e := 132) (cs := [.int .i64 size, .slice A n c]) (by simp) 1 (by simp)
 clear hb HO HA
 cases x with
 | true =>
  go_wp2
  go_ret
  exact ⟨rfl, HO1.out.toBelow⟩
 | false =>
  go_wp2_with fail
  refine (HB.out _ (H.out.below HO1.out.toBelow)).mono ?_
  rintro e w2 ⟨rfl, hb⟩
  have HO2 := As.mk (HO1.out.below hb)
  clear hb HO1 HB
  go_wp2
  go_ret
  exact ⟨by rw [Bool.false_or]; rfl, HO2.out.toBelow⟩
/-- a class's levels as Use goes up -/
def lfU (n : Nat) (b B : Nat → Bool) (k j : Nat) : List (List Nat) := if j < k then lvs (n / 2 ^ j) (bk B j) else lvs (n / 2 ^ j) (bk b j)
theorem TC.set {sz : Nat → Nat} {us xs : List Value} (h : TC sz us xs) (k : Nat) (u : Value) (hk : k < us.length) : TC sz (us.set k u) ((xs.set (k * 2) (.int .i64 (sz k))).set (k * 2 + 1) u) := by
 obtain ⟨h1, h2⟩ := h
 refine ⟨by simp [h1], fun j x hj => ?_⟩
 by_cases e : k = j
 · subst e
   rw [List.getElem?_set_self hk] at hj
   injection hj with hj
   subst hj
   rw [List.getElem?_set_ne (by omega), List.getElem?_set_self (by omega), List.getElem?_set_self (by rw [List.length_set]; omega)]
   exact ⟨rfl, rfl⟩
 · rw [List.getElem?_set_ne e] at hj
   rw [List.getElem?_set_ne (by omega), List.getElem?_set_ne (by omega), List.getElem?_set_ne (by omega), List.getElem?_set_ne (by omega)]
   exact h2 j x hj
theorem RkT.set {lf lf' : Nat → List (List Nat)} {us : List Value} {W : World} {k : Nat} {A : Option Addr} {n d : Nat} (h : RkT lf us W) (hu : Lev W (.slice A n d) (lf' k)) (hl : ∀ j, j ≠ k → lf' j = lf j) : RkT lf' (us.set k (.slice A n d)) W := by
 intro j x hj
 by_cases e : k = j
 · subst e
   by_cases hk : k < us.length
   · rw [List.getElem?_set_self hk] at hj
     injection hj with hj
     subst hj
     exact ⟨_, _, _, rfl, hu⟩
   · rw [List.getElem?_eq_none (by rw [List.length_set]; omega)] at hj
     cases hj
 · rw [List.getElem?_set_ne e] at hj
   rw [hl j (Ne.symm e)]
   exact h j x hj
/-- the bits of class k behind i ends -/
def cst (b B : Nat → Bool) (a m k : Nat) (on : Bool) (i : Nat) : Nat → Bool :=
 if on = true ∨ k = 0 ∨ i = 0 then setB (bk b k) (a / 2 ^ k) ((a + m - 1) / 2 ^ k - a / 2 ^ k + 1) on
 else if i = 1 then setB (setB (bk b k) (a / 2 ^ k) ((a + m - 1) / 2 ^ k - a / 2 ^ k + 1) on) (a / 2 ^ k) 1 (bk B k (a / 2 ^ k))
 else setB (setB (setB (bk b k) (a / 2 ^ k) ((a + m - 1) / 2 ^ k - a / 2 ^ k + 1) on) (a / 2 ^ k) 1 (bk B k (a / 2 ^ k))) ((a + m - 1) / 2 ^ k) 1 (bk B k ((a + m - 1) / 2 ^ k))
theorem cst_2 (b : Nat → Bool) (a m k : Nat) (on : Bool) (hm : 1 ≤ m) : cst b (setB b a m on) a m k on 2 = bk (setB b a m on) k := by
 unfold cst
 cases on with
 | true => rw [if_pos (Or.inl rfl)]; exact bk_on b a m k hm
 | false =>
  by_cases hk : k = 0
  · subst hk
    rw [if_pos (Or.inr (Or.inl rfl))]
    funext i
    show (if _ then _ else _) = (if _ then _ else _)
    have e : a / 2 ^ 0 = a := by simp
    have e2 : (a + m - 1) / 2 ^ 0 = a + m - 1 := by simp
    rw [e, e2]
    by_cases h : a ≤ i ∧ i < a + m
    · rw [if_pos h, if_pos (by omega)]
    · rw [if_neg h, if_neg (by omega)]; rfl
  · rw [if_neg (by simp [hk]), if_neg (by decide)]
    exact bk_off b a m k hm
theorem cst_same (b B : Nat → Bool) (a m k : Nat) (on : Bool) (i j : Nat) (h : on = true ∨ k = 0) : cst b B a m k on i = cst b B a m k on j := by
 unfold cst
 rw [if_pos (by rcases h with h | h <;> simp [h]), if_pos (by rcases h with h | h <;> simp [h])]
theorem cst_step (b B : Nat → Bool) (a m k : Nat) (i e : Nat) (hk : k ≠ 0) (hi : i < 2) (he : e = if i = 0 then a / 2 ^ k else (a + m - 1) / 2 ^ k) : setB (cst b B a m k false i) e 1 (bk B k e) = cst b B a m k false (i + 1) := by
 rcases (show i = 0 ∨ i = 1 by omega) with rfl | rfl
 · rw [if_pos rfl] at he
   subst he
   unfold cst
   rw [if_pos (by simp), if_neg (by simp [hk]), if_pos rfl]
 · rw [if_neg (by decide)] at he
   subst he
   unfold cst
   rw [if_neg (by simp [hk]), if_pos rfl, if_neg (by simp [hk]), if_neg (by decide)]
end Go.Proofs.YtmookafmdonopaaGreat.Top
