/- place.New, place.twin walked. -/
import Derived.Test.YtmookafmdonopaaGreatM12
/- place.New, place.twin walked. -/
namespace Go.Proofs.YtmookafmdonopaaGreat.Top
open Go Go.RowKit
set_option linter.unusedVariables false
set_option linter.unusedSimpArgs false
attribute [local go_sem] max2_int min2_int max_two min_two max_three

/-- an engine's slots and marks, read -/
def EngR (w : World) (t s : Value) (L n : Nat) (b : Nat → Bool) (l : List Mk) : Prop :=
  TrR w t L (fun k => n / 2 ^ k) (fun k => lvs (n / 2 ^ k) (bk b k)) ∧ Row w s l.length (marksV l)
def EngF (base : Nat) (w : World) (t s : Value) (L n : Nat) (b : Nat → Bool) (l : List Mk) : Prop := ∀ W : World, (∀ k, base ≤ k → k < w.heap.size → W.heap[k]? = w.heap[k]?) → EngR W t s L n b l
theorem EngR.below {w w1 : World} {t s : Value} {L n : Nat} {b : Nat → Bool} {l : List Mk} (h : EngR w t s L n b l) (hb : Below w.heap.size w w1) : EngR w1 t s L n b l := ⟨h.1.below hb, h.2.below hb⟩
theorem EngF.now {base : Nat} {w : World} {t s : Value} {L n : Nat} {b : Nat → Bool} {l : List Mk} (h : EngF base w t s L n b l) : EngR w t s L n b l := h w fun _ _ _ => rfl
theorem Row.nilS (w : World) : Row w (.slice none 0 0) 0 [] := ⟨none, 0, rfl, Nat.le_refl _, Or.inl rfl⟩
theorem pow_and (m : Nat) (hm : m ≤ 30) : Go.bits .and .i64 ((2 ^ m : Nat) : Int) (((2 ^ m : Nat) : Int) - 1) = 0 := by
  have : ∀ m : Nat, m ≤ 30 → Go.bits .and .i64 ((2 ^ m : Nat) : Int) (((2 ^ m : Nat) : Int) - 1) = 0 := by decide
  exact this m hm
theorem bk_no (k i : Nat) : bk noB k i = false := by
  induction k generalizing i with
  | zero => rfl
  | succ k ih => unfold bk; rw [ih, ih]; rfl
theorem bk_noB (k : Nat) : bk noB k = noB := funext fun i => bk_no k i
set_option maxHeartbeats 1000000 in
theorem place_New (G m n L : Nat) (w : World) (hG : G = 2 ^ m) (hm : m ≤ 12) (h1 : 1 ≤ n) (h2 : n ≤ 4096) (hL : 1 ≤ L) (hL2 : L ≤ 17) (hd : 2 ^ (L - 1) ∣ n) (hGn : n * G ≤ 65536) :
    Calls Tryz.prog 34 #[.int .i64 G, .int .i64 n, .int .i64 L] w fun e w' => ∃ t, e = .returned (.tuple #[.agg #[.int .i64 G, t, .slice none 0 0], .bool true]) ∧ EngF w.heap.size w' t (.slice none 0 0) L n noB [] ∧ Below w.heap.size w w' := by
  have hG1 : 1 ≤ G := hG ▸ Nat.one_le_two_pow
  have hG2 : G ≤ 4096 := hG ▸ Nat.pow_le_pow_right (by decide) hm
  have hand : Go.bits .and .i64 (G : Int) ((G : Int) - 1) = 0 := by rw [hG]; exact pow_and m (by omega)
  have c1 : ((G : Int) < 1) = False := eq_false (by omega)
  have c2 : (65536 < (G : Int)) = False := eq_false (by omega)
  have c2' : (65536 < G) = False := eq_false (by omega)
  obtain ⟨q, hq⟩ : ∃ q, q = 65536 / G := ⟨_, rfl⟩
  have hnq : n ≤ q := by rw [hq]; exact (Nat.le_div_iff_mul_le (by omega)).2 hGn
  have hq6 : q ≤ 65536 := hq ▸ Nat.div_le_self _ _
  have hwq : wrap64 (q : Int) = (q : Int) := w64 _ (by omega) (by omega)
  have c3 : ((q : Int) < (n : Int)) = False := eq_false (Int.not_lt.2 (Int.ofNat_le.2 hnq))
  have c3' : (q < n) = False := eq_false (Nat.not_lt.2 hnq)
  have c4 : (G = 0) = False := eq_false (by omega)
  have c5 : ((L : Int) == 0) = false := beqF (by omega)
  have hqi : (65536 : Int) / (G : Int) = (q : Int) := by rw [hq, Int.natCast_ediv]; simp
  have hqt : Int.tdiv 65536 (G : Int) = (q : Int) := by rw [Int.tdiv_eq_ediv_of_nonneg (by omega)]; exact hqi
  clear hq
  have HSN := As.mk (fun W => slots_New n L W h1 h2 hL hL2 hd)
  have HO := As.mk ((Own.start (X := []) w).box #[.int .i64 0, .slice none 0 0, .slice none 0 0] 83)
  clear hG hd hGn
  go_enter Tryz.func34, Tryz.ntmps34
  go_wp2_with fail
  refine (HSN.out _).mono ?_
  rintro e w1 ⟨t, rfl, ht, hb⟩
  obtain ⟨g, cc, rfl⟩ := (ht w1 fun _ _ _ => rfl).ge
  have HO1 := As.mk (HO.out.result (R' := fun W => TrR W (.slice (some ⟨g, 0, none⟩) L cc) L (fun k => n / 2 ^ k) (fun k => lvs (n / 2 ^ k) noB)) hb (fun W hW => ht W hW))
  clear ht hb HO HSN
  have HO2 := As.mk (HO1.out.box #[.slice (some ⟨g, 0, none⟩) L cc] 80)
  have y0 := HO2.out.get (g := w.heap.size) (e := 83) (cs := [.int .i64 0, .slice none 0 0, .slice none 0 0]) (by simp) 0 (by simp)
  have y1 := HO2.out.get (g := w.heap.size) (e := 83) (cs := [.int .i64 0, .slice none 0 0, .slice none 0 0]) (by simp) 1 (by simp)
  have y2 := HO2.out.get (g := w.heap.size) (e := 83) (cs := [.int .i64 0, .slice none 0 0, .slice none 0 0]) (by simp) 2 (by simp)
  have f0 := HO2.out.frozen (g := w.heap.size) (e := 83) (cs := [.int .i64 0, .slice none 0 0, .slice none 0 0]) (by simp) 0
  have f1 := HO2.out.frozen (g := w.heap.size) (e := 83) (cs := [.int .i64 0, .slice none 0 0, .slice none 0 0]) (by simp) 1
  have f2 := HO2.out.frozen (g := w.heap.size) (e := 83) (cs := [.int .i64 0, .slice none 0 0, .slice none 0 0]) (by simp) 2
  go_wp2_with fail
  have HF := As.mk (((HO2.out.set 1 (g := w.heap.size) (e := 83) (cs := [.int .i64 0, .slice none 0 0, .slice none 0 0]) rfl 0 (.int .i64 G) (by simp)).set 1 (g := w.heap.size) (e := 83) (cs := [.int .i64 G, .slice none 0 0, .slice none 0 0]) rfl 1 (.slice (some ⟨g, 0, none⟩) L cc) (by simp)).set 1 (g := w.heap.size) (e := 83) (cs := [.int .i64 G, .slice (some ⟨g, 0, none⟩) L cc, .slice none 0 0]) rfl 2 (.slice none 0 0) (by simp))
  refine bodyPost_ret (v := .tuple #[.agg #[.int .i64 G, .slice (some ⟨g, 0, none⟩) L cc, .slice none 0 0], .bool true]) (by simp [results, Tryz.f34, go_sem, *]) rfl ?_
  refine ⟨_, rfl, fun W hW => ⟨?_, Row.nilS W⟩, HF.out.toBelow⟩
  simp only [bk_noB]
  exact (HF.out.ro W fun k hk h0 _ => hW k h0 hk).2
theorem Row.slice_ {w : World} {v : Value} {n : Nat} {cs : List Value} (h : Row w v n cs) : ∃ A c, v = .slice A n c := by
  obtain ⟨A, c, h1, _⟩ := h
  exact ⟨A, c, h1⟩
theorem EngF.of {base : Nat} {w : World} {t s : Value} {L n : Nat} {b : Nat → Bool} {l : List Mk} (h : ∀ W : World, (∀ k, base ≤ k → k < w.heap.size → W.heap[k]? = w.heap[k]?) → EngR W t s L n b l) : EngF base w t s L n b l := h
/-- an engine's cells -/
def EL (h G : Nat) (t s : Value) : Nat × (Obj → Prop) := (h, EC 83 [.int .i64 G, t, s])
set_option maxHeartbeats 1000000 in
theorem place_twin (G L n : Nat) (t s : Value) (b : Nat → Bool) (l : List Mk) (w : World) (h : EngR w t s L n b l) (hL : 1 ≤ L) (hL2 : L ≤ 17) (hn : n ≤ 4096) (hl : l.length ≤ 100000) :
    Calls Tryz.prog 106 #[.agg #[.int .i64 G, t, s]] w fun e w' => ∃ t' s', e = .returned (.agg #[.int .i64 G, t', s']) ∧ EngF w.heap.size w' t' s' L n b l ∧ Below w.heap.size w w' := by
  obtain ⟨g, c, rfl⟩ := h.1.ge
  obtain ⟨A, d, rfl⟩ := h.2.slice_
  have H := As.mk h
  have hsz : ∀ k, k < L → n / 2 ^ k ≤ 65536 := fun k _ => Nat.le_trans (Nat.div_le_self _ _) (by omega)
  have HUS := As.mk (fun W (hr : EngR W (.slice (some ⟨g, 0, none⟩) L c) (.slice A l.length d) L n b l) => slots_Use_no _ L (fun k => n / 2 ^ k) (fun k => bk b k) W hr.1 hL hL2 hsz)
  have HCL := As.mk (fun W (hr : EngR W (.slice (some ⟨g, 0, none⟩) L c) (.slice A l.length d) L n b l) => clone_113 A d l.length (marksV l) W hr.2 (marksV_len l) (marksV_one l) (by omega))
  have HO := As.mk (((Own.start (X := []) w).box #[.int .i64 G, .slice (some ⟨g, 0, none⟩) L c, .slice A l.length d] 83).box #[.int .i64 0, .slice none 0 0, .slice none 0 0] 83)
  clear h hsz
  go_enter Tryz.func106, Tryz.ntmps106
  have ho := HO.out
  rw [World.size_alloc] at ho
  have HO0 := As.mk ho
  clear ho HO
  have HS := As.mk (show ∀ (W : World) (R : World → Prop), Own [] [(w.heap.size + 1, EC 83 [.int .i64 0, .slice none 0 0, .slice none 0 0]), (w.heap.size, EC 83 [.int .i64 G, .slice (some ⟨g, 0, none⟩) L c, .slice A l.length d])] R w W → W.cell? ⟨w.heap.size, 1, none⟩ = some (.slice (some ⟨g, 0, none⟩) L c) ∧ W.cell? ⟨w.heap.size, 2, none⟩ = some (.slice A l.length d) from
    fun W R h => ⟨h.get (g := w.heap.size) (e := 83) (cs := [.int .i64 G, .slice (some ⟨g, 0, none⟩) L c, .slice A l.length d]) (by simp) 1 (by simp), h.get (g := w.heap.size) (e := 83) (cs := [.int .i64 G, .slice (some ⟨g, 0, none⟩) L c, .slice A l.length d]) (by simp) 2 (by simp)⟩)
  go_wp2_with fail
  refine rgn [(0, 1), (1, 0), (3, 1), (4, 0), (2, 2), (6, 1), (5, 2), (7, 3), (8, 1), (9, 3)] [7, 9] (fun W => W.cell? ⟨w.heap.size, 1, none⟩ = some (.slice (some ⟨g, 0, none⟩) L c) ∧ W.cell? ⟨w.heap.size, 2, none⟩ = some (.slice A l.length d)) (by kernel_rfl) (by kernel_rfl) (fun _ _ _ d _ h => by cases d <;> exact h) (HS.out _ _ HO0.out.drew) ?_
  refine Run.pu (v := ?_) (a' := ?_) rfl rfl (Or.inl ⟨by rfl, ?_⟩) ?_ ?_; rotate_left 2; (focus (intro W; go_simp; with_reducible rfl)); (focus (simp only [Act.put, List.setIfInBounds_toArray, List.set_cons_zero, List.set_cons_succ]; rfl))
  refine Run.rd (v := ?_) (a' := ?_) rfl rfl (Or.inl ⟨by rfl, ?_⟩) ?_ ?_; rotate_left 2; (focus (rintro W ⟨hW1, hW2⟩; go_simp; with_reducible rfl)); (focus (simp only [Act.put, List.setIfInBounds_toArray, List.set_cons_zero, List.set_cons_succ]; rfl))
  refine Run.pu (v := ?_) (a' := ?_) rfl rfl (Or.inl ⟨by rfl, ?_⟩) ?_ ?_; rotate_left 2; (focus (intro W; go_simp; with_reducible rfl)); (focus (simp only [Act.put, List.setIfInBounds_toArray, List.set_cons_zero, List.set_cons_succ]; rfl))
  refine Run.rd (v := ?_) (a' := ?_) rfl rfl (Or.inl ⟨by rfl, ?_⟩) ?_ ?_; rotate_left 2; (focus (rintro W ⟨hW1, hW2⟩; go_simp; with_reducible rfl)); (focus (simp only [Act.put, List.setIfInBounds_toArray, List.set_cons_zero, List.set_cons_succ]; rfl))
  refine Run.ef rfl (fun K hK => ?_)
  simp only [List.getElem_toArray, List.getElem_cons_succ, List.getElem_cons_zero]
  go_wp2_with fail
  refine (HUS.out _ (H.out.below HO0.out.drew.toBelow)).mono ?_
  rintro e w1 ⟨t1, rfl, ht, hb⟩
  obtain ⟨g1, c1, rfl⟩ := (ht w1 fun _ _ _ => rfl).ge
  have HO1 := As.mk (HO0.out.drew.result (R' := fun W => TrR W (.slice (some ⟨g1, 0, none⟩) L c1) L (fun k => n / 2 ^ k) (fun k => lvs (n / 2 ^ k) (bk b k))) hb (fun W hW => ht W hW))
  clear ht hb HO0 HUS
  go_wp2
  refine hK.out _ _ (HS.out _ _ HO1.out) ?_
  clear hK K
  refine Run.pu (v := ?_) (a' := ?_) rfl rfl (Or.inl ⟨by rfl, ?_⟩) ?_ ?_; rotate_left 2; (focus (intro W; go_simp; with_reducible rfl)); (focus (simp only [Act.put, List.setIfInBounds_toArray, List.set_cons_zero, List.set_cons_succ]; rfl))
  refine Run.ef rfl (fun K hK => ?_)
  simp only [List.getElem_toArray, List.getElem_cons_succ, List.getElem_cons_zero]
  go_wp2_with fail
  refine (HCL.out _ (H.out.below HO1.out.toBelow)).mono ?_
  rintro e w2 ⟨v2, rfl, hk2, hb2⟩
  have hfr := (OwnS.ofRow (Own.start (X := []) w1) hb2 hk2).fr
  obtain ⟨A2, d2, rfl⟩ := hfr.slice
  have HO2 := As.mk (HO1.out.result (R' := fun W => Row W (.slice A2 l.length d2) l.length (marksV l)) hb2 (fun W hW => hfr.row hW))
  clear hk2 hb2 hfr HO1 HCL
  go_wp2
  refine hK.out _ _ (HS.out _ _ HO2.out) ?_
  clear hK K
  refine Run.la rfl (fun K hK => ?_)
  simp only [List.getElem_toArray, List.getElem_cons_succ, List.getElem_cons_zero]
  have HO3 := As.mk ((HO2.out.set 1 (g := w.heap.size) (e := 83) (cs := [.int .i64 G, .slice (some ⟨g, 0, none⟩) L c, .slice A l.length d]) rfl 1 (.slice (some ⟨g1, 0, none⟩) L c1) (by simp)).set 1 (g := w.heap.size) (e := 83) (cs := [.int .i64 G, .slice (some ⟨g1, 0, none⟩) L c1, .slice A l.length d]) rfl 2 (.slice A2 l.length d2) (by simp))
  have z1 := (HS.out _ _ HO2.out).1
  have z2 := (HS.out _ _ HO2.out).2
  have z0 := HO2.out.get (g := w.heap.size) (e := 83) (cs := [.int .i64 G, .slice (some ⟨g, 0, none⟩) L c, .slice A l.length d]) (by simp) 0 (by simp)
  have f1 := HO2.out.frozen (g := w.heap.size) (e := 83) (cs := [.int .i64 G, .slice (some ⟨g, 0, none⟩) L c, .slice A l.length d]) (by simp) 1
  have f2 := HO2.out.frozen (g := w.heap.size) (e := 83) (cs := [.int .i64 G, .slice (some ⟨g, 0, none⟩) L c, .slice A l.length d]) (by simp) 2
  go_wp2
  refine hK.out _ _ ?_
  clear hK K
  refine Run.pu (v := ?_) (a' := ?_) rfl rfl (Or.inl ⟨by rfl, ?_⟩) ?_ ?_; rotate_left 2; (focus (intro W; go_simp; with_reducible rfl)); (focus (simp only [Act.put, List.setIfInBounds_toArray, List.set_cons_zero, List.set_cons_succ]; rfl))
  refine Run.la rfl (fun K hK => ?_)
  simp only [List.getElem_toArray, List.getElem_cons_succ, List.getElem_cons_zero]
  go_wp2
  refine hK.out _ _ ?_
  clear hK K
  refine Run.nil ?_
  clear z0 z1 z2 f1 f2 HO2 HS
  obtain ⟨w3, hw3⟩ : ∃ w3, w3 = (w2.setCell ⟨w.heap.size, 1, none⟩ (.slice (some ⟨g1, 0, none⟩) L c1)).setCell ⟨w.heap.size, 2, none⟩ (.slice A2 l.length d2) := ⟨_, rfl⟩
  simp only [List.set_cons_succ, List.set_cons_zero] at HO3
  rw [← hw3] at HO3 ⊢
  clear hw3
  have y0 := HO3.out.get (g := w.heap.size) (e := 83) (cs := [.int .i64 G, .slice (some ⟨g1, 0, none⟩) L c1, .slice A2 l.length d2]) (by simp) 0 (by simp)
  have y1 := HO3.out.get (g := w.heap.size) (e := 83) (cs := [.int .i64 G, .slice (some ⟨g1, 0, none⟩) L c1, .slice A2 l.length d2]) (by simp) 1 (by simp)
  have y2 := HO3.out.get (g := w.heap.size) (e := 83) (cs := [.int .i64 G, .slice (some ⟨g1, 0, none⟩) L c1, .slice A2 l.length d2]) (by simp) 2 (by simp)
  have x0 := HO3.out.get (g := w.heap.size + 1) (e := 83) (cs := [.int .i64 0, .slice none 0 0, .slice none 0 0]) (by simp) 0 (by simp)
  have x1 := HO3.out.get (g := w.heap.size + 1) (e := 83) (cs := [.int .i64 0, .slice none 0 0, .slice none 0 0]) (by simp) 1 (by simp)
  have x2 := HO3.out.get (g := w.heap.size + 1) (e := 83) (cs := [.int .i64 0, .slice none 0 0, .slice none 0 0]) (by simp) 2 (by simp)
  have f0 := HO3.out.frozen (g := w.heap.size + 1) (e := 83) (cs := [.int .i64 0, .slice none 0 0, .slice none 0 0]) (by simp) 0
  have f1 := HO3.out.frozen (g := w.heap.size + 1) (e := 83) (cs := [.int .i64 0, .slice none 0 0, .slice none 0 0]) (by simp) 1
  have f2 := HO3.out.frozen (g := w.heap.size + 1) (e := 83) (cs := [.int .i64 0, .slice none 0 0, .slice none 0 0]) (by simp) 2
  have HF := As.mk (((HO3.out.set 0 (g := w.heap.size + 1) (e := 83) (cs := [.int .i64 0, .slice none 0 0, .slice none 0 0]) rfl 0 (.int .i64 G) (by simp)).set 0 (g := w.heap.size + 1) (e := 83) (cs := [.int .i64 G, .slice none 0 0, .slice none 0 0]) rfl 1 (.slice (some ⟨g1, 0, none⟩) L c1) (by simp)).set 0 (g := w.heap.size + 1) (e := 83) (cs := [.int .i64 G, .slice (some ⟨g1, 0, none⟩) L c1, .slice none 0 0]) rfl 2 (.slice A2 l.length d2) (by simp))
  go_wp2
  refine bodyPost_ret (v := .agg #[.int .i64 G, .slice (some ⟨g1, 0, none⟩) L c1, .slice A2 l.length d2]) (by simp [results, Tryz.f106, go_sem, *]) rfl ?_
  refine ⟨_, _, rfl, fun W hW => ?_, HF.out.toBelow⟩
  have h9 := HF.out.ro W fun k hk h0 _ => hW k h0 hk
  exact ⟨h9.1.2, h9.2⟩
end Go.Proofs.YtmookafmdonopaaGreat.Top
/- place.Place walked. -/
namespace Go.Proofs.YtmookafmdonopaaGreat.Top
open Go Go.RowKit
set_option linter.unusedVariables false
set_option linter.unusedSimpArgs false
attribute [local go_sem] max2_int min2_int max_two min_two max_three

theorem w64n (x : Nat) (h : x ≤ 65536) : wrap64 (x : Int) = x := w64 _ (by omega) (by omega)
theorem shl_i (i k a : Nat) (h : a = i * 2 ^ k) : (i : Int) * 2 ^ k = (a : Int) := by
  subst h
  rw [Int.natCast_mul, Int.natCast_pow]
  rfl
theorem pow_i (k m : Nat) (h : m = 2 ^ k) : (2 : Int) ^ k = (m : Int) := by
  subst h
  rw [Int.natCast_pow]
  rfl
theorem mul_i (a G x : Nat) (h : x = a * G) : (a : Int) * (G : Int) = (x : Int) := by subst h; rw [Int.natCast_mul]
/-- what Place answers -/
def PlR (base : Nat) (G L n k : Nat) (b : Nat → Bool) (l : List Mk) (e : Ending) (w' : World) : Prop :=
  (∃ t' s', e = .returned (.tuple #[.agg #[.int .i64 G, t', s'], .int .i64 0, .bool false]) ∧ EngF base w' t' s' L n b l ∧ ∀ j, j < n / 2 ^ k → bk b k j = true) ∨
  (∃ i t' s', e = .returned (.tuple #[.agg #[.int .i64 G, t', s'], .int .i64 ((i * 2 ^ k * G : Nat) : Int), .bool true]) ∧ i < n / 2 ^ k ∧ bk b k i = false ∧ (∀ j, j < i → bk b k j = true) ∧ EngF base w' t' s' L n (setB b (i * 2 ^ k) (2 ^ k) true) (putM l (i * 2 ^ k * G, k)))
set_option maxHeartbeats 1000000 in
theorem place_Place (G L n k : Nat) (t s : Value) (b : Nat → Bool) (l : List Mk) (w : World) (h : EngR w t s L n b l) (hL : 1 ≤ L) (hL2 : L ≤ 17) (hn1 : 1 ≤ n) (hn : n ≤ 4096) (hd : 2 ^ (L - 1) ∣ n) (hG : n * G ≤ 65536) (hl : l.length ≤ 100000 - 1) (hs : Sorted l) (hk : k < L)
    (hfree : ∀ i, i < n / 2 ^ k → bk b k i = false → hasM l (i * 2 ^ k * G) = false) :
    Calls Tryz.prog 103 #[.agg #[.int .i64 G, t, s], .int .i64 k] w fun e w' => PlR w.heap.size G L n k b l e w' ∧ Below w.heap.size w w' := by
  obtain ⟨g, c, rfl⟩ := h.1.ge
  obtain ⟨A, d, rfl⟩ := h.2.slice_
  have H := As.mk h
  have hdk : 2 ^ k ∣ n := Nat.dvd_trans (Nat.pow_dvd_pow 2 (by omega)) hd
  have hp := Nat.two_pow_pos k
  have hnk : 1 ≤ n / 2 ^ k := (Nat.le_div_iff_mul_le hp).2 (by rw [Nat.one_mul]; exact Nat.le_of_dvd (by omega) hdk)
  have HLO := As.mk (fun W (hr : EngR W (.slice (some ⟨g, 0, none⟩) L c) (.slice A l.length d) L n b l) => slots_Lowest _ L n k b W hr.1 hk hnk hn)
  have HTW := As.mk (fun W (hr : EngR W (.slice (some ⟨g, 0, none⟩) L c) (.slice A l.length d) L n b l) => place_twin G L n _ _ b l W hr hL hL2 hn (by omega))
  have HUS := As.mk (fun W a m (ham : a + m ≤ n) (hm : 1 ≤ m) (hr : EngR W (.slice (some ⟨g, 0, none⟩) L c) (.slice A l.length d) L n b l) => slots_Use _ L n a m b true W hr.1 hL hL2 hn hd hm ham)
  have HPU := As.mk (fun W (m : Mk) (hm : hasM l m.1 = false) (hr : EngR W (.slice (some ⟨g, 0, none⟩) L c) (.slice A l.length d) L n b l) => side_Put A d l m W hr.2 hs (by omega) hm)
  have HFR := As.mk hfree
  have HDK := As.mk hdk
  have ho := ((Own.start (X := []) w).box #[.int .i64 G, .slice (some ⟨g, 0, none⟩) L c, .slice A l.length d] 83).box #[.int .i64 0, .slice none 0 0, .slice none 0 0] 83
  rw [World.size_alloc] at ho
  have HO := As.mk ho
  have HG := As.mk hG
  clear h hd hs hfree hdk hp ho hG
  go_enter Tryz.func103, Tryz.ntmps103
  go_wp2_with fail
  refine (HLO.out _ (H.out.below HO.out.toBelow)).mono ?_
  rintro e w1 ⟨⟨v, ok, rfl, hz⟩, hb⟩
  have HO1 := As.mk (HO.out.below hb)
  have y0 := HO1.out.get (g := w.heap.size) (e := 83) (cs := [.int .i64 G, .slice (some ⟨g, 0, none⟩) L c, .slice A l.length d]) (by simp) 0 (by simp)
  have y1 := HO1.out.get (g := w.heap.size) (e := 83) (cs := [.int .i64 G, .slice (some ⟨g, 0, none⟩) L c, .slice A l.length d]) (by simp) 1 (by simp)
  have y2 := HO1.out.get (g := w.heap.size) (e := 83) (cs := [.int .i64 G, .slice (some ⟨g, 0, none⟩) L c, .slice A l.length d]) (by simp) 2 (by simp)
  clear hb HO HLO
  rcases hz with ⟨rfl, i, rfl, hi1, hi2, hi3⟩ | ⟨rfl, hall⟩
  · have hp := Nat.two_pow_pos k
    have hle : (i + 1) * 2 ^ k ≤ n := (Nat.le_div_iff_mul_le hp).1 hi1
    rw [Nat.add_mul, Nat.one_mul] at hle
    obtain ⟨m, hm⟩ : ∃ m, m = 2 ^ k := ⟨_, rfl⟩
    obtain ⟨a, ha⟩ : ∃ a, a = i * 2 ^ k := ⟨_, rfl⟩
    obtain ⟨x, hx⟩ : ∃ x, x = a * G := ⟨_, rfl⟩
    have ham : a + m ≤ n := by rw [ha, hm]; exact hle
    have hm1 : 1 ≤ m := by rw [hm]; exact hp
    have hax : a ≤ n := Nat.le_trans (Nat.le_add_right a m) ham
    have hmx : m ≤ n := Nat.le_trans (Nat.le_add_left m a) ham
    have hn6 : n ≤ 65536 := Nat.le_trans hn (by decide)
    have hx1 : x ≤ 65536 := hx ▸ Nat.le_trans (Nat.mul_le_mul_right _ hax) HG.out
    have e1 := shl_i i k a ha
    have e2 := pow_i k m hm
    have e3 := mul_i a G x hx
    have e4 := w64n a (Nat.le_trans hax hn6)
    have e5 := w64n m (Nat.le_trans hmx hn6)
    have e6 := w64n x hx1
    have e7 : (i : Int) * (m : Int) = (a : Int) := e2 ▸ e1
    have hfr := HFR.out i hi1 hi2
    rw [← ha, ← hx] at hfr
    have E := As.mk (And.intro hm (And.intro ha (And.intro hx (And.intro hi1 (And.intro hi2 hi3)))))
    clear hm ha hx hle hp hi1 hi2 hi3
    have HUS1 := As.mk (HUS.out w1 a m ham hm1 (H.out.below HO1.out.toBelow))
    have FR := As.mk hfr
    have EE := As.mk (And.intro e1 (And.intro e2 (And.intro e3 (And.intro e4 (And.intro e5 (And.intro e6 e7))))))
    clear hfr HUS HTW e1 e2 e3 e4 e5 e6 e7 hax hmx hn6 hx1 ham hm1 hnk hn1
    go_wp2_with fail
    obtain ⟨e1, e2, e3, e4, e5, e6, e7⟩ := EE.out
    simp only [e1, e7, e4, e3, e6, e2, e5]
    clear e1 e2 e3 e4 e5 e6 e7
    refine HUS1.out.mono ?_
    rintro e w2 ⟨t1, rfl, ht, hb⟩
    obtain ⟨g1, c1, rfl⟩ := (ht w2 fun _ _ _ => rfl).ge
    have HO2 := As.mk (HO1.out.result (R' := fun W => TrR W (.slice (some ⟨g1, 0, none⟩) L c1) L (fun k => n / 2 ^ k) (fun k' => lvs (n / 2 ^ k') (bk (setB b a m true) k'))) hb (fun W hW => ht W hW))
    clear ht hb y0 y1 y2 HUS1
    have z1 := HO2.out.get (g := w.heap.size) (e := 83) (cs := [.int .i64 G, .slice (some ⟨g, 0, none⟩) L c, .slice A l.length d]) (by simp) 1 (by simp)
    have z2 := HO2.out.get (g := w.heap.size) (e := 83) (cs := [.int .i64 G, .slice (some ⟨g, 0, none⟩) L c, .slice A l.length d]) (by simp) 2 (by simp)
    have f1 := HO2.out.frozen (g := w.heap.size) (e := 83) (cs := [.int .i64 G, .slice (some ⟨g, 0, none⟩) L c, .slice A l.length d]) (by simp) 1
    have HO3 := As.mk (HO2.out.set 1 (g := w.heap.size) (e := 83) (cs := [.int .i64 G, .slice (some ⟨g, 0, none⟩) L c, .slice A l.length d]) rfl 1 (.slice (some ⟨g1, 0, none⟩) L c1) (by simp))
    go_wp2_with fail
    refine (HPU.out _ (x, k) FR.out (H.out.below HO3.out.toBelow)).mono ?_
    rintro e w3 ⟨v3, rfl, hfr, hb3⟩
    obtain ⟨A3, d3, rfl⟩ := hfr.slice
    have HO4 := As.mk (HO3.out.result (R' := fun W => Row W (.slice A3 (l.length + 1) d3) (l.length + 1) (marksV (putM l (x, k)))) hb3 (fun W hW => hfr.row hW))
    clear hfr hb3 z1 z2 f1 HO2 HO3 HPU
    have z0 := HO4.out.get (g := w.heap.size) (e := 83) (cs := [.int .i64 G, .slice (some ⟨g1, 0, none⟩) L c1, .slice A l.length d]) (by simp) 0 (by simp)
    have z1 := HO4.out.get (g := w.heap.size) (e := 83) (cs := [.int .i64 G, .slice (some ⟨g1, 0, none⟩) L c1, .slice A l.length d]) (by simp) 1 (by simp)
    have z2 := HO4.out.get (g := w.heap.size) (e := 83) (cs := [.int .i64 G, .slice (some ⟨g1, 0, none⟩) L c1, .slice A l.length d]) (by simp) 2 (by simp)
    have f2 := HO4.out.frozen (g := w.heap.size) (e := 83) (cs := [.int .i64 G, .slice (some ⟨g1, 0, none⟩) L c1, .slice A l.length d]) (by simp) 2
    have x0 := HO4.out.get (g := w.heap.size + 1) (e := 83) (cs := [.int .i64 0, .slice none 0 0, .slice none 0 0]) (by simp) 0 (by simp)
    have x1 := HO4.out.get (g := w.heap.size + 1) (e := 83) (cs := [.int .i64 0, .slice none 0 0, .slice none 0 0]) (by simp) 1 (by simp)
    have x2 := HO4.out.get (g := w.heap.size + 1) (e := 83) (cs := [.int .i64 0, .slice none 0 0, .slice none 0 0]) (by simp) 2 (by simp)
    have f3 := HO4.out.frozen (g := w.heap.size + 1) (e := 83) (cs := [.int .i64 0, .slice none 0 0, .slice none 0 0]) (by simp) 0
    have f4 := HO4.out.frozen (g := w.heap.size + 1) (e := 83) (cs := [.int .i64 0, .slice none 0 0, .slice none 0 0]) (by simp) 1
    have f5 := HO4.out.frozen (g := w.heap.size + 1) (e := 83) (cs := [.int .i64 0, .slice none 0 0, .slice none 0 0]) (by simp) 2
    have HO5 := HO4.out.set 1 (g := w.heap.size) (e := 83) (cs := [.int .i64 G, .slice (some ⟨g1, 0, none⟩) L c1, .slice A l.length d]) rfl 2 (.slice A3 (l.length + 1) d3) (by simp)
    have HF := As.mk (((HO5.set 0 (g := w.heap.size + 1) (e := 83) (cs := [.int .i64 0, .slice none 0 0, .slice none 0 0]) rfl 0 (.int .i64 G) (by simp)).set 0 (g := w.heap.size + 1) (e := 83) (cs := [.int .i64 G, .slice none 0 0, .slice none 0 0]) rfl 1 (.slice (some ⟨g1, 0, none⟩) L c1) (by simp)).set 0 (g := w.heap.size + 1) (e := 83) (cs := [.int .i64 G, .slice (some ⟨g1, 0, none⟩) L c1, .slice none 0 0]) rfl 2 (.slice A3 (l.length + 1) d3) (by simp))
    clear HO5
    go_wp2
    refine bodyPost_ret (v := .tuple #[.agg #[.int .i64 G, .slice (some ⟨g1, 0, none⟩) L c1, .slice A3 (l.length + 1) d3], .int .i64 x, .bool true]) (by simp [results, Tryz.f103, go_sem, *]) rfl ?_
    obtain ⟨hm, ha, hx, hi1, hi2, hi3⟩ := E.out
    have hlen : (putM l (x, k)).length = l.length + 1 := by
      have := posM_le l x
      simp [putM]
      omega
    refine ⟨Or.inr ⟨i, _, _, by rw [← ha, ← hx], hi1, hi2, hi3, fun W hW => ?_⟩, HF.out.toBelow⟩
    rw [← ha, ← hx, ← hm]
    have h9 := HF.out.ro W fun k hk h0 _ => hW k h0 hk
    refine ⟨h9.1.2, ?_⟩
    rw [hlen]
    exact h9.2
  · have HALL := As.mk hall
    clear hall
    go_wp2_with fail
    refine (HTW.out _ (H.out.below HO1.out.toBelow)).mono ?_
    rintro e w2 ⟨t', s', rfl, hef, hb2⟩
    obtain ⟨g1, c1, rfl⟩ := hef.now.1.ge
    obtain ⟨A1, d1, rfl⟩ := hef.now.2.slice_
    have HO2 := As.mk (HO1.out.result (R' := fun W => EngR W (.slice (some ⟨g1, 0, none⟩) L c1) (.slice A1 l.length d1) L n b l) hb2 (fun W hW => hef W hW))
    clear hef hb2 y0 y1 y2
    have f0 := HO2.out.frozen (g := w.heap.size + 1) (e := 83) (cs := [.int .i64 0, .slice none 0 0, .slice none 0 0]) (by simp) 0
    have f1 := HO2.out.frozen (g := w.heap.size + 1) (e := 83) (cs := [.int .i64 0, .slice none 0 0, .slice none 0 0]) (by simp) 1
    have f2 := HO2.out.frozen (g := w.heap.size + 1) (e := 83) (cs := [.int .i64 0, .slice none 0 0, .slice none 0 0]) (by simp) 2
    have x0 := HO2.out.get (g := w.heap.size + 1) (e := 83) (cs := [.int .i64 0, .slice none 0 0, .slice none 0 0]) (by simp) 0 (by simp)
    have x1 := HO2.out.get (g := w.heap.size + 1) (e := 83) (cs := [.int .i64 0, .slice none 0 0, .slice none 0 0]) (by simp) 1 (by simp)
    have x2 := HO2.out.get (g := w.heap.size + 1) (e := 83) (cs := [.int .i64 0, .slice none 0 0, .slice none 0 0]) (by simp) 2 (by simp)
    have HF := As.mk (((HO2.out.set 0 (g := w.heap.size + 1) (e := 83) (cs := [.int .i64 0, .slice none 0 0, .slice none 0 0]) rfl 0 (.int .i64 G) (by simp)).set 0 (g := w.heap.size + 1) (e := 83) (cs := [.int .i64 G, .slice none 0 0, .slice none 0 0]) rfl 1 (.slice (some ⟨g1, 0, none⟩) L c1) (by simp)).set 0 (g := w.heap.size + 1) (e := 83) (cs := [.int .i64 G, .slice (some ⟨g1, 0, none⟩) L c1, .slice none 0 0]) rfl 2 (.slice A1 l.length d1) (by simp))
    go_wp2
    refine bodyPost_ret (v := .tuple #[.agg #[.int .i64 G, .slice (some ⟨g1, 0, none⟩) L c1, .slice A1 l.length d1], .int .i64 0, .bool false]) (by simp [results, Tryz.f103, go_sem, *]) rfl ?_
    exact ⟨Or.inl ⟨_, _, rfl, fun W hW => (HF.out.ro W fun k hk h0 _ => hW k h0 hk).2, HALL.out⟩, HF.out.toBelow⟩
end Go.Proofs.YtmookafmdonopaaGreat.Top
/- place.Release walked. -/
namespace Go.Proofs.YtmookafmdonopaaGreat.Top
open Go Go.RowKit
set_option linter.unusedVariables false
set_option linter.unusedSimpArgs false
attribute [local go_sem] max2_int min2_int max_two min_two max_three

theorem slots_Use_i (v : Value) (L n a m : Nat) (Ai Mi : Int) (b : Nat → Bool) (on : Bool) (w : World) (h : TrR w v L (fun k => n / 2 ^ k) (fun k => lvs (n / 2 ^ k) (bk b k))) (hL : 1 ≤ L) (hL2 : L ≤ 17) (hn : n ≤ 4096) (hd : 2 ^ (L - 1) ∣ n) (hm : 1 ≤ m) (ham : a + m ≤ n) (hA : Ai = (a : Int)) (hM : Mi = (m : Int)) :
    Calls Tryz.prog 107 #[.agg #[v], .int .i64 Ai, .int .i64 Mi, .bool on] w fun e w' => ∃ v', e = .returned (.agg #[v']) ∧ TrF w.heap.size w' v' L (fun k => n / 2 ^ k) (fun k => lvs (n / 2 ^ k) (bk (setB b a m on) k)) ∧ Below w.heap.size w w' := by
  subst hA; subst hM
  exact slots_Use v L n a m b on w h hL hL2 hn hd hm ham
theorem quo_back (a G x : Nat) (h : x = a * G) (hG : 1 ≤ G) (ha : a ≤ 65536) : wrap64 ((x : Int) / (G : Int)) = (a : Int) := by
  have e : (x : Int) / (G : Int) = (a : Int) := by
    rw [h, Int.natCast_mul]
    exact Int.mul_ediv_cancel _ (Int.ofNat_ne_zero.2 (Nat.ne_of_gt hG))
  rw [e]
  exact w64n a ha
theorem pow_back (k : Nat) (h : 2 ^ k ≤ 65536) (hk : k ≤ 64) : wrap64 ((2 : Int) ^ min k 64) = ((2 ^ k : Nat) : Int) := by
  rw [Nat.min_eq_left hk, pow_i k (2 ^ k) rfl]
  exact w64n _ h
set_option maxHeartbeats 1000000 in
theorem place_Release (G L n k a x : Nat) (t s : Value) (b : Nat → Bool) (l : List Mk) (w : World) (h : EngR w t s L n b l) (hL : 1 ≤ L) (hL2 : L ≤ 17) (hn : n ≤ 4096) (hd : 2 ^ (L - 1) ∣ n) (hG : 1 ≤ G) (hG2 : G ≤ 65536) (hl : l.length ≤ 100000) (hs : Sorted l) (hk : k < L)
    (hx : x = a * G) (ham : a + 2 ^ k ≤ n) (hm : (x, k) ∈ l) (hx2 : x ≤ 65536) :
    Calls Tryz.prog 89 #[.agg #[.int .i64 G, t, s], .int .i64 x] w fun e w' => (∃ t' s', e = .returned (.tuple #[.agg #[.int .i64 G, t', s'], .int .i64 k, .bool true]) ∧ EngF w.heap.size w' t' s' L n (setB b a (2 ^ k) false) (delM l x)) ∧ Below w.heap.size w w' := by
  obtain ⟨g, c, rfl⟩ := h.1.ge
  obtain ⟨A, d, rfl⟩ := h.2.slice_
  have H := As.mk h
  have HTA := As.mk (fun W (hr : EngR W (.slice (some ⟨g, 0, none⟩) L c) (.slice A l.length d) L n b l) => side_Take A d l x k W hr.2 hs hl hm)
  have HUS := As.mk (fun W Ai Mi (hA : Ai = (a : Int)) (hM : Mi = ((2 ^ k : Nat) : Int)) (hr : EngR W (.slice (some ⟨g, 0, none⟩) L c) (.slice A l.length d) L n b l) => slots_Use_i _ L n a (2 ^ k) Ai Mi b false W hr.1 hL hL2 hn hd (Nat.two_pow_pos k) ham hA hM)
  have ho := ((Own.start (X := []) w).box #[.int .i64 G, .slice (some ⟨g, 0, none⟩) L c, .slice A l.length d] 83).box #[.int .i64 0, .slice none 0 0, .slice none 0 0] 83
  rw [World.size_alloc] at ho
  have HO := As.mk ho
  have HX := As.mk (And.intro hx (And.intro ham hx2))
  have c1 : ((G : Int) < 1) = False := eq_false (by clear hx ham; omega)
  have c2 : ((k : Int) < 0) = False := eq_false (by clear hx ham; omega)
  have c3 : ((L : Int) ≤ (k : Int)) = False := eq_false (by clear hx ham; omega)
  have c4 : (L ≤ k) = False := eq_false (by clear hx ham; omega)
  have c5 : (G = 0) = False := eq_false (by clear hx ham; omega)
  have c6 : ((G : Int) = 0) = False := eq_false (by clear hx ham; omega)
  have c7 : ((G : Int) == 0) = false := beqF (by clear hx ham; omega)
  have HLEN : As ((delM l x).length = l.length - 1) := by
    have h1 := posM_le l x
    have h2 : posM l x < l.length := by
      obtain ⟨q, hq, _⟩ := (hasM_at l x hs).1 (List.any_eq_true.2 ⟨_, hm, by simp⟩)
      exact (List.getElem?_eq_some_iff.1 hq).1
    refine As.mk ?_
    clear hx ham
    simp [delM]
    omega
  clear h hd hs hm ho hx ham hx2
  go_enter Tryz.func89, Tryz.ntmps89
  go_wp2_with fail
  refine (HTA.out _ (H.out.below HO.out.toBelow)).mono ?_
  rintro e w1 ⟨v1, rfl, hfr, hb⟩
  obtain ⟨A1, d1, rfl⟩ := hfr.slice
  have HO1 := As.mk (HO.out.result (R' := fun W => Row W (.slice A1 (l.length - 1) d1) (l.length - 1) (marksV (delM l x))) hb (fun W hW => hfr.row hW))
  have y0 := HO1.out.get (g := w.heap.size) (e := 83) (cs := [.int .i64 G, .slice (some ⟨g, 0, none⟩) L c, .slice A l.length d]) (by simp) 0 (by simp)
  have y1 := HO1.out.get (g := w.heap.size) (e := 83) (cs := [.int .i64 G, .slice (some ⟨g, 0, none⟩) L c, .slice A l.length d]) (by simp) 1 (by simp)
  clear hb HO HTA hfr
  go_wp2_with fail
  refine rgn [(0, 1), (1, 0), (2, 1), (3, 1), (4, 0), (5, 1), (6, 1), (7, 1), (8, 1), (10, 1), (9, 2), (11, 1), (12, 3), (13, 1), (14, 3)] [12, 14] (fun W => W.cell? ⟨w.heap.size, 0, none⟩ = some (.int .i64 G) ∧ W.cell? ⟨w.heap.size, 1, none⟩ = some (.slice (some ⟨g, 0, none⟩) L c)) (by kernel_rfl) (by kernel_rfl) (fun _ _ _ d _ h => by cases d <;> exact h) ⟨y0, y1⟩ ?_
  refine Run.pu (v := ?_) (a' := ?_) rfl rfl (Or.inl ⟨by rfl, ?_⟩) ?_ ?_; rotate_left 2; (focus (intro W; go_simp; with_reducible rfl)); (focus (simp only [Act.put, List.setIfInBounds_toArray, List.set_cons_zero, List.set_cons_succ]; rfl))
  refine Run.rd (v := ?_) (a' := ?_) rfl rfl (Or.inl ⟨by rfl, ?_⟩) ?_ ?_; rotate_left 2; (focus (rintro W ⟨hW1, hW2⟩; go_simp; with_reducible rfl)); (focus (simp only [Act.put, List.setIfInBounds_toArray, List.set_cons_zero, List.set_cons_succ]; rfl))
  iterate 2 (refine Run.pu (v := ?_) (a' := ?_) rfl rfl (Or.inl ⟨by rfl, ?_⟩) ?_ ?_; rotate_left 2; (focus (intro W; go_simp; with_reducible rfl)); (focus (simp only [Act.put, List.setIfInBounds_toArray, List.set_cons_zero, List.set_cons_succ]; rfl)))
  refine Run.rd (v := ?_) (a' := ?_) rfl rfl (Or.inl ⟨by rfl, ?_⟩) ?_ ?_; rotate_left 2; (focus (rintro W ⟨hW1, hW2⟩; go_simp; with_reducible rfl)); (focus (simp only [Act.put, List.setIfInBounds_toArray, List.set_cons_zero, List.set_cons_succ]; rfl))
  iterate 5 (refine Run.pu (v := ?_) (a' := ?_) rfl rfl (Or.inl ⟨by rfl, ?_⟩) ?_ ?_; rotate_left 2; (focus (intro W; go_simp; with_reducible rfl)); (focus (simp only [Act.put, List.setIfInBounds_toArray, List.set_cons_zero, List.set_cons_succ]; rfl)))
  refine Run.ef rfl (fun K hK => ?_)
  simp only [List.getElem_toArray, List.getElem_cons_succ, List.getElem_cons_zero]
  go_wp2_with fail
  refine (HUS.out _ _ _ (quo_back a G x HX.out.1 hG (Nat.le_trans (Nat.le_trans (Nat.le_add_right _ _) HX.out.2.1) (Nat.le_trans hn (by decide)))) (pow_back k (Nat.le_trans (Nat.le_trans (Nat.le_add_left _ _) HX.out.2.1) (Nat.le_trans hn (by decide))) (by omega)) (H.out.below HO1.out.drew.toBelow)).mono ?_
  rintro e w2 ⟨t1, rfl, ht, hb⟩
  obtain ⟨g1, c1', rfl⟩ := (ht w2 fun _ _ _ => rfl).ge
  have HO2 := As.mk (HO1.out.drew.result (R' := fun W => TrR W (.slice (some ⟨g1, 0, none⟩) L c1') L (fun k => n / 2 ^ k) (fun k' => lvs (n / 2 ^ k') (bk (setB b a (2 ^ k) false) k'))) hb (fun W hW => ht W hW))
  clear ht hb y0 y1 HUS HO1
  have z0 := HO2.out.get (g := w.heap.size) (e := 83) (cs := [.int .i64 G, .slice (some ⟨g, 0, none⟩) L c, .slice A l.length d]) (by simp) 0 (by simp)
  have z1 := HO2.out.get (g := w.heap.size) (e := 83) (cs := [.int .i64 G, .slice (some ⟨g, 0, none⟩) L c, .slice A l.length d]) (by simp) 1 (by simp)
  have z2 := HO2.out.get (g := w.heap.size) (e := 83) (cs := [.int .i64 G, .slice (some ⟨g, 0, none⟩) L c, .slice A l.length d]) (by simp) 2 (by simp)
  have f1 := HO2.out.frozen (g := w.heap.size) (e := 83) (cs := [.int .i64 G, .slice (some ⟨g, 0, none⟩) L c, .slice A l.length d]) (by simp) 1
  have f2 := HO2.out.frozen (g := w.heap.size) (e := 83) (cs := [.int .i64 G, .slice (some ⟨g, 0, none⟩) L c, .slice A l.length d]) (by simp) 2
  go_wp2
  refine hK.out _ _ ⟨z0, z1⟩ ?_
  clear hK K
  refine Run.pu (v := ?_) (a' := ?_) rfl rfl (Or.inl ⟨by rfl, ?_⟩) ?_ ?_; rotate_left 2; (focus (intro W; go_simp; with_reducible rfl)); (focus (simp only [Act.put, List.setIfInBounds_toArray, List.set_cons_zero, List.set_cons_succ]; rfl))
  refine Run.la rfl (fun K hK => ?_)
  simp only [List.getElem_toArray, List.getElem_cons_succ, List.getElem_cons_zero]
  have HO3 := As.mk ((HO2.out.set 1 (g := w.heap.size) (e := 83) (cs := [.int .i64 G, .slice (some ⟨g, 0, none⟩) L c, .slice A l.length d]) rfl 1 (.slice (some ⟨g1, 0, none⟩) L c1') (by simp)).set 1 (g := w.heap.size) (e := 83) (cs := [.int .i64 G, .slice (some ⟨g1, 0, none⟩) L c1', .slice A l.length d]) rfl 2 (.slice A1 (l.length - 1) d1) (by simp))
  go_wp2
  refine hK.out _ _ ?_
  clear hK K
  refine Run.pu (v := ?_) (a' := ?_) rfl rfl (Or.inl ⟨by rfl, ?_⟩) ?_ ?_; rotate_left 2; (focus (intro W; go_simp; with_reducible rfl)); (focus (simp only [Act.put, List.setIfInBounds_toArray, List.set_cons_zero, List.set_cons_succ]; rfl))
  refine Run.la rfl (fun K hK => ?_)
  simp only [List.getElem_toArray, List.getElem_cons_succ, List.getElem_cons_zero]
  go_wp2
  refine hK.out _ _ ?_
  clear hK K
  refine Run.nil ?_
  clear z0 z1 z2 f1 f2 HO2
  obtain ⟨w3, hw3⟩ : ∃ w3, w3 = (w2.setCell ⟨w.heap.size, 1, none⟩ (.slice (some ⟨g1, 0, none⟩) L c1')).setCell ⟨w.heap.size, 2, none⟩ (.slice A1 (l.length - 1) d1) := ⟨_, rfl⟩
  simp only [List.set_cons_succ, List.set_cons_zero] at HO3
  rw [← hw3] at HO3 ⊢
  clear hw3
  have y0 := HO3.out.get (g := w.heap.size) (e := 83) (cs := [.int .i64 G, .slice (some ⟨g1, 0, none⟩) L c1', .slice A1 (l.length - 1) d1]) (by simp) 0 (by simp)
  have y1 := HO3.out.get (g := w.heap.size) (e := 83) (cs := [.int .i64 G, .slice (some ⟨g1, 0, none⟩) L c1', .slice A1 (l.length - 1) d1]) (by simp) 1 (by simp)
  have y2 := HO3.out.get (g := w.heap.size) (e := 83) (cs := [.int .i64 G, .slice (some ⟨g1, 0, none⟩) L c1', .slice A1 (l.length - 1) d1]) (by simp) 2 (by simp)
  have x0 := HO3.out.get (g := w.heap.size + 1) (e := 83) (cs := [.int .i64 0, .slice none 0 0, .slice none 0 0]) (by simp) 0 (by simp)
  have x1 := HO3.out.get (g := w.heap.size + 1) (e := 83) (cs := [.int .i64 0, .slice none 0 0, .slice none 0 0]) (by simp) 1 (by simp)
  have x2 := HO3.out.get (g := w.heap.size + 1) (e := 83) (cs := [.int .i64 0, .slice none 0 0, .slice none 0 0]) (by simp) 2 (by simp)
  have f0 := HO3.out.frozen (g := w.heap.size + 1) (e := 83) (cs := [.int .i64 0, .slice none 0 0, .slice none 0 0]) (by simp) 0
  have f1 := HO3.out.frozen (g := w.heap.size + 1) (e := 83) (cs := [.int .i64 0, .slice none 0 0, .slice none 0 0]) (by simp) 1
  have f2 := HO3.out.frozen (g := w.heap.size + 1) (e := 83) (cs := [.int .i64 0, .slice none 0 0, .slice none 0 0]) (by simp) 2
  have HF := As.mk (((HO3.out.set 0 (g := w.heap.size + 1) (e := 83) (cs := [.int .i64 0, .slice none 0 0, .slice none 0 0]) rfl 0 (.int .i64 G) (by simp)).set 0 (g := w.heap.size + 1) (e := 83) (cs := [.int .i64 G, .slice none 0 0, .slice none 0 0]) rfl 1 (.slice (some ⟨g1, 0, none⟩) L c1') (by simp)).set 0 (g := w.heap.size + 1) (e := 83) (cs := [.int .i64 G, .slice (some ⟨g1, 0, none⟩) L c1', .slice none 0 0]) rfl 2 (.slice A1 (l.length - 1) d1) (by simp))
  go_wp2
  refine bodyPost_ret (v := .tuple #[.agg #[.int .i64 G, .slice (some ⟨g1, 0, none⟩) L c1', .slice A1 (l.length - 1) d1], .int .i64 k, .bool true]) (by simp [results, Tryz.f89, go_sem, *]) rfl ?_
  refine ⟨⟨_, _, rfl, fun W hW => ?_⟩, HF.out.toBelow⟩
  have h9 := HF.out.ro W fun k hk h0 _ => hW k h0 hk
  refine ⟨h9.2, ?_⟩
  rw [HLEN.out]
  exact h9.1.2
end Go.Proofs.YtmookafmdonopaaGreat.Top
