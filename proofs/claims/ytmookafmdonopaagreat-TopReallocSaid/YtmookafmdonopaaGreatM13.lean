/- place.Place walked. -/
import Derived.Test.YtmookafmdonopaaGreatM12
/- place.Place walked. -/
namespace Go.Proofs.YtmookafmdonopaaGreat.Top
open Go Go.RowKit
set_option linter.unusedVariables false
set_option linter.unusedSimpArgs false
attribute [local go_sem] max2_int min2_int max_two min_two max_three

theorem w64n (x : Nat) (h : x ≤ 65536) : wrap64 (x : Int) = x := w64 _ (by omega) (by omega)
theorem shl_i (i k a : Nat) (h : a = i * 2 ^ k) : (i : Int) * 2 ^ k = (a : Int) := by
 subst h
 rw [Int.natCast_mul, Int.natCast_pow]
 rfl
theorem pow_i (k m : Nat) (h : m = 2 ^ k) : (2 : Int) ^ k = (m : Int) := by
 subst h
 rw [Int.natCast_pow]
 rfl
theorem mul_i (a G x : Nat) (h : x = a * G) : (a : Int) * (G : Int) = (x : Int) := by subst h; rw [Int.natCast_mul]
/-- what Place answers -/
def PlR (base : Nat) (G L n k : Nat) (b : Nat → Bool) (l : List Mk) (e : Ending) (w' : World) : Prop :=
 (∃ t' s', e = .returned (.tuple #[.agg #[.int .i64 G, t', s'], .int .i64 0, .bool false]) ∧ EngF base w' t' s' L n b l ∧ ∀ j, j < n / 2 ^ k → bk b k j = true) ∨
 (∃ i t' s', e = .returned (.tuple #[.agg #[.int .i64 G, t', s'], .int .i64 ((i * 2 ^ k * G : Nat) : Int), .bool true]) ∧ i < n / 2 ^ k ∧ bk b k i = false ∧ (∀ j, j < i → bk b k j = true) ∧ EngF base w' t' s' L n (setB b (i * 2 ^ k) (2 ^ k) true) (putM l (i * 2 ^ k * G, k)))
set_option maxHeartbeats 1000000 in
theorem place_Place (G L n k : Nat) (t s : Value) (b : Nat → Bool) (l : List Mk) (w : World) (h : EngR w t s L n b l) (hL : 1 ≤ L) (hL2 : L ≤ 17) (hn1 : 1 ≤ n) (hn : n ≤ 4096) (hd : 2 ^ (L - 1) ∣ n) (hG : n * G ≤ 65536) (hl : l.length ≤ 100000 - 1) (hs : Sorted l) (hk : k < L)
 (hfree : ∀ i, i < n / 2 ^ k → bk b k i = false → hasM l (i * 2 ^ k * G) = false) :
 Calls Tryz.prog 103 #[.agg #[.int .i64 G, t, s], .int .i64 k] w fun e w' => PlR w.heap.size G L n k b l e w' ∧ Below w.heap.size w w' := by
 obtain ⟨g, c, rfl⟩ := h.1.ge
 obtain ⟨A, d, rfl⟩ := h.2.slice_
 have H := As.mk h
 have hdk : 2 ^ k ∣ n := Nat.dvd_trans (Nat.pow_dvd_pow 2 (by omega)) hd
 have hp := Nat.two_pow_pos k
 have hnk : 1 ≤ n / 2 ^ k := (Nat.le_div_iff_mul_le hp).2 (by rw [Nat.one_mul]; exact Nat.le_of_dvd (by omega) hdk)
 have HLO := As.mk (fun W (hr : EngR W (.slice (some ⟨g, 0, none⟩) L c) (.slice A l.length d) L n b l) => slots_Lowest _ L n k b W hr.1 hk hnk hn)
 have HTW := As.mk (fun W (hr : EngR W (.slice (some ⟨g, 0, none⟩) L c) (.slice A l.length d) L n b l) => place_twin G L n _ _ b l W hr hL hL2 hn (by omega))
 have HUS := As.mk (fun W a m (ham : a + m ≤ n) (hm : 1 ≤ m) (hr : EngR W (.slice (some ⟨g, 0, none⟩) L c) (.slice A l.length d) L n b l) => slots_Use _ L n a m b true W hr.1 hL hL2 hn hd hm ham)
 have HPU := As.mk (fun W (m : Mk) (hm : hasM l m.1 = false) (hr : EngR W (.slice (some ⟨g, 0, none⟩) L c) (.slice A l.length d) L n b l) => side_Put A d l m W hr.2 hs (by omega) hm)
 have HFR := As.mk hfree
 have HDK := As.mk hdk
 have ho := ((Own.start (X := []) w).box #[.int .i64 G, .slice (some ⟨g, 0, none⟩) L c, .slice A l.length d] 83).box #[.int .i64 0, .slice none 0 0, .slice none 0 0] 83
 rw [World.size_alloc] at ho
 have HO := As.mk ho
 have HG := As.mk hG
 clear h hd hs hfree hdk hp ho hG
 go_enter Tryz.func103, Tryz.ntmps103
 go_wp2_with fail
 refine (HLO.out _ (H.out.below HO.out.toBelow)).mono ?_
 rintro e w1 ⟨⟨v, ok, rfl, hz⟩, hb⟩
 have HO1 := As.mk (HO.out.below hb)
 have y0 := HO1.out.get (g := w.heap.size) (e := 83) (cs := [.int .i64 G, .slice (some ⟨g, 0, none⟩) L c, .slice A l.length d]) (by simp) 0 (by simp)
 have y1 := HO1.out.get (g := w.heap.size) (e := 83) (cs := [.int .i64 G, .slice (some ⟨g, 0, none⟩) L c, .slice A l.length d]) (by simp) 1 (by simp)
 have y2 := HO1.out.get (g := w.heap.size) (e := 83) (cs := [.int .i64 G, .slice (some ⟨g, 0, none⟩) L c, .slice A l.length d]) (by simp) 2 (by simp)
 clear hb HO HLO
 rcases hz with ⟨rfl, i, rfl, hi1, hi2, hi3⟩ | ⟨rfl, hall⟩
 · have hp := Nat.two_pow_pos k
   have hle : (i + 1) * 2 ^ k ≤ n := (Nat.le_div_iff_mul_le hp).1 hi1
   rw [Nat.add_mul, Nat.one_mul] at hle
   obtain ⟨m, hm⟩ : ∃ m, m = 2 ^ k := ⟨_, rfl⟩
   obtain ⟨a, ha⟩ : ∃ a, a = i * 2 ^ k := ⟨_, rfl⟩
   obtain ⟨x, hx⟩ : ∃ x, x = a * G := ⟨_, rfl⟩
   have ham : a + m ≤ n := by rw [ha, hm]; exact hle
   have hm1 : 1 ≤ m := by rw [hm]; exact hp
   have hax : a ≤ n := Nat.le_trans (Nat.le_add_right a m) ham
   have hmx : m ≤ n := Nat.le_trans (Nat.le_add_left m a) ham
   have hn6 : n ≤ 65536 := Nat.le_trans hn (by decide)
   have hx1 : x ≤ 65536 := hx ▸ Nat.le_trans (Nat.mul_le_mul_right _ hax) HG.out
   have e1 := shl_i i k a ha
   have e2 := pow_i k m hm
   have e3 := mul_i a G x hx
   have e4 := w64n a (Nat.le_trans hax hn6)
   have e5 := w64n m (Nat.le_trans hmx hn6)
   have e6 := w64n x hx1
   have e7 : (i : Int) * (m : Int) = (a : Int) := e2 ▸ e1
   have hfr := HFR.out i hi1 hi2
   rw [← ha, ← hx] at hfr
   have E := As.mk (And.intro hm (And.intro ha (And.intro hx (And.intro hi1 (And.intro hi2 hi3)))))
   clear hm ha hx hle hp hi1 hi2 hi3
   have HUS1 := As.mk (HUS.out w1 a m ham hm1 (H.out.below HO1.out.toBelow))
   have FR := As.mk hfr
   have EE := As.mk (And.intro e1 (And.intro e2 (And.intro e3 (And.intro e4 (And.intro e5 (And.intro e6 e7))))))
   clear hfr HUS HTW e1 e2 e3 e4 e5 e6 e7 hax hmx hn6 hx1 ham hm1 hnk hn1
   go_wp2_with fail
   obtain ⟨e1, e2, e3, e4, e5, e6, e7⟩ := EE.out
   simp only [e1, e7, e4, e3, e6, e2, e5]
   clear e1 e2 e3 e4 e5 e6 e7
   refine HUS1.out.mono ?_
   rintro e w2 ⟨t1, rfl, ht, hb⟩
   obtain ⟨g1, c1, rfl⟩ := (ht w2 fun _ _ _ => rfl).ge
   have HO2 := As.mk (HO1.out.result (R' := fun W => TrR W (.slice (some ⟨g1, 0, none⟩) L c1) L (fun k => n / 2 ^ k) (fun k' => lvs (n / 2 ^ k') (bk (setB b a m true) k'))) hb (fun W hW => ht W hW))
   clear ht hb y0 y1 y2 HUS1
   have z1 := HO2.out.get (g := w.heap.size) (e := 83) (cs := [.int .i64 G, .slice (some ⟨g, 0, none⟩) L c, .slice A l.length d]) (by simp) 1 (by simp)
   have z2 := HO2.out.get (g := w.heap.size) (e := 83) (cs := [.int .i64 G, .slice (some ⟨g, 0, none⟩) L c, .slice A l.length d]) (by simp) 2 (by simp)
   have f1 := HO2.out.frozen (g := w.heap.size) (e := 83) (cs := [.int .i64 G, .slice (some ⟨g, 0, none⟩) L c, .slice A l.length d]) (by simp) 1
   have HO3 := As.mk (HO2.out.set 1 (g := w.heap.size) (e := 83) (cs := [.int .i64 G, .slice (some ⟨g, 0, none⟩) L c, .slice A l.length d]) rfl 1 (.slice (some ⟨g1, 0, none⟩) L c1) (by simp))
   go_wp2_with fail
   refine (HPU.out _ (x, k) FR.out (H.out.below HO3.out.toBelow)).mono ?_
   rintro e w3 ⟨v3, rfl, hfr, hb3⟩
   obtain ⟨A3, d3, rfl⟩ := hfr.slice
   have HO4 := As.mk (HO3.out.result (R' := fun W => Row W (.slice A3 (l.length + 1) d3) (l.length + 1) (marksV (putM l (x, k)))) hb3 (fun W hW => hfr.row hW))
   clear hfr hb3 z1 z2 f1 HO2 HO3 HPU
   have z0 := HO4.out.get (g := w.heap.size) (e := 83) (cs := [.int .i64 G, .slice (some ⟨g1, 0, none⟩) L c1, .slice A l.length d]) (by simp) 0 (by simp)
   have z1 := HO4.out.get (g := w.heap.size) (e := 83) (cs := [.int .i64 G, .slice (some ⟨g1, 0, none⟩) L c1, .slice A l.length d]) (by simp) 1 (by simp)
   have z2 := HO4.out.get (g := w.heap.size) (e := 83) (cs := [.int .i64 G, .slice (some ⟨g1, 0, none⟩) L c1, .slice A l.length d]) (by simp) 2 (by simp)
   have f2 := HO4.out.frozen (g := w.heap.size) (e := 83) (cs := [.int .i64 G, .slice (some ⟨g1, 0, none⟩) L c1, .slice A l.length d]) (by simp) 2
   have x0 := HO4.out.get (g := w.heap.size + 1) (e := 83) (cs := [.int .i64 0, .slice none 0 0, .slice none 0 0]) (by simp) 0 (by simp)
   have x1 := HO4.out.get (g := w.heap.size + 1) (e := 83) (cs := [.int .i64 0, .slice none 0 0, .slice none 0 0]) (by simp) 1 (by simp)
   have x2 := HO4.out.get (g := w.heap.size + 1) (e := 83) (cs := [.int .i64 0, .slice none 0 0, .slice none 0 0]) (by simp) 2 (by simp)
   have f3 := HO4.out.frozen (g := w.heap.size + 1) (e := 83) (cs := [.int .i64 0, .slice none 0 0, .slice none 0 0]) (by simp) 0
   have f4 := HO4.out.frozen (g := w.heap.size + 1) (e := 83) (cs := [.int .i64 0, .slice none 0 0, .slice none 0 0]) (by simp) 1
   have f5 := HO4.out.frozen (g := w.heap.size + 1) (e := 83) (cs := [.int .i64 0, .slice none 0 0, .slice none 0 0]) (by simp) 2
   have HO5 := HO4.out.set 1 (g := w.heap.size) (e := 83) (cs := [.int .i64 G, .slice (some ⟨g1, 0, none⟩) L c1, .slice A l.length d]) rfl 2 (.slice A3 (l.length + 1) d3) (by simp)
   have HF := As.mk (((HO5.set 0 (g := w.heap.size + 1) (e := 83) (cs := [.int .i64 0, .slice none 0 0, .slice none 0 0]) rfl 0 (.int .i64 G) (by simp)).set 0 (g := w.heap.size + 1) (e := 83) (cs := [.int .i64 G, .slice none 0 0, .slice none 0 0]) rfl 1 (.slice (some ⟨g1, 0, none⟩) L c1) (by simp)).set 0 (g := w.heap.size + 1) (e := 83) (cs := [.int .i64 G, .slice (some ⟨g1, 0, none⟩) L c1, .slice none 0 0]) rfl 2 (.slice A3 (l.length + 1) d3) (by simp))
   clear HO5
   go_wp2
   refine bodyPost_ret (v := .tuple #[.agg #[.int .i64 G, .slice (some ⟨g1, 0, none⟩) L c1, .slice A3 (l.length + 1) d3], .int .i64 x, .bool true]) (by simp [results, Tryz.f103, go_sem, *]) rfl ?_
   obtain ⟨hm, ha, hx, hi1, hi2, hi3⟩ := E.out
   have hlen : (putM l (x, k)).length = l.length + 1 := by
    have := posM_le l x
    simp [putM]
    omega
   refine ⟨Or.inr ⟨i, _, _, by rw [← ha, ← hx], hi1, hi2, hi3, fun W hW => ?_⟩, HF.out.toBelow⟩
   rw [← ha, ← hx, ← hm]
   have h9 := HF.out.ro W fun k hk h0 _ => hW k h0 hk
   refine ⟨h9.1.2, ?_⟩
   rw [hlen]
   exact h9.2
 · have HALL := As.mk hall
   clear hall
   go_wp2_with fail
   refine (HTW.out _ (H.out.below HO1.out.toBelow)).mono ?_
   rintro e w2 ⟨t', s', rfl, hef, hb2⟩
   obtain ⟨g1, c1, rfl⟩ := hef.now.1.ge
   obtain ⟨A1, d1, rfl⟩ := hef.now.2.slice_
   have HO2 := As.mk (HO1.out.result (R' := fun W => EngR W (.slice (some ⟨g1, 0, none⟩) L c1) (.slice A1 l.length d1) L n b l) hb2 (fun W hW => hef W hW))
   clear hef hb2 y0 y1 y2
   have f0 := HO2.out.frozen (g := w.heap.size + 1) (e := 83) (cs := [.int .i64 0, .slice none 0 0, .slice none 0 0]) (by simp) 0
   have f1 := HO2.out.frozen (g := w.heap.size + 1) (e := 83) (cs := [.int .i64 0, .slice none 0 0, .slice none 0 0]) (by simp) 1
   have f2 := HO2.out.frozen (g := w.heap.size + 1) (e := 83) (cs := [.int .i64 0, .slice none 0 0, .slice none 0 0]) (by simp) 2
   have x0 := HO2.out.get (g := w.heap.size + 1) (e := 83) (cs := [.int .i64 0, .slice none 0 0, .slice none 0 0]) (by simp) 0 (by simp)
   have x1 := HO2.out.get (g := w.heap.size + 1) (e := 83) (cs := [.int .i64 0, .slice none 0 0, .slice none 0 0]) (by simp) 1 (by simp)
   have x2 := HO2.out.get (g := w.heap.size + 1) (e := 83) (cs := [.int .i64 0, .slice none 0 0, .slice none 0 0]) (by simp) 2 (by simp)
   have HF := As.mk (((HO2.out.set 0 (g := w.heap.size + 1) (e := 83) (cs := [.int .i64 0, .slice none 0 0, .slice none 0 0]) rfl 0 (.int .i64 G) (by simp)).set 0 (g := w.heap.size + 1) (e := 83) (cs := [.int .i64 G, .slice none 0 0, .slice none 0 0]) rfl 1 (.slice (some ⟨g1, 0, none⟩) L c1) (by simp)).set 0 (g := w.heap.size + 1) (e := 83) (cs := [.int .i64 G, .slice (some ⟨g1, 0, none⟩) L c1, .slice none 0 0]) rfl 2 (.slice A1 l.length d1) (by simp))
   go_wp2
   refine bodyPost_ret (v := .tuple #[.agg #[.int .i64 G, .slice (some ⟨g1, 0, none⟩) L c1, .slice A1 l.length d1], .int .i64 0, .bool false]) (by simp [results, Tryz.f103, go_sem, *]) rfl ?_
   exact ⟨Or.inl ⟨_, _, rfl, fun W hW => (HF.out.ro W fun k hk h0 _ => hW k h0 hk).2, HALL.out⟩, HF.out.toBelow⟩
end Go.Proofs.YtmookafmdonopaaGreat.Top
/- place.Release walked. -/
namespace Go.Proofs.YtmookafmdonopaaGreat.Top
open Go Go.RowKit
set_option linter.unusedVariables false
set_option linter.unusedSimpArgs false
attribute [local go_sem] max2_int min2_int max_two min_two max_three

theorem slots_Use_i (v : Value) (L n a m : Nat) (Ai Mi : Int) (b : Nat → Bool) (on : Bool) (w : World) (h : TrR w v L (fun k => n / 2 ^ k) (fun k => lvs (n / 2 ^ k) (bk b k))) (hL : 1 ≤ L) (hL2 : L ≤ 17) (hn : n ≤ 4096) (hd : 2 ^ (L - 1) ∣ n) (hm : 1 ≤ m) (ham : a + m ≤ n) (hA : Ai = (a : Int)) (hM : Mi = (m : Int)) :
 Calls Tryz.prog 107 #[.agg #[v], .int .i64 Ai, .int .i64 Mi, .bool on] w fun e w' => ∃ v', e = .returned (.agg #[v']) ∧ TrF w.heap.size w' v' L (fun k => n / 2 ^ k) (fun k => lvs (n / 2 ^ k) (bk (setB b a m on) k)) ∧ Below w.heap.size w w' := by
 subst hA; subst hM
 exact slots_Use v L n a m b on w h hL hL2 hn hd hm ham
theorem quo_back (a G x : Nat) (h : x = a * G) (hG : 1 ≤ G) (ha : a ≤ 65536) : wrap64 ((x : Int) / (G : Int)) = (a : Int) := by
 have e : (x : Int) / (G : Int) = (a : Int) := by
  rw [h, Int.natCast_mul]
  exact Int.mul_ediv_cancel _ (Int.ofNat_ne_zero.2 (Nat.ne_of_gt hG))
 rw [e]
 exact w64n a ha
theorem pow_back (k : Nat) (h : 2 ^ k ≤ 65536) (hk : k ≤ 64) : wrap64 ((2 : Int) ^ min k 64) = ((2 ^ k : Nat) : Int) := by
 rw [Nat.min_eq_left hk, pow_i k (2 ^ k) rfl]
 exact w64n _ h
set_option maxHeartbeats 1000000 in
theorem place_Release (G L n k a x : Nat) (t s : Value) (b : Nat → Bool) (l : List Mk) (w : World) (h : EngR w t s L n b l) (hL : 1 ≤ L) (hL2 : L ≤ 17) (hn : n ≤ 4096) (hd : 2 ^ (L - 1) ∣ n) (hG : 1 ≤ G) (hG2 : G ≤ 65536) (hl : l.length ≤ 100000) (hs : Sorted l) (hk : k < L)
 (hx : x = a * G) (ham : a + 2 ^ k ≤ n) (hm : (x, k) ∈ l) (hx2 : x ≤ 65536) :
 Calls Tryz.prog 89 #[.agg #[.int .i64 G, t, s], .int .i64 x] w fun e w' => (∃ t' s', e = .returned (.tuple #[.agg #[.int .i64 G, t', s'], .int .i64 k, .bool true]) ∧ EngF w.heap.size w' t' s' L n (setB b a (2 ^ k) false) (delM l x)) ∧ Below w.heap.size w w' := by
 obtain ⟨g, c, rfl⟩ := h.1.ge
 obtain ⟨A, d, rfl⟩ := h.2.slice_
 have H := As.mk h
 have HTA := As.mk (fun W (hr : EngR W (.slice (some ⟨g, 0, none⟩) L c) (.slice A l.length d) L n b l) => side_Take A d l x k W hr.2 hs hl hm)
 have HUS := As.mk (fun W Ai Mi (hA : Ai = (a : Int)) (hM : Mi = ((2 ^ k : Nat) : Int)) (hr : EngR W (.slice (some ⟨g, 0, none⟩) L c) (.slice A l.length d) L n b l) => slots_Use_i _ L n a (2 ^ k) Ai Mi b false W hr.1 hL hL2 hn hd (Nat.two_pow_pos k) ham hA hM)
 have ho := ((Own.start (X := []) w).box #[.int .i64 G, .slice (some ⟨g, 0, none⟩) L c, .slice A l.length d] 83).box #[.int .i64 0, .slice none 0 0, .slice none 0 0] 83
 rw [World.size_alloc] at ho
 have HO := As.mk ho
 have HX := As.mk (And.intro hx (And.intro ham hx2))
 have c1 : ((G : Int) < 1) = False := eq_false (by clear hx ham; omega)
 have c2 : ((k : Int) < 0) = False := eq_false (by clear hx ham; omega)
 have c3 : ((L : Int) ≤ (k : Int)) = False := eq_false (by clear hx ham; omega)
 have c4 : (L ≤ k) = False := eq_false (by clear hx ham; omega)
 have c5 : (G = 0) = False := eq_false (by clear hx ham; omega)
 have c6 : ((G : Int) = 0) = False := eq_false (by clear hx ham; omega)
 have c7 : ((G : Int) == 0) = false := beqF (by clear hx ham; omega)
 have HLEN : As ((delM l x).length = l.length - 1) := by
  have h1 := posM_le l x
  have h2 : posM l x < l.length := by
   obtain ⟨q, hq, _⟩ := (hasM_at l x hs).1 (List.any_eq_true.2 ⟨_, hm, by simp⟩)
   exact (List.getElem?_eq_some_iff.1 hq).1
  refine As.mk ?_
  clear hx ham
  simp [delM]
  omega
 clear h hd hs hm ho hx ham hx2
 go_enter Tryz.func89, Tryz.ntmps89
 go_wp2_with fail
 refine (HTA.out _ (H.out.below HO.out.toBelow)).mono ?_
 rintro e w1 ⟨v1, rfl, hfr, hb⟩
 obtain ⟨A1, d1, rfl⟩ := hfr.slice
 have HO1 := As.mk (HO.out.result (R' := fun W => Row W (.slice A1 (l.length - 1) d1) (l.length - 1) (marksV (delM l x))) hb (fun W hW => hfr.row hW))
 have y0 := HO1.out.get (g := w.heap.size) (e := 83) (cs := [.int .i64 G, .slice (some ⟨g, 0, none⟩) L c, .slice A l.length d]) (by simp) 0 (by simp)
 have y1 := HO1.out.get (g := w.heap.size) (e := 83) (cs := [.int .i64 G, .slice (some ⟨g, 0, none⟩) L c, .slice A l.length d]) (by simp) 1 (by simp)
 clear hb HO HTA hfr
 go_wp2_with fail
 refine rgn [(0, 1), (1, 0), (2, 1), (3, 1), (4, 0), (5, 1), (6, 1), (7, 1), (8, 1), (10, 1), (9, 2), (11, 1), (12, 3), (13, 1), (14, 3)] [12, 14] (fun W => W.cell? ⟨w.heap.size, 0, none⟩ = some (.int .i64 G) ∧ W.cell? ⟨w.heap.size, 1, none⟩ = some (.slice (some ⟨g, 0, none⟩) L c)) (by kernel_rfl) (by kernel_rfl) (fun _ _ _ d _ h => by cases d <;> exact h) ⟨y0, y1⟩ ?_
 refine Run.pu (v := ?_) (a' := ?_) rfl rfl (Or.inl ⟨by rfl, ?_⟩) ?_ ?_; rotate_left 2; (focus (intro W; go_simp; with_reducible rfl)); (focus (simp only [Act.put, zq4, zq5, zq6]; rfl))
 refine Run.rd (v := ?_) (a' := ?_) rfl rfl (Or.inl ⟨by rfl, ?_⟩) ?_ ?_; rotate_left 2; (focus (rintro W ⟨hW1, hW2⟩; go_simp; with_reducible rfl)); (focus (simp only [Act.put, zq4, zq5, zq6]; rfl))
 iterate 2 (refine Run.pu (v := ?_) (a' := ?_) rfl rfl (Or.inl ⟨by rfl, ?_⟩) ?_ ?_; rotate_left 2; (focus (intro W; go_simp; with_reducible rfl)); (focus (simp only [Act.put, zq4, zq5, zq6]; rfl)))
 refine Run.rd (v := ?_) (a' := ?_) rfl rfl (Or.inl ⟨by rfl, ?_⟩) ?_ ?_; rotate_left 2; (focus (rintro W ⟨hW1, hW2⟩; go_simp; with_reducible rfl)); (focus (simp only [Act.put, zq4, zq5, zq6]; rfl))
 iterate 5 (refine Run.pu (v := ?_) (a' := ?_) rfl rfl (Or.inl ⟨by rfl, ?_⟩) ?_ ?_; rotate_left 2; (focus (intro W; go_simp; with_reducible rfl)); (focus (simp only [Act.put, zq4, zq5, zq6]; rfl)))
 refine Run.ef rfl (fun K hK => ?_)
 simp only [zq1, zq2, zq3]
 go_wp2_with fail
 refine (HUS.out _ _ _ (quo_back a G x HX.out.1 hG (Nat.le_trans (Nat.le_trans (Nat.le_add_right _ _) HX.out.2.1) (Nat.le_trans hn (by decide)))) (pow_back k (Nat.le_trans (Nat.le_trans (Nat.le_add_left _ _) HX.out.2.1) (Nat.le_trans hn (by decide))) (by omega)) (H.out.below HO1.out.drew.toBelow)).mono ?_
 rintro e w2 ⟨t1, rfl, ht, hb⟩
 obtain ⟨g1, c1', rfl⟩ := (ht w2 fun _ _ _ => rfl).ge
 have HO2 := As.mk (HO1.out.drew.result (R' := fun W => TrR W (.slice (some ⟨g1, 0, none⟩) L c1') L (fun k => n / 2 ^ k) (fun k' => lvs (n / 2 ^ k') (bk (setB b a (2 ^ k) false) k'))) hb (fun W hW => ht W hW))
 clear ht hb y0 y1 HUS HO1
 have z0 := HO2.out.get (g := w.heap.size) (e := 83) (cs := [.int .i64 G, .slice (some ⟨g, 0, none⟩) L c, .slice A l.length d]) (by simp) 0 (by simp)
 have z1 := HO2.out.get (g := w.heap.size) (e := 83) (cs := [.int .i64 G, .slice (some ⟨g, 0, none⟩) L c, .slice A l.length d]) (by simp) 1 (by simp)
 have z2 := HO2.out.get (g := w.heap.size) (e := 83) (cs := [.int .i64 G, .slice (some ⟨g, 0, none⟩) L c, .slice A l.length d]) (by simp) 2 (by simp)
 have f1 := HO2.out.frozen (g := w.heap.size) (e := 83) (cs := [.int .i64 G, .slice (some ⟨g, 0, none⟩) L c, .slice A l.length d]) (by simp) 1
 have f2 := HO2.out.frozen (g := w.heap.size) (e := 83) (cs := [.int .i64 G, .slice (some ⟨g, 0, none⟩) L c, .slice A l.length d]) (by simp) 2
 go_wp2
 refine hK.out _ _ ⟨z0, z1⟩ ?_
 clear hK K
 refine Run.pu (v := ?_) (a' := ?_) rfl rfl (Or.inl ⟨by rfl, ?_⟩) ?_ ?_; rotate_left 2; (focus (intro W; go_simp; with_reducible rfl)); (focus (simp only [Act.put, zq4, zq5, zq6]; rfl))
 refine Run.la rfl (fun K hK => ?_)
 simp only [zq1, zq2, zq3]
 have HO3 := As.mk ((HO2.out.set 1 (g := w.heap.size) (e := 83) (cs := [.int .i64 G, .slice (some ⟨g, 0, none⟩) L c, .slice A l.length d]) rfl 1 (.slice (some ⟨g1, 0, none⟩) L c1') (by simp)).set 1 (g := w.heap.size) (e := 83) (cs := [.int .i64 G, .slice (some ⟨g1, 0, none⟩) L c1', .slice A l.length d]) rfl 2 (.slice A1 (l.length - 1) d1) (by simp))
 go_wp2
 refine hK.out _ _ ?_
 clear hK K
 refine Run.pu (v := ?_) (a' := ?_) rfl rfl (Or.inl ⟨by rfl, ?_⟩) ?_ ?_; rotate_left 2; (focus (intro W; go_simp; with_reducible rfl)); (focus (simp only [Act.put, zq4, zq5, zq6]; rfl))
 refine Run.la rfl (fun K hK => ?_)
 simp only [zq1, zq2, zq3]
 go_wp2
 refine hK.out _ _ ?_
 clear hK K
 refine Run.nil ?_
 clear z0 z1 z2 f1 f2 HO2
 obtain ⟨w3, hw3⟩ : ∃ w3, w3 = (w2.setCell ⟨w.heap.size, 1, none⟩ (.slice (some ⟨g1, 0, none⟩) L c1')).setCell ⟨w.heap.size, 2, none⟩ (.slice A1 (l.length - 1) d1) := ⟨_, rfl⟩
 simp only [zq6, zq5] at HO3
 rw [← hw3] at HO3 ⊢
 clear hw3
 have y0 := HO3.out.get (g := w.heap.size) (e := 83) (cs := [.int .i64 G, .slice (some ⟨g1, 0, none⟩) L c1', .slice A1 (l.length - 1) d1]) (by simp) 0 (by simp)
 have y1 := HO3.out.get (g := w.heap.size) (e := 83) (cs := [.int .i64 G, .slice (some ⟨g1, 0, none⟩) L c1', .slice A1 (l.length - 1) d1]) (by simp) 1 (by simp)
 have y2 := HO3.out.get (g := w.heap.size) (e := 83) (cs := [.int .i64 G, .slice (some ⟨g1, 0, none⟩) L c1', .slice A1 (l.length - 1) d1]) (by simp) 2 (by simp)
 have x0 := HO3.out.get (g := w.heap.size + 1) (e := 83) (cs := [.int .i64 0, .slice none 0 0, .slice none 0 0]) (by simp) 0 (by simp)
 have x1 := HO3.out.get (g := w.heap.size + 1) (e := 83) (cs := [.int .i64 0, .slice none 0 0, .slice none 0 0]) (by simp) 1 (by simp)
 have x2 := HO3.out.get (g := w.heap.size + 1) (e := 83) (cs := [.int .i64 0, .slice none 0 0, .slice none 0 0]) (by simp) 2 (by simp)
 have f0 := HO3.out.frozen (g := w.heap.size + 1) (e := 83) (cs := [.int .i64 0, .slice none 0 0, .slice none 0 0]) (by simp) 0
 have f1 := HO3.out.frozen (g := w.heap.size + 1) (e := 83) (cs := [.int .i64 0, .slice none 0 0, .slice none 0 0]) (by simp) 1
 have f2 := HO3.out.frozen (g := w.heap.size + 1) (e := 83) (cs := [.int .i64 0, .slice none 0 0, .slice none 0 0]) (by simp) 2
 have HF := As.mk (((HO3.out.set 0 (g := w.heap.size + 1) (e := 83) (cs := [.int .i64 0, .slice none 0 0, .slice none 0 0]) rfl 0 (.int .i64 G) (by simp)).set 0 (g := w.heap.size + 1) (e := 83) (cs := [.int .i64 G, .slice none 0 0, .slice none 0 0]) rfl 1 (.slice (some ⟨g1, 0, none⟩) L c1') (by simp)).set 0 (g := w.heap.size + 1) (e := 83) (cs := [.int .i64 G, .slice (some ⟨g1, 0, none⟩) L c1', .slice none 0 0]) rfl 2 (.slice A1 (l.length - 1) d1) (by simp))
 go_wp2
 refine bodyPost_ret (v := .tuple #[.agg #[.int .i64 G, .slice (some ⟨g1, 0, none⟩) L c1', .slice A1 (l.length - 1) d1], .int .i64 k, .bool true]) (by simp [results, Tryz.f89, go_sem, *]) rfl ?_
 refine ⟨⟨_, _, rfl, fun W hW => ?_⟩, HF.out.toBelow⟩
 have h9 := HF.out.ro W fun k hk h0 _ => hW k h0 hk
 refine ⟨h9.2, ?_⟩
 rw [HLEN.out]
 exact h9.1.2
end Go.Proofs.YtmookafmdonopaaGreat.Top
/- (*heap.Heap).pages walked. -/
namespace Go.Proofs.YtmookafmdonopaaGreat.Top
open Go Go.RowKit
set_option linter.unusedVariables false
set_option linter.unusedSimpArgs false
attribute [local go_sem] max2_int min2_int max_two min_two max_three

/-- which pages are met -/
def metB (met : List Nat) : List Bool := met.map fun m => decide (0 < m)
/-- the first k of them told, the others no -/
def metTo (met : List Nat) (k : Nat) : List Value := ((metB met).map Value.bool).take k ++ List.replicate (met.length - k) (.bool false)
theorem metTo_0 (met : List Nat) : metTo met 0 = List.replicate met.length (.bool false) := by simp [metTo]
theorem metTo_len (met : List Nat) (k : Nat) (h : k ≤ met.length) : (metTo met k).length = met.length := by simp [metTo, metB]; omega
theorem metTo_all (met : List Nat) : metTo met met.length = (metB met).map Value.bool := by
 unfold metTo
 rw [Nat.sub_self, List.take_of_length_le (by simp [metB])]
 simp
theorem metTo_succ (met : List Nat) (k m : Nat) (h : met[k]? = some m) : (metTo met k).set k (.bool (decide (0 < m))) = metTo met (k + 1) := by
 have hk := (List.getElem?_eq_some_iff.1 h).1
 apply List.ext_getElem?
 intro j
 by_cases e : k = j
 · subst e
   rw [List.getElem?_set_self (by rw [metTo_len met k (by omega)]; exact hk)]
   unfold metTo
   rw [List.getElem?_append_left (by simp [metB]; omega), List.getElem?_take, if_pos (by omega)]
   simp [metB, h]
 · rw [List.getElem?_set_ne e]
   unfold metTo
   rcases Nat.lt_or_ge j k with h1 | h1
   · rw [List.getElem?_append_left (by simp [metB]; omega), List.getElem?_append_left (by simp [metB]; omega), List.getElem?_take, List.getElem?_take, if_pos h1, if_pos (by omega)]
   · rw [List.getElem?_append_right (by simp [metB]; omega), List.getElem?_append_right (by simp [metB]; omega)]
     have e1 : (List.take k ((metB met).map Value.bool)).length = k := by simp [metB]; omega
     have e2 : (List.take (k + 1) ((metB met).map Value.bool)).length = k + 1 := by simp [metB]; omega
     rw [e1, e2, List.getElem?_replicate, List.getElem?_replicate]
     by_cases h2 : j < met.length
     · rw [if_pos (by omega), if_pos (by omega)]
     · rw [if_neg (by omega), if_neg (by omega)]
theorem natsV_at (l : List Nat) (k m : Nat) (h : l[k]? = some m) : (natsV l)[k]? = some (.int .i64 (m : Int)) := by simp [natsV, h]
set_option maxHeartbeats 1000000 in
theorem heap_pages (h : Nat) (A : Option Addr) (c : Nat) (met : List Nat) (w : World) (hc : w.cell? ⟨h, 15, none⟩ = some (.slice A met.length c)) (hr : Row w (.slice A met.length c) met.length (natsV met)) (hl : met.length ≤ 100000) :
 Calls Tryz.prog 43 #[.pointer (some ⟨h, 0, none⟩)] w fun e w' => ∃ v, e = .returned v ∧ Fr w.heap.size w' 4 v met.length ((metB met).map Value.bool) ∧ Below w.heap.size w w' := by
 have HR := As.mk hr
 have HC := As.mk hc
 have HS := As.mk (Own.start (X := []) w)
 obtain ⟨n, hn⟩ : ∃ n, n = met.length := ⟨_, rfl⟩
 have HN := As.mk hn
 rw [← hn] at HR HC hl hc ⊢
 have M0 := As.mk (metTo_0 met)
 rw [← hn] at M0
 clear hr hn
 go_enter Tryz.func43, Tryz.ntmps43
 go_wp2_with (first | (at_make; refine go_make rfl _ _ 56 4 (.bool false) 1 rfl Tryz.underlying56 info4 rfl _ _ _ _ n rfl rfl (by first | rfl | omega) (by first | rfl | omega) (by omega) (by simp only [maxLen]; omega) HS.out ?_; intro w1 ho hb; have z0 := cell_below hb HC.out; have HO := As.mk ho; clear ho hb))
 go_loopw [17] (fun i wr => ∃ k : Nat, k ≤ n ∧ i = .int .i64 (k : Int) ∧ Own [] [(w.heap.size, EC 4 (metTo met k))] (fun _ => True) w wr) (fun i _ => n - (intOf i).toNat)
 case atStart => exact ⟨0, Nat.zero_le _, rfl, by rw [M0.out]; exact HO.out⟩
 case round =>
  clear HO z0 hc
  obtain ⟨k, hk, rfl, ho⟩ := hrel
  have HO := As.mk ho
  have hln := metTo_len met k (by have := HN.out; omega)
  by_cases hkn : k < n
  · obtain ⟨m, hm⟩ : ∃ m, met[k]? = some m := ⟨met[k]'(by have := HN.out; omega), List.getElem?_eq_getElem _⟩
    obtain ⟨b, o, rfl, hnc, hcell⟩ := HR.out.cell (by have := HN.out; simp [natsV]; omega)
    have z1 := cell_below ho.toBelow (hcell k _ (natsV_at met k m hm))
    have hx : ∃ y, wr.cell? ⟨w.heap.size, k, none⟩ = some y := by
     have y := ho.get List.mem_cons_self k (by rw [hln]; have := HN.out; omega)
     rw [List.getElem?_eq_getElem (by rw [hln]; have := HN.out; omega)] at y
     exact ⟨_, y⟩
    obtain ⟨y, z2⟩ := hx
    have z3 := ho.frozen (g := w.heap.size) (e := 4) (cs := metTo met k) List.mem_cons_self k
    have hset := ho.set 0 (g := w.heap.size) (e := 4) (cs := metTo met k) rfl k (.bool (decide (0 < m))) (by rw [hln]; have := HN.out; omega)
    rw [metTo_succ met k m hm] at hset
    have HSET := As.mk hset
    have e0 : decide ((0 : Int) < (m : Int)) = decide (0 < m) := by simp
    clear hcell hm hset ho HO hln
    go_wp2_with fail
    go_roundw
    case rel => exact ⟨k + 1, by omega, by go_num, HSET.out⟩
    case measure => simp [intOf]; omega
  · have e : k = n := by omega
    subst e
    have HF : As (Own [] [(w.heap.size, EC 4 ((metB met).map Value.bool))] (fun _ => True) w wr) := by
     have h9 := HO.out
     rw [HN.out, metTo_all] at h9
     exact As.mk h9
    clear HO hln ho
    go_wp2
    go_ret
    exact ⟨_, rfl, HF.out.fr List.mem_cons_self (Nat.le_refl _), HF.out.toBelow⟩
end Go.Proofs.YtmookafmdonopaaGreat.Top
/- (*heap.Heap).Conf walked. -/
namespace Go.Proofs.YtmookafmdonopaaGreat.Top
open Go Go.RowKit
set_option linter.unusedVariables false
set_option linter.unusedSimpArgs false
attribute [local go_sem] max2_int min2_int max_two min_two max_three

/-- a heap's eight cells of its configuration, read -/
structure ConfR (w : World) (h : Nat) (c : Cf) : Prop where
 c0 : w.cell? ⟨h, 0, none⟩ = some (.int .i64 c.G)
 c1 : w.cell? ⟨h, 1, none⟩ = some (.int .i64 c.N)
 c2 : w.cell? ⟨h, 2, none⟩ = some (.int .i64 c.M)
 c3 : w.cell? ⟨h, 3, none⟩ = some (.int .i64 c.L)
 c4 : w.cell? ⟨h, 4, none⟩ = some (.int .i64 c.Page)
 c5 : w.cell? ⟨h, 5, none⟩ = some (.int .i64 c.P)
 c6 : w.cell? ⟨h, 6, none⟩ = some (.int .i64 c.H)
 c7 : w.cell? ⟨h, 7, none⟩ = some (.int .i64 c.Seed)
theorem ConfR.below {w w1 : World} {h : Nat} {c : Cf} (k : ConfR w h c) (hb : Below w.heap.size w w1) : ConfR w1 h c :=
 ⟨cell_below hb k.c0, cell_below hb k.c1, cell_below hb k.c2, cell_below hb k.c3, cell_below hb k.c4, cell_below hb k.c5, cell_below hb k.c6, cell_below hb k.c7⟩
set_option maxHeartbeats 1000000 in
theorem heap_Conf (h : Nat) (c : Cf) (w : World) (k : ConfR w h c) :
 Calls Tryz.prog 14 #[.pointer (some ⟨h, 0, none⟩)] w fun e w' => e = .returned c.v ∧ Below w.heap.size w w' := by
 have HO := As.mk ((Own.start (X := []) w).box #[.int .i64 0, .int .i64 0, .int .i64 0, .int .i64 0, .int .i64 0, .int .i64 0, .int .i64 0, .int .i64 0] 34)
 obtain ⟨z0, z1, z2, z3, z4, z5, z6, z7⟩ := k.below HO.out.toBelow
 clear k
 have HB := As.mk HO.out.toBelow
 unfold Cf.v
 go_enter Tryz.func14, Tryz.ntmps14
 go_wp2
 refine bodyPost_ret (v := .agg #[.int .i64 c.G, .int .i64 c.N, .int .i64 c.M, .int .i64 c.L, .int .i64 c.Page, .int .i64 c.P, .int .i64 c.H, .int .i64 c.Seed]) (by simp [results, Tryz.f14, go_sem, *]) rfl ?_
 exact ⟨rfl, box_below _ _⟩
end Go.Proofs.YtmookafmdonopaaGreat.Top
/- The heap's map: its keys are a struct of one number. Its laws as equations. -/
namespace Go.Proofs.YtmookafmdonopaaGreat.Top
open Go Go.RowKit Go.Instr Go.ChangeMaps
set_option linter.unusedVariables false
set_option linter.unusedSimpArgs false

def keyV (a : Nat) : Value := .agg #[.int .i64 (a : Int)]
theorem stood101 : Tryz.prog.stoodInHeld 101 = false := by kernel_rfl
theorem equalIn3 (d : Nat) (a b : Int) (w : World) : (Op.equalIn (d + 1) 3 (.int .i64 a) (.int .i64 b)).run Tryz.prog w = .ok (a == b) w := by
 simp [Op.equalIn, run_underlying Tryz.underlying3]
theorem part3 (cs : Array Value) (u : Value) (h : cs[0]? = some u) (w : World) : (part 3 cs 0).run Tryz.prog w = .ok u w := by
 simp [part, run_underlying Tryz.underlying3, h]
theorem check3 (d : Nat) (e : Bool) (u : Int) (w : World) : (checkKey e (d + 1) 3 (.int .i64 u)).run Tryz.prog w = .ok () w := by
 simp [checkKey, run_underlying Tryz.underlying3]
theorem equalIn101 (d a b : Nat) (w : World) : (Op.equalIn (d + 1 + 1) 101 (keyV a) (keyV b)).run Tryz.prog w = .ok (decide (a = b)) w := by
 unfold keyV
 rw [Op.equalIn]
 simp [run_underlying Tryz.underlying101, stood101, equalIn3]
 rw [part3 _ (.int .i64 (a : Int)) rfl]
 simp only [Result.andThen_ok]
 rw [part3 _ (.int .i64 (b : Int)) rfl]
 simp only [Result.andThen_ok, equalIn3]
 by_cases h : a = b
 · subst h; simp
 · have h2 : ((a : Int) == (b : Int)) = false := by simp; omega
   rw [h2]
   simp [h]
theorem equal101 (a b : Nat) (w : World) : (Op.equal 101 (keyV a) (keyV b)).run Tryz.prog w = .ok (decide (a = b)) w := equalIn101 9998 a b w
theorem check101' (d : Nat) (e : Bool) (a : Nat) (w : World) : (checkKey e (d + 1 + 1) 101 (keyV a)).run Tryz.prog w = .ok () w := by
 unfold keyV
 rw [checkKey]
 simp [run_underlying Tryz.underlying101]
 rw [part3 _ (.int .i64 (a : Int)) rfl]
 simp only [Result.andThen_ok, check3]
theorem check101 (e : Bool) (a : Nat) (w : World) : (checkKey e 10000 101 (keyV a)).run Tryz.prog w = .ok () w := check101' 9998 e a w
/-- where a key lies, and what it leads to -/
def fm (a : Nat) : List (Nat × Value) → Nat → Option (Nat × Value)
 | [], _ => none
 | p :: r, i => if a = p.1 then some (i, p.2) else fm a r (i + 1)
def MEs (es : List MapEntry) (ms : List (Nat × Value)) : Prop := es.map (fun e => (e.key, e.val)) = ms.map fun p => (keyV p.1, p.2)
theorem find_run (a : Nat) (w : World) : ∀ (es : List MapEntry) (ms : List (Nat × Value)) (i : Nat), MEs es ms → (findAsking 101 (keyV a) es i).run Tryz.prog w = .ok (fm a ms i) w
 | [], ms, i, h => by
  cases ms with
  | nil => rfl
  | cons p r => simp [MEs] at h
 | e :: es, [], i, h => by simp [MEs] at h
 | e :: es, p :: r, i, h => by
  unfold MEs at h
  simp only [List.map_cons, List.cons.injEq, Prod.mk.injEq] at h
  obtain ⟨⟨h1, h2⟩, h3⟩ := h
  simp only [findAsking, Sem.run_bind, h1, equal101, Result.andThen_ok, fm]
  by_cases c : a = p.1
  · simp [c, h2]
  · simp only [c, decide_false, Bool.false_eq_true, if_false]
    exact find_run a w es r (i + 1) h3
theorem findKey_run (a : Nat) (w : World) (es : List MapEntry) (ms : List (Nat × Value)) (h : MEs es ms) : (findKey 101 (keyV a) es).run Tryz.prog w = .ok (fm a ms 0) w := by
 cases es with
 | nil =>
  cases ms with
  | nil => simp [findKey, run_underlying Tryz.underlying101, findNow, fm]
  | cons p r => simp [MEs] at h
 | cons e es =>
  simp [findKey, run_underlying Tryz.underlying101, findNow, sameNow]
  exact find_run a w (e :: es) ms 0 h
theorem fm_at (a : Nat) : ∀ (ms : List (Nat × Value)) (i : Nat), (∃ q v, fm a ms i = some (i + q, v) ∧ ms[q]? = some (a, v)) ∨ (fm a ms i = none ∧ ∀ v, (a, v) ∉ ms)
 | [], i => Or.inr ⟨rfl, by simp⟩
 | p :: r, i => by
  unfold fm
  by_cases c : a = p.1
  · refine Or.inl ⟨0, p.2, by simp [c], ?_⟩
    subst c
    rfl
  · rcases fm_at a r (i + 1) with ⟨q, v, h1, h2⟩ | ⟨h1, h2⟩
    · refine Or.inl ⟨q + 1, v, ?_, by simpa using h2⟩
      rw [if_neg c, h1]
      congr 2
      omega
    · refine Or.inr ⟨by rw [if_neg c, h1], fun v hm => ?_⟩
      rcases List.mem_cons.1 hm with e | hm
      · exact c (by rw [← e])
      · exact h2 v hm
/-- a map's block: what a key leads to -/
def MapP (f : Nat → Option Value) : Obj → Prop := fun o => ∃ es clock ms, o = .map es clock ∧ MEs es.toList ms ∧ (ms.map Prod.fst).Nodup ∧ ∀ a v, f a = some v ↔ (a, v) ∈ ms
theorem MapP.none_ : MapP (fun _ => none) (.map #[] 0) := ⟨#[], 0, [], rfl, rfl, by simp, by simp⟩
theorem lookup_run (t e : TypeId) (ht : Tryz.prog.underlying t = some (.map 101 e)) (z : Value) (w : World) (hz : (zeroValue e).run Tryz.prog w = .ok z w) (g a : Nat) (ok : Bool) (o : Obj) (ho : w.heap[g]? = some o) (f : Nat → Option Value) (hp : MapP f o) :
 (Instr.lookup t (.map (some g)) (keyV a) ok).run Tryz.prog w = .ok (if ok then .tuple #[(f a).getD z, .bool (f a).isSome] else (f a).getD z) w := by
 obtain ⟨es, clock, ms, rfl, hm, hn, hf⟩ := hp
 have hk := findKey_run a w es.toList ms hm
 rcases fm_at a ms 0 with ⟨q, v, h1, h2⟩ | ⟨h1, h2⟩
 · have e1 : f a = some v := (hf a v).2 (List.mem_of_getElem? h2)
   cases ok <;> simp [Instr.lookup, run_underlying ht, MapKept.run_getObj_map ho, check101, hk, h1, e1, Result.andThen]
 · have e1 : f a = none := by
    cases hh : f a with
    | none => rfl
    | some v => exact absurd ((hf a v).1 hh) (h2 v)
   cases ok <;> simp [Instr.lookup, run_underlying ht, MapKept.run_getObj_map ho, check101, hk, h1, e1, hz, Result.andThen]
theorem update_run (t e : TypeId) (ht : Tryz.prog.underlying t = some (.map 101 e)) (w : World) (g a : Nat) (v : Value) (o : Obj) (ho : w.heap[g]? = some o) (f : Nat → Option Value) (hp : MapP f o) (hno : f a = none) :
 ∃ o', (Instr.mapUpdate t (.map (some g)) (keyV a) v).run Tryz.prog w = .ok () (setBlock w g o') ∧ MapP (fun x => if x = a then some v else f x) o' := by
 obtain ⟨es, clock, ms, rfl, hm, hn, hf⟩ := hp
 have hk := findKey_run a w es.toList ms hm
 have hnm : ∀ u, (a, u) ∉ ms := fun u hu => by rw [(hf a u).2 hu] at hno; cases hno
 rcases fm_at a ms 0 with ⟨q, u, h1, h2⟩ | ⟨h1, h2⟩
 · exact absurd (List.mem_of_getElem? h2) (hnm u)
 · refine ⟨.map (es.push { key := keyV a, val := v, born := clock }) (clock + 1), ?_, _, _, ms ++ [(a, v)], rfl, ?_, ?_, ?_⟩
   · simp [Instr.mapUpdate, run_underlying ht, MapKept.run_getObj_map ho, check101, hk, h1, Result.andThen, MapKept.run_setObj_map _ ho, setBlock]
   · unfold MEs at hm ⊢
     simp [hm]
   · rw [List.map_append, List.nodup_append]
     refine ⟨hn, by simp, ?_⟩
     intro x hx y hy
     simp at hy
     subst hy
     intro e1
     subst e1
     obtain ⟨⟨b, u⟩, hb, rfl⟩ := List.mem_map.1 hx
     exact hnm u hb
   · intro x u
     by_cases hx : x = a
     · subst hx
       simp [hnm u]
       exact eq_comm
     · simp [hx, hf]
theorem delete_run (t ty e : TypeId) (ht : Tryz.prog.underlying t = some (.map 101 e)) (tk : TypeId) (w : World) (g a : Nat) (o : Obj) (ho : w.heap[g]? = some o) (f : Nat → Option Value) (hp : MapP f o) :
 ∃ o', (Builtin.delete_ #[t, tk] ty #[.map (some g), keyV a]).run Tryz.prog w = .ok (.tuple #[]) (setBlock w g o') ∧ MapP (fun x => if x = a then none else f x) o' := by
 obtain ⟨es, clock, ms, rfl, hm, hn, hf⟩ := hp
 have hk := findKey_run a w es.toList ms hm
 rcases fm_at a ms 0 with ⟨q, u, h1, h2⟩ | ⟨h1, h2⟩
 · have hq : q < ms.length := (List.getElem?_eq_some_iff.1 h2).1
   have hlen : es.size = ms.length := by
    have := congrArg List.length hm
    simpa using this
   refine ⟨.map (es.eraseIdxIfInBounds q) clock, ?_, _, _, ms.eraseIdx q, rfl, ?_, ?_, ?_⟩
   · simp [Builtin.delete_, run_underlying ht, MapKept.run_getObj_map ho, check101, hk, h1, Result.andThen, MapKept.run_setObj_map _ ho, setBlock]
   · have hq2 : q < es.size := by omega
     unfold MEs at hm ⊢
     rw [Array.eraseIdxIfInBounds, dif_pos hq2, Array.toList_eraseIdx, Go.ChangeMaps.map_eraseIdx, hm, ← Go.ChangeMaps.map_eraseIdx]
   · rw [Go.ChangeMaps.map_eraseIdx]
     exact hn.sublist (List.eraseIdx_sublist _ _)
   · intro x u'
     have hmem : (x, u') ∈ ms.eraseIdx q ↔ (x, u') ∈ ms ∧ x ≠ a := by
      rw [List.mem_eraseIdx_iff_getElem?]
      constructor
      · rintro ⟨i, hi, h3⟩
        refine ⟨List.mem_of_getElem? h3, ?_⟩
        rintro rfl
        have k1 : (ms.map Prod.fst)[i]? = some x := by rw [List.getElem?_map, h3]; rfl
        have k2 : (ms.map Prod.fst)[q]? = some x := by rw [List.getElem?_map, h2]; rfl
        exact hi ((List.getElem?_inj (by rw [List.length_map]; exact (List.getElem?_eq_some_iff.1 h3).1) hn).1 (k1.trans k2.symm))
      · rintro ⟨h3, h4⟩
        obtain ⟨i, hi⟩ := List.mem_iff_getElem?.1 h3
        refine ⟨i, ?_, hi⟩
        rintro rfl
        rw [h2] at hi
        injection hi with hi
        injection hi with hi _
        exact h4 hi.symm
     rw [hmem]
     by_cases hx : x = a
     · simp [hx]
     · simp [hx, hf]
 · refine ⟨.map es clock, ?_, _, _, ms, rfl, hm, hn, ?_⟩
   · simp [Builtin.delete_, run_underlying ht, MapKept.run_getObj_map ho, check101, hk, h1, Result.andThen, MapKept.run_setObj_map _ ho, setBlock]
   · intro x u
     by_cases hx : x = a
     · subst hx
       simp [h2 u]
     · simp [hx, hf]
/-- a map of the walk's own is turned -/
theorem Own.setMap {X : List Nat} {L : List (Nat × (Obj → Prop))} {R : World → Prop} {w0 w : World} {g : Nat} {p q : Obj → Prop} (h : Own X L R w0 w) (i : Nat) (hi : L[i]? = some (g, p)) (o' : Obj) (hq : q o') : Own X (L.set i (g, q)) R w0 (setBlock w g o') := by
 obtain ⟨o, ho, _⟩ := h.at_ g p (List.mem_of_getElem? hi)
 have hl := heap_lt ho
 refine h.put i hi rfl rfl rfl (by simp [setBlock]) (fun k _ hne => ?_) (x := o') ?_ hq
 · show (w.heap.setIfInBounds g o')[k]? = _
   rw [Array.getElem?_setIfInBounds_ne (fun e => hne e.symm)]
 · show (w.heap.setIfInBounds g o')[g]? = _
   rw [Array.getElem?_setIfInBounds_self_of_lt hl]
end Go.Proofs.YtmookafmdonopaaGreat.Top
