/- heap.New walked. -/
import Derived.Test.YtmookafmdonopaaGreatM20
/- heap.New walked. -/
namespace Go.Proofs.YtmookafmdonopaaGreat.Top
open Go Go.RowKit Go.Instr Go.ChangeMaps
set_option linter.unusedVariables false
set_option linter.unusedSimpArgs false
attribute [local go_sem] max2_int min2_int max_two min_two max_three

def Hs.new (c : Cf) : Hs := ⟨[], 0, 0, List.replicate (c.H / c.Page) false⟩
def CfS8 (q : Nat) (c : Cf) (W : World) : Prop :=
 W.cell? ⟨q, 0, none⟩ = some (.int .i64 c.G) ∧ W.cell? ⟨q, 1, none⟩ = some (.int .i64 c.N) ∧ W.cell? ⟨q, 2, none⟩ = some (.int .i64 c.M) ∧ W.cell? ⟨q, 3, none⟩ = some (.int .i64 c.L) ∧ W.cell? ⟨q, 4, none⟩ = some (.int .i64 c.Page) ∧ W.cell? ⟨q, 5, none⟩ = some (.int .i64 c.P) ∧ W.cell? ⟨q, 6, none⟩ = some (.int .i64 c.H) ∧ W.cell? ⟨q, 7, none⟩ = some (.int .i64 c.Seed)
/-- New's slots while its rows are made -/
def newA (r : Rw) (c : Cf) (q1 q2 np : Nat) (m x o y : Value) : Act :=
 ⟨#[.agg #[.int .i64 r.g, .int .i64 r.l, .int .i64 r.m, .int .i64 r.p, .int .i64 r.b, .int .i64 r.s], .pointer (some ⟨q1, 0, none⟩), .pointer none, .int .i64 0, .pointer (some ⟨q2, 0, none⟩), .int .i64 0, undef, .tuple #[.agg #[.int .i64 c.G, .int .i64 c.N, .int .i64 c.M, .int .i64 c.L, .int .i64 c.Page, .int .i64 c.P, .int .i64 c.H, .int .i64 c.Seed], .int .i64 0], .agg #[.int .i64 r.g, .int .i64 r.l, .int .i64 r.m, .int .i64 r.p, .int .i64 r.b, .int .i64 r.s], .tuple #[.agg #[.int .i64 c.G, .int .i64 c.N, .int .i64 c.M, .int .i64 c.L, .int .i64 c.Page, .int .i64 c.P, .int .i64 c.H, .int .i64 c.Seed], .int .i64 0], .agg #[.int .i64 c.G, .int .i64 c.N, .int .i64 c.M, .int .i64 c.L, .int .i64 c.Page, .int .i64 c.P, .int .i64 c.H, .int .i64 c.Seed], .int .i64 0, .int .i64 0, .bool false, undef, .agg #[.int .i64 c.G, .int .i64 c.N, .int .i64 c.M, .int .i64 c.L, .int .i64 c.Page, .int .i64 c.P, .int .i64 c.H, .int .i64 c.Seed], m,
  .pointer (some ⟨q2, 6, none⟩), .int .i64 c.H, .pointer (some ⟨q2, 4, none⟩), .int .i64 c.Page, .int .i64 np, x, .pointer (some ⟨q2, 6, none⟩), .int .i64 c.H, .pointer (some ⟨q2, 4, none⟩), .int .i64 c.Page, .int .i64 np, o, .pointer (some ⟨q2, 6, none⟩), .int .i64 c.H, y, undef, undef, undef, undef, undef, undef, undef, undef, undef, undef, undef, undef, undef, undef, undef, undef, undef, undef, undef, undef], []⟩
def vM (o : Option Nat) : Value := match o with | none => undef | some g => .map (some g)
def vS (n : Nat) (o : Option Nat) : Value := match o with | none => undef | some g => .slice (some ⟨g, 0, none⟩) n n
def gOf (om ox oo oy : Option Nat) : List Nat := (if om = none then [1] else []) ++ ((if ox = none then [7] else []) ++ ((if oo = none then [13] else []) ++ (if oy = none then [16] else [])))
def oL (o : Option Nat) (p : Obj → Prop) : List (Nat × (Obj → Prop)) := match o with | none => [] | some g => [(g, p)]
def nL (np H : Nat) (om ox oo oy : Option Nat) : List (Nat × (Obj → Prop)) := oL ox (EC 3 (List.replicate np (.int .i64 0))) ++ (oL om (MapP fun _ => none) ++ (oL oy (EC 5 (List.replicate H (.int .u8 0))) ++ oL oo (EC 4 (List.replicate np (.bool false)))))
theorem Own.permL {X : List Nat} {L L' : List (Nat × (Obj → Prop))} {R : World → Prop} {w0 w : World} (h : Own X L R w0 w) (hp : L'.Perm L) : Own X L' R w0 w :=
 h.sub ((hp.map Prod.fst).nodup_iff.2 h.nd) fun y hy => hp.mem_iff.1 hy
theorem Own.freeze {L : List (Nat × (Obj → Prop))} {R : World → Prop} {w0 w : World} {g e n cap : Nat} {cs : List Value} (H : Own [] ((g, EC e cs) :: L) R w0 w) (hc : n ≤ cap) : Own [] L (fun W => R W ∧ Row W (.slice (some ⟨g, 0, none⟩) n cap) n cs) w0 w := by
 have hlt := H.lt me0
 have hge : w0.heap.size ≤ g := by
  rcases H.ok _ _ me0 with h1 | h1
  · simp at h1
  · exact h1
 have hn := (List.nodup_cons.1 H.nd).1
 refine H.drop.reads fun W hW => ⟨_, _, rfl, hc, Or.inr ⟨g, 0, rfl, fun i u hu => ?_⟩⟩
 have hb := hW g hlt hge hn
 rw [World.cell?_of_block hb, Nat.zero_add, H.get me0 i (List.getElem?_eq_some_iff.1 hu).1]
 exact hu
theorem newGroup {P : Program} {ops : Array Oper} {Q : Exit → Act → World → Prop} {S : World → Prop} {K : Act → World → Prop} {A : Value → Value → Value → Value → Act} {B : List (Nat × (Obj → Prop))} {R : World → Prop} {w0 w : World} {np H : Nat}
 (hS : ∀ om ox oo oy W, Own [] (nL np H om ox oo oy ++ B) R w0 W → S W)
 (h1 : ∀ ox oo oy W (K' : Act → World → Prop), Own [] (nL np H none ox oo oy ++ B) R w0 W → (∀ g W', Own [] (nL np H (some g) ox oo oy ++ B) R w0 W' → K' (A (vM (some g)) (vS np ox) (vS np oo) (vS H oy)) W') → wpOp P ops Q 1 K' (A (vM none) (vS np ox) (vS np oo) (vS H oy)) W)
 (h7 : ∀ om oo oy W (K' : Act → World → Prop), Own [] (nL np H om none oo oy ++ B) R w0 W → (∀ g W', Own [] (nL np H om (some g) oo oy ++ B) R w0 W' → K' (A (vM om) (vS np (some g)) (vS np oo) (vS H oy)) W') → wpOp P ops Q 7 K' (A (vM om) (vS np none) (vS np oo) (vS H oy)) W)
 (h13 : ∀ om ox oy W (K' : Act → World → Prop), Own [] (nL np H om ox none oy ++ B) R w0 W → (∀ g W', Own [] (nL np H om ox (some g) oy ++ B) R w0 W' → K' (A (vM om) (vS np ox) (vS np (some g)) (vS H oy)) W') → wpOp P ops Q 13 K' (A (vM om) (vS np ox) (vS np none) (vS H oy)) W)
 (h16 : ∀ om ox oo W (K' : Act → World → Prop), Own [] (nL np H om ox oo none ++ B) R w0 W → (∀ g W', Own [] (nL np H om ox oo (some g) ++ B) R w0 W' → K' (A (vM om) (vS np ox) (vS np oo) (vS H (some g))) W') → wpOp P ops Q 16 K' (A (vM om) (vS np ox) (vS np oo) (vS H none)) W)
 (hK : ∀ gm gx go gy W, Own [] (nL np H (some gm) (some gx) (some go) (some gy) ++ B) R w0 W → K (A (vM (some gm)) (vS np (some gx)) (vS np (some go)) (vS H (some gy))) W)
 (ho : Own [] B R w0 w) : RunG P ops Q S K [1, 7, 13, 16].length [1, 7, 13, 16] (A undef undef undef undef) w := by
 have key : ∀ (n : Nat) (om ox oo oy : Option Nat) (W : World), (gOf om ox oo oy).length = n → Own [] (nL np H om ox oo oy ++ B) R w0 W → RunG P ops Q S K n (gOf om ox oo oy) (A (vM om) (vS np ox) (vS np oo) (vS H oy)) W := by
  intro n
  induction n with
  | zero =>
   intro om ox oo oy W hn ho
   have hall : ∃ gm gx go gy, om = some gm ∧ ox = some gx ∧ oo = some go ∧ oy = some gy := by
    cases om <;> cases ox <;> cases oo <;> cases oy <;> simp [gOf] at hn
    exact ⟨_, _, _, _, rfl, rfl, rfl, rfl⟩
   obtain ⟨gm, gx, go, gy, rfl, rfl, rfl, rfl⟩ := hall
   exact hK gm gx go gy W ho
  | succ n ih =>
   intro om ox oo oy W hn ho
   show ∀ i ∈ gOf om ox oo oy, _
   intro i hi
   have hi' : (i = 1 ∧ om = none) ∨ (i = 7 ∧ ox = none) ∨ (i = 13 ∧ oo = none) ∨ (i = 16 ∧ oy = none) := by
    cases om <;> cases ox <;> cases oo <;> cases oy <;> simp [gOf] at hi ⊢ <;> omega
   clear hi
   rcases hi' with ⟨rfl, rfl⟩ | ⟨rfl, rfl⟩ | ⟨rfl, rfl⟩ | ⟨rfl, rfl⟩
   · refine h1 ox oo oy W _ ho fun g W' ho' => ⟨hS _ _ _ _ _ ho', ?_⟩
     have e : (gOf none ox oo oy).erase 1 = gOf (some g) ox oo oy := by cases ox <;> cases oo <;> cases oy <;> rfl
     rw [e]
     refine ih (some g) ox oo oy W' ?_ ho'
     rw [← e]
     cases ox <;> cases oo <;> cases oy <;> simp [gOf] at hn ⊢ <;> omega
   · refine h7 om oo oy W _ ho fun g W' ho' => ⟨hS _ _ _ _ _ ho', ?_⟩
     have e : (gOf om none oo oy).erase 7 = gOf om (some g) oo oy := by cases om <;> cases oo <;> cases oy <;> rfl
     rw [e]
     refine ih om (some g) oo oy W' ?_ ho'
     rw [← e]
     cases om <;> cases oo <;> cases oy <;> simp [gOf] at hn ⊢ <;> omega
   · refine h13 om ox oy W _ ho fun g W' ho' => ⟨hS _ _ _ _ _ ho', ?_⟩
     have e : (gOf om ox none oy).erase 13 = gOf om ox (some g) oy := by cases om <;> cases ox <;> cases oy <;> rfl
     rw [e]
     refine ih om ox (some g) oy W' ?_ ho'
     rw [← e]
     cases om <;> cases ox <;> cases oy <;> simp [gOf] at hn ⊢ <;> omega
   · refine h16 om ox oo W _ ho fun g W' ho' => ⟨hS _ _ _ _ _ ho', ?_⟩
     have e : (gOf om ox oo none).erase 16 = gOf om ox oo (some g) := by cases om <;> cases ox <;> cases oo <;> rfl
     rw [e]
     refine ih om ox oo (some g) W' ?_ ho'
     rw [← e]
     cases om <;> cases ox <;> cases oo <;> simp [gOf] at hn ⊢ <;> omega
 exact key 4 none none none none w rfl ho
set_option maxHeartbeats 2000000 in
set_option maxRecDepth 100000 in
theorem heap_New (r : Rw) (c : Cf) (L : List (Nat × (Obj → Prop))) (R : World → Prop) (w0 w : World) (H : Own [] L R w0 w) (hc : confOf r = (c, 0)) (hg : Good c) (hs : c.H ≤ 4096) :
 Calls Tryz.prog 13 #[r.v] w fun e w' => ∃ h, e = .returned (.tuple #[.pointer (some ⟨h, 0, none⟩), .int .i64 0]) ∧ HW h c (Hs.new c) (List.replicate c.H 0) L R w0 w' := by
 have HCO := As.mk (fun W => conf_Of r W)
 rw [hc] at HCO
 have hb := H.box #[.int .i64 r.g, .int .i64 r.l, .int .i64 r.m, .int .i64 r.p, .int .i64 r.b, .int .i64 r.s] 25
 have HB := As.mk hb
 have hrv : r.v = .agg #[.int .i64 r.g, .int .i64 r.l, .int .i64 r.m, .int .i64 r.p, .int .i64 r.b, .int .i64 r.s] := rfl
 obtain ⟨b1, b2, b3, b4, b5, b6, b7⟩ := hg.bounds
 have HG := As.mk hg
 rw [hrv, Cf.v] at HCO
 rw [hrv]
 obtain ⟨np, hnp⟩ : ∃ np, np = c.H / c.Page := ⟨_, rfl⟩
 have hnp6 : np ≤ 4096 := by rw [hnp]; exact Nat.le_trans (Nat.div_le_self _ _) hs
 have hnp1 : 1 ≤ np := by rw [hnp]; exact (Nat.le_div_iff_mul_le hg.p1).2 (by omega)
 have E1 := As.mk (show IntKind.i64.wrap ((c.H : Int) / (c.Page : Int)) = (np : Int) by rw [show (c.H : Int) / (c.Page : Int) = (np : Int) by rw [hnp]; rfl]; exact iw64 _ (by omega) (by omega))
 have HNP := As.mk hnp
 have HC := As.mk hc
 have hs4 := hs
 have p4 : (c.Page = 0) = False := eq_false (by omega)
 have p5 : ((c.Page : Int) = 0) = False := eq_false (by omega)
 have p6 : ((c.Page : Int) == 0) = false := beqF (by omega)
 clear hb H hc hg hrv hnp
 go_enter Tryz.func13, Tryz.ntmps13
 go_wp2_with fail
 refine (HCO.out _).mono ?_
 rintro e w1 ⟨rfl, hb⟩
 have ho := HB.out.below hb
 have HO := As.mk (ho.box #[.int .i64 c.G, .int .i64 c.N, .int .i64 c.M, .int .i64 c.L, .int .i64 c.Page, .int .i64 c.P, .int .i64 c.H, .int .i64 c.Seed] 34)
 clear hb ho HB HCO
 go_wp2_with fail
 obtain ⟨w2, hw2⟩ : ∃ x, x = w1.alloc (.cells #[.int .i64 c.G, .int .i64 c.N, .int .i64 c.M, .int .i64 c.L, .int .i64 c.Page, .int .i64 c.P, .int .i64 c.H, .int .i64 c.Seed] 34) := ⟨_, rfl⟩
 obtain ⟨q2, hq2⟩ : ∃ q, q = w1.heap.size := ⟨_, rfl⟩
 have ho := HO.out
 rw [← hw2, ← hq2] at ho
 simp only [← hw2, ← hq2]
 clear hw2 hq2 HO
 have hcs : CfS8 q2 c w2 := ⟨ho.get me0 0 (by simp), ho.get me0 1 (by simp), ho.get me0 2 (by simp), ho.get me0 3 (by simp), ho.get me0 4 (by simp), ho.get me0 5 (by simp), ho.get me0 6 (by simp), ho.get me0 7 (by simp)⟩
 have HO := As.mk ho
 refine rgnG [(0, 0), (2, 1), (3, 0), (4, 1), (5, 0), (6, 1), (8, 1), (9, 0), (10, 1), (11, 0), (12, 1), (14, 1), (15, 0)] [1, 7, 13, 16] [(17, 1), (18, 2), (19, 1)] [] (CfS8 q2 c) (by kernel_rfl) (by kernel_rfl) (fun _ _ _ d _ h => by cases d <;> exact h) hcs ?_
 obtain ⟨w3, hw3⟩ : ∃ x, x = w2.drew := ⟨_, rfl⟩
 have hod := HO.out.drew
 rw [← hw3] at hod ⊢
 have HOD := As.mk hod
 clear hw3 hod HO hcs ho
 unfold CfS8
 refine Run.rd (v := ?_) (a' := ?_) rfl rfl (Or.inl ⟨by rfl, ?_⟩) ?_ ?_; rotate_left 2; (focus (rintro W ⟨hW1, hW2, hW3, hW4, hW5, hW6, hW7, hW8⟩; go_simp; with_reducible rfl)); (focus (simp only [Act.put, zq4, zq5, zq6]; rfl))
 refine Run.pu (v := ?_) (a' := ?_) rfl rfl (Or.inl ⟨by rfl, ?_⟩) ?_ ?_; rotate_left 2; (focus (intro W; go_simp; with_reducible rfl)); (focus (simp only [Act.put, zq4, zq5, zq6]; rfl))
 refine Run.rd (v := ?_) (a' := ?_) rfl rfl (Or.inl ⟨by rfl, ?_⟩) ?_ ?_; rotate_left 2; (focus (rintro W ⟨hW1, hW2, hW3, hW4, hW5, hW6, hW7, hW8⟩; go_simp; with_reducible rfl)); (focus (simp only [Act.put, zq4, zq5, zq6]; rfl))
 refine Run.pu (v := ?_) (a' := ?_) rfl rfl (Or.inl ⟨by rfl, ?_⟩) ?_ ?_; rotate_left 2; (focus (intro W; go_simp; with_reducible rfl)); (focus (simp only [Act.put, zq4, zq5, zq6]; rfl))
 refine Run.rd (v := ?_) (a' := ?_) rfl rfl (Or.inl ⟨by rfl, ?_⟩) ?_ ?_; rotate_left 2; (focus (rintro W ⟨hW1, hW2, hW3, hW4, hW5, hW6, hW7, hW8⟩; go_simp; with_reducible rfl)); (focus (simp only [Act.put, zq4, zq5, zq6]; rfl))
 refine Run.pu (v := ?_) (a' := ?_) rfl rfl (Or.inl ⟨by rfl, ?_⟩) ?_ ?_
 rotate_left 2
 · intro W; go_simp; simp only [E1.out]; with_reducible rfl
 · simp only [Act.put, zq4, zq5, zq6]; rfl
 refine Run.pu (v := ?_) (a' := ?_) rfl rfl (Or.inl ⟨by rfl, ?_⟩) ?_ ?_; rotate_left 2; (focus (intro W; go_simp; with_reducible rfl)); (focus (simp only [Act.put, zq4, zq5, zq6]; rfl))
 refine Run.rd (v := ?_) (a' := ?_) rfl rfl (Or.inl ⟨by rfl, ?_⟩) ?_ ?_; rotate_left 2; (focus (rintro W ⟨hW1, hW2, hW3, hW4, hW5, hW6, hW7, hW8⟩; go_simp; with_reducible rfl)); (focus (simp only [Act.put, zq4, zq5, zq6]; rfl))
 refine Run.pu (v := ?_) (a' := ?_) rfl rfl (Or.inl ⟨by rfl, ?_⟩) ?_ ?_; rotate_left 2; (focus (intro W; go_simp; with_reducible rfl)); (focus (simp only [Act.put, zq4, zq5, zq6]; rfl))
 refine Run.rd (v := ?_) (a' := ?_) rfl rfl (Or.inl ⟨by rfl, ?_⟩) ?_ ?_; rotate_left 2; (focus (rintro W ⟨hW1, hW2, hW3, hW4, hW5, hW6, hW7, hW8⟩; go_simp; with_reducible rfl)); (focus (simp only [Act.put, zq4, zq5, zq6]; rfl))
 refine Run.pu (v := ?_) (a' := ?_) rfl rfl (Or.inl ⟨by rfl, ?_⟩) ?_ ?_
 rotate_left 2
 · intro W; go_simp; simp only [E1.out]; with_reducible rfl
 · simp only [Act.put, zq4, zq5, zq6]; rfl
 refine Run.pu (v := ?_) (a' := ?_) rfl rfl (Or.inl ⟨by rfl, ?_⟩) ?_ ?_; rotate_left 2; (focus (intro W; go_simp; with_reducible rfl)); (focus (simp only [Act.put, zq4, zq5, zq6]; rfl))
 refine Run.rd (v := ?_) (a' := ?_) rfl rfl (Or.inl ⟨by rfl, ?_⟩) ?_ ?_; rotate_left 2; (focus (rintro W ⟨hW1, hW2, hW3, hW4, hW5, hW6, hW7, hW8⟩; go_simp; with_reducible rfl)); (focus (simp only [Act.put, zq4, zq5, zq6]; rfl))
 refine Run.nilG ?_
 simp only [zq1, zq2, zq3]
 simp only [zq4, zq5, zq6]
 refine Eq.mp (congrArg (fun a => RunG _ _ _ _ _ _ _ a w3) (show newA r c w.heap.size q2 np undef undef undef undef = _ from rfl)) ?_
 refine newGroup (A := newA r c w.heap.size q2 np) (np := np) (H := c.H) ?_ ?_ ?_ ?_ ?_ ?_ HOD.out
 · intro om ox oo oy W k
   have hm := List.mem_append_right (nL np c.H om ox oo oy) (me0 (x := (q2, EC 34 [.int .i64 c.G, .int .i64 c.N, .int .i64 c.M, .int .i64 c.L, .int .i64 c.Page, .int .i64 c.P, .int .i64 c.H, .int .i64 c.Seed])) (l := (w.heap.size, EC 25 [.int .i64 r.g, .int .i64 r.l, .int .i64 r.m, .int .i64 r.p, .int .i64 r.b, .int .i64 r.s]) :: L))
   exact ⟨k.get hm 0 (by simp), k.get hm 1 (by simp), k.get hm 2 (by simp), k.get hm 3 (by simp), k.get hm 4 (by simp), k.get hm 5 (by simp), k.get hm 6 (by simp), k.get hm 7 (by simp)⟩
 · intro ox oo oy W K' ho hk
   have HO := As.mk ho
   have HKK := As.mk hk
   clear ho hk
   have hrun : (Instr.makeMap 77 none).run Tryz.prog W = .ok (.map (some W.heap.size)) (W.alloc (.map #[] 0)) := by
    simp [Instr.makeMap, run_underlying Tryz.underlying77]
   refine Run.wpOp_of_list rfl fun K hK => ?_
   simp only [zq1, zq2, zq3, newA, vM]
   go_wp2
   refine hK.out _ _ (HKK.out W.heap.size _ ((HO.out.alloc (x := .map #[] 0) (p := MapP fun _ => none) MapP.none_).permL ?_))
   have hp := @List.perm_middle _ (W.heap.size, MapP fun _ => none) (oL ox (EC 3 (List.replicate np (.int .i64 0))))
   simp only [nL, oL, List.nil_append, List.cons_append, List.append_assoc]
   exact hp
 · intro om oo oy W K' ho hk
   have HO := As.mk ho
   have HKK := As.mk hk
   clear ho hk
   refine Run.wpOp_of_list rfl fun K hK => ?_
   simp only [zq1, zq2, zq3, newA]
   refine go_make rfl _ _ 63 3 (.int .i64 0) 8 rfl Tryz.underlying63 info3 rfl .i64 .i64 _ _ np rfl rfl rfl rfl (by omega) (by simp only [maxLen]; omega) HO.out ?_
   intro w1 ho1 hb1
   have HO1 := As.mk ho1
   clear ho1 hb1
   go_wp2
   refine hK.out _ _ (HKK.out W.heap.size w1 (HO1.out.permL ?_))
   simp only [nL, oL, List.nil_append, List.cons_append, List.append_assoc]
   exact List.Perm.refl _
 · intro om ox oy W K' ho hk
   have HO := As.mk ho
   have HKK := As.mk hk
   clear ho hk
   refine Run.wpOp_of_list rfl fun K hK => ?_
   simp only [zq1, zq2, zq3, newA]
   refine go_make rfl _ _ 56 4 (.bool false) 1 rfl Tryz.underlying56 info4 rfl .i64 .i64 _ _ np rfl rfl rfl rfl (by omega) (by simp only [maxLen]; omega) HO.out ?_
   intro w1 ho1 hb1
   have HO1 := As.mk ho1
   clear ho1 hb1
   go_wp2
   refine hK.out _ _ (HKK.out W.heap.size w1 (HO1.out.permL ?_))
   have hp := @List.perm_middle _ (W.heap.size, EC 4 (List.replicate np (.bool false))) (oL ox (EC 3 (List.replicate np (.int .i64 0))) ++ (oL om (MapP fun _ => none) ++ oL oy (EC 5 (List.replicate c.H (.int .u8 0)))))
   simp only [nL, oL, List.nil_append, List.cons_append, List.append_assoc, List.append_nil] at hp ⊢
   exact hp
 · intro om ox oo W K' ho hk
   have HO := As.mk ho
   have HKK := As.mk hk
   clear ho hk
   refine Run.wpOp_of_list rfl fun K hK => ?_
   simp only [zq1, zq2, zq3, newA]
   refine go_make rfl _ _ 22 5 (.int .u8 0) 1 rfl Tryz.underlying22 info5 rfl .i64 .i64 _ _ c.H rfl rfl rfl rfl (by omega) (by simp only [maxLen]; omega) HO.out ?_
   intro w1 ho1 hb1
   have HO1 := As.mk ho1
   clear ho1 hb1
   go_wp2
   refine hK.out _ _ (HKK.out W.heap.size w1 (HO1.out.permL ?_))
   have hp := @List.perm_middle _ (W.heap.size, EC 5 (List.replicate c.H (.int .u8 0))) (oL ox (EC 3 (List.replicate np (.int .i64 0))) ++ oL om (MapP fun _ => none))
   simp only [nL, oL, List.nil_append, List.cons_append, List.append_assoc, List.append_nil] at hp ⊢
   exact hp
 · intro gm gx go gy W ho
   have HO := As.mk ho
   clear ho
   simp only [newA, vM, vS]
   refine Run.pu (v := ?_) (a' := ?_) rfl rfl (Or.inl ⟨by rfl, ?_⟩) ?_ ?_; rotate_left 2; (focus (intro W; go_simp; with_reducible rfl)); (focus (simp only [Act.put, zq4, zq5, zq6]; rfl))
   refine Run.ef rfl (fun K hK => ?_)
   simp only [zq1, zq2, zq3]
   have hbx := HO.out.box #[.int .i64 c.G, .int .i64 c.N, .int .i64 c.M, .int .i64 c.L, .int .i64 c.Page, .int .i64 c.P, .int .i64 c.H, .int .i64 c.Seed, .int .i64 0, .slice none 0 0, .slice none 0 0, .map (some gm), .int .i64 0, .int .i64 0, .int .i64 0, .slice (some ⟨gx, 0, none⟩) np np, .slice (some ⟨go, 0, none⟩) np np, .slice (some ⟨gy, 0, none⟩) c.H c.H] 85
   have HBX := As.mk hbx
   have hcs : CfS8 q2 c (W.alloc (.cells #[.int .i64 c.G, .int .i64 c.N, .int .i64 c.M, .int .i64 c.L, .int .i64 c.Page, .int .i64 c.P, .int .i64 c.H, .int .i64 c.Seed, .int .i64 0, .slice none 0 0, .slice none 0 0, .map (some gm), .int .i64 0, .int .i64 0, .int .i64 0, .slice (some ⟨gx, 0, none⟩) np np, .slice (some ⟨go, 0, none⟩) np np, .slice (some ⟨gy, 0, none⟩) c.H c.H] 85)) := ⟨hbx.get me5 0 (by simp), hbx.get me5 1 (by simp), hbx.get me5 2 (by simp), hbx.get me5 3 (by simp), hbx.get me5 4 (by simp), hbx.get me5 5 (by simp), hbx.get me5 6 (by simp), hbx.get me5 7 (by simp)⟩
   have HCS := As.mk hcs
   clear hbx hcs
   go_wp2
   refine hK.out _ _ HCS.out ?_
   clear hK K
   refine Run.pu (v := ?_) (a' := ?_) rfl rfl (Or.inl ⟨by rfl, ?_⟩) ?_ ?_; rotate_left 2; (focus (intro W; go_simp; with_reducible rfl)); (focus (simp only [Act.put, zq4, zq5, zq6]; rfl))
   refine Run.nil ?_
   simp only [zq1, zq2, zq3]
   try simp only [zq4, zq5, zq6]
   obtain ⟨w5, hw5⟩ : ∃ x, x = W.alloc (.cells #[.int .i64 c.G, .int .i64 c.N, .int .i64 c.M, .int .i64 c.L, .int .i64 c.Page, .int .i64 c.P, .int .i64 c.H, .int .i64 c.Seed, .int .i64 0, .slice none 0 0, .slice none 0 0, .map (some gm), .int .i64 0, .int .i64 0, .int .i64 0, .slice (some ⟨gx, 0, none⟩) np np, .slice (some ⟨go, 0, none⟩) np np, .slice (some ⟨gy, 0, none⟩) c.H c.H] 85) := ⟨_, rfl⟩
   obtain ⟨h, hh⟩ : ∃ x, x = W.heap.size := ⟨_, rfl⟩
   have hbx := HBX.out
   have hcs := HCS.out
   rw [← hw5] at hcs
   rw [← hw5, ← hh] at hbx
   simp only [← hw5, ← hh]
   clear hw5 hh HO HBX HCS
   have HO := As.mk hbx
   go_wp2_with fail
   obtain ⟨gp, e1⟩ : ∃ gp, c.G = 2 ^ gp := by
    obtain ⟨g, _, _, h, _⟩ := HG.out.pow
    exact ⟨g, h⟩
   obtain ⟨ng, hng⟩ : ∃ x, x = c.H / c.G := ⟨_, rfl⟩
   obtain ⟨l1, hl1⟩ : ∃ x, x = c.L + 1 := ⟨_, rfl⟩
   have hgd := gran_dvd HG.out
   rw [← hng] at hgd
   have hng4 : ng ≤ 4096 := by rw [hng]; exact Nat.le_trans (Nat.div_le_self _ _) hs4
   have hng1 : 1 ≤ ng := by rw [hng]; exact (Nat.le_div_iff_mul_le HG.out.g1).2 (by omega)
   have hlev := HG.out.lev
   have HPN := As.mk (fun W => place_New c.G gp ng l1 W e1 ((Nat.pow_le_pow_iff_right (a := 2) (by decide)).1 (by rw [← e1]; omega)) hng1 hng4 (by omega) (by omega) (by rw [hl1]; exact hgd.1) (by rw [hgd.2]; omega))
   have E3 := As.mk (show IntKind.i64.wrap ((c.H : Int) / (c.G : Int)) = (ng : Int) by rw [show (c.H : Int) / (c.G : Int) = (ng : Int) by rw [hng]; rfl]; exact iw64 _ (by omega) (by omega))
   have E4 := As.mk (show IntKind.i64.wrap ((c.L : Int) + 1) = (l1 : Int) by rw [IntKind.wrap_i64]; omega)
   have HNG := As.mk (And.intro hng hl1)
   have g4 : (c.G = 0) = False := eq_false (by omega)
   have g5 : ((c.G : Int) = 0) = False := eq_false (by omega)
   have g6 : ((c.G : Int) == 0) = false := beqF (by omega)
   clear e1 hng hgd hl1
   refine rgn [(0, 1), (1, 1), (2, 0), (3, 1), (4, 0), (5, 1), (6, 0), (7, 1), (8, 1), (9, 0), (10, 1), (11, 2), (12, 1), (13, 1), (14, 1), (15, 1), (16, 1), (17, 3)] [17] (CfS8 q2 c) (by kernel_rfl) (by kernel_rfl) (fun _ _ _ d _ h => by cases d <;> exact h) hcs ?_
   obtain ⟨w6, hw6⟩ : ∃ x, x = w5.drew := ⟨_, rfl⟩
   have hod := HO.out.drew
   rw [← hw6] at hod ⊢
   have HOD := As.mk hod
   clear hw6 hod HO hcs hbx
   unfold CfS8
   iterate 2 (refine Run.pu (v := ?_) (a' := ?_) rfl rfl (Or.inl ⟨by rfl, ?_⟩) ?_ ?_; rotate_left 2; (focus (intro W; go_simp; with_reducible rfl)); (focus (simp only [Act.put, zq4, zq5, zq6]; rfl)))
   refine Run.rd (v := ?_) (a' := ?_) rfl rfl (Or.inl ⟨by rfl, ?_⟩) ?_ ?_; rotate_left 2; (focus (rintro W ⟨hW1, hW2, hW3, hW4, hW5, hW6, hW7, hW8⟩; go_simp; with_reducible rfl)); (focus (simp only [Act.put, zq4, zq5, zq6]; rfl))
   refine Run.pu (v := ?_) (a' := ?_) rfl rfl (Or.inl ⟨by rfl, ?_⟩) ?_ ?_; rotate_left 2; (focus (intro W; go_simp; with_reducible rfl)); (focus (simp only [Act.put, zq4, zq5, zq6]; rfl))
   refine Run.rd (v := ?_) (a' := ?_) rfl rfl (Or.inl ⟨by rfl, ?_⟩) ?_ ?_; rotate_left 2; (focus (rintro W ⟨hW1, hW2, hW3, hW4, hW5, hW6, hW7, hW8⟩; go_simp; with_reducible rfl)); (focus (simp only [Act.put, zq4, zq5, zq6]; rfl))
   refine Run.pu (v := ?_) (a' := ?_) rfl rfl (Or.inl ⟨by rfl, ?_⟩) ?_ ?_; rotate_left 2; (focus (intro W; go_simp; with_reducible rfl)); (focus (simp only [Act.put, zq4, zq5, zq6]; rfl))
   refine Run.rd (v := ?_) (a' := ?_) rfl rfl (Or.inl ⟨by rfl, ?_⟩) ?_ ?_; rotate_left 2; (focus (rintro W ⟨hW1, hW2, hW3, hW4, hW5, hW6, hW7, hW8⟩; go_simp; with_reducible rfl)); (focus (simp only [Act.put, zq4, zq5, zq6]; rfl))
   refine Run.pu (v := ?_) (a' := ?_) rfl rfl (Or.inl ⟨by rfl, ?_⟩) ?_ ?_
   rotate_left 2
   · intro W; go_simp; simp only [E3.out]; with_reducible rfl
   · simp only [Act.put, zq4, zq5, zq6]; rfl
   refine Run.pu (v := ?_) (a' := ?_) rfl rfl (Or.inl ⟨by rfl, ?_⟩) ?_ ?_; rotate_left 2; (focus (intro W; go_simp; with_reducible rfl)); (focus (simp only [Act.put, zq4, zq5, zq6]; rfl))
   refine Run.rd (v := ?_) (a' := ?_) rfl rfl (Or.inl ⟨by rfl, ?_⟩) ?_ ?_; rotate_left 2; (focus (rintro W ⟨hW1, hW2, hW3, hW4, hW5, hW6, hW7, hW8⟩; go_simp; with_reducible rfl)); (focus (simp only [Act.put, zq4, zq5, zq6]; rfl))
   refine Run.pu (v := ?_) (a' := ?_) rfl rfl (Or.inl ⟨by rfl, ?_⟩) ?_ ?_
   rotate_left 2
   · intro W; go_simp; simp only [E4.out]; with_reducible rfl
   · simp only [Act.put, zq4, zq5, zq6]; rfl
   refine Run.ef rfl (fun K hK => ?_)
   simp only [zq1, zq2, zq3]
   try simp only [zq4, zq5, zq6]
   go_wp2_with fail
   refine (HPN.out _).mono ?_
   rintro e w7 ⟨t, rfl, hef, hb⟩
   obtain ⟨gt, ct, At, ds, rfl, hds⟩ := hef.now.slices
   have ho7 := HOD.out.result (R' := fun W => EngR W (.slice (some ⟨gt, 0, none⟩) l1 ct) (.slice none 0 0) l1 ng noB []) hb (fun W hW => hef W hW)
   have HO7 := As.mk ho7
   have HCS := As.mk (show CfS8 q2 c w7 from ⟨ho7.get me5 0 (by simp), ho7.get me5 1 (by simp), ho7.get me5 2 (by simp), ho7.get me5 3 (by simp), ho7.get me5 4 (by simp), ho7.get me5 5 (by simp), ho7.get me5 6 (by simp), ho7.get me5 7 (by simp)⟩)
   clear hef hb HOD ho7 hds HPN
   go_wp2
   refine hK.out _ _ HCS.out ?_
   clear hK K
   iterate 5 (refine Run.pu (v := ?_) (a' := ?_) rfl rfl (Or.inl ⟨by rfl, ?_⟩) ?_ ?_; rotate_left 2; (focus (intro W; go_simp; with_reducible rfl)); (focus (simp only [Act.put, zq4, zq5, zq6]; rfl)))
   refine Run.la rfl (fun K hK => ?_)
   simp only [zq1, zq2, zq3]
   try simp only [zq4, zq5, zq6]
   have s8 := HO7.out.get me0 8 (by simp)
   have s9 := HO7.out.get me0 9 (by simp)
   have s10 := HO7.out.get me0 10 (by simp)
   have f8 := HO7.out.frozen (g := h) me0 8
   have f9 := HO7.out.frozen (g := h) me0 9
   have f10 := HO7.out.frozen (g := h) me0 10
   have HO8 := As.mk (((HO7.out.set 0 rfl 8 (.int .i64 c.G) (by simp)).set 0 rfl 9 (.slice (some ⟨gt, 0, none⟩) l1 ct) (by simp)).set 0 rfl 10 (.slice none 0 0) (by simp))
   simp only [zq6, zq5] at HO8
   clear HO7 HCS
   go_wp2
   refine hK.out _ _ ?_
   clear hK K
   refine Run.nil ?_
   clear s8 s9 s10 f8 f9 f10
   obtain ⟨w8, hw8⟩ : ∃ x, x = ((w7.setCell ⟨h, 8, none⟩ (.int .i64 c.G)).setCell ⟨h, 9, none⟩ (.slice (some ⟨gt, 0, none⟩) l1 ct)).setCell ⟨h, 10, none⟩ (.slice none 0 0) := ⟨_, rfl⟩
   rw [← hw8] at HO8 ⊢
   clear hw8
   go_wp2_with fail
   go_ret2
   have o1 := HO8.out.front 1 rfl
   simp only [List.eraseIdx_cons_succ, List.eraseIdx_cons_zero] at o1
   have o2 := o1.front 4 rfl
   simp only [List.eraseIdx_cons_succ, List.eraseIdx_cons_zero] at o2
   have o3 := o2.freeze (n := np) (cap := np) (Nat.le_refl _)
   have o4 := (o3.front 4 rfl).drop
   simp only [List.eraseIdx_cons_succ, List.eraseIdx_cons_zero] at o4
   have o5 := (o4.front 4 rfl).drop
   simp only [List.eraseIdx_cons_succ, List.eraseIdx_cons_zero] at o5
   have m1 : natsV (metN c []) = List.replicate np (.int .i64 0) := by
    unfold natsV metN
    rw [List.map_map, ← HNP.out]
    apply List.ext_getElem?
    intro i
    rw [List.getElem?_map, List.getElem?_replicate]
    by_cases h : i < np
    · rw [if_pos h, List.getElem?_range h]
      rfl
    · rw [if_neg h, List.getElem?_eq_none (by simp; omega)]
      rfl
   have m2 : bytesV (List.replicate c.H 0) = List.replicate c.H (.int .u8 0) := by
    unfold bytesV
    rw [List.map_replicate]
    rfl
   have m3 : bitsB c [] = noB := by
    funext i
    rfl
   have m4 : (List.replicate (c.H / c.Page) false).map Value.bool = List.replicate np (.bool false) := by rw [List.map_replicate, ← HNP.out]
   refine ⟨h, rfl, by rw [List.length_replicate], ⟨gx, np, gm, gy, c.H, some ⟨go, 0, none⟩, some ⟨gt, 0, none⟩, none, np, l1, ct, 0, 0⟩, Nat.le_of_eq HNP.out.symm, Nat.le_refl _, ?_⟩
   simp only [Hs.new, Hd.t, Hd.sd, Hd.met, Hd.on, Hd.mem, hC, ← HNP.out, m1, m2, mapB_nil]
   refine o5.imp fun W hW => ⟨hW.1.1, ?_, ?_⟩
   · rw [m3, ← HNG.out.1, ← HNG.out.2]
     exact hW.1.2
   · rw [List.map_replicate]
     exact hW.2
end Go.Proofs.YtmookafmdonopaaGreat.Top
/- (*heap.Heap).Do walked. -/
namespace Go.Proofs.YtmookafmdonopaaGreat.Top
open Go Go.RowKit Go.Instr Go.ChangeMaps
set_option linter.unusedVariables false
set_option linter.unusedSimpArgs false
attribute [local go_sem] max2_int min2_int max_two min_two max_three

/-- a call that may come -/
structure OpOk (o : Opp) : Prop where
 kind : 1 ≤ o.kind ∧ o.kind ≤ 10
 a : GoodA o.a
 n : o.n ≤ 2 ^ 30
 s : o.s ≤ 2 ^ 30
 b : 0 ≤ o.b ∧ o.b < 256
def trimP (c : Cf) (s : Hs) : Hs × An := (⟨s.bl, s.peak, s.mark, andL s.on (metB (metN c s.bl))⟩, ⟨0, 0, (cntT (lessL s.on (metB (metN c s.bl))) : Nat), 0, 0, 0, 0, 0⟩)
def figP (c : Cf) (s : Hs) : An := ⟨0, 0, 0, 0, (sumB c s.bl : Nat), (s.peak : Nat), (s.mark : Nat), (cntT s.on : Nat)⟩
/-- what a call comes to -/
def doP (c : Cf) (s : Hs) (mem : List Nat) (o : Opp) : Hs × An :=
 if o.kind = 1 then alignedP c s o.s 1 else if o.kind = 2 then callocP c s o.n o.s else if o.kind = 3 then alignedP c s o.s o.a
 else if o.kind ≤ 8 then blockP c s mem o else if o.kind = 9 then trimP c s else (s, figP c s)
def DoMem (c : Cf) (s : Hs) (mem : List Nat) (o : Opp) (mem' : List Nat) : Prop :=
 (o.kind = 2 → (callocP c s o.n o.s).2.err = 0 → ∀ i : Nat, (callocP c s o.n o.s).2.at_ ≤ i → (i : Int) < (callocP c s o.n o.s).2.at_ + (many c (sumB c s.bl : Nat) o.n o.s).1 → mem'[i]? = some 0) ∧
 (4 ≤ o.kind → o.kind ≤ 8 → BlMem c s mem o mem') ∧ (9 ≤ o.kind → mem' = mem)
theorem HW.setOn {h : Nat} {c : Cf} {s : Hs} {mem : List Nat} {L : List (Nat × (Obj → Prop))} {R : World → Prop} {w0 w : World} (H : HW h c s mem L R w0 w) (A6 : Option Addr) (c6 : Nat) (on' : List Bool) (hR : ∀ W, R W → Row W (.slice A6 (c.H / c.Page) c6) (c.H / c.Page) (on'.map Value.bool)) :
 HW h c ⟨s.bl, s.peak, s.mark, on'⟩ mem L R w0 (w.setCell ⟨h, 16, none⟩ (.slice A6 (c.H / c.Page) c6)) := by
 obtain ⟨a, d, b1, b2, b3⟩ := H
 have hs := b3.set 1 rfl 16 (.slice A6 (c.H / c.Page) c6) (by simp [hC])
 simp only [hC, zq6, zq5] at hs
 exact ⟨a, ⟨d.g, d.cap, d.gm, d.gy, d.capy, A6, d.At, d.As_, c6, d.nt, d.ct, d.ns, d.cs⟩, b1, b2, hs.imp fun W hW => ⟨hW.1, hW.2.1, hR W hW.1⟩⟩
theorem andL_len' (a b : List Bool) (h : b.length = a.length) : (andL a b).length = a.length := by simp [andL, h]
set_option maxHeartbeats 8000000 in
set_option maxRecDepth 100000 in
theorem heap_Do_13 (h : Nat) (c : Cf) (s : Hs) (mem : List Nat) (L : List (Nat × (Obj → Prop))) (R : World → Prop) (w0 w : World) (o : Opp) (H : HW h c s mem L R w0 w) (iv : Iv c s) (ok : OpOk o) (h13 : o.kind ≤ 3) :
 Calls Tryz.prog 16 #[.pointer (some ⟨h, 0, none⟩), o.v] w fun e w' => e = .returned (doP c s mem o).2.v ∧ ∃ mem', HW h c (doP c s mem o).1 mem' L R w0 w' ∧ DoMem c s mem o mem' := by
 have IV := As.mk iv
 have OK := As.mk ok
 have hP : doP c s mem o = doP c s mem o := rfl
 conv at hP => rhs; unfold doP
 obtain ⟨p, hpe⟩ : ∃ p, p = doP c s mem o := ⟨_, rfl⟩
 rw [← hpe] at hP ⊢
 have HP0 := As.mk hP
 have hB := (H.box #[.int .i64 o.kind, .int .i64 o.p, .int .i64 o.s, .int .i64 o.a, .int .i64 o.n, .int .u8 o.b] 42).box #[.int .i64 0, .int .i64 0, .int .i64 0, .int .u8 0, .int .i64 0, .int .i64 0, .int .i64 0, .int .i64 0] 39
 rw [World.size_alloc] at hB
 obtain ⟨w1, hw1⟩ : ∃ w1, w1 = (w.alloc (.cells #[.int .i64 o.kind, .int .i64 o.p, .int .i64 o.s, .int .i64 o.a, .int .i64 o.n, .int .u8 o.b] 42)).alloc (.cells #[.int .i64 0, .int .i64 0, .int .i64 0, .int .u8 0, .int .i64 0, .int .i64 0, .int .i64 0, .int .i64 0] 39) := ⟨_, rfl⟩
 have hBw := hB
 rw [← hw1] at hBw
 have HB := As.mk hBw
 have k0 := hB.rd me1 0 (by simp)
 have k1 := hB.rd me1 1 (by simp)
 have k2 := hB.rd me1 2 (by simp)
 have k3 := hB.rd me1 3 (by simp)
 have k4 := hB.rd me1 4 (by simp)
 have k5 := hB.rd me1 5 (by simp)
 clear hB hBw iv H ok hP hpe
 have hkind := OK.out.kind
 have hv : o.v = .agg #[.int .i64 o.kind, .int .i64 o.p, .int .i64 o.s, .int .i64 o.a, .int .i64 o.n, .int .u8 o.b] := rfl
 by_cases c1 : o.kind = 1
 · have hP := HP0.out
   rw [if_pos c1] at hP
   have HP := As.mk hP
   rw [hv]
   simp only [c1] at k0
   rw [c1] at hw1
   have HRE := As.mk (heap_aligned h c s mem _ R w0 w1 o.s 1 HB.out IV.out (Or.inr (Or.inr ⟨0, by decide, rfl⟩)))
   clear hP hv
   go_enter Tryz.func16, Tryz.ntmps16
   go_wp2_with fail
   rw [← hw1]
   clear k0 k1 k2 k3 k4 k5
   refine HRE.out.mono ?_
   obtain ⟨r, hr⟩ : ∃ r, r = alignedP c s o.s 1 := ⟨_, rfl⟩
   rw [← hr] at HP ⊢
   have HR := As.mk hr
   clear hr HRE
   rintro e w4 ⟨rfl, mem', ho, hme⟩
   have HO4 := As.mk ho
   have HM := As.mk hme
   clear ho hme
   dsimp only [An.v]
   have t0 := HO4.out.rd me0 0 (by simp)
   have f0 := HO4.out.frz me0 0
   have t1 := HO4.out.rd me0 1 (by simp)
   have f1 := HO4.out.frz me0 1
   have t2 := HO4.out.rd me0 2 (by simp)
   have f2 := HO4.out.frz me0 2
   have t3 := HO4.out.rd me0 3 (by simp)
   have f3 := HO4.out.frz me0 3
   have t4 := HO4.out.rd me0 4 (by simp)
   have f4 := HO4.out.frz me0 4
   have t5 := HO4.out.rd me0 5 (by simp)
   have f5 := HO4.out.frz me0 5
   have t6 := HO4.out.rd me0 6 (by simp)
   have f6 := HO4.out.frz me0 6
   have t7 := HO4.out.rd me0 7 (by simp)
   have f7 := HO4.out.frz me0 7
   have HF := As.mk ((((((((HO4.out.set 0 rfl 0 (.int .i64 r.2.err) (by simp)).set 0 rfl 1 (.int .i64 r.2.at_) (by simp)).set 0 rfl 2 (.int .i64 r.2.n) (by simp)).set 0 rfl 3 (.int .u8 r.2.byte) (by simp)).set 0 rfl 4 (.int .i64 r.2.live) (by simp)).set 0 rfl 5 (.int .i64 r.2.peak) (by simp)).set 0 rfl 6 (.int .i64 r.2.mark) (by simp)).set 0 rfl 7 (.int .i64 r.2.pages) (by simp)).drop.drop
   go_wp2_with fail
   refine bodyPost_ret (v := .agg #[.int .i64 r.2.err, .int .i64 r.2.at_, .int .i64 r.2.n, .int .u8 r.2.byte, .int .i64 r.2.live, .int .i64 r.2.peak, .int .i64 r.2.mark, .int .i64 r.2.pages]) (by simp [results, Tryz.results16, go_sem, *]) rfl ?_
   rw [HP.out]
   refine ⟨rfl, mem', HF.out, fun h2 => absurd h2 (by omega), fun h4 _ => absurd h4 (by omega), fun h9 => absurd h9 (by omega)⟩
 · have n1 := beqF c1
   by_cases c2 : o.kind = 2
   · have hP := HP0.out
     rw [if_neg c1, if_pos c2] at hP
     have HP := As.mk hP
     rw [hv]
     simp only [c2] at k0
     rw [c2] at hw1
     have HRE := As.mk (heap_calloc h c s mem _ R w0 w1 o.n o.s HB.out IV.out OK.out.n OK.out.s)
     clear hP hv
     go_enter Tryz.func16, Tryz.ntmps16
     go_wp2_with fail
     rw [← hw1]
     clear k0 k1 k2 k3 k4 k5
     refine HRE.out.mono ?_
     obtain ⟨r, hr⟩ : ∃ r, r = callocP c s o.n o.s := ⟨_, rfl⟩
     rw [← hr] at HP ⊢
     have HR := As.mk hr
     clear hr HRE
     rintro e w4 ⟨rfl, mem', ho, hme⟩
     have HO4 := As.mk ho
     have HM := As.mk hme
     clear ho hme
     dsimp only [An.v]
     have t0 := HO4.out.rd me0 0 (by simp)
     have f0 := HO4.out.frz me0 0
     have t1 := HO4.out.rd me0 1 (by simp)
     have f1 := HO4.out.frz me0 1
     have t2 := HO4.out.rd me0 2 (by simp)
     have f2 := HO4.out.frz me0 2
     have t3 := HO4.out.rd me0 3 (by simp)
     have f3 := HO4.out.frz me0 3
     have t4 := HO4.out.rd me0 4 (by simp)
     have f4 := HO4.out.frz me0 4
     have t5 := HO4.out.rd me0 5 (by simp)
     have f5 := HO4.out.frz me0 5
     have t6 := HO4.out.rd me0 6 (by simp)
     have f6 := HO4.out.frz me0 6
     have t7 := HO4.out.rd me0 7 (by simp)
     have f7 := HO4.out.frz me0 7
     have HF := As.mk ((((((((HO4.out.set 0 rfl 0 (.int .i64 r.2.err) (by simp)).set 0 rfl 1 (.int .i64 r.2.at_) (by simp)).set 0 rfl 2 (.int .i64 r.2.n) (by simp)).set 0 rfl 3 (.int .u8 r.2.byte) (by simp)).set 0 rfl 4 (.int .i64 r.2.live) (by simp)).set 0 rfl 5 (.int .i64 r.2.peak) (by simp)).set 0 rfl 6 (.int .i64 r.2.mark) (by simp)).set 0 rfl 7 (.int .i64 r.2.pages) (by simp)).drop.drop
     go_wp2_with fail
     refine bodyPost_ret (v := .agg #[.int .i64 r.2.err, .int .i64 r.2.at_, .int .i64 r.2.n, .int .u8 r.2.byte, .int .i64 r.2.live, .int .i64 r.2.peak, .int .i64 r.2.mark, .int .i64 r.2.pages]) (by simp [results, Tryz.results16, go_sem, *]) rfl ?_
     rw [HP.out]
     refine ⟨rfl, mem', HF.out, fun _ => by rw [← HR.out]; exact HM.out.2, fun h4 _ => absurd h4 (by omega), fun h9 => absurd h9 (by omega)⟩
   · have n2 := beqF c2
     by_cases c3 : o.kind = 3
     · have hP := HP0.out
       rw [if_neg c1, if_neg c2, if_pos c3] at hP
       have HP := As.mk hP
       rw [hv]
       simp only [c3] at k0
       rw [c3] at hw1
       have HRE := As.mk (heap_aligned h c s mem _ R w0 w1 o.s o.a HB.out IV.out OK.out.a)
       clear hP hv
       go_enter Tryz.func16, Tryz.ntmps16
       go_wp2_with fail
       rw [← hw1]
       clear k0 k1 k2 k3 k4 k5
       refine HRE.out.mono ?_
       obtain ⟨r, hr⟩ : ∃ r, r = alignedP c s o.s o.a := ⟨_, rfl⟩
       rw [← hr] at HP ⊢
       have HR := As.mk hr
       clear hr HRE
       rintro e w4 ⟨rfl, mem', ho, hme⟩
       have HO4 := As.mk ho
       have HM := As.mk hme
       clear ho hme
       dsimp only [An.v]
       have t0 := HO4.out.rd me0 0 (by simp)
       have f0 := HO4.out.frz me0 0
       have t1 := HO4.out.rd me0 1 (by simp)
       have f1 := HO4.out.frz me0 1
       have t2 := HO4.out.rd me0 2 (by simp)
       have f2 := HO4.out.frz me0 2
       have t3 := HO4.out.rd me0 3 (by simp)
       have f3 := HO4.out.frz me0 3
       have t4 := HO4.out.rd me0 4 (by simp)
       have f4 := HO4.out.frz me0 4
       have t5 := HO4.out.rd me0 5 (by simp)
       have f5 := HO4.out.frz me0 5
       have t6 := HO4.out.rd me0 6 (by simp)
       have f6 := HO4.out.frz me0 6
       have t7 := HO4.out.rd me0 7 (by simp)
       have f7 := HO4.out.frz me0 7
       have HF := As.mk ((((((((HO4.out.set 0 rfl 0 (.int .i64 r.2.err) (by simp)).set 0 rfl 1 (.int .i64 r.2.at_) (by simp)).set 0 rfl 2 (.int .i64 r.2.n) (by simp)).set 0 rfl 3 (.int .u8 r.2.byte) (by simp)).set 0 rfl 4 (.int .i64 r.2.live) (by simp)).set 0 rfl 5 (.int .i64 r.2.peak) (by simp)).set 0 rfl 6 (.int .i64 r.2.mark) (by simp)).set 0 rfl 7 (.int .i64 r.2.pages) (by simp)).drop.drop
       go_wp2_with fail
       refine bodyPost_ret (v := .agg #[.int .i64 r.2.err, .int .i64 r.2.at_, .int .i64 r.2.n, .int .u8 r.2.byte, .int .i64 r.2.live, .int .i64 r.2.peak, .int .i64 r.2.mark, .int .i64 r.2.pages]) (by simp [results, Tryz.results16, go_sem, *]) rfl ?_
       rw [HP.out]
       refine ⟨rfl, mem', HF.out, fun h2 => absurd h2 (by omega), fun h4 _ => absurd h4 (by omega), fun h9 => absurd h9 (by omega)⟩
     · have n3 := beqF c3
       exact absurd h13 (by omega)
end Go.Proofs.YtmookafmdonopaaGreat.Top
