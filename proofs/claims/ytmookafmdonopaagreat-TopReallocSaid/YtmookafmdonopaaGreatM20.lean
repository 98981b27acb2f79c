/- (*heap.Heap).block walked. -/
import Derived.Test.YtmookafmdonopaaGreatM19
/- (*heap.Heap).block walked. -/
namespace Go.Proofs.YtmookafmdonopaaGreat.Top
open Go Go.RowKit Go.Instr Go.ChangeMaps
set_option linter.unusedVariables false
set_option linter.unusedSimpArgs false
attribute [local go_sem] max2_int min2_int max_two min_two max_three

/-- a call -/
structure Opp where
 (kind p s a n b : Int)
def Opp.v (o : Opp) : Value := .agg #[.int .i64 o.kind, .int .i64 o.p, .int .i64 o.s, .int .i64 o.a, .int .i64 o.n, .int .u8 o.b]
theorem equal101i (a : Int) (b : Nat) (w : World) : (Op.equal 101 (.agg #[.int .i64 a]) (keyV b)).run Tryz.prog w = .ok (decide (a = (b : Int))) w := by
 show (Op.equalIn 10000 101 (.agg #[.int .i64 a]) (keyV b)).run Tryz.prog w = _
 unfold keyV
 rw [Op.equalIn]
 simp [run_underlying Tryz.underlying101, stood101, equalIn3]
 rw [part3 _ (.int .i64 a) rfl]
 simp only [Result.andThen_ok]
 rw [part3 _ (.int .i64 (b : Int)) rfl]
 simp only [Result.andThen_ok, equalIn3]
 by_cases h : a = (b : Int)
 · subst h; simp
 · simp [h]
theorem find_neg (a : Int) (ha : a < 0) (w : World) : ∀ (es : List MapEntry) (ms : List (Nat × Value)) (i : Nat), MEs es ms → (findAsking 101 (.agg #[.int .i64 a]) es i).run Tryz.prog w = .ok none w
 | [], ms, i, h => rfl
 | e :: es, [], i, h => by simp [MEs] at h
 | e :: es, p :: r, i, h => by
  unfold MEs at h
  simp only [List.map_cons, List.cons.injEq, Prod.mk.injEq] at h
  obtain ⟨⟨h1, h2⟩, h3⟩ := h
  have hne : ¬ a = (p.1 : Int) := by omega
  simp only [findAsking, Sem.run_bind, h1, equal101i, Result.andThen_ok, hne, decide_false, Bool.false_eq_true, if_false]
  exact find_neg a ha w es r (i + 1) h3
theorem check101i' (d : Nat) (e : Bool) (a : Int) (w : World) : (checkKey e (d + 1 + 1) 101 (.agg #[.int .i64 a])).run Tryz.prog w = .ok () w := by
 rw [checkKey]
 simp [run_underlying Tryz.underlying101]
 rw [part3 _ (.int .i64 a) rfl]
 simp only [Result.andThen_ok, check3]
theorem check101i (e : Bool) (a : Int) (w : World) : (checkKey e 10000 101 (.agg #[.int .i64 a])).run Tryz.prog w = .ok () w := check101i' 9998 e a w
/-- which block begins there -/
def blkAt (s : Hs) (p : Int) : Option Bk := s.bl.find? fun b => decide ((b.at_ : Int) = p)
def lkV (c : Cf) (s : Hs) (p : Int) : Value := match blkAt s p with | some b => .tuple #[b.v c, .bool true] | none => .tuple #[.agg #[.int .i64 0, .int .i64 0, .int .i64 0], .bool false]
set_option maxRecDepth 100000 in
theorem blk_lookup {c : Cf} {s : Hs} (p : Int) (w : World) (g : Nat) (o : Obj) (ho : w.heap[g]? = some o) (hp : MapP (mapB c s.bl) o) :
 (Instr.lookup 77 (.map (some g)) (.agg #[.int .i64 p]) true).run Tryz.prog w = .ok (lkV c s p) w := by
 unfold lkV
 by_cases hp0 : p < 0
 · have hb : blkAt s p = none := by
    unfold blkAt
    rw [List.find?_eq_none]
    intro b _
    simp
    omega
   rw [hb]
   obtain ⟨es, clock, ms, rfl, hm, hn, hf⟩ := hp
   have hk : (findKey 101 (.agg #[.int .i64 p]) es.toList).run Tryz.prog w = .ok none w := by
    cases h : es.toList with
    | nil => simp [findKey, run_underlying Tryz.underlying101, findNow]
    | cons e r =>
     simp [findKey, run_underlying Tryz.underlying101, findNow, sameNow]
     rw [h] at hm
     exact find_neg p hp0 w (e :: r) ms 0 hm
   simp [Instr.lookup, run_underlying Tryz.underlying77, MapKept.run_getObj_map ho, check101i, hk, zero48, Result.andThen]
 · obtain ⟨a, rfl⟩ : ∃ a : Nat, p = (a : Int) := ⟨p.toNat, by omega⟩
   have h := lookup_run 77 48 Tryz.underlying77 _ w (zero48 w) g a true o ho _ hp
   have e : blkAt s (a : Int) = s.bl.find? fun b => decide (b.at_ = a) := by
    unfold blkAt
    congr 1
    funext b
    simp only [decide_eq_decide]
    omega
   rw [e]
   unfold keyV at h
   rw [h]
   unfold mapB
   cases s.bl.find? fun b => decide (b.at_ = a) <;> rfl
theorem blkAt_some {s : Hs} {p : Int} {b : Bk} (h : blkAt s p = some b) : b ∈ s.bl ∧ (b.at_ : Int) = p := by
 refine ⟨List.mem_of_find?_eq_some h, ?_⟩
 have := List.find?_some h
 simpa using this
/-- what a call to a block comes to; the bytes but for a Realloc's and a Store's -/
def blockP (c : Cf) (s : Hs) (mem : List Nat) (o : Opp) : Hs × An :=
 match blkAt s o.p with
 | none => (s, An.no 8)
 | some b => if o.kind = 4 then reallocP c s b o.s else if o.kind = 5 then (s.without b, An.no 0) else if o.kind = 6 then (s, ⟨0, 0, (b.ch c : Nat), 0, 0, 0, 0, 0⟩)
  else if o.n < 0 ∨ (b.ch c : Int) ≤ o.n then (s, An.no 9) else if o.kind = 7 then (s, ⟨0, 0, 0, ((mem.getD (b.at_ + o.n.toNat) 0 : Nat) : Int), 0, 0, 0, 0⟩) else (s, An.no 0)
/-- the bytes behind a Realloc -/
def ReMem (c : Cf) (s : Hs) (mem : List Nat) (b : Bk) (S : Int) (mem' : List Nat) : Prop :=
 ((reallocP c s b S).2.err ≠ 0 → mem' = mem) ∧ ((reallocP c s b S).2.err = 0 → ∀ i : Nat, (i : Int) < min (b.ch c : Int) (adm c ((sumB c s.bl - b.ch c : Nat) : Int) S 1).1 → mem'[(reallocP c s b S).2.at_.toNat + i]? = mem[b.at_ + i]?)
def BlMem (c : Cf) (s : Hs) (mem : List Nat) (o : Opp) (mem' : List Nat) : Prop :=
 (∀ b, blkAt s o.p = some b → o.kind = 4 → ReMem c s mem b o.s mem') ∧ (o.kind ≠ 4 → o.kind ≠ 8 → mem' = mem)
theorem HW.memSet {h : Nat} {c : Cf} {s : Hs} {mem : List Nat} {L : List (Nat × (Obj → Prop))} {R : World → Prop} {w0 w : World} (H : HW h c s mem L R w0 w) (d : Hd) (hd : w.cell? ⟨h, 17, none⟩ = some (.slice (some ⟨d.gy, 0, none⟩) c.H d.capy)) (i x : Nat) (hi : i < c.H) :
 HW h c s (mem.set i x) L R w0 (w.setCell ⟨d.gy, i, none⟩ (.int .u8 (x : Int))) := by
 obtain ⟨d', e1, e2, a, b1, b2, b3⟩ := H.memBlk d hd
 have hs := b3.set 0 rfl i (.int .u8 (x : Int)) (by rw [bytesV_len, a]; exact hi)
 simp only [zq5, bytesV_set] at hs
 rw [e1] at hs
 rw [← e1] at hs ⊢
 exact HW.memBack (by rw [List.length_set, a]) b1 b2 hs
set_option maxHeartbeats 8000000 in
set_option maxRecDepth 100000 in
theorem heap_block (h : Nat) (c : Cf) (s : Hs) (mem : List Nat) (L : List (Nat × (Obj → Prop))) (R : World → Prop) (w0 w : World) (o : Opp) (H : HW h c s mem L R w0 w) (iv : Iv c s) (hk : 4 ≤ o.kind ∧ o.kind ≤ 8) (hb8 : 0 ≤ o.b ∧ o.b < 256) :
 Calls Tryz.prog 41 #[.pointer (some ⟨h, 0, none⟩), o.v] w fun e w' => e = .returned (blockP c s mem o).2.v ∧ ∃ mem', HW h c (blockP c s mem o).1 mem' L R w0 w' ∧ BlMem c s mem o mem' := by
 have IV := As.mk iv
 have hB := (H.box #[.int .i64 o.kind, .int .i64 o.p, .int .i64 o.s, .int .i64 o.a, .int .i64 o.n, .int .u8 o.b] 42).box #[.int .i64 0, .int .i64 0, .int .i64 0, .int .u8 0, .int .i64 0, .int .i64 0, .int .i64 0, .int .i64 0] 39
 rw [World.size_alloc] at hB
 have HB := As.mk hB
 obtain ⟨w1, hw1⟩ : ∃ w1, w1 = (w.alloc (.cells #[.int .i64 o.kind, .int .i64 o.p, .int .i64 o.s, .int .i64 o.a, .int .i64 o.n, .int .u8 o.b] 42)).alloc (.cells #[.int .i64 0, .int .i64 0, .int .i64 0, .int .u8 0, .int .i64 0, .int .i64 0, .int .i64 0, .int .i64 0] 39) := ⟨_, rfl⟩
 rw [← hw1] at HB
 clear hB iv H
 unfold Opp.v
 go_enter Tryz.func41, Tryz.ntmps41
 go_wp2_with fail
 rw [← hw1]
 clear hw1
 have HLK := As.mk (fun (W : World) (gm : Nat) (hd : W.cell? ⟨h, 11, none⟩ = some (.map (some gm))) (L' : List (Nat × (Obj → Prop))) (R' : World → Prop) (k : HW h c s mem L' R' w0 W) => show (Instr.lookup 77 (.map (some gm)) (.agg #[.int .i64 o.p]) true).run Tryz.prog W = .ok (lkV c s o.p) W from by
  obtain ⟨a, d, b1, b2, b3⟩ := k
  have e := (b3.hc me1).c11
  rw [hd] at e
  simp only [Option.some.injEq, Value.map.injEq] at e
  obtain ⟨x, hx, hxp⟩ := b3.at_ _ _ me2
  exact blk_lookup o.p W gm x (by rw [e]; exact hx) hxp)
 obtain ⟨d, dz, _⟩ := HB.out.hc
 have z11 := dz.c11
 have x1 := HB.out.rd me1 1 (by simp)
 have hlk := HLK.out w1.drew d.gm z11 _ _ HB.out.drew
 obtain ⟨v0, v1, v2, is, hv, hcase⟩ : ∃ v0 v1 v2 : Nat, ∃ is : Bool, lkV c s o.p = .tuple #[.agg #[.int .i64 v0, .int .i64 v1, .int .i64 v2], .bool is] ∧ ((is = false ∧ blkAt s o.p = none) ∨ (is = true ∧ ∃ b, blkAt s o.p = some b ∧ v0 = b.at_ ∧ v1 = b.ch c ∧ b.v c = .agg #[.int .i64 v0, .int .i64 v1, .int .i64 v2])) := by
  unfold lkV
  cases hx : blkAt s o.p with
  | none => exact ⟨0, 0, 0, false, rfl, Or.inl ⟨rfl, rfl⟩⟩
  | some b => exact ⟨b.at_, b.ch c, b.asked, true, rfl, Or.inr ⟨rfl, b, rfl, rfl, rfl, rfl⟩⟩
 have HCASE := As.mk hcase
 have HLK2 := As.mk (fun (W : World) (hd : W.cell? ⟨h, 11, none⟩ = some (.map (some d.gm))) (L' : List (Nat × (Obj → Prop))) (R' : World → Prop) (k : HW h c s mem L' R' w0 W) => (HLK.out W d.gm hd L' R' k).trans (by rw [hv]))
 rw [hv] at hlk
 clear hcase HLK dz hv
 refine rgn [(0, 1), (1, 1), (2, 1), (3, 0), (4, 1), (5, 0), (6, 1), (7, 0), (8, 1), (9, 1), (10, 1), (11, 2), (12, 3), (13, 1)] [12] (fun W => W.cell? ⟨h, 11, none⟩ = some (.map (some d.gm)) ∧ W.cell? ⟨w.heap.size, 1, none⟩ = some (.int .i64 o.p) ∧ (Instr.lookup 77 (.map (some d.gm)) (.agg #[.int .i64 o.p]) true).run Tryz.prog W = .ok (.tuple #[.agg #[.int .i64 v0, .int .i64 v1, .int .i64 v2], .bool is]) W) (by kernel_rfl) (by kernel_rfl) (fun _ _ _ d _ h => by cases d <;> exact h) ⟨z11, x1, hlk⟩ ?_
 obtain ⟨w2, hw2⟩ : ∃ x, x = w1.drew := ⟨_, rfl⟩
 have hob := HB.out.drew
 have z11d : w2.cell? ⟨h, 11, none⟩ = some (.map (some d.gm)) := by rw [hw2]; exact z11
 rw [← hw2] at hob ⊢
 clear hw2 HB x1 hlk z11
 have HB := As.mk hob
 have HO1 := As.mk (hob.box #[.int .i64 0, .int .i64 0, .int .i64 0] 48)
 have HO2 := As.mk (hob.box #[.int .i64 v0, .int .i64 v1, .int .i64 v2] 48)
 have z11' := cell_below (box_below w2 (.cells #[.int .i64 0, .int .i64 0, .int .i64 0] 48)) z11d
 have hlk' := HLK2.out _ z11' _ _ HO1.out
 have x1' := HO1.out.rd me2 1 (by simp)
 have Z := As.mk (And.intro z11' (And.intro x1' hlk'))
 clear z11' x1' hlk' hob z11d HLK2
 iterate 3 (refine Run.pu (v := ?_) (a' := ?_) rfl rfl (Or.inl ⟨by rfl, ?_⟩) ?_ ?_; rotate_left 2; (focus (intro W; go_simp; with_reducible rfl)); (focus (simp only [Act.put, zq4, zq5, zq6]; rfl)))
 refine Run.rd (v := ?_) (a' := ?_) rfl rfl (Or.inl ⟨by rfl, ?_⟩) ?_ ?_; rotate_left 2; (focus (rintro W ⟨hW1, hW2, hW3⟩; go_simp; with_reducible rfl)); (focus (simp only [Act.put, zq4, zq5, zq6]; rfl))
 refine Run.pu (v := ?_) (a' := ?_) rfl rfl (Or.inl ⟨by rfl, ?_⟩) ?_ ?_; rotate_left 2; (focus (intro W; go_simp; with_reducible rfl)); (focus (simp only [Act.put, zq4, zq5, zq6]; rfl))
 refine Run.rd (v := ?_) (a' := ?_) rfl rfl (Or.inl ⟨by rfl, ?_⟩) ?_ ?_; rotate_left 2; (focus (rintro W ⟨hW1, hW2, hW3⟩; go_simp; with_reducible rfl)); (focus (simp only [Act.put, zq4, zq5, zq6]; rfl))
 refine Run.pu (v := ?_) (a' := ?_) rfl rfl (Or.inl ⟨by rfl, ?_⟩) ?_ ?_; rotate_left 2; (focus (intro W; go_simp; with_reducible rfl)); (focus (simp only [Act.put, zq4, zq5, zq6]; rfl))
 refine Run.rd (v := ?_) (a' := ?_) rfl rfl (Or.inl ⟨by rfl, ?_⟩) ?_ ?_; rotate_left 2; (focus (rintro W ⟨hW1, hW2, hW3⟩; go_simp; with_reducible rfl)); (focus (simp only [Act.put, zq4, zq5, zq6]; rfl))
 iterate 3 (refine Run.pu (v := ?_) (a' := ?_) rfl rfl (Or.inl ⟨by rfl, ?_⟩) ?_ ?_; rotate_left 2; (focus (intro W; go_simp; with_reducible rfl)); (focus (simp only [Act.put, zq4, zq5, zq6]; rfl)))
 refine Run.ef rfl (fun K hK => ?_)
 simp only [zq1, zq2, zq3]
 try simp only [zq4, zq5, zq6]
 go_wp2
 refine hK.out _ _ Z.out ?_
 clear hK K
 refine Run.la rfl (fun K hK => ?_)
 simp only [zq1, zq2, zq3]
 try simp only [zq4, zq5, zq6]
 go_wp2
 refine hK.out _ _ ?_
 clear hK K Z HO1
 refine Run.pu (v := ?_) (a' := ?_) rfl rfl (Or.inl ⟨by rfl, ?_⟩) ?_ ?_; rotate_left 2; (focus (intro W; go_simp; with_reducible rfl)); (focus (simp only [Act.put, zq4, zq5, zq6]; rfl))
 refine Run.nil ?_
 simp only [zq1, zq2, zq3]
 try simp only [zq4, zq5, zq6]
 obtain ⟨w3, hw3⟩ : ∃ x, x = w2.alloc (.cells #[.int .i64 v0, .int .i64 v1, .int .i64 v2] 48) := ⟨_, rfl⟩
 obtain ⟨q3, hq3⟩ : ∃ q, q = w2.heap.size := ⟨_, rfl⟩
 have ho := HO2.out
 rw [← hw3, ← hq3] at ho
 simp only [← hw3, ← hq3]
 clear hw3 hq3 HO2 HB
 have HO := As.mk ho
 clear ho
 rcases HCASE.out with ⟨rfl, hbk⟩ | ⟨rfl, b, hbk, hat, hch, hbv⟩
 · have hP : blockP c s mem o = (s, An.no 8) := by unfold blockP; rw [hbk]
   have HPN := As.mk hP
   clear hP
   have t0 := HO.out.rd me1 0 (by simp)
   have f0 := HO.out.frz me1 0
   have t1 := HO.out.rd me1 1 (by simp)
   have f1 := HO.out.frz me1 1
   have t2 := HO.out.rd me1 2 (by simp)
   have f2 := HO.out.frz me1 2
   have t3 := HO.out.rd me1 3 (by simp)
   have f3 := HO.out.frz me1 3
   have t4 := HO.out.rd me1 4 (by simp)
   have f4 := HO.out.frz me1 4
   have t5 := HO.out.rd me1 5 (by simp)
   have f5 := HO.out.frz me1 5
   have t6 := HO.out.rd me1 6 (by simp)
   have f6 := HO.out.frz me1 6
   have t7 := HO.out.rd me1 7 (by simp)
   have f7 := HO.out.frz me1 7
   have HF := As.mk ((((((((HO.out.set 1 rfl 0 (.int .i64 8) (by simp)).set 1 rfl 1 (.int .i64 0) (by simp)).set 1 rfl 2 (.int .i64 0) (by simp)).set 1 rfl 3 (.int .u8 0) (by simp)).set 1 rfl 4 (.int .i64 0) (by simp)).set 1 rfl 5 (.int .i64 0) (by simp)).set 1 rfl 6 (.int .i64 0) (by simp)).set 1 rfl 7 (.int .i64 0) (by simp)).drop.drop.drop
   go_wp2_with fail
   refine bodyPost_ret (v := .agg #[.int .i64 8, .int .i64 0, .int .i64 0, .int .u8 0, .int .i64 0, .int .i64 0, .int .i64 0, .int .i64 0]) (by simp [results, Tryz.results41, go_sem, *]) rfl ?_
   rw [HPN.out]
   refine ⟨rfl, mem, HF.out, fun b hb => ?_, fun _ _ => rfl⟩
   rw [hbk] at hb
   cases hb
 · obtain ⟨hbm, hbp⟩ := blkAt_some hbk
   have hP : blockP c s mem o = if o.kind = 4 then reallocP c s b o.s else if o.kind = 5 then (s.without b, An.no 0) else if o.kind = 6 then (s, ⟨0, 0, (b.ch c : Nat), 0, 0, 0, 0, 0⟩)
    else if o.n < 0 ∨ (b.ch c : Int) ≤ o.n then (s, An.no 9) else if o.kind = 7 then (s, ⟨0, 0, 0, ((mem.getD (b.at_ + o.n.toNat) 0 : Nat) : Int), 0, 0, 0, 0⟩) else (s, An.no 0) := by unfold blockP; rw [hbk]
   have HPB := As.mk hP
   have HBK := As.mk hbk
   have HBM := As.mk hbm
   have HBV := As.mk hbv
   have HAC := As.mk (And.intro hat hch)
   have hfit := IV.out.inv.fits b hbm
   rw [← hat, ← hch] at hfit
   have hsm := IV.out.small
   have k0 := HO.out.rd me2 0 (by simp)
   clear hP hbk hbm hbv hat hch hbp HCASE
   by_cases c4 : o.kind = 4
   · have hP := HPB.out
     rw [if_pos c4] at hP
     have y0 := HO.out.rd me0 0 (by simp)
     have y1 := HO.out.rd me0 1 (by simp)
     have y2 := HO.out.rd me0 2 (by simp)
     have x2 := HO.out.rd me2 2 (by simp)
     have hre := heap_realloc h c s mem _ R w0 w3 b o.s HO.out IV.out HBM.out
     rw [HBV.out] at hre
     have HRE := As.mk hre
     have HPN := As.mk hP
     clear hP hre
     rw [c4] at k0
     go_wp2_with fail
     refine HRE.out.mono ?_
     obtain ⟨r, hr⟩ : ∃ r, r = reallocP c s b o.s := ⟨_, rfl⟩
     rw [← hr] at HPN ⊢
     have HR := As.mk hr
     rintro e w4 ⟨rfl, mem', ho, hm1, hm2⟩
     have HM := As.mk (And.intro hm1 hm2)
     have HO4 := As.mk ho
     clear ho hm1 hm2 HRE hr HO y0 y1 y2 x2 k0
     dsimp only [An.v]
     have t0 := HO4.out.rd me1 0 (by simp)
     have f0 := HO4.out.frz me1 0
     have t1 := HO4.out.rd me1 1 (by simp)
     have f1 := HO4.out.frz me1 1
     have t2 := HO4.out.rd me1 2 (by simp)
     have f2 := HO4.out.frz me1 2
     have t3 := HO4.out.rd me1 3 (by simp)
     have f3 := HO4.out.frz me1 3
     have t4 := HO4.out.rd me1 4 (by simp)
     have f4 := HO4.out.frz me1 4
     have t5 := HO4.out.rd me1 5 (by simp)
     have f5 := HO4.out.frz me1 5
     have t6 := HO4.out.rd me1 6 (by simp)
     have f6 := HO4.out.frz me1 6
     have t7 := HO4.out.rd me1 7 (by simp)
     have f7 := HO4.out.frz me1 7
     have HF := As.mk ((((((((HO4.out.set 1 rfl 0 (.int .i64 r.2.err) (by simp)).set 1 rfl 1 (.int .i64 r.2.at_) (by simp)).set 1 rfl 2 (.int .i64 r.2.n) (by simp)).set 1 rfl 3 (.int .u8 r.2.byte) (by simp)).set 1 rfl 4 (.int .i64 r.2.live) (by simp)).set 1 rfl 5 (.int .i64 r.2.peak) (by simp)).set 1 rfl 6 (.int .i64 r.2.mark) (by simp)).set 1 rfl 7 (.int .i64 r.2.pages) (by simp)).drop.drop.drop
     go_wp2_with fail
     refine bodyPost_ret (v := .agg #[.int .i64 r.2.err, .int .i64 r.2.at_, .int .i64 r.2.n, .int .u8 r.2.byte, .int .i64 r.2.live, .int .i64 r.2.peak, .int .i64 r.2.mark, .int .i64 r.2.pages]) (by simp [results, Tryz.results41, go_sem, *]) rfl ?_
     rw [HPN.out]
     refine ⟨rfl, mem', HF.out, fun b' hb' _ => ?_, fun h4 _ => absurd c4 h4⟩
     rw [HBK.out] at hb'
     injection hb' with hb'
     subst hb'
     unfold ReMem
     rw [← HR.out]
     exact HM.out
   · have n4 := beqF c4
     by_cases c5 : o.kind = 5
     · have hP := HPB.out
       rw [if_neg c4, if_pos c5] at hP
       have HPN := As.mk hP
       clear hP
       have y0 := HO.out.rd me0 0 (by simp)
       have y1 := HO.out.rd me0 1 (by simp)
       have y2 := HO.out.rd me0 2 (by simp)
       obtain ⟨At, As_, nt, ct, ns, cs, z9, z10, ho1, hgon⟩ := HO.out.gone_ IV.out HBM.out
       have hgn := hgon _ _ w3 (fun W hW => hW) z9 z10 ho1
       rw [HBV.out] at hgn
       have HGN := As.mk hgn
       rw [c5] at k0
       clear hgn hgon ho1 z9 z10
       go_wp2_with fail
       refine HGN.out.mono ?_
       rintro e w4 ⟨rfl, ho⟩
       have HO4 := As.mk ho
       clear ho HGN HO y0 y1 y2 k0
       have t0 := HO4.out.rd me1 0 (by simp)
       have f0 := HO4.out.frz me1 0
       have t1 := HO4.out.rd me1 1 (by simp)
       have f1 := HO4.out.frz me1 1
       have t2 := HO4.out.rd me1 2 (by simp)
       have f2 := HO4.out.frz me1 2
       have t3 := HO4.out.rd me1 3 (by simp)
       have f3 := HO4.out.frz me1 3
       have t4 := HO4.out.rd me1 4 (by simp)
       have f4 := HO4.out.frz me1 4
       have t5 := HO4.out.rd me1 5 (by simp)
       have f5 := HO4.out.frz me1 5
       have t6 := HO4.out.rd me1 6 (by simp)
       have f6 := HO4.out.frz me1 6
       have t7 := HO4.out.rd me1 7 (by simp)
       have f7 := HO4.out.frz me1 7
       have HF := As.mk ((((((((HO4.out.set 1 rfl 0 (.int .i64 0) (by simp)).set 1 rfl 1 (.int .i64 0) (by simp)).set 1 rfl 2 (.int .i64 0) (by simp)).set 1 rfl 3 (.int .u8 0) (by simp)).set 1 rfl 4 (.int .i64 0) (by simp)).set 1 rfl 5 (.int .i64 0) (by simp)).set 1 rfl 6 (.int .i64 0) (by simp)).set 1 rfl 7 (.int .i64 0) (by simp)).drop.drop.drop
       go_wp2_with fail
       refine bodyPost_ret (v := .agg #[.int .i64 0, .int .i64 0, .int .i64 0, .int .u8 0, .int .i64 0, .int .i64 0, .int .i64 0, .int .i64 0]) (by simp [results, Tryz.results41, go_sem, *]) rfl ?_
       rw [HPN.out]
       exact ⟨rfl, mem, HF.out.imp fun W hW => hW.1, fun b' _ h4 => absurd h4 c4, fun _ _ => rfl⟩
     · have n5 := beqF c5
       by_cases c6 : o.kind = 6
       · have hP := HPB.out
         rw [if_neg c4, if_neg c5, if_pos c6] at hP
         have HPN := As.mk hP
         clear hP
         have y1 := HO.out.rd me0 1 (by simp)
         rw [c6] at k0
         have t0 := HO.out.rd me1 0 (by simp)
         have f0 := HO.out.frz me1 0
         have t1 := HO.out.rd me1 1 (by simp)
         have f1 := HO.out.frz me1 1
         have t2 := HO.out.rd me1 2 (by simp)
         have f2 := HO.out.frz me1 2
         have t3 := HO.out.rd me1 3 (by simp)
         have f3 := HO.out.frz me1 3
         have t4 := HO.out.rd me1 4 (by simp)
         have f4 := HO.out.frz me1 4
         have t5 := HO.out.rd me1 5 (by simp)
         have f5 := HO.out.frz me1 5
         have t6 := HO.out.rd me1 6 (by simp)
         have f6 := HO.out.frz me1 6
         have t7 := HO.out.rd me1 7 (by simp)
         have f7 := HO.out.frz me1 7
         have HF := As.mk ((((((((HO.out.set 1 rfl 0 (.int .i64 0) (by simp)).set 1 rfl 1 (.int .i64 0) (by simp)).set 1 rfl 2 (.int .i64 v1) (by simp)).set 1 rfl 3 (.int .u8 0) (by simp)).set 1 rfl 4 (.int .i64 0) (by simp)).set 1 rfl 5 (.int .i64 0) (by simp)).set 1 rfl 6 (.int .i64 0) (by simp)).set 1 rfl 7 (.int .i64 0) (by simp)).drop.drop.drop
         go_wp2_with fail
         refine bodyPost_ret (v := .agg #[.int .i64 0, .int .i64 0, .int .i64 v1, .int .u8 0, .int .i64 0, .int .i64 0, .int .i64 0, .int .i64 0]) (by simp [results, Tryz.results41, go_sem, *]) rfl ?_
         rw [HPN.out]
         exact ⟨by rw [← HAC.out.2]; rfl, mem, HF.out, fun b' _ h4 => absurd h4 c4, fun _ _ => rfl⟩
       · have n6 := beqF c6
         have hP := HPB.out
         rw [if_neg c4, if_neg c5, if_neg c6, ← HAC.out.1, ← HAC.out.2] at hP
         have y1 := HO.out.rd me0 1 (by simp)
         have x4 := HO.out.rd me2 4 (by simp)
         by_cases cn : o.n < 0
         · rw [if_pos (Or.inl cn)] at hP
           have HPN := As.mk hP
           clear hP
           have d1 : decide (o.n < 0) = true := decide_eq_true cn
           have t0 := HO.out.rd me1 0 (by simp)
           have f0 := HO.out.frz me1 0
           have t1 := HO.out.rd me1 1 (by simp)
           have f1 := HO.out.frz me1 1
           have t2 := HO.out.rd me1 2 (by simp)
           have f2 := HO.out.frz me1 2
           have t3 := HO.out.rd me1 3 (by simp)
           have f3 := HO.out.frz me1 3
           have t4 := HO.out.rd me1 4 (by simp)
           have f4 := HO.out.frz me1 4
           have t5 := HO.out.rd me1 5 (by simp)
           have f5 := HO.out.frz me1 5
           have t6 := HO.out.rd me1 6 (by simp)
           have f6 := HO.out.frz me1 6
           have t7 := HO.out.rd me1 7 (by simp)
           have f7 := HO.out.frz me1 7
           have HF := As.mk ((((((((HO.out.set 1 rfl 0 (.int .i64 9) (by simp)).set 1 rfl 1 (.int .i64 0) (by simp)).set 1 rfl 2 (.int .i64 0) (by simp)).set 1 rfl 3 (.int .u8 0) (by simp)).set 1 rfl 4 (.int .i64 0) (by simp)).set 1 rfl 5 (.int .i64 0) (by simp)).set 1 rfl 6 (.int .i64 0) (by simp)).set 1 rfl 7 (.int .i64 0) (by simp)).drop.drop.drop
           go_wp2_with fail
           refine bodyPost_ret (v := .agg #[.int .i64 9, .int .i64 0, .int .i64 0, .int .u8 0, .int .i64 0, .int .i64 0, .int .i64 0, .int .i64 0]) (by simp [results, Tryz.results41, go_sem, *]) rfl ?_
           rw [HPN.out]
           exact ⟨rfl, mem, HF.out, fun b' _ h4 => absurd h4 c4, fun _ _ => rfl⟩
         · have d1 : decide (o.n < 0) = false := decide_eq_false cn
           by_cases cm : (v1 : Int) ≤ o.n
           · rw [if_pos (Or.inr cm)] at hP
             have HPN := As.mk hP
             clear hP
             have d2 : decide ((v1 : Int) ≤ o.n) = true := decide_eq_true cm
             have t0 := HO.out.rd me1 0 (by simp)
             have f0 := HO.out.frz me1 0
             have t1 := HO.out.rd me1 1 (by simp)
             have f1 := HO.out.frz me1 1
             have t2 := HO.out.rd me1 2 (by simp)
             have f2 := HO.out.frz me1 2
             have t3 := HO.out.rd me1 3 (by simp)
             have f3 := HO.out.frz me1 3
             have t4 := HO.out.rd me1 4 (by simp)
             have f4 := HO.out.frz me1 4
             have t5 := HO.out.rd me1 5 (by simp)
             have f5 := HO.out.frz me1 5
             have t6 := HO.out.rd me1 6 (by simp)
             have f6 := HO.out.frz me1 6
             have t7 := HO.out.rd me1 7 (by simp)
             have f7 := HO.out.frz me1 7
             have HF := As.mk ((((((((HO.out.set 1 rfl 0 (.int .i64 9) (by simp)).set 1 rfl 1 (.int .i64 0) (by simp)).set 1 rfl 2 (.int .i64 0) (by simp)).set 1 rfl 3 (.int .u8 0) (by simp)).set 1 rfl 4 (.int .i64 0) (by simp)).set 1 rfl 5 (.int .i64 0) (by simp)).set 1 rfl 6 (.int .i64 0) (by simp)).set 1 rfl 7 (.int .i64 0) (by simp)).drop.drop.drop
             go_wp2_with fail
             refine bodyPost_ret (v := .agg #[.int .i64 9, .int .i64 0, .int .i64 0, .int .u8 0, .int .i64 0, .int .i64 0, .int .i64 0, .int .i64 0]) (by simp [results, Tryz.results41, go_sem, *]) rfl ?_
             rw [HPN.out]
             exact ⟨rfl, mem, HF.out, fun b' _ h4 => absurd h4 c4, fun _ _ => rfl⟩
           · have d2 : decide ((v1 : Int) ≤ o.n) = false := decide_eq_false cm
             rw [if_neg (by omega)] at hP
             obtain ⟨nn, hnn⟩ : ∃ nn : Nat, o.n = (nn : Int) := ⟨o.n.toNat, by omega⟩
             obtain ⟨ix, hix⟩ : ∃ ix, ix = v0 + nn := ⟨_, rfl⟩
             have hixH : ix < c.H := by omega
             have E1 := As.mk (show IntKind.i64.wrap ((v0 : Int) + (nn : Int)) = (ix : Int) by rw [hix, ← Int.natCast_add]; exact iw64 _ (by omega) (by omega))
             rw [hnn, Int.toNat_natCast, ← hix] at hP
             obtain ⟨d2', dz, dcap, dcapy, dmem, dfrz, -⟩ := HO.out.hc
             have z17 := dz.c17
             rw [Hd.mem] at z17
             have y0 := HO.out.rd me0 0 (by simp)
             have x4n := x4
             simp only [List.getElem?_cons_succ, List.getElem?_cons_zero, hnn] at x4n
             have hmem := dmem ix hixH
             have hml := HO.out.1
             obtain ⟨by_, hby⟩ : ∃ y, mem[ix]? = some y := ⟨mem[ix]'(by omega), List.getElem?_eq_getElem _⟩
             have hbyv : (bytesV mem)[ix]? = some (.int .u8 (by_ : Int)) := by simp [bytesV, hby]
             rw [hbyv] at hmem
             by_cases c7 : o.kind = 7
             · rw [if_pos c7, List.getD_eq_getElem?_getD, hby, Option.getD_some] at hP
               have HPN := As.mk hP
               rw [c7] at k0
               clear hP dz dcap hnn hix hby hbyv
               have hcy : c.H ≤ d2'.capy := dcapy
               go_wp2_with fail
               refine rgn [(0, 1), (1, 1), (2, 1), (3, 0), (4, 1), (5, 0), (6, 1), (7, 0), (8, 1), (9, 1), (10, 0), (11, 1), (12, 3)] [12] (fun W => W.cell? ⟨h, 17, none⟩ = some (.slice (some ⟨d2'.gy, 0, none⟩) c.H d2'.capy) ∧ W.cell? ⟨q3, 0, none⟩ = some (.int .i64 v0) ∧ W.cell? ⟨w.heap.size, 4, none⟩ = some (.int .i64 nn) ∧ W.cell? ⟨d2'.gy, ix, none⟩ = some (.int .u8 (by_ : Int))) (by kernel_rfl) (by kernel_rfl) (fun _ _ _ d _ h => by cases d <;> exact h) ⟨z17, y0, x4n, hmem⟩ ?_
               obtain ⟨w4, hw4⟩ : ∃ x, x = w3.drew := ⟨_, rfl⟩
               have hod := HO.out.drew
               rw [← hw4] at hod ⊢
               have HOD := As.mk hod
               clear hw4 hod HO y0 y1 x4 x4n z17 hmem dmem dfrz k0
               iterate 3 (refine Run.pu (v := ?_) (a' := ?_) rfl rfl (Or.inl ⟨by rfl, ?_⟩) ?_ ?_; rotate_left 2; (focus (intro W; go_simp; with_reducible rfl)); (focus (simp only [Act.put, zq4, zq5, zq6]; rfl)))
               refine Run.rd (v := ?_) (a' := ?_) rfl rfl (Or.inl ⟨by rfl, ?_⟩) ?_ ?_; rotate_left 2; (focus (rintro W ⟨hW1, hW2, hW3, hW4⟩; go_simp; with_reducible rfl)); (focus (simp only [Act.put, zq4, zq5, zq6]; rfl))
               refine Run.pu (v := ?_) (a' := ?_) rfl rfl (Or.inl ⟨by rfl, ?_⟩) ?_ ?_; rotate_left 2; (focus (intro W; go_simp; with_reducible rfl)); (focus (simp only [Act.put, zq4, zq5, zq6]; rfl))
               refine Run.rd (v := ?_) (a' := ?_) rfl rfl (Or.inl ⟨by rfl, ?_⟩) ?_ ?_; rotate_left 2; (focus (rintro W ⟨hW1, hW2, hW3, hW4⟩; go_simp; with_reducible rfl)); (focus (simp only [Act.put, zq4, zq5, zq6]; rfl))
               refine Run.pu (v := ?_) (a' := ?_) rfl rfl (Or.inl ⟨by rfl, ?_⟩) ?_ ?_; rotate_left 2; (focus (intro W; go_simp; with_reducible rfl)); (focus (simp only [Act.put, zq4, zq5, zq6]; rfl))
               refine Run.rd (v := ?_) (a' := ?_) rfl rfl (Or.inl ⟨by rfl, ?_⟩) ?_ ?_; rotate_left 2; (focus (rintro W ⟨hW1, hW2, hW3, hW4⟩; go_simp; with_reducible rfl)); (focus (simp only [Act.put, zq4, zq5, zq6]; rfl))
               refine Run.pu (v := ?_) (a' := ?_) rfl rfl (Or.inl ⟨by rfl, ?_⟩) ?_ ?_
               rotate_left 2
               · intro W; go_simp; simp only [E1.out]; with_reducible rfl
               · simp only [Act.put, zq4, zq5, zq6]; rfl
               refine Run.pu (v := ?_) (a' := ?_) rfl rfl (Or.inl ⟨by rfl, ?_⟩) ?_ ?_; rotate_left 2; (focus (intro W; go_simp; with_reducible rfl)); (focus (simp only [Act.put, zq4, zq5, zq6]; rfl))
               refine Run.rd (v := ?_) (a' := ?_) rfl rfl (Or.inl ⟨by rfl, ?_⟩) ?_ ?_; rotate_left 2; (focus (rintro W ⟨hW1, hW2, hW3, hW4⟩; go_simp; with_reducible rfl)); (focus (simp only [Act.put, zq4, zq5, zq6]; rfl))
               refine Run.pu (v := ?_) (a' := ?_) rfl rfl (Or.inl ⟨by rfl, ?_⟩) ?_ ?_; rotate_left 2; (focus (intro W; go_simp; with_reducible rfl)); (focus (simp only [Act.put, zq4, zq5, zq6]; rfl))
               refine Run.la rfl (fun K hK => ?_)
               simp only [zq1, zq2, zq3]
               try simp only [zq4, zq5, zq6]
               have t0 := HOD.out.rd me1 0 (by simp)
               have f0 := HOD.out.frz me1 0
               have t1 := HOD.out.rd me1 1 (by simp)
               have f1 := HOD.out.frz me1 1
               have t2 := HOD.out.rd me1 2 (by simp)
               have f2 := HOD.out.frz me1 2
               have t3 := HOD.out.rd me1 3 (by simp)
               have f3 := HOD.out.frz me1 3
               have t4 := HOD.out.rd me1 4 (by simp)
               have f4 := HOD.out.frz me1 4
               have t5 := HOD.out.rd me1 5 (by simp)
               have f5 := HOD.out.frz me1 5
               have t6 := HOD.out.rd me1 6 (by simp)
               have f6 := HOD.out.frz me1 6
               have t7 := HOD.out.rd me1 7 (by simp)
               have f7 := HOD.out.frz me1 7
               have HF := As.mk ((((((((HOD.out.set 1 rfl 0 (.int .i64 0) (by simp)).set 1 rfl 1 (.int .i64 0) (by simp)).set 1 rfl 2 (.int .i64 0) (by simp)).set 1 rfl 3 (.int .u8 by_) (by simp)).set 1 rfl 4 (.int .i64 0) (by simp)).set 1 rfl 5 (.int .i64 0) (by simp)).set 1 rfl 6 (.int .i64 0) (by simp)).set 1 rfl 7 (.int .i64 0) (by simp)).drop.drop.drop
               clear HOD
               go_wp2
               refine hK.out _ _ ?_
               clear hK K
               refine Run.nil ?_
               go_wp2_with fail
               refine bodyPost_ret (v := .agg #[.int .i64 0, .int .i64 0, .int .i64 0, .int .u8 by_, .int .i64 0, .int .i64 0, .int .i64 0, .int .i64 0]) (by simp [results, Tryz.results41, go_sem, *]) rfl ?_
               rw [HPN.out]
               exact ⟨rfl, mem, HF.out, fun b' _ h4 => absurd h4 c4, fun _ _ => rfl⟩
             · rw [if_neg c7] at hP
               have HPN := As.mk hP
               have n7 := beqF c7
               clear hP dz dcap hnn hix hby hbyv
               have hcy : c.H ≤ d2'.capy := dcapy
               obtain ⟨bb, hbb⟩ : ∃ bb : Nat, o.b = (bb : Int) := ⟨o.b.toNat, by omega⟩
               have x5 := HO.out.rd me2 5 (by simp)
               simp only [List.getElem?_cons_succ, List.getElem?_cons_zero, hbb] at x5
               clear hbb
               go_wp2_with fail
               refine rgn [(0, 1), (1, 1), (2, 1), (3, 0), (4, 1), (5, 0), (6, 1), (7, 0), (8, 1), (9, 1), (10, 0), (11, 1), (12, 3)] [12] (fun W => W.cell? ⟨h, 17, none⟩ = some (.slice (some ⟨d2'.gy, 0, none⟩) c.H d2'.capy) ∧ W.cell? ⟨q3, 0, none⟩ = some (.int .i64 v0) ∧ W.cell? ⟨w.heap.size, 4, none⟩ = some (.int .i64 nn) ∧ W.cell? ⟨w.heap.size, 5, none⟩ = some (.int .u8 (bb : Int))) (by kernel_rfl) (by kernel_rfl) (fun _ _ _ d _ h => by cases d <;> exact h) ⟨z17, y0, x4n, x5⟩ ?_
               obtain ⟨w4, hw4⟩ : ∃ x, x = w3.drew := ⟨_, rfl⟩
               have hod := HO.out.drew
               have hmem4 : w4.cell? ⟨d2'.gy, ix, none⟩ = some (.int .u8 (by_ : Int)) := by rw [hw4]; exact hmem
               have hfrz4 : w4.frozen? ⟨d2'.gy, ix, none⟩ = false := by rw [hw4]; exact dfrz ix
               have z17d : w4.cell? ⟨h, 17, none⟩ = some (.slice (some ⟨d2'.gy, 0, none⟩) c.H d2'.capy) := by rw [hw4]; exact z17
               rw [← hw4] at hod ⊢
               have HOS := As.mk (hod.memSet d2' z17d ix bb hixH)
               clear hw4 hod HO y0 y1 x4 x4n x5 z17 z17d hmem dmem dfrz k0
               iterate 3 (refine Run.pu (v := ?_) (a' := ?_) rfl rfl (Or.inl ⟨by rfl, ?_⟩) ?_ ?_; rotate_left 2; (focus (intro W; go_simp; with_reducible rfl)); (focus (simp only [Act.put, zq4, zq5, zq6]; rfl)))
               refine Run.rd (v := ?_) (a' := ?_) rfl rfl (Or.inl ⟨by rfl, ?_⟩) ?_ ?_; rotate_left 2; (focus (rintro W ⟨hW1, hW2, hW3, hW4⟩; go_simp; with_reducible rfl)); (focus (simp only [Act.put, zq4, zq5, zq6]; rfl))
               refine Run.pu (v := ?_) (a' := ?_) rfl rfl (Or.inl ⟨by rfl, ?_⟩) ?_ ?_; rotate_left 2; (focus (intro W; go_simp; with_reducible rfl)); (focus (simp only [Act.put, zq4, zq5, zq6]; rfl))
               refine Run.rd (v := ?_) (a' := ?_) rfl rfl (Or.inl ⟨by rfl, ?_⟩) ?_ ?_; rotate_left 2; (focus (rintro W ⟨hW1, hW2, hW3, hW4⟩; go_simp; with_reducible rfl)); (focus (simp only [Act.put, zq4, zq5, zq6]; rfl))
               refine Run.pu (v := ?_) (a' := ?_) rfl rfl (Or.inl ⟨by rfl, ?_⟩) ?_ ?_; rotate_left 2; (focus (intro W; go_simp; with_reducible rfl)); (focus (simp only [Act.put, zq4, zq5, zq6]; rfl))
               refine Run.rd (v := ?_) (a' := ?_) rfl rfl (Or.inl ⟨by rfl, ?_⟩) ?_ ?_; rotate_left 2; (focus (rintro W ⟨hW1, hW2, hW3, hW4⟩; go_simp; with_reducible rfl)); (focus (simp only [Act.put, zq4, zq5, zq6]; rfl))
               refine Run.pu (v := ?_) (a' := ?_) rfl rfl (Or.inl ⟨by rfl, ?_⟩) ?_ ?_
               rotate_left 2
               · intro W; go_simp; simp only [E1.out]; with_reducible rfl
               · simp only [Act.put, zq4, zq5, zq6]; rfl
               refine Run.pu (v := ?_) (a' := ?_) rfl rfl (Or.inl ⟨by rfl, ?_⟩) ?_ ?_; rotate_left 2; (focus (intro W; go_simp; with_reducible rfl)); (focus (simp only [Act.put, zq4, zq5, zq6]; rfl))
               refine Run.rd (v := ?_) (a' := ?_) rfl rfl (Or.inl ⟨by rfl, ?_⟩) ?_ ?_; rotate_left 2; (focus (rintro W ⟨hW1, hW2, hW3, hW4⟩; go_simp; with_reducible rfl)); (focus (simp only [Act.put, zq4, zq5, zq6]; rfl))
               refine Run.pu (v := ?_) (a' := ?_) rfl rfl (Or.inl ⟨by rfl, ?_⟩) ?_ ?_; rotate_left 2; (focus (intro W; go_simp; with_reducible rfl)); (focus (simp only [Act.put, zq4, zq5, zq6]; rfl))
               refine Run.la rfl (fun K hK => ?_)
               simp only [zq1, zq2, zq3]
               try simp only [zq4, zq5, zq6]
               go_wp2
               refine hK.out _ _ ?_
               clear hK K
               refine Run.nil ?_
               obtain ⟨w5, hw5⟩ : ∃ x, x = w4.setCell ⟨d2'.gy, ix, none⟩ (.int .u8 (bb : Int)) := ⟨_, rfl⟩
               rw [← hw5] at HOS ⊢
               clear hw5 hmem4 hfrz4
               have t0 := HOS.out.rd me1 0 (by simp)
               have f0 := HOS.out.frz me1 0
               have t1 := HOS.out.rd me1 1 (by simp)
               have f1 := HOS.out.frz me1 1
               have t2 := HOS.out.rd me1 2 (by simp)
               have f2 := HOS.out.frz me1 2
               have t3 := HOS.out.rd me1 3 (by simp)
               have f3 := HOS.out.frz me1 3
               have t4 := HOS.out.rd me1 4 (by simp)
               have f4 := HOS.out.frz me1 4
               have t5 := HOS.out.rd me1 5 (by simp)
               have f5 := HOS.out.frz me1 5
               have t6 := HOS.out.rd me1 6 (by simp)
               have f6 := HOS.out.frz me1 6
               have t7 := HOS.out.rd me1 7 (by simp)
               have f7 := HOS.out.frz me1 7
               have HF := As.mk ((((((((HOS.out.set 1 rfl 0 (.int .i64 0) (by simp)).set 1 rfl 1 (.int .i64 0) (by simp)).set 1 rfl 2 (.int .i64 0) (by simp)).set 1 rfl 3 (.int .u8 0) (by simp)).set 1 rfl 4 (.int .i64 0) (by simp)).set 1 rfl 5 (.int .i64 0) (by simp)).set 1 rfl 6 (.int .i64 0) (by simp)).set 1 rfl 7 (.int .i64 0) (by simp)).drop.drop.drop
               go_wp2_with fail
               refine bodyPost_ret (v := .agg #[.int .i64 0, .int .i64 0, .int .i64 0, .int .u8 0, .int .i64 0, .int .i64 0, .int .i64 0, .int .i64 0]) (by simp [results, Tryz.results41, go_sem, *]) rfl ?_
               rw [HPN.out]
               exact ⟨rfl, _, HF.out, fun b' _ h4 => absurd h4 c4, fun h4 h8 => absurd (by omega) h8⟩
end Go.Proofs.YtmookafmdonopaaGreat.Top
