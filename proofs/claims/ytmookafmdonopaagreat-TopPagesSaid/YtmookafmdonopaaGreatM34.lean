/- (*heap.Heap).Do walked, goes on. -/
import Derived.Test.YtmookafmdonopaaGreatM21
/- (*heap.Heap).Do walked, goes on. -/
namespace Go.Proofs.YtmookafmdonopaaGreat.Top
open Go Go.RowKit Go.Instr Go.ChangeMaps
set_option linter.unusedVariables false
set_option linter.unusedSimpArgs false
attribute [local go_sem] max2_int min2_int max_two min_two max_three

set_option maxHeartbeats 8000000 in
set_option maxRecDepth 100000 in
theorem heap_Do_48 (h : Nat) (c : Cf) (s : Hs) (mem : List Nat) (L : List (Nat × (Obj → Prop))) (R : World → Prop) (w0 w : World) (o : Opp) (H : HW h c s mem L R w0 w) (iv : Iv c s) (ok : OpOk o) (h4 : 4 ≤ o.kind) (c8 : o.kind ≤ 8) :
 Calls Tryz.prog 16 #[.pointer (some ⟨h, 0, none⟩), o.v] w fun e w' => e = .returned (doP c s mem o).2.v ∧ ∃ mem', HW h c (doP c s mem o).1 mem' L R w0 w' ∧ DoMem c s mem o mem' := by
 have IV := As.mk iv
 have OK := As.mk ok
 have hP : doP c s mem o = doP c s mem o := rfl
 conv at hP => rhs; unfold doP
 obtain ⟨p, hpe⟩ : ∃ p, p = doP c s mem o := ⟨_, rfl⟩
 rw [← hpe] at hP ⊢
 have HP0 := As.mk hP
 have hB := (H.box #[.int .i64 o.kind, .int .i64 o.p, .int .i64 o.s, .int .i64 o.a, .int .i64 o.n, .int .u8 o.b] 42).box #[.int .i64 0, .int .i64 0, .int .i64 0, .int .u8 0, .int .i64 0, .int .i64 0, .int .i64 0, .int .i64 0] 39
 rw [World.size_alloc] at hB
 obtain ⟨w1, hw1⟩ : ∃ w1, w1 = (w.alloc (.cells #[.int .i64 o.kind, .int .i64 o.p, .int .i64 o.s, .int .i64 o.a, .int .i64 o.n, .int .u8 o.b] 42)).alloc (.cells #[.int .i64 0, .int .i64 0, .int .i64 0, .int .u8 0, .int .i64 0, .int .i64 0, .int .i64 0, .int .i64 0] 39) := ⟨_, rfl⟩
 have hBw := hB
 rw [← hw1] at hBw
 have HB := As.mk hBw
 have k0 := hB.rd me1 0 (by simp)
 have k1 := hB.rd me1 1 (by simp)
 have k2 := hB.rd me1 2 (by simp)
 have k3 := hB.rd me1 3 (by simp)
 have k4 := hB.rd me1 4 (by simp)
 have k5 := hB.rd me1 5 (by simp)
 clear hB hBw iv H ok hP hpe
 have hkind := OK.out.kind
 have hv : o.v = .agg #[.int .i64 o.kind, .int .i64 o.p, .int .i64 o.s, .int .i64 o.a, .int .i64 o.n, .int .u8 o.b] := rfl
 have c1 : ¬ o.kind = 1 := by omega
 have c2 : ¬ o.kind = 2 := by omega
 have c3 : ¬ o.kind = 3 := by omega
 have hP := HP0.out
 rw [if_neg c1, if_neg c2, if_neg c3, if_pos c8] at hP
 have HP := As.mk hP
 have hbl := heap_block h c s mem _ R w0 w1 o HB.out IV.out ⟨by omega, c8⟩ OK.out.b
 rw [hv] at hbl ⊢
 have HRE := As.mk hbl
 clear hbl hP hv
 have hk5 : o.kind = 4 ∨ o.kind = 5 ∨ o.kind = 6 ∨ o.kind = 7 ∨ o.kind = 8 := by omega
 have c4' : 4 ≤ o.kind := by omega
 have HC4 := As.mk c4'
 have HC8 := As.mk c8
 clear c1 c2 c3 c8 c4' hkind h4
 rcases hk5 with ck | ck | ck | ck | ck
 all_goals
  rw [ck] at hw1 k0 HRE HB
  have y0 := HB.out.rd me1 0 (by simp)
  have y1 := HB.out.rd me1 1 (by simp)
  have y2 := HB.out.rd me1 2 (by simp)
  have y3 := HB.out.rd me1 3 (by simp)
  have y4 := HB.out.rd me1 4 (by simp)
  have y5 := HB.out.rd me1 5 (by simp)
  go_enter Tryz.func16, Tryz.ntmps16
  go_wp2_with fail
  rw [← hw1]
  clear k0 k1 k2 k3 k4 k5 y0 y1 y2 y3 y4 y5
  refine HRE.out.mono ?_
  obtain ⟨r, hr⟩ : ∃ r, r = blockP c s mem o := ⟨_, rfl⟩
  rw [← hr] at HP ⊢
  have HR := As.mk hr
  clear hr HRE
  rintro e w4 ⟨rfl, mem', ho, hme⟩
  have HO4 := As.mk ho
  have HM := As.mk hme
  clear ho hme
  dsimp only [An.v]
  have t0 := HO4.out.rd me0 0 (by simp)
  have f0 := HO4.out.frz me0 0
  have t1 := HO4.out.rd me0 1 (by simp)
  have f1 := HO4.out.frz me0 1
  have t2 := HO4.out.rd me0 2 (by simp)
  have f2 := HO4.out.frz me0 2
  have t3 := HO4.out.rd me0 3 (by simp)
  have f3 := HO4.out.frz me0 3
  have t4 := HO4.out.rd me0 4 (by simp)
  have f4 := HO4.out.frz me0 4
  have t5 := HO4.out.rd me0 5 (by simp)
  have f5 := HO4.out.frz me0 5
  have t6 := HO4.out.rd me0 6 (by simp)
  have f6 := HO4.out.frz me0 6
  have t7 := HO4.out.rd me0 7 (by simp)
  have f7 := HO4.out.frz me0 7
  have HF := As.mk ((((((((HO4.out.set 0 rfl 0 (.int .i64 r.2.err) (by simp)).set 0 rfl 1 (.int .i64 r.2.at_) (by simp)).set 0 rfl 2 (.int .i64 r.2.n) (by simp)).set 0 rfl 3 (.int .u8 r.2.byte) (by simp)).set 0 rfl 4 (.int .i64 r.2.live) (by simp)).set 0 rfl 5 (.int .i64 r.2.peak) (by simp)).set 0 rfl 6 (.int .i64 r.2.mark) (by simp)).set 0 rfl 7 (.int .i64 r.2.pages) (by simp)).drop.drop
  go_wp2_with fail
  refine bodyPost_ret (v := .agg #[.int .i64 r.2.err, .int .i64 r.2.at_, .int .i64 r.2.n, .int .u8 r.2.byte, .int .i64 r.2.live, .int .i64 r.2.peak, .int .i64 r.2.mark, .int .i64 r.2.pages]) (by simp [results, Tryz.results16, go_sem, *]) rfl ?_
  rw [HP.out]
  refine ⟨rfl, mem', HF.out, fun h2 => absurd h2 (by omega), fun _ _ => HM.out, fun h9 => absurd h9 (by have := HC8.out; omega)⟩
end Go.Proofs.YtmookafmdonopaaGreat.Top
/- (*heap.Heap).Do walked, goes on. -/
namespace Go.Proofs.YtmookafmdonopaaGreat.Top
open Go Go.RowKit Go.Instr Go.ChangeMaps
set_option linter.unusedVariables false
set_option linter.unusedSimpArgs false
attribute [local go_sem] max2_int min2_int max_two min_two max_three

set_option maxHeartbeats 8000000 in
set_option maxRecDepth 100000 in
theorem heap_Do_9 (h : Nat) (c : Cf) (s : Hs) (mem : List Nat) (L : List (Nat × (Obj → Prop))) (R : World → Prop) (w0 w : World) (o : Opp) (H : HW h c s mem L R w0 w) (iv : Iv c s) (ok : OpOk o) (c9 : o.kind = 9) :
 Calls Tryz.prog 16 #[.pointer (some ⟨h, 0, none⟩), o.v] w fun e w' => e = .returned (doP c s mem o).2.v ∧ ∃ mem', HW h c (doP c s mem o).1 mem' L R w0 w' ∧ DoMem c s mem o mem' := by
 have IV := As.mk iv
 have OK := As.mk ok
 have hP : doP c s mem o = doP c s mem o := rfl
 conv at hP => rhs; unfold doP
 obtain ⟨p, hpe⟩ : ∃ p, p = doP c s mem o := ⟨_, rfl⟩
 rw [← hpe] at hP ⊢
 have HP0 := As.mk hP
 have hB := (H.box #[.int .i64 o.kind, .int .i64 o.p, .int .i64 o.s, .int .i64 o.a, .int .i64 o.n, .int .u8 o.b] 42).box #[.int .i64 0, .int .i64 0, .int .i64 0, .int .u8 0, .int .i64 0, .int .i64 0, .int .i64 0, .int .i64 0] 39
 rw [World.size_alloc] at hB
 obtain ⟨w1, hw1⟩ : ∃ w1, w1 = (w.alloc (.cells #[.int .i64 o.kind, .int .i64 o.p, .int .i64 o.s, .int .i64 o.a, .int .i64 o.n, .int .u8 o.b] 42)).alloc (.cells #[.int .i64 0, .int .i64 0, .int .i64 0, .int .u8 0, .int .i64 0, .int .i64 0, .int .i64 0, .int .i64 0] 39) := ⟨_, rfl⟩
 have hBw := hB
 rw [← hw1] at hBw
 have HB := As.mk hBw
 have k0 := hB.rd me1 0 (by simp)
 have k1 := hB.rd me1 1 (by simp)
 have k2 := hB.rd me1 2 (by simp)
 have k3 := hB.rd me1 3 (by simp)
 have k4 := hB.rd me1 4 (by simp)
 have k5 := hB.rd me1 5 (by simp)
 clear hB hBw iv H ok hP hpe
 have hkind := OK.out.kind
 have hv : o.v = .agg #[.int .i64 o.kind, .int .i64 o.p, .int .i64 o.s, .int .i64 o.a, .int .i64 o.n, .int .u8 o.b] := rfl
 have c1 : ¬ o.kind = 1 := by omega
 have c2 : ¬ o.kind = 2 := by omega
 have c3 : ¬ o.kind = 3 := by omega
 have c8 : ¬ o.kind ≤ 8 := by omega
 have hP := HP0.out
 rw [if_neg c1, if_neg c2, if_neg c3, if_neg c8, if_pos c9] at hP
 have HP := As.mk hP
 rw [hv]
 rw [c9] at hw1
 simp only [c9] at k0
 clear hP hv c1 c2 c3 c8 hkind
 go_enter Tryz.func16, Tryz.ntmps16
 go_wp2_with fail
 rw [← hw1]
 clear k0 k1 k2 k3 k4 k5 hw1
 obtain ⟨d, dz, dcap, dcapy, -, -, drow, donr, -⟩ := HB.out.hc
 have hnp1 : 1 ≤ c.H / c.Page := (Nat.le_div_iff_mul_le IV.out.good.p1).2 (by have := IV.out.good.bounds; omega)
 have hnpl : c.H / c.Page ≤ 65536 := Nat.le_trans (Nat.div_le_self _ _) IV.out.good.max_
 have hon := IV.out.on
 obtain ⟨np, hnp⟩ : ∃ np, np = c.H / c.Page := ⟨_, rfl⟩
 have z16 := dz.c16
 rw [Hd.on, ← hnp] at z16
 have HGP := As.mk (fun W L' R' (k : HW h c s mem L' R' w0 W) (hd : W.cell? ⟨h, 16, none⟩ = some (.slice d.Ao np d.co)) => show Calls Tryz.prog 43 #[.pointer (some ⟨h, 0, none⟩)] W (fun e w' => ∃ v, e = .returned v ∧ Fr W.heap.size w' 4 v np ((metB (metN c s.bl)).map Value.bool) ∧ Below W.heap.size W w') from by
  obtain ⟨d', dz', _, _, _, _, drow', _, _⟩ := k.hc
  have hml := metN_len c s.bl
  rw [hnp, ← hml]
  exact heap_pages h _ d'.cap (metN c s.bl) W (by rw [hml]; exact dz'.c15) (by rw [hml]; exact drow') (by rw [hml]; omega))
 have HTR := As.mk (fun W A2 c2 (h1 : Row W (.slice d.Ao np d.co) np (s.on.map Value.bool)) (h2 : Row W (.slice A2 np c2) np ((metB (metN c s.bl)).map Value.bool)) => commit_Trim_n d.Ao A2 d.co c2 np np s.on (metB (metN c s.bl)) W (by rw [hon, hnp]) (by rw [metB, List.length_map, metN_len, hnp]) h1 h2 (by omega) (by omega) rfl)
 have HROW := As.mk (fun W L' R' (k : HW h c s mem L' R' w0 W) (hd : W.cell? ⟨h, 16, none⟩ = some (.slice d.Ao np d.co)) => show Row W (.slice d.Ao np d.co) np (s.on.map Value.bool) from by
  obtain ⟨d', dz', _, _, _, _, _, don', _⟩ := k.hc
  have e := dz'.c16
  rw [hd, Hd.on, ← hnp] at e
  rw [Option.some.injEq] at e
  rw [e, hnp]
  exact don')
 have HNP := As.mk hnp
 have hnp6 : np ≤ 65536 := by omega
 have hnp0 : 1 ≤ np := by omega
 clear dz dcap dcapy drow donr hon hnp hnp1 hnpl
 refine rgn [(0, 1), (1, 1), (2, 1), (3, 1), (4, 0), (5, 1), (6, 2), (7, 2), (8, 1), (9, 1), (10, 1), (11, 1), (12, 1), (13, 3), (14, 1), (15, 3)] [13, 15] (fun W => W.cell? ⟨h, 16, none⟩ = some (.slice d.Ao np d.co)) (by kernel_rfl) (by kernel_rfl) (fun _ _ _ d _ h => by cases d <;> exact h) z16 ?_
 obtain ⟨w2, hw2⟩ : ∃ x, x = w1.drew := ⟨_, rfl⟩
 have hod := HB.out.drew
 have z16d : w2.cell? ⟨h, 16, none⟩ = some (.slice d.Ao np d.co) := by rw [hw2]; exact z16
 rw [← hw2] at hod ⊢
 have HOD := As.mk hod
 clear hw2 hod HB z16
 iterate 4 (refine Run.pu (v := ?_) (a' := ?_) rfl rfl (Or.inl ⟨by rfl, ?_⟩) ?_ ?_; rotate_left 2; (focus (intro W; go_simp; with_reducible rfl)); (focus (simp only [Act.put, zq4, zq5, zq6]; rfl)))
 refine Run.rd (v := ?_) (a' := ?_) rfl rfl (Or.inl ⟨by rfl, ?_⟩) ?_ ?_; rotate_left 2; (focus (intro W hW; go_simp; with_reducible rfl)); (focus (simp only [Act.put, zq4, zq5, zq6]; rfl))
 refine Run.pu (v := ?_) (a' := ?_) rfl rfl (Or.inl ⟨by rfl, ?_⟩) ?_ ?_; rotate_left 2; (focus (intro W; go_simp; with_reducible rfl)); (focus (simp only [Act.put, zq4, zq5, zq6]; rfl))
 refine Run.ef rfl (fun K hK => ?_)
 simp only [zq1, zq2, zq3]
 try simp only [zq4, zq5, zq6]
 go_wp2_with fail
 refine (HGP.out _ _ _ HOD.out z16d).mono ?_
 rintro e w3 ⟨v5, rfl, hfr, hb⟩
 obtain ⟨A5, c5, rfl⟩ := hfr.slice
 have z16e := cell_below hb z16d
 have HO3 := As.mk (HOD.out.result (R' := fun W => Row W (.slice A5 np c5) np ((metB (metN c s.bl)).map Value.bool)) hb (fun W hW => hfr.row hW))
 clear hfr hb HOD z16d HGP
 go_wp2
 refine hK.out _ _ z16e ?_
 clear hK K
 refine Run.ef rfl (fun K hK => ?_)
 simp only [zq1, zq2, zq3]
 go_wp2_with fail
 refine (HTR.out _ _ _ (HROW.out _ _ _ HO3.out z16e) HO3.out.now.2).mono ?_
 rintro e w4 ⟨v6, rfl, hfr, hb⟩
 obtain ⟨A6, c6, rfl⟩ := hfr.slice
 have z16f := cell_below hb z16e
 have ho4 := HO3.out.result (R' := fun W => Row W (.slice A6 np c6) np ((andL s.on (metB (metN c s.bl))).map Value.bool)) hb (fun W hW => hfr.row hW)
 have HO4 := As.mk ho4
 clear hfr hb HO3 z16e HTR HROW
 go_wp2
 refine hK.out _ _ z16f ?_
 clear hK K
 iterate 5 (refine Run.pu (v := ?_) (a' := ?_) rfl rfl (Or.inl ⟨by rfl, ?_⟩) ?_ ?_; rotate_left 2; (focus (intro W; go_simp; with_reducible rfl)); (focus (simp only [Act.put, zq4, zq5, zq6]; rfl)))
 refine Run.la rfl (fun K hK => ?_)
 simp only [zq1, zq2, zq3]
 try simp only [zq4, zq5, zq6]
 have f16 : w4.frozen? ⟨h, 16, none⟩ = false := by
  obtain ⟨a, d', b1, b2, b3⟩ := ho4
  exact b3.frozen me1 16
 have hso := HW.setOn ho4 A6 c6 (andL s.on (metB (metN c s.bl))) (fun W hW => by
  have h9 := hW.2
  rw [HNP.out] at h9
  exact h9)
 rw [← HNP.out] at hso
 have HO5 := As.mk hso
 clear hso ho4 HO4
 go_wp2
 refine hK.out _ _ ?_
 clear hK K
 obtain ⟨w5, hw5⟩ : ∃ x, x = w4.setCell ⟨h, 16, none⟩ (.slice A6 np c6) := ⟨_, rfl⟩
 rw [← hw5] at HO5 ⊢
 clear hw5 f16 z16f
 refine Run.pu (v := ?_) (a' := ?_) rfl rfl (Or.inl ⟨by rfl, ?_⟩) ?_ ?_; rotate_left 2; (focus (intro W; go_simp; with_reducible rfl)); (focus (simp only [Act.put, zq4, zq5, zq6]; rfl))
 refine Run.la rfl (fun K hK => ?_)
 simp only [zq1, zq2, zq3]
 try simp only [zq4, zq5, zq6]
 have t2 := HO5.out.rd me0 2 (by simp)
 have f2 := HO5.out.frz me0 2
 obtain ⟨nn, hnn⟩ : ∃ nn : Nat, nn = cntT (lessL s.on (metB (metN c s.bl))) := ⟨_, rfl⟩
 rw [← hnn]
 have HNN := As.mk hnn
 clear hnn
 have HO6 := As.mk (HO5.out.set 0 rfl 2 (.int .i64 nn) (by simp))
 simp only [zq6, zq5] at HO6
 go_wp2
 refine hK.out _ _ ?_
 clear hK K t2 f2 HO5
 refine Run.nil ?_
 obtain ⟨w6, hw6⟩ : ∃ x, x = w5.setCell ⟨w.heap.size + 1, 2, none⟩ (.int .i64 nn) := ⟨_, rfl⟩
 rw [← hw6] at HO6 ⊢
 clear hw6
 have t0 := HO6.out.rd me0 0 (by simp)
 have f0 := HO6.out.frz me0 0
 have t1 := HO6.out.rd me0 1 (by simp)
 have f1 := HO6.out.frz me0 1
 have t2 := HO6.out.rd me0 2 (by simp)
 have f2 := HO6.out.frz me0 2
 have t3 := HO6.out.rd me0 3 (by simp)
 have f3 := HO6.out.frz me0 3
 have t4 := HO6.out.rd me0 4 (by simp)
 have f4 := HO6.out.frz me0 4
 have t5 := HO6.out.rd me0 5 (by simp)
 have f5 := HO6.out.frz me0 5
 have t6 := HO6.out.rd me0 6 (by simp)
 have f6 := HO6.out.frz me0 6
 have t7 := HO6.out.rd me0 7 (by simp)
 have f7 := HO6.out.frz me0 7
 have HF := As.mk ((((((((HO6.out.set 0 rfl 0 (.int .i64 0) (by simp)).set 0 rfl 1 (.int .i64 0) (by simp)).set 0 rfl 2 (.int .i64 nn) (by simp)).set 0 rfl 3 (.int .u8 0) (by simp)).set 0 rfl 4 (.int .i64 0) (by simp)).set 0 rfl 5 (.int .i64 0) (by simp)).set 0 rfl 6 (.int .i64 0) (by simp)).set 0 rfl 7 (.int .i64 0) (by simp)).drop.drop
 go_wp2_with fail
 refine bodyPost_ret (v := .agg #[.int .i64 0, .int .i64 0, .int .i64 nn, .int .u8 0, .int .i64 0, .int .i64 0, .int .i64 0, .int .i64 0]) (by simp [results, Tryz.results16, go_sem, *]) rfl ?_
 rw [HP.out]
 exact ⟨by rw [HNN.out]; rfl, mem, HF.out.imp fun W hW => hW.1.1, fun h2 => absurd h2 (by omega), fun _ h8 => absurd h8 (by omega), fun _ => rfl⟩
set_option maxHeartbeats 8000000 in
set_option maxRecDepth 100000 in
theorem heap_Do_10 (h : Nat) (c : Cf) (s : Hs) (mem : List Nat) (L : List (Nat × (Obj → Prop))) (R : World → Prop) (w0 w : World) (o : Opp) (H : HW h c s mem L R w0 w) (iv : Iv c s) (ok : OpOk o) (c10 : o.kind = 10) :
 Calls Tryz.prog 16 #[.pointer (some ⟨h, 0, none⟩), o.v] w fun e w' => e = .returned (doP c s mem o).2.v ∧ ∃ mem', HW h c (doP c s mem o).1 mem' L R w0 w' ∧ DoMem c s mem o mem' := by
 have IV := As.mk iv
 have OK := As.mk ok
 have hP : doP c s mem o = doP c s mem o := rfl
 conv at hP => rhs; unfold doP
 obtain ⟨p, hpe⟩ : ∃ p, p = doP c s mem o := ⟨_, rfl⟩
 rw [← hpe] at hP ⊢
 have HP0 := As.mk hP
 have hB := (H.box #[.int .i64 o.kind, .int .i64 o.p, .int .i64 o.s, .int .i64 o.a, .int .i64 o.n, .int .u8 o.b] 42).box #[.int .i64 0, .int .i64 0, .int .i64 0, .int .u8 0, .int .i64 0, .int .i64 0, .int .i64 0, .int .i64 0] 39
 rw [World.size_alloc] at hB
 obtain ⟨w1, hw1⟩ : ∃ w1, w1 = (w.alloc (.cells #[.int .i64 o.kind, .int .i64 o.p, .int .i64 o.s, .int .i64 o.a, .int .i64 o.n, .int .u8 o.b] 42)).alloc (.cells #[.int .i64 0, .int .i64 0, .int .i64 0, .int .u8 0, .int .i64 0, .int .i64 0, .int .i64 0, .int .i64 0] 39) := ⟨_, rfl⟩
 have hBw := hB
 rw [← hw1] at hBw
 have HB := As.mk hBw
 have k0 := hB.rd me1 0 (by simp)
 have k1 := hB.rd me1 1 (by simp)
 have k2 := hB.rd me1 2 (by simp)
 have k3 := hB.rd me1 3 (by simp)
 have k4 := hB.rd me1 4 (by simp)
 have k5 := hB.rd me1 5 (by simp)
 clear hB hBw iv H ok hP hpe
 have hkind := OK.out.kind
 have hv : o.v = .agg #[.int .i64 o.kind, .int .i64 o.p, .int .i64 o.s, .int .i64 o.a, .int .i64 o.n, .int .u8 o.b] := rfl
 have c1 : ¬ o.kind = 1 := by omega
 have c2 : ¬ o.kind = 2 := by omega
 have c3 : ¬ o.kind = 3 := by omega
 have c8 : ¬ o.kind ≤ 8 := by omega
 have c9 : ¬ o.kind = 9 := by omega
 have hP := HP0.out
 rw [if_neg c1, if_neg c2, if_neg c3, if_neg c8, if_neg c9] at hP
 have HP := As.mk hP
 rw [hv]
 rw [c10] at hw1
 simp only [c10] at k0
 clear hP hv c1 c2 c3 c8 c9 hkind
 go_enter Tryz.func16, Tryz.ntmps16
 go_wp2_with fail
 rw [← hw1]
 clear k0 k1 k2 k3 k4 k5 hw1
 obtain ⟨d, dz, dcap, dcapy, -, -, drow, donr, -⟩ := HB.out.hc
 have hnpl : c.H / c.Page ≤ 65536 := Nat.le_trans (Nat.div_le_self _ _) IV.out.good.max_
 have hon := IV.out.on
 obtain ⟨np, hnp⟩ : ∃ np, np = c.H / c.Page := ⟨_, rfl⟩
 have z12 := dz.c12
 have z13 := dz.c13
 have z14 := dz.c14
 have z16 := dz.c16
 rw [Hd.on, ← hnp] at z16
 have HROW := As.mk (fun W L' R' (k : HW h c s mem L' R' w0 W) (hd : W.cell? ⟨h, 16, none⟩ = some (.slice d.Ao np d.co)) => show Row W (.slice d.Ao np d.co) np (s.on.map Value.bool) from by
  obtain ⟨d', dz', _, _, _, _, _, don', _⟩ := k.hc
  have e := dz'.c16
  rw [hd, Hd.on, ← hnp] at e
  rw [Option.some.injEq] at e
  rw [e, hnp]
  exact don')
 have HCT := As.mk (fun W (h1 : Row W (.slice d.Ao np d.co) np (s.on.map Value.bool)) => pin_Count_n d.Ao d.co np s.on W (by rw [hon, hnp]) h1 (by omega))
 have hl6 : sumB c s.bl ≤ 65536 := by have := IV.out.live; have := IV.out.good.bounds; omega
 have hnp6 : np ≤ 65536 := by omega
 clear dz dcap dcapy drow donr hon hnp hnpl
 refine rgn [(0, 1), (1, 1), (2, 1), (3, 0), (4, 1), (5, 1), (6, 1), (7, 0), (8, 1), (9, 1), (10, 1), (11, 0), (12, 1), (13, 1), (14, 1), (15, 0), (16, 2), (17, 1), (18, 3)] [18] (fun W => W.cell? ⟨h, 16, none⟩ = some (.slice d.Ao np d.co) ∧ W.cell? ⟨h, 12, none⟩ = some (.int .i64 (sumB c s.bl : Nat)) ∧ W.cell? ⟨h, 13, none⟩ = some (.int .i64 (s.peak : Nat)) ∧ W.cell? ⟨h, 14, none⟩ = some (.int .i64 (s.mark : Nat))) (by kernel_rfl) (by kernel_rfl) (fun _ _ _ d _ h => by cases d <;> exact h) ⟨z16, z12, z13, z14⟩ ?_
 obtain ⟨w2, hw2⟩ : ∃ x, x = w1.drew := ⟨_, rfl⟩
 have hod := HB.out.drew
 have Z := As.mk (show w2.cell? ⟨h, 16, none⟩ = some (.slice d.Ao np d.co) ∧ w2.cell? ⟨h, 12, none⟩ = some (.int .i64 (sumB c s.bl : Nat)) ∧ w2.cell? ⟨h, 13, none⟩ = some (.int .i64 (s.peak : Nat)) ∧ w2.cell? ⟨h, 14, none⟩ = some (.int .i64 (s.mark : Nat)) by rw [hw2]; exact ⟨z16, z12, z13, z14⟩)
 rw [← hw2] at hod ⊢
 have HOD := As.mk hod
 clear hw2 hod HB z16 z12 z13 z14
 iterate 3 (refine Run.pu (v := ?_) (a' := ?_) rfl rfl (Or.inl ⟨by rfl, ?_⟩) ?_ ?_; rotate_left 2; (focus (intro W; go_simp; with_reducible rfl)); (focus (simp only [Act.put, zq4, zq5, zq6]; rfl)))
 refine Run.rd (v := ?_) (a' := ?_) rfl rfl (Or.inl ⟨by rfl, ?_⟩) ?_ ?_; rotate_left 2; (focus (rintro W ⟨hW1, hW2, hW3, hW4⟩; go_simp; with_reducible rfl)); (focus (simp only [Act.put, zq4, zq5, zq6]; rfl))
 iterate 3 (refine Run.pu (v := ?_) (a' := ?_) rfl rfl (Or.inl ⟨by rfl, ?_⟩) ?_ ?_; rotate_left 2; (focus (intro W; go_simp; with_reducible rfl)); (focus (simp only [Act.put, zq4, zq5, zq6]; rfl)))
 refine Run.rd (v := ?_) (a' := ?_) rfl rfl (Or.inl ⟨by rfl, ?_⟩) ?_ ?_; rotate_left 2; (focus (rintro W ⟨hW1, hW2, hW3, hW4⟩; go_simp; with_reducible rfl)); (focus (simp only [Act.put, zq4, zq5, zq6]; rfl))
 iterate 3 (refine Run.pu (v := ?_) (a' := ?_) rfl rfl (Or.inl ⟨by rfl, ?_⟩) ?_ ?_; rotate_left 2; (focus (intro W; go_simp; with_reducible rfl)); (focus (simp only [Act.put, zq4, zq5, zq6]; rfl)))
 refine Run.rd (v := ?_) (a' := ?_) rfl rfl (Or.inl ⟨by rfl, ?_⟩) ?_ ?_; rotate_left 2; (focus (rintro W ⟨hW1, hW2, hW3, hW4⟩; go_simp; with_reducible rfl)); (focus (simp only [Act.put, zq4, zq5, zq6]; rfl))
 iterate 3 (refine Run.pu (v := ?_) (a' := ?_) rfl rfl (Or.inl ⟨by rfl, ?_⟩) ?_ ?_; rotate_left 2; (focus (intro W; go_simp; with_reducible rfl)); (focus (simp only [Act.put, zq4, zq5, zq6]; rfl)))
 refine Run.rd (v := ?_) (a' := ?_) rfl rfl (Or.inl ⟨by rfl, ?_⟩) ?_ ?_; rotate_left 2; (focus (rintro W ⟨hW1, hW2, hW3, hW4⟩; go_simp; with_reducible rfl)); (focus (simp only [Act.put, zq4, zq5, zq6]; rfl))
 refine Run.ef rfl (fun K hK => ?_)
 simp only [zq1, zq2, zq3]
 try simp only [zq4, zq5, zq6]
 go_wp2_with fail
 refine (HCT.out _ (HROW.out _ _ _ HOD.out Z.out.1)).mono ?_
 rintro e w3 ⟨rfl, hw3⟩
 rw [hw3]
 clear hw3
 go_wp2
 refine hK.out _ _ Z.out ?_
 clear hK K
 obtain ⟨nn, hnn⟩ : ∃ nn : Nat, nn = cntT s.on := ⟨_, rfl⟩
 obtain ⟨lv, hlv⟩ : ∃ nn : Nat, nn = sumB c s.bl := ⟨_, rfl⟩
 rw [← hnn, ← hlv]
 have HNN := As.mk (And.intro hnn hlv)
 clear hnn hlv Z HCT HROW
 refine Run.pu (v := ?_) (a' := ?_) rfl rfl (Or.inl ⟨by rfl, ?_⟩) ?_ ?_; rotate_left 2; (focus (intro W; go_simp; with_reducible rfl)); (focus (simp only [Act.put, zq4, zq5, zq6]; rfl))
 refine Run.la rfl (fun K hK => ?_)
 simp only [zq1, zq2, zq3]
 try simp only [zq4, zq5, zq6]
 have t0 := HOD.out.rd me0 0 (by simp)
 have f0 := HOD.out.frz me0 0
 have t1 := HOD.out.rd me0 1 (by simp)
 have f1 := HOD.out.frz me0 1
 have t2 := HOD.out.rd me0 2 (by simp)
 have f2 := HOD.out.frz me0 2
 have t3 := HOD.out.rd me0 3 (by simp)
 have f3 := HOD.out.frz me0 3
 have t4 := HOD.out.rd me0 4 (by simp)
 have f4 := HOD.out.frz me0 4
 have t5 := HOD.out.rd me0 5 (by simp)
 have f5 := HOD.out.frz me0 5
 have t6 := HOD.out.rd me0 6 (by simp)
 have f6 := HOD.out.frz me0 6
 have t7 := HOD.out.rd me0 7 (by simp)
 have f7 := HOD.out.frz me0 7
 have HF := As.mk ((((((((HOD.out.set 0 rfl 0 (.int .i64 0) (by simp)).set 0 rfl 1 (.int .i64 0) (by simp)).set 0 rfl 2 (.int .i64 0) (by simp)).set 0 rfl 3 (.int .u8 0) (by simp)).set 0 rfl 4 (.int .i64 lv) (by simp)).set 0 rfl 5 (.int .i64 s.peak) (by simp)).set 0 rfl 6 (.int .i64 s.mark) (by simp)).set 0 rfl 7 (.int .i64 nn) (by simp)).drop.drop
 clear HOD
 go_wp2
 refine hK.out _ _ ?_
 clear hK K
 refine Run.nil ?_
 go_wp2_with fail
 refine bodyPost_ret (v := .agg #[.int .i64 0, .int .i64 0, .int .i64 0, .int .u8 0, .int .i64 lv, .int .i64 s.peak, .int .i64 s.mark, .int .i64 nn]) (by simp [results, Tryz.results16, go_sem, *]) rfl ?_
 rw [HP.out]
 exact ⟨by rw [HNN.out.1, HNN.out.2]; rfl, mem, HF.out, fun h2 => absurd h2 (by omega), fun _ h8 => absurd h8 (by omega), fun _ => rfl⟩
theorem heap_Do (h : Nat) (c : Cf) (s : Hs) (mem : List Nat) (L : List (Nat × (Obj → Prop))) (R : World → Prop) (w0 w : World) (o : Opp) (H : HW h c s mem L R w0 w) (iv : Iv c s) (ok : OpOk o) :
 Calls Tryz.prog 16 #[.pointer (some ⟨h, 0, none⟩), o.v] w fun e w' => e = .returned (doP c s mem o).2.v ∧ ∃ mem', HW h c (doP c s mem o).1 mem' L R w0 w' ∧ DoMem c s mem o mem' := by
 obtain ⟨h1, h2⟩ := ok.kind
 by_cases c3 : o.kind ≤ 3
 · exact heap_Do_13 h c s mem L R w0 w o H iv ok c3
 · by_cases c8 : o.kind ≤ 8
   · exact heap_Do_48 h c s mem L R w0 w o H iv ok (by omega) c8
   · by_cases c9 : o.kind = 9
     · exact heap_Do_9 h c s mem L R w0 w o H iv ok c9
     · exact heap_Do_10 h c s mem L R w0 w o H iv ok (by omega)
end Go.Proofs.YtmookafmdonopaaGreat.Top
/- Plainly: what is let in finds a place, at most at its class's ceiling (EPlace never is). -/
namespace Go.Proofs.YtmookafmdonopaaGreat.Top
open Go Go.RowKit
set_option linter.unusedVariables false
set_option linter.unusedSimpArgs false

/-- how many of n from a on are set -/
def cn (f : Nat → Bool) (a : Nat) : Nat → Nat
 | 0 => 0
 | n + 1 => cn f a n + (f (a + n)).toNat
theorem cn_add (f : Nat → Bool) (a m n : Nat) : cn f a (m + n) = cn f a m + cn f (a + m) n := by
 induction n with
 | zero => rfl
 | succ n ih =>
  show cn f a (m + n) + (f (a + (m + n))).toNat = cn f a m + (cn f (a + m) n + (f (a + m + n)).toNat)
  rw [ih, Nat.add_assoc a m n]
  omega
theorem cn_all {f : Nat → Bool} {a n : Nat} (h : ∀ i, a ≤ i → i < a + n → f i = true) : cn f a n = n := by
 induction n with
 | zero => rfl
 | succ n ih =>
  show cn f a n + (f (a + n)).toNat = _
  rw [ih fun i h1 h2 => h i h1 (by omega), h (a + n) (by omega) (by omega)]
  rfl
theorem cn_sub {f : Nat → Bool} {a n x m : Nat} (h1 : a ≤ x) (h2 : x + m ≤ a + n) (h : ∀ i, x ≤ i → i < x + m → f i = true) : m ≤ cn f a n := by
 have e : n = (x - a) + (m + (a + n - (x + m))) := by omega
 rw [e, cn_add, cn_add, show a + (x - a) = x by omega, cn_all h]
 omega
theorem cn_or (f g : Nat → Bool) (a n : Nat) : cn (fun i => f i || g i) a n ≤ cn f a n + cn g a n := by
 induction n with
 | zero => exact Nat.zero_le _
 | succ n ih =>
  show cn _ a n + (f (a + n) || g (a + n)).toNat ≤ cn f a n + (f (a + n)).toNat + (cn g a n + (g (a + n)).toNat)
  have : (f (a + n) || g (a + n)).toNat ≤ (f (a + n)).toNat + (g (a + n)).toNat := by
   cases f (a + n) <;> cases g (a + n) <;> decide
  omega
theorem cn_int {f : Nat → Bool} {x m : Nat} (h : ∀ i, f i = true → x ≤ i ∧ i < x + m) (a n : Nat) : cn f a n ≤ min (a + n) (x + m) - max a x := by
 induction n with
 | zero => exact Nat.zero_le _
 | succ n ih =>
  show cn f a n + (f (a + n)).toNat ≤ _
  cases hf : f (a + n) with
  | false => simp only [Bool.toNat_false]; omega
  | true =>
   have := h _ hf
   simp only [Bool.toNat_true]
   omega
theorem cn_slots {f : Nat → Bool} {s t : Nat} (a n : Nat) (h : ∀ j, j < n → t ≤ cn f (a + j * s) s) : n * t ≤ cn f a (n * s) := by
 induction n with
 | zero => simp
 | succ n ih =>
  rw [Nat.succ_mul, Nat.succ_mul, cn_add]
  have h1 := ih fun j hj => h j (by omega)
  have h2 := h n (by omega)
  omega
theorem cn_bits {c : Cf} (hg : Good c) : ∀ (bl : List Bk) (hm : ∀ b ∈ bl, b.ch c ∣ b.at_) (a n : Nat), cn (bitsB c bl) a n * c.G ≤ sumB c bl
 | [], _, a, n => by
  have : ∀ n, cn (bitsB c []) a n = 0 := fun n => by
   induction n with
   | zero => rfl
   | succ n ih => show cn _ a n + _ = 0; rw [ih]; rfl
  rw [this]
  simp
 | b :: bl, hm, a, n => by
  have ih := cn_bits hg bl (fun y hy => hm y (List.mem_cons_of_mem _ hy)) a n
  obtain ⟨q, hq⟩ := at_gran (hm b List.mem_cons_self)
  have e : bitsB c (b :: bl) = fun i => onG c b i || bitsB c bl i := by
   funext i
   simp [bitsB]
  have h1 := cn_or (onG c b) (bitsB c bl) a n
  have h2 := cn_int (f := onG c b) (x := q * 2 ^ b.k) (m := 2 ^ b.k) (fun i hi => (onG_iff hg _ hq i).1 hi) a n
  have h3 : cn (onG c b) a n ≤ 2 ^ b.k := by
   have := Nat.two_pow_pos b.k
   omega
  have h4 : sumB c (b :: bl) = b.ch c + sumB c bl := by simp [sumB]
  rw [e, h4]
  have h5 := Nat.mul_le_mul_right c.G h1
  have h6 := Nat.mul_le_mul_right c.G h3
  rw [Nat.add_mul] at h5
  rw [ch_eq]
  omega
/-- how far a class goes -/
def ceilC (c : Cf) (k : Nat) : Nat := c.M + k * (c.M / 2)
def Ci (c : Cf) (bl : List Bk) : Prop := ∀ b ∈ bl, b.at_ + b.ch c ≤ ceilC c b.k
theorem ceil_mono {c : Cf} {i k : Nat} (h : i ≤ k) : ceilC c i ≤ ceilC c k := Nat.add_le_add_left (Nat.mul_le_mul_right _ h) _
theorem ceil_H {c : Cf} (hg : Good c) {k : Nat} (h : k ≤ c.L) : ceilC c k ≤ c.H := by
 rw [hg.h]
 exact ceil_mono h
/-- half of what may be live is a multiple of each class's size -/
theorem half_mul {c : Cf} (hg : Good c) {k : Nat} (hk : k ≤ c.L) : ∃ z, c.M = 2 * (z * 2 ^ k * c.G) ∧ c.M / 2 = z * 2 ^ k * c.G := by
 obtain ⟨g, pg, r, h1, h2, h3, h4, h5, h6⟩ := hg.pow
 have h7 : ∃ y, max c.N c.Page = y * 2 ^ k * c.G := by
  rcases Nat.le_total c.N c.Page with h | h
  · rw [Nat.max_eq_right h]
    have h8 : g + c.L ≤ pg := by
     rw [h2, h3] at h
     exact (Nat.pow_le_pow_iff_right (by decide)).1 h
    refine ⟨2 ^ (pg - g - k), ?_⟩
    rw [h3, h1, ← Nat.pow_add, ← Nat.pow_add]
    congr 1
    omega
  · rw [Nat.max_eq_left h]
    refine ⟨2 ^ (c.L - k), ?_⟩
    rw [h2, h1, ← Nat.pow_add, ← Nat.pow_add]
    congr 1
    omega
 obtain ⟨y, hy⟩ := h7
 have e : c.M = 2 * (r * y * 2 ^ k * c.G) := by
  rw [h6, hy, Nat.mul_left_comm, Nat.mul_assoc r, Nat.mul_assoc r]
 exact ⟨r * y, e, by omega⟩
/-- the slots of class k below i's ceiling, all with something live in them, hold so much -/
theorem full_count {c : Cf} (hg : Good c) {bl : List Bk} (hi : InvB c bl) (hc : Ci c bl) {k z : Nat} (hk : k ≤ c.L) (hz : c.M / 2 = z * 2 ^ k * c.G) (hz2 : c.M = 2 * (z * 2 ^ k * c.G)) :
 ∀ i, i ≤ k → (∀ j, j < (2 + i) * z → bk (bitsB c bl) k j = true) → 2 * z * 2 ^ i ≤ cn (bitsB c bl) 0 ((2 + i) * z * 2 ^ k) := by
 have hG := hg.g1
 have key : ∀ i j, i ≤ k → (i = 0 ∨ (1 + i) * z ≤ j) → bk (bitsB c bl) k j = true → 2 ^ i ≤ cn (bitsB c bl) (j * 2 ^ k) (2 ^ k) := by
  intro i j hik hj hb
  obtain ⟨x, x1, x2, x3⟩ := (bk_iff _ k j).1 hb
  obtain ⟨b, hbl, hon⟩ := List.any_eq_true.1 x3
  obtain ⟨q, hq⟩ := at_gran (hi.mul b hbl)
  have h1 := (onG_iff hg _ hq x).1 hon
  have hset : ∀ y, q * 2 ^ b.k ≤ y → y < q * 2 ^ b.k + 2 ^ b.k → bitsB c bl y = true := fun y y1 y2 => List.any_eq_true.2 ⟨b, hbl, (onG_iff hg _ hq y).2 ⟨y1, y2⟩⟩
  have hbi : i ≤ b.k := by
   rcases hj with hj | hj
   · omega
   · rcases Nat.lt_or_ge b.k i with hlt | hge
     · exfalso
       have h2 := hc b hbl
       have h3 : ceilC c b.k ≤ (1 + i) * z * 2 ^ k * c.G := by
        unfold ceilC
        rw [hz, hz2]
        have h4 : (2 + b.k) * (z * 2 ^ k * c.G) ≤ (1 + i) * (z * 2 ^ k * c.G) := Nat.mul_le_mul_right _ (by omega)
        rw [Nat.add_mul] at h4
        have e5 : (1 + i) * z * 2 ^ k * c.G = (1 + i) * (z * 2 ^ k * c.G) := by rw [Nat.mul_assoc, Nat.mul_assoc, ← Nat.mul_assoc z]
        rw [e5]
        exact h4
       have h5 : (1 + i) * z * 2 ^ k * c.G ≤ j * 2 ^ k * c.G := Nat.mul_le_mul_right _ (Nat.mul_le_mul_right _ hj)
       have h6 : (x + 1) * c.G ≤ (q * 2 ^ b.k + 2 ^ b.k) * c.G := Nat.mul_le_mul_right _ h1.2
       have h7 : j * 2 ^ k * c.G ≤ x * c.G := Nat.mul_le_mul_right _ x1
       rw [Nat.add_mul, Nat.add_mul] at h6
       rw [ch_eq, hq] at h2
       omega
     · exact hge
  rw [Nat.succ_mul] at x2
  rcases Nat.le_total b.k k with hbk | hbk
  · obtain ⟨d, hd⟩ : ∃ d, 2 ^ k = d * 2 ^ b.k := ⟨2 ^ (k - b.k), by rw [← Nat.pow_add]; congr 1; omega⟩
    have hin : j * 2 ^ k ≤ q * 2 ^ b.k ∧ q * 2 ^ b.k + 2 ^ b.k ≤ j * 2 ^ k + 2 ^ k := by
     have p := Nat.two_pow_pos b.k
     have a1 : j * 2 ^ k = j * d * 2 ^ b.k := by rw [hd, Nat.mul_assoc]
     have a2 : j * 2 ^ k + 2 ^ k = (j * d + d) * 2 ^ b.k := by rw [hd, Nat.add_mul, Nat.mul_assoc]
     have a3 : q * 2 ^ b.k + 2 ^ b.k = (q + 1) * 2 ^ b.k := by rw [Nat.succ_mul]
     have b1 : j * d < q + 1 := by
      refine Nat.lt_of_mul_lt_mul_right (a := 2 ^ b.k) ?_
      omega
     have b2 : q < j * d + d := by
      refine Nat.lt_of_mul_lt_mul_right (a := 2 ^ b.k) ?_
      omega
     refine ⟨?_, ?_⟩
     · rw [a1]
       exact Nat.mul_le_mul_right _ (by omega)
     · rw [a2, a3]
       exact Nat.mul_le_mul_right _ (by omega)
    exact Nat.le_trans (Nat.pow_le_pow_right (by decide) hbi) (cn_sub hin.1 hin.2 hset)
  · obtain ⟨d, hd⟩ : ∃ d, 2 ^ b.k = d * 2 ^ k := ⟨2 ^ (b.k - k), by rw [← Nat.pow_add]; congr 1; omega⟩
    have hin : q * 2 ^ b.k ≤ j * 2 ^ k ∧ j * 2 ^ k + 2 ^ k ≤ q * 2 ^ b.k + 2 ^ b.k := by
     have p := Nat.two_pow_pos k
     have a1 : q * 2 ^ b.k = q * d * 2 ^ k := by rw [hd, Nat.mul_assoc]
     have a2 : q * 2 ^ b.k + 2 ^ b.k = (q * d + d) * 2 ^ k := by rw [hd, Nat.add_mul, Nat.mul_assoc]
     have a3 : j * 2 ^ k + 2 ^ k = (j + 1) * 2 ^ k := by rw [Nat.succ_mul]
     have b1 : q * d < j + 1 := by
      refine Nat.lt_of_mul_lt_mul_right (a := 2 ^ k) ?_
      omega
     have b2 : j < q * d + d := by
      refine Nat.lt_of_mul_lt_mul_right (a := 2 ^ k) ?_
      omega
     refine ⟨?_, ?_⟩
     · rw [a1]
       exact Nat.mul_le_mul_right _ (by omega)
     · rw [a2, a3]
       exact Nat.mul_le_mul_right _ (by omega)
    rw [cn_all fun y y1 y2 => hset y (by omega) (by omega)]
    exact Nat.pow_le_pow_right (by decide) (by omega)
 intro i
 induction i with
 | zero =>
  intro _ hf
  have h1 := cn_slots (f := bitsB c bl) (s := 2 ^ k) (t := 2 ^ 0) 0 ((2 + 0) * z) (fun j hj => by
   rw [Nat.zero_add]
   exact key 0 j (Nat.zero_le _) (Or.inl rfl) (hf j hj))
  simpa using h1
 | succ i ih =>
  intro hik hf
  have h0 := ih (by omega) (fun j hj => hf j (Nat.lt_of_lt_of_le hj (Nat.mul_le_mul_right _ (by omega))))
  have h1 := cn_slots (f := bitsB c bl) (s := 2 ^ k) (t := 2 ^ (i + 1)) ((2 + i) * z * 2 ^ k) z (fun j hj => by
   rw [← Nat.add_mul]
   refine key (i + 1) ((2 + i) * z + j) hik (Or.inr ?_) (hf _ ?_)
   · have : (1 + (i + 1)) * z = (2 + i) * z := by congr 1; omega
     omega
   · have : (2 + (i + 1)) * z = (2 + i) * z + z := by rw [← Nat.succ_mul]; congr 1
     omega)
  have e : (2 + (i + 1)) * z * 2 ^ k = (2 + i) * z * 2 ^ k + z * 2 ^ k := by
   rw [← Nat.add_mul]
   congr 1
   rw [← Nat.succ_mul]
   congr 1
  rw [e, cn_add, Nat.zero_add]
  have e2 : z * 2 ^ (i + 1) = 2 * z * 2 ^ i := by rw [Nat.pow_succ]; rw [Nat.mul_comm 2 z, Nat.mul_assoc, Nat.mul_comm (2 ^ i)]
  have e3 : 2 * z * 2 ^ (i + 1) = z * 2 ^ (i + 1) + z * 2 ^ (i + 1) := by rw [Nat.mul_assoc, Nat.two_mul]
  omega
/-- What is let in finds a place, and ends at its ceiling or ahead of it. -/
theorem low_ceil {c : Cf} (hg : Good c) {bl : List Bk} (hi : InvB c bl) (hc : Ci c bl) {k : Nat} (hk : k ≤ c.L) (hs : sumB c bl + c.G * 2 ^ k ≤ c.M) :
 ∃ i, lowB c bl k = some i ∧ i * 2 ^ k * c.G + c.G * 2 ^ k ≤ ceilC c k := by
 have hG := hg.g1
 have hp := Nat.two_pow_pos k
 obtain ⟨z, z1, z2⟩ := half_mul hg hk
 have hceil : ceilC c k = (2 + k) * z * 2 ^ k * c.G := by
  unfold ceilC
  have e5 : (2 + k) * z * 2 ^ k * c.G = (2 + k) * (z * 2 ^ k * c.G) := by rw [Nat.mul_assoc, Nat.mul_assoc, ← Nat.mul_assoc z]
  rw [e5, z2, z1, Nat.add_mul]
 have hex : ∃ j, j < (2 + k) * z ∧ bk (bitsB c bl) k j = false := by
  by_cases h : ∃ j, j < (2 + k) * z ∧ bk (bitsB c bl) k j = false
  · exact h
  · exfalso
    have hf : ∀ j, j < (2 + k) * z → bk (bitsB c bl) k j = true := by
     intro j hj
     cases hb : bk (bitsB c bl) k j with
     | true => rfl
     | false => exact absurd ⟨j, hj, hb⟩ h
    have h1 := full_count hg hi hc hk z2 z1 k (Nat.le_refl _) hf
    have h2 := cn_bits hg bl hi.mul 0 ((2 + k) * z * 2 ^ k)
    have h3 := Nat.mul_le_mul_right c.G h1
    have h4 : 2 * z * 2 ^ k * c.G = c.M := by rw [z1, Nat.mul_assoc 2, Nat.mul_assoc 2]
    have h5 : 1 ≤ c.G * 2 ^ k := Nat.mul_pos hG hp
    omega
 obtain ⟨j, hj, hb⟩ := hex
 have hlt : j < c.H / c.G / 2 ^ k := by
  have h1 := ceil_H hg hk
  rw [hceil] at h1
  have h2 : (j + 1) * 2 ^ k * c.G ≤ (2 + k) * z * 2 ^ k * c.G := Nat.mul_le_mul_right _ (Nat.mul_le_mul_right _ hj)
  rw [Nat.lt_iff_add_one_le, Nat.le_div_iff_mul_le hp, Nat.le_div_iff_mul_le hG]
  omega
 cases hl : lowB c bl k with
 | none =>
  exfalso
  unfold lowB at hl
  rw [List.find?_eq_none] at hl
  have := hl j (List.mem_range.2 hlt)
  rw [hb] at this
  simp at this
 | some i =>
  obtain ⟨l1, l2, l3⟩ := lowB_spec hl
  refine ⟨i, rfl, ?_⟩
  have hij : i ≤ j := by
   rcases Nat.lt_or_ge j i with h | h
   · rw [l3 j h] at hb
     cases hb
   · exact h
  have h2 : (i + 1) * 2 ^ k * c.G ≤ (2 + k) * z * 2 ^ k * c.G := Nat.mul_le_mul_right _ (Nat.mul_le_mul_right _ (by omega))
  rw [Nat.succ_mul, Nat.add_mul, Nat.mul_comm (2 ^ k) c.G] at h2
  rw [hceil]
  exact h2
end Go.Proofs.YtmookafmdonopaaGreat.Top
/- Plainly: what is true of a heap stays true, call by call. -/
namespace Go.Proofs.YtmookafmdonopaaGreat.Top
open Go Go.RowKit
set_option linter.unusedVariables false
set_option linter.unusedSimpArgs false

section
variable {c : Cf} {s : Hs}
theorem Ci.nil (c : Cf) : Ci c [] := fun _ h => by simp at h
theorem Ci.without (iv : Iv c s) (h : Ci c s.bl) {b : Bk} (hb : b ∈ s.bl) : Ci c (s.without b).bl := fun y hy => h y (iv.inv.mem_del iv.good hb hy).1
theorem Ci.placed (iv : Iv c s) (h : Ci c s.bl) {k a i : Nat} {on' : List Bool} (hp : Placed c s k a i on') : Ci c (placed c s k a i on').bl := by
 intro y hy
 rcases mem_ins.1 hy with rfl | hy
 · obtain ⟨j, j1, j2⟩ := low_ceil iv.good iv.inv h hp.hk hp.fits
   rw [hp.low] at j1
   obtain rfl := Option.some.inj j1
   exact j2
 · exact h y hy
theorem asks_ci {charge asked e : Int} (iv : Iv c s) (h : Ci c s.bl) (hm : MayP c s charge asked e) : Ci c (asksP c s charge asked e).1.bl := by
 rcases asks_spec iv hm with ⟨er, _, h1⟩ | ⟨_, k, a, i, on', _, _, hp, h1⟩
 · rw [h1]; exact h
 · rw [h1]; exact Ci.placed iv h hp
/-- EPlace never is -/
theorem asks_no7 {charge asked e : Int} (iv : Iv c s) (h : Ci c s.bl) (hm : MayP c s charge asked e) (he : e ≠ 7) : (asksP c s charge asked e).2.err ≠ 7 := by
 rcases hm with hm | ⟨rfl, k, a, rfl, rfl, hk, ha, hM⟩
 · unfold asksP
   rw [if_pos hm]
   exact he
 · unfold asksP
   rw [if_neg (by simp), log_ch iv.good, Int.toNat_natCast]
   unfold putsP
   obtain ⟨i, i1, i2⟩ := low_ceil iv.good iv.inv h hk hM
   rw [i1]
   dsimp only
   cases hc : commitP s.on (metB (metN c s.bl)) (pgF c (bkAt c i k a)) (pgB c (bkAt c i k a)) c.P with
   | none => exact (by decide : (6 : Int) ≠ 7)
   | some p => obtain ⟨on', fr⟩ := p; exact (by decide : (0 : Int) ≠ 7)
theorem trim_iv (iv : Iv c s) : Iv c (trimP c s).1 :=
 ⟨iv.good, iv.small, iv.inv, by
  show (andL s.on (metB (metN c s.bl))).length = _
  rw [andL_len' _ _ (by rw [metB, List.length_map, metN_len, iv.on]), iv.on], iv.live, iv.peak, iv.mark⟩
theorem sum_without (iv : Iv c s) {b : Bk} (hb : b ∈ s.bl) : sumB c s.bl - b.ch c = sumB c (s.without b).bl := by
 have := (iv.without hb).2
 omega
theorem GoodA.one : GoodA 1 := Or.inr (Or.inr ⟨0, by decide, rfl⟩)
theorem realloc_may (iv : Iv c s) {b : Bk} (hb : b ∈ s.bl) {S : Int} (h0 : ¬ (adm c ((sumB c s.bl - b.ch c : Nat) : Int) S 1).2 ≠ 0) :
 MayP c (s.without b) (adm c ((sumB c s.bl - b.ch c : Nat) : Int) S 1).1 S 0 := by
 have h1 := adm_may (iv.without hb).1 (S := S) GoodA.one
 rw [sum_without iv hb] at h0 ⊢
 have e : (adm c ((sumB c (s.without b).bl : Nat) : Int) S 1).2 = 0 := Decidable.byContradiction h0
 rw [e] at h1
 exact h1
theorem realloc_ok (iv : Iv c s) (h : Ci c s.bl) {b : Bk} (hb : b ∈ s.bl) (S : Int) : Iv c (reallocP c s b S).1 ∧ Ci c (reallocP c s b S).1.bl := by
 unfold reallocP
 by_cases h0 : (adm c ((sumB c s.bl - b.ch c : Nat) : Int) S 1).2 ≠ 0
 · rw [if_pos h0]; exact ⟨iv, h⟩
 · rw [if_neg h0]
   split
   · exact ⟨iv, h⟩
   · exact ⟨asks_iv (iv.without hb).1 (realloc_may iv hb h0), asks_ci (iv.without hb).1 (Ci.without iv h hb) (realloc_may iv hb h0)⟩
theorem block_ok (iv : Iv c s) (h : Ci c s.bl) (mem : List Nat) (o : Opp) : Iv c (blockP c s mem o).1 ∧ Ci c (blockP c s mem o).1.bl := by
 unfold blockP
 cases hb : blkAt s o.p with
 | none => exact ⟨iv, h⟩
 | some b =>
  have hm := (blkAt_some hb).1
  dsimp only
  split
  · exact realloc_ok iv h hm _
  · split
    · exact ⟨(iv.without hm).1, Ci.without iv h hm⟩
    · split
      · exact ⟨iv, h⟩
      · split
        · exact ⟨iv, h⟩
        · split <;> exact ⟨iv, h⟩
/-- what is true stays true -/
theorem do_ok (iv : Iv c s) (h : Ci c s.bl) (mem : List Nat) {o : Opp} (ok : OpOk o) : Iv c (doP c s mem o).1 ∧ Ci c (doP c s mem o).1.bl := by
 unfold doP
 split
 · exact ⟨asks_iv iv (adm_may iv GoodA.one), asks_ci iv h (adm_may iv GoodA.one)⟩
 · split
   · exact ⟨asks_iv iv (many_may iv _ _), asks_ci iv h (many_may iv _ _)⟩
   · split
     · exact ⟨asks_iv iv (adm_may iv ok.a), asks_ci iv h (adm_may iv ok.a)⟩
     · split
       · exact block_ok iv h mem o
       · split
         · exact ⟨trim_iv iv, h⟩
         · exact ⟨iv, h⟩
theorem new_iv (hg : Good c) (hs : c.H ≤ 4096) : Iv c (Hs.new c) ∧ Ci c (Hs.new c).bl :=
 ⟨⟨hg, hs, InvB.nil c, by simp [Hs.new], Nat.zero_le _, Nat.zero_le _, Nat.zero_le _⟩, Ci.nil c⟩
end
end Go.Proofs.YtmookafmdonopaaGreat.Top
