/- hodmanref17: give walked (weak). -/
import Derived.Test.YtmookafmdonopaaGreatM27
/- hodmanref17: give walked (weak). -/
namespace Go.Proofs.YtmookafmdonopaaGreat.Top
open Go Go.RowKit
set_option linter.unusedVariables false
set_option linter.unusedSimpArgs false
attribute [local go_sem] max2_int min2_int max_two min_two max_three

def Opp.cs (o : Opp) : List Value := [.int .i64 o.kind, .int .i64 o.p, .int .i64 o.s, .int .i64 o.a, .int .i64 o.n, .int .u8 o.b]
theorem Opp.one (o : Opp) : ∀ v ∈ o.cs, v.oneCell' = true := by
 intro v hv
 simp only [Opp.cs, List.mem_cons, List.not_mem_nil, or_false] at hv
 rcases hv with rfl | rfl | rfl | rfl | rfl | rfl <;> rfl
theorem goodA1 : GoodA 1 := Or.inr (Or.inr ⟨0, by decide, rfl⟩)
theorem adm_q {c : Cf} (hg : Good c) {live s a : Int} (ha : GoodA a) (h : (adm c live s a).2 = 0) : ∃ q : Nat, (adm c live s a).1 = (q : Int) ∧ 1 ≤ q ∧ q ≤ 65536 := by
 obtain ⟨k, k1, k2, -⟩ := adm_ok hg ha h
 obtain ⟨g, pg, r, h1, h2, -⟩ := hg.pow
 obtain ⟨b1, b2, b3, b4, b5, b6, b7⟩ := hg.bounds
 refine ⟨_, k1, Nat.mul_pos hg.g1 (Nat.two_pow_pos k), ?_⟩
 have h3 : c.G * 2 ^ k ≤ c.N := by
  rw [h1, h2, ← Nat.pow_add]
  exact Nat.pow_le_pow_right (by decide) (by omega)
 omega
theorem many_q {c : Cf} (hg : Good c) {live n s : Int} (h : (many c live n s).2 = 0) : ∃ q : Nat, (many c live n s).1 = (q : Int) ∧ 1 ≤ q ∧ q ≤ 65536 := by
 unfold many at h ⊢
 split
 · rename_i h1
   rw [if_pos h1] at h
   exact absurd h h1
 · rename_i h1
   rw [if_neg h1] at h
   exact adm_q hg (Or.inr (Or.inr ⟨0, by decide, rfl⟩)) h
theorem box4 (w : World) (cs os : List Value) : Own [] [(w.heap.size + 3, EC 39 An.z), (w.heap.size + 2, EC 89 Md.zs), (w.heap.size + 1, EC 42 os), (w.heap.size, EC 89 cs)] (fun _ => True) w ((((w.alloc (.cells cs.toArray 89)).alloc (.cells os.toArray 42)).alloc (.cells #[.int .i64 0, .int .i64 0, .int .i64 0, .int .i64 0, .int .i64 0, .int .i64 0, .int .i64 0, .int .i64 0, .slice none 0 0, .int .i64 0, .int .i64 0, .int .i64 0, .slice none 0 0, .slice none 0 0] 89)).alloc (.cells #[.int .i64 0, .int .i64 0, .int .i64 0, .int .u8 0, .int .i64 0, .int .i64 0, .int .i64 0, .int .i64 0] 39)) := by
 have ho := (box89 (((Own.start (X := []) w).box cs.toArray 89).box os.toArray 42)).box An.z.toArray 39
 simp only [World.size_alloc, List.toList_toArray] at ho
 exact ho
set_option maxHeartbeats 8000000 in
set_option maxRecDepth 100000 in
theorem ref_give_1 (c : Cf) (hg : Good c) (m : Md) (p s a n b : Int) (w : World) (ok : OpOk ⟨1, p, s, a, n, b⟩) (hmd : MdR w c m) (hf : MdF c m) (hl : m.l.length ≤ 998) :
 Calls Tryz.prog 61 #[m.v c, .agg (Opp.cs ⟨1, p, s, a, n, b⟩).toArray] w fun e w' => RetM c m (m.l.length + 1) w w' e ∧ Below w.heap.size w w' := by
 have HMD := As.mk hmd
 have HF := As.mk hf
 have HO := As.mk (box4 w (m.cs c) (Opp.cs ⟨1, p, s, a, n, b⟩))
 have HWR := As.mk (fun (W : World) (er : Int) => ref_wrong c m er W)
 have HNEW := As.mk (fun (W : World) => ref_New c hg m.live s 1 W goodA1)
 have HQ := As.mk (adm_q hg (live := m.live) (s := s) goodA1)
 obtain ⟨x1, hx1⟩ : ∃ x, x = (adm c m.live s 1).1 := ⟨_, rfl⟩
 obtain ⟨x2, hx2⟩ : ∃ x, x = (adm c m.live s 1).2 := ⟨_, rfl⟩
 rw [← hx1, ← hx2] at HNEW HQ
 have HPL := As.mk (fun (W : World) (q : Nat) (x : Int) (h : MdR W c m) (h1 : 1 ≤ q) (h2 : q ≤ 65536) => ref_place c hg m m.A m.cap m.l q x W h h.bl hf (by omega) h1 h2)
 have hcv : c.v = .agg c.cs.toArray := rfl
 have hH : 1 ≤ c.H ∧ c.H ≤ 65536 := by obtain ⟨b1, b2, b3, b4, b5, b6, b7⟩ := hg.bounds; omega
 rw [hcv] at HNEW
 clear hcv hx1 hx2 hmd hf hg ok
 unfold Md.v at HWR HPL ⊢
 have hs : As (∀ W, Own [] [(w.heap.size + 3, EC 39 An.z), (w.heap.size + 2, EC 89 Md.zs), (w.heap.size + 1, EC 42 (Opp.cs ⟨1, p, s, a, n, b⟩)), (w.heap.size, EC 89 (m.cs c))] (fun _ => True) w W → W.cell? ⟨w.heap.size + 1, 0, none⟩ = some (.int .i64 1) ∧ W.cell? ⟨w.heap.size + 1, 2, none⟩ = some (.int .i64 s) ∧ W.cell? ⟨w.heap.size + 1, 3, none⟩ = some (.int .i64 a) ∧ W.cell? ⟨w.heap.size + 1, 4, none⟩ = some (.int .i64 n) ∧ W.cell? ⟨w.heap.size, 9, none⟩ = some (.int .i64 m.live) ∧ W.cell? ⟨w.heap.size, 8, none⟩ = some (.slice m.A m.l.length m.cap)) := ⟨fun W ho => ⟨ho.get me2 0 (by simp [Opp.cs]), ho.get me2 2 (by simp [Opp.cs]), ho.get me2 3 (by simp [Opp.cs]), ho.get me2 4 (by simp [Opp.cs]), ho.get me3 9 (by simp [Md.cs]), ho.get me3 8 (by simp [Md.cs])⟩⟩
 obtain ⟨w1, hw1⟩ : ∃ x, x = ((((w.alloc (.cells (m.cs c).toArray 89)).alloc (.cells (Opp.cs ⟨1, p, s, a, n, b⟩).toArray 42)).alloc (.cells #[.int .i64 0, .int .i64 0, .int .i64 0, .int .i64 0, .int .i64 0, .int .i64 0, .int .i64 0, .int .i64 0, .slice none 0 0, .int .i64 0, .int .i64 0, .int .i64 0, .slice none 0 0, .slice none 0 0] 89)).alloc (.cells #[.int .i64 0, .int .i64 0, .int .i64 0, .int .u8 0, .int .i64 0, .int .i64 0, .int .i64 0, .int .i64 0] 39)) := ⟨_, rfl⟩
 rw [← hw1] at HO
 obtain ⟨z0, z2, z3, z4, z9, z8⟩ := hs.out _ HO.out
 have hsz : w.heap.size + 1 + 1 = w.heap.size + 2 ∧ w.heap.size + 2 + 1 = w.heap.size + 3 := ⟨rfl, rfl⟩
 go_enter Tryz.func61, Tryz.ntmps61
 go_wp2_with fail
 try simp only [hsz.1, hsz.2]
 rw [← hw1]
 clear hw1 hsz
 refine rgn [(0, 1), (1, 0), (2, 1), (3, 1)] [] (fun W => W.cell? ⟨w.heap.size + 1, 2, none⟩ = some (.int .i64 s)) (by kernel_rfl) (by kernel_rfl) (fun _ _ _ d _ h => by cases d <;> exact h) z2 ?_
 obtain ⟨w2, hw2⟩ : ∃ x, x = w1.drew := ⟨_, rfl⟩
 have hod := HO.out.drew
 rw [← hw2] at hod ⊢
 have HO2 := As.mk hod
 clear hw2 hod HO z0 z2 z3 z4 z9 z8
 refine Run.pu (v := ?_) (a' := ?_) rfl rfl (Or.inl ⟨by rfl, ?_⟩) ?_ ?_; rotate_left 2; (focus (intro W; go_simp; with_reducible rfl)); (focus (simp only [zq1, zq2, zq3, Act.put, zq4, zq5, zq6]; rfl))
 refine Run.rd (v := ?_) (a' := ?_) rfl rfl (Or.inl ⟨by rfl, ?_⟩) ?_ ?_; rotate_left 2; (focus (intro W hW; go_simp; with_reducible rfl)); (focus (simp only [zq1, zq2, zq3, Act.put, zq4, zq5, zq6]; rfl))
 iterate 2 (refine Run.pu (v := ?_) (a' := ?_) rfl rfl (Or.inl ⟨by rfl, ?_⟩) ?_ ?_; rotate_left 2; (focus (intro W; go_simp; with_reducible rfl)); (focus (simp only [zq1, zq2, zq3, Act.put, zq4, zq5, zq6]; rfl)))
 refine Run.nil ?_
 try simp only [zq1, zq2, zq3]
 try simp only [zq4, zq5, zq6]
 obtain ⟨z0, z2, z3, z4, z9, z8⟩ := hs.out _ HO2.out
 go_wp2_with (refine go_ldp HO2.out me3 (Md.split c m) rfl 34 (.tmp 20) rfl rfl _ Tryz.underlying34 rfl size34 ?_)
 refine (HNEW.out _).mono ?_
 rintro e w3 ⟨rfl, hb⟩
 have HO3 := As.mk (HO2.out.below hb)
 clear hb HO2 z0 z2 z3 z4 z9 z8 HNEW
 obtain ⟨z0, z2, z3, z4, z9, z8⟩ := hs.out _ HO3.out
 by_cases hx2 : x2 = 0
 · obtain ⟨q, rfl, hq1, hq2⟩ := HQ.out hx2
   subst hx2
   go_wp2_with (refine go_ld HO3.out me3 rfl 89 (.tmp 2) rfl rfl _ Tryz.underlying89 rfl size89 ?_)
   refine (HPL.out _ q _ (HMD.out.below HO3.out.toBelow) hq1 hq2).mono ?_
   rintro e w4 ⟨⟨m', at_, er, rfl, hE, hN, hR⟩, hb⟩
   have HO4 := As.mk ((HO3.out.result hb (fun W hW => hR W hW)).imp (R' := fun W => MdR W c m → MdR W c m') (fun W h => h.2))
   have HE := As.mk hE
   have HN := As.mk hN
   clear hE hN hR hb HO3 HQ z0 z2 z3 z4 z9 z8 HPL
   have HO5 := As.mk (box89 HO4.out)
   unfold Md.v
   by_cases her : er = 0
   · subst her
     obtain ⟨hat, hf', hl'⟩ := HE.out rfl
     go_wp2_with (first | (refine go_st HO5.out 0 rfl rfl 89 (.tmp 10) (.tmp 63) rfl rfl (m'.cs c) rfl rfl size89 (Md.one c m') ?_; intro w5 ho1; have HO6 : As (Own [] [(w4.heap.size, EC 89 (m'.cs c)), (w.heap.size + 3, EC 39 An.z), (w.heap.size + 2, EC 89 Md.zs), (w.heap.size + 1, EC 42 (Opp.cs ⟨1, p, s, a, n, b⟩)), (w.heap.size, EC 89 (m.cs c))] (fun W => MdR W c m → MdR W c m') w w5) := As.mk ho1; obtain ⟨z0, -, -, -, -, -⟩ := hs.out _ (ho1.drop.imp fun _ _ => trivial); have z13 : w5.cell? ⟨w4.heap.size, 13, none⟩ = some (.slice m'.Am c.H m'.cm) := ho1.get me0 13 (by simp [Md.cs]); clear ho1) | (refine go_ld HO6.out me0 rfl 89 (.tmp 10) rfl rfl _ Tryz.underlying89 rfl size89 ?_) | (refine go_st HO6.out 2 rfl rfl 89 (.tmp 4) (.tmp 85) rfl rfl (m'.cs c) rfl rfl size89 (Md.one c _) ?_; intro w8 ho1; have HO8 := As.mk ho1; clear ho1) | (refine go_st HO8.out 1 rfl rfl 39 (.tmp 5) (.tmp 87) rfl rfl (An.cs ⟨0, (at_ : Int), 0, 0, 0, 0, 0, 0⟩) rfl rfl size39 (An.one _) ?_; intro w9 ho1; have HO9 := As.mk ho1; clear ho1))
     refine bodyPost_ret (results_c2 rfl _ rfl rfl (HO9.out.range me2) (HO9.out.range me1) Tryz.underlying89 rfl size89 Tryz.underlying39 rfl size39) rfl ⟨⟨m', ⟨0, (at_ : Int), 0, 0, 0, 0, 0, 0⟩, rfl, hf', hl', fun W hW => HO9.out.ro W (fun k hk hx _ => hW k hx hk)⟩, HO9.out.toBelow⟩
   · obtain rfl : m = m' := (HN.out her).symm
     have her' := beqF her
     go_wp2_with (first | (refine go_st HO5.out 0 rfl rfl 89 (.tmp 10) (.tmp 63) rfl rfl (m.cs c) rfl rfl size89 (Md.one c m) ?_; intro w5 ho1; have HO6 : As (Own [] [(w4.heap.size, EC 89 (m.cs c)), (w.heap.size + 3, EC 39 An.z), (w.heap.size + 2, EC 89 Md.zs), (w.heap.size + 1, EC 42 (Opp.cs ⟨1, p, s, a, n, b⟩)), (w.heap.size, EC 89 (m.cs c))] (fun W => MdR W c m → MdR W c m) w w5) := As.mk ho1; obtain ⟨z0, -, -, -, -, -⟩ := hs.out _ (ho1.drop.imp fun _ _ => trivial); have z13 : w5.cell? ⟨w4.heap.size, 13, none⟩ = some (.slice m.Am c.H m.cm) := ho1.get me0 13 (by simp [Md.cs]); clear ho1) | (refine go_ld HO6.out me4 rfl 89 (.tmp 2) rfl rfl _ Tryz.underlying89 rfl size89 ?_))
     refine (HWR.out _ _).mono ?_
     rintro e w6 ⟨rfl, hb⟩
     have HOw := As.mk (HO6.out.below hb)
     clear hb HO6
     go_wp2_with (first | (refine go_st HOw.out 2 rfl rfl 89 (.tmp 4) (.tmp 71) rfl rfl (m.cs c) rfl rfl size89 (Md.one c m) ?_; intro wa ho1; have HOa := As.mk ho1; clear ho1) | (refine go_st HOa.out 1 rfl rfl 39 (.tmp 5) (.tmp 72) rfl rfl (An.no er).cs rfl rfl size39 (An.one _) ?_; intro wb ho1; have HOb := As.mk ho1; clear ho1))
     refine bodyPost_ret (results_c2 rfl _ rfl rfl (HOb.out.range me2) (HOb.out.range me1) Tryz.underlying89 rfl size89 Tryz.underlying39 rfl size39) rfl ⟨⟨m, An.no er, rfl, HF.out, by omega, fun W _ h => h⟩, HOb.out.toBelow⟩
 · have hx2' := beqF hx2
   go_wp2_with ((refine go_ld HO3.out me3 rfl 89 (.tmp 2) rfl rfl _ Tryz.underlying89 rfl size89 ?_))
   refine (HWR.out _ _).mono ?_
   rintro e w4 ⟨rfl, hb⟩
   have HOw := As.mk (HO3.out.below hb)
   clear hb HO3
   go_wp2_with (first | (refine go_st HOw.out 1 rfl rfl 89 (.tmp 4) (.tmp 54) rfl rfl (m.cs c) rfl rfl size89 (Md.one c m) ?_; intro wa ho1; have HOa := As.mk ho1; clear ho1) | (refine go_st HOa.out 0 rfl rfl 39 (.tmp 5) (.tmp 55) rfl rfl (An.no x2).cs rfl rfl size39 (An.one _) ?_; intro wb ho1; have HOb := As.mk ho1; clear ho1))
   refine bodyPost_ret (results_c2 rfl _ rfl rfl (HOb.out.range me1) (HOb.out.range me0) Tryz.underlying89 rfl size89 Tryz.underlying39 rfl size39) rfl ⟨⟨m, An.no x2, rfl, HF.out, by omega, fun W _ h => h⟩, HOb.out.toBelow⟩
set_option maxHeartbeats 8000000 in
set_option maxRecDepth 100000 in
theorem ref_give_2 (c : Cf) (hg : Good c) (m : Md) (p s a n b : Int) (w : World) (ok : OpOk ⟨2, p, s, a, n, b⟩) (hmd : MdR w c m) (hf : MdF c m) (hl : m.l.length ≤ 998) :
 Calls Tryz.prog 61 #[m.v c, .agg (Opp.cs ⟨2, p, s, a, n, b⟩).toArray] w fun e w' => RetM c m (m.l.length + 1) w w' e ∧ Below w.heap.size w w' := by
 have HMD := As.mk hmd
 have HF := As.mk hf
 have HO := As.mk (box4 w (m.cs c) (Opp.cs ⟨2, p, s, a, n, b⟩))
 have HWR := As.mk (fun (W : World) (er : Int) => ref_wrong c m er W)
 have HN0 := As.mk (fun (W : World) => ref_New c hg m.live s 1 W goodA1)
 have HNEW := As.mk (fun (W : World) => ref_Many c hg m.live n s W ok.n ok.s)
 obtain ⟨y1, hy1⟩ : ∃ x, x = (adm c m.live s 1).1 := ⟨_, rfl⟩
 obtain ⟨y2, hy2⟩ : ∃ x, x = (adm c m.live s 1).2 := ⟨_, rfl⟩
 rw [← hy1, ← hy2] at HN0
 clear hy1 hy2
 have HQ := As.mk (many_q hg (live := m.live) (n := n) (s := s))
 obtain ⟨x1, hx1⟩ : ∃ x, x = (many c m.live n s).1 := ⟨_, rfl⟩
 obtain ⟨x2, hx2⟩ : ∃ x, x = (many c m.live n s).2 := ⟨_, rfl⟩
 rw [← hx1, ← hx2] at HNEW HQ
 have HPL := As.mk (fun (W : World) (q : Nat) (x : Int) (h : MdR W c m) (h1 : 1 ≤ q) (h2 : q ≤ 65536) => ref_place c hg m m.A m.cap m.l q x W h h.bl hf (by omega) h1 h2)
 have hcv : c.v = .agg c.cs.toArray := rfl
 have hH : 1 ≤ c.H ∧ c.H ≤ 65536 := by obtain ⟨b1, b2, b3, b4, b5, b6, b7⟩ := hg.bounds; omega
 rw [hcv] at HNEW HN0
 clear hcv hx1 hx2 hmd hf hg ok
 unfold Md.v at HWR HPL ⊢
 have hs : As (∀ W, Own [] [(w.heap.size + 3, EC 39 An.z), (w.heap.size + 2, EC 89 Md.zs), (w.heap.size + 1, EC 42 (Opp.cs ⟨2, p, s, a, n, b⟩)), (w.heap.size, EC 89 (m.cs c))] (fun _ => True) w W → W.cell? ⟨w.heap.size + 1, 0, none⟩ = some (.int .i64 2) ∧ W.cell? ⟨w.heap.size + 1, 2, none⟩ = some (.int .i64 s) ∧ W.cell? ⟨w.heap.size + 1, 3, none⟩ = some (.int .i64 a) ∧ W.cell? ⟨w.heap.size + 1, 4, none⟩ = some (.int .i64 n) ∧ W.cell? ⟨w.heap.size, 9, none⟩ = some (.int .i64 m.live) ∧ W.cell? ⟨w.heap.size, 8, none⟩ = some (.slice m.A m.l.length m.cap)) := ⟨fun W ho => ⟨ho.get me2 0 (by simp [Opp.cs]), ho.get me2 2 (by simp [Opp.cs]), ho.get me2 3 (by simp [Opp.cs]), ho.get me2 4 (by simp [Opp.cs]), ho.get me3 9 (by simp [Md.cs]), ho.get me3 8 (by simp [Md.cs])⟩⟩
 obtain ⟨w1, hw1⟩ : ∃ x, x = ((((w.alloc (.cells (m.cs c).toArray 89)).alloc (.cells (Opp.cs ⟨2, p, s, a, n, b⟩).toArray 42)).alloc (.cells #[.int .i64 0, .int .i64 0, .int .i64 0, .int .i64 0, .int .i64 0, .int .i64 0, .int .i64 0, .int .i64 0, .slice none 0 0, .int .i64 0, .int .i64 0, .int .i64 0, .slice none 0 0, .slice none 0 0] 89)).alloc (.cells #[.int .i64 0, .int .i64 0, .int .i64 0, .int .u8 0, .int .i64 0, .int .i64 0, .int .i64 0, .int .i64 0] 39)) := ⟨_, rfl⟩
 rw [← hw1] at HO
 obtain ⟨z0, z2, z3, z4, z9, z8⟩ := hs.out _ HO.out
 have hsz : w.heap.size + 1 + 1 = w.heap.size + 2 ∧ w.heap.size + 2 + 1 = w.heap.size + 3 := ⟨rfl, rfl⟩
 go_enter Tryz.func61, Tryz.ntmps61
 go_wp2_with fail
 try simp only [hsz.1, hsz.2]
 rw [← hw1]
 clear hw1 hsz
 refine rgn [(0, 1), (1, 0), (2, 1), (3, 1)] [] (fun W => W.cell? ⟨w.heap.size + 1, 2, none⟩ = some (.int .i64 s)) (by kernel_rfl) (by kernel_rfl) (fun _ _ _ d _ h => by cases d <;> exact h) z2 ?_
 obtain ⟨w2, hw2⟩ : ∃ x, x = w1.drew := ⟨_, rfl⟩
 have hod := HO.out.drew
 rw [← hw2] at hod ⊢
 have HO2 := As.mk hod
 clear hw2 hod HO z0 z2 z3 z4 z9 z8
 refine Run.pu (v := ?_) (a' := ?_) rfl rfl (Or.inl ⟨by rfl, ?_⟩) ?_ ?_; rotate_left 2; (focus (intro W; go_simp; with_reducible rfl)); (focus (simp only [zq1, zq2, zq3, Act.put, zq4, zq5, zq6]; rfl))
 refine Run.rd (v := ?_) (a' := ?_) rfl rfl (Or.inl ⟨by rfl, ?_⟩) ?_ ?_; rotate_left 2; (focus (intro W hW; go_simp; with_reducible rfl)); (focus (simp only [zq1, zq2, zq3, Act.put, zq4, zq5, zq6]; rfl))
 iterate 2 (refine Run.pu (v := ?_) (a' := ?_) rfl rfl (Or.inl ⟨by rfl, ?_⟩) ?_ ?_; rotate_left 2; (focus (intro W; go_simp; with_reducible rfl)); (focus (simp only [zq1, zq2, zq3, Act.put, zq4, zq5, zq6]; rfl)))
 refine Run.nil ?_
 try simp only [zq1, zq2, zq3]
 try simp only [zq4, zq5, zq6]
 obtain ⟨z0, z2, z3, z4, z9, z8⟩ := hs.out _ HO2.out
 go_wp2_with (refine go_ldp HO2.out me3 (Md.split c m) rfl 34 (.tmp 20) rfl rfl _ Tryz.underlying34 rfl size34 ?_)
 refine (HN0.out _).mono ?_
 rintro e w2a ⟨rfl, hb⟩
 have HO2a := As.mk (HO2.out.below hb)
 clear hb HO2 z0 z2 z3 z4 z9 z8 HN0
 obtain ⟨z0, z2, z3, z4, z9, z8⟩ := hs.out _ HO2a.out
 go_wp2_with (refine go_ldp HO2a.out me3 (Md.split c m) rfl 34 (.tmp 33) rfl rfl _ Tryz.underlying34 rfl size34 ?_)
 refine (HNEW.out _).mono ?_
 rintro e w3 ⟨rfl, hb⟩
 have HO3 := As.mk (HO2a.out.below hb)
 clear hb HO2a z0 z2 z3 z4 z9 z8 HNEW
 obtain ⟨z0, z2, z3, z4, z9, z8⟩ := hs.out _ HO3.out
 by_cases hx2 : x2 = 0
 · obtain ⟨q, rfl, hq1, hq2⟩ := HQ.out hx2
   subst hx2
   go_wp2_with (refine go_ld HO3.out me3 rfl 89 (.tmp 2) rfl rfl _ Tryz.underlying89 rfl size89 ?_)
   refine (HPL.out _ q _ (HMD.out.below HO3.out.toBelow) hq1 hq2).mono ?_
   rintro e w4 ⟨⟨m', at_, er, rfl, hE, hN, hR⟩, hb⟩
   have HO4 := As.mk ((HO3.out.result hb (fun W hW => hR W hW)).imp (R' := fun W => MdR W c m → MdR W c m') (fun W h => h.2))
   have HE := As.mk hE
   have HN := As.mk hN
   clear hE hN hR hb HO3 HQ z0 z2 z3 z4 z9 z8 HPL
   have HO5 := As.mk (box89 HO4.out)
   unfold Md.v
   by_cases her : er = 0
   · subst her
     obtain ⟨hat, hf', hl'⟩ := HE.out rfl
     go_wp2_with (refine go_st HO5.out 0 rfl rfl 89 (.tmp 10) (.tmp 63) rfl rfl (m'.cs c) rfl rfl size89 (Md.one c m') ?_; intro w5 ho1; have HO6 : As (Own [] [(w4.heap.size, EC 89 (m'.cs c)), (w.heap.size + 3, EC 39 An.z), (w.heap.size + 2, EC 89 Md.zs), (w.heap.size + 1, EC 42 (Opp.cs ⟨2, p, s, a, n, b⟩)), (w.heap.size, EC 89 (m.cs c))] (fun W => MdR W c m → MdR W c m') w w5) := As.mk ho1; obtain ⟨z0, -, -, -, -, -⟩ := hs.out _ (ho1.drop.imp fun _ _ => trivial); have z13 : w5.cell? ⟨w4.heap.size, 13, none⟩ = some (.slice m'.Am c.H m'.cm) := ho1.get me0 13 (by simp [Md.cs]); clear ho1)
     have hmem := (HO6.out.now (HMD.out.below HO6.out.toBelow)).mem
     refine (ref_Zero (.slice m'.Am c.H m'.cm) c.H at_ q _ hmem hH.1 hH.2).mono ?_
     rintro e w6 ⟨⟨v, bz, rfl, hv⟩, hb⟩
     obtain ⟨us, hus, hvr⟩ := hv w6 (Agr.refl _ _) (hmem.imp fun bs hbs => ⟨hbs.1, hbs.2.below hb⟩)
     obtain ⟨Am2, cm2, rfl⟩ := hvr.form
     have HO7 := As.mk ((HO6.out.result hb (fun W hW => hv W hW)).imp (R' := fun W => MdR W c m → MdR W c (m'.setMem Am2 cm2)) (fun W h hm => ⟨(h.1 hm).bl, (h.1 hm).on, h.2 (h.1 hm).mem⟩))
     clear hb hv hvr hus hmem z0 z13
     go_wp2_with (first | (refine go_st1 HO7.out 0 rfl rfl 22 (.tmp 84) (.tmp 82) rfl 13 rfl (.slice Am2 c.H cm2) rfl rfl (by simp [Md.cs]) size22 ?_; intro w7 ho1; have HOY : As (Own [] [(w4.heap.size, EC 89 ((m'.setMem Am2 cm2).cs c)), (w.heap.size + 3, EC 39 An.z), (w.heap.size + 2, EC 89 Md.zs), (w.heap.size + 1, EC 42 (Opp.cs ⟨2, p, s, a, n, b⟩)), (w.heap.size, EC 89 (m.cs c))] (fun W => MdR W c m → MdR W c (m'.setMem Am2 cm2)) w w7) := As.mk ho1; clear ho1) | (refine go_ld HOY.out me0 rfl 89 (.tmp 10) rfl rfl _ Tryz.underlying89 rfl size89 ?_) | (refine go_st HOY.out 2 rfl rfl 89 (.tmp 4) (.tmp 85) rfl rfl ((m'.setMem Am2 cm2).cs c) rfl rfl size89 (Md.one c _) ?_; intro w8 ho1; have HO8 := As.mk ho1; clear ho1) | (refine go_st HO8.out 1 rfl rfl 39 (.tmp 5) (.tmp 87) rfl rfl (An.cs ⟨0, (at_ : Int), 0, 0, 0, 0, 0, 0⟩) rfl rfl size39 (An.one _) ?_; intro w9 ho1; have HO9 := As.mk ho1; clear ho1))
     refine bodyPost_ret (results_c2 rfl _ rfl rfl (HO9.out.range me2) (HO9.out.range me1) Tryz.underlying89 rfl size89 Tryz.underlying39 rfl size39) rfl ⟨⟨(m'.setMem Am2 cm2), ⟨0, (at_ : Int), 0, 0, 0, 0, 0, 0⟩, rfl, hf', hl', fun W hW => HO9.out.ro W (fun k hk hx _ => hW k hx hk)⟩, HO9.out.toBelow⟩
   · obtain rfl : m = m' := (HN.out her).symm
     have her' := beqF her
     go_wp2_with (first | (refine go_st HO5.out 0 rfl rfl 89 (.tmp 10) (.tmp 63) rfl rfl (m.cs c) rfl rfl size89 (Md.one c m) ?_; intro w5 ho1; have HO6 : As (Own [] [(w4.heap.size, EC 89 (m.cs c)), (w.heap.size + 3, EC 39 An.z), (w.heap.size + 2, EC 89 Md.zs), (w.heap.size + 1, EC 42 (Opp.cs ⟨2, p, s, a, n, b⟩)), (w.heap.size, EC 89 (m.cs c))] (fun W => MdR W c m → MdR W c m) w w5) := As.mk ho1; obtain ⟨z0, -, -, -, -, -⟩ := hs.out _ (ho1.drop.imp fun _ _ => trivial); have z13 : w5.cell? ⟨w4.heap.size, 13, none⟩ = some (.slice m.Am c.H m.cm) := ho1.get me0 13 (by simp [Md.cs]); clear ho1) | (refine go_ld HO6.out me4 rfl 89 (.tmp 2) rfl rfl _ Tryz.underlying89 rfl size89 ?_))
     refine (HWR.out _ _).mono ?_
     rintro e w6 ⟨rfl, hb⟩
     have HOw := As.mk (HO6.out.below hb)
     clear hb HO6
     go_wp2_with (first | (refine go_st HOw.out 2 rfl rfl 89 (.tmp 4) (.tmp 71) rfl rfl (m.cs c) rfl rfl size89 (Md.one c m) ?_; intro wa ho1; have HOa := As.mk ho1; clear ho1) | (refine go_st HOa.out 1 rfl rfl 39 (.tmp 5) (.tmp 72) rfl rfl (An.no er).cs rfl rfl size39 (An.one _) ?_; intro wb ho1; have HOb := As.mk ho1; clear ho1))
     refine bodyPost_ret (results_c2 rfl _ rfl rfl (HOb.out.range me2) (HOb.out.range me1) Tryz.underlying89 rfl size89 Tryz.underlying39 rfl size39) rfl ⟨⟨m, An.no er, rfl, HF.out, by omega, fun W _ h => h⟩, HOb.out.toBelow⟩
 · have hx2' := beqF hx2
   go_wp2_with ((refine go_ld HO3.out me3 rfl 89 (.tmp 2) rfl rfl _ Tryz.underlying89 rfl size89 ?_))
   refine (HWR.out _ _).mono ?_
   rintro e w4 ⟨rfl, hb⟩
   have HOw := As.mk (HO3.out.below hb)
   clear hb HO3
   go_wp2_with (first | (refine go_st HOw.out 1 rfl rfl 89 (.tmp 4) (.tmp 54) rfl rfl (m.cs c) rfl rfl size89 (Md.one c m) ?_; intro wa ho1; have HOa := As.mk ho1; clear ho1) | (refine go_st HOa.out 0 rfl rfl 39 (.tmp 5) (.tmp 55) rfl rfl (An.no x2).cs rfl rfl size39 (An.one _) ?_; intro wb ho1; have HOb := As.mk ho1; clear ho1))
   refine bodyPost_ret (results_c2 rfl _ rfl rfl (HOb.out.range me1) (HOb.out.range me0) Tryz.underlying89 rfl size89 Tryz.underlying39 rfl size39) rfl ⟨⟨m, An.no x2, rfl, HF.out, by omega, fun W _ h => h⟩, HOb.out.toBelow⟩
set_option maxHeartbeats 8000000 in
set_option maxRecDepth 100000 in
theorem ref_give_3 (c : Cf) (hg : Good c) (m : Md) (p s a n b : Int) (w : World) (ok : OpOk ⟨3, p, s, a, n, b⟩) (hmd : MdR w c m) (hf : MdF c m) (hl : m.l.length ≤ 998) :
 Calls Tryz.prog 61 #[m.v c, .agg (Opp.cs ⟨3, p, s, a, n, b⟩).toArray] w fun e w' => RetM c m (m.l.length + 1) w w' e ∧ Below w.heap.size w w' := by
 have HMD := As.mk hmd
 have HF := As.mk hf
 have HO := As.mk (box4 w (m.cs c) (Opp.cs ⟨3, p, s, a, n, b⟩))
 have HWR := As.mk (fun (W : World) (er : Int) => ref_wrong c m er W)
 have HNEW := As.mk (fun (W : World) => ref_New c hg m.live s a W ok.a)
 have HQ := As.mk (adm_q hg (live := m.live) (s := s) ok.a)
 obtain ⟨x1, hx1⟩ : ∃ x, x = (adm c m.live s a).1 := ⟨_, rfl⟩
 obtain ⟨x2, hx2⟩ : ∃ x, x = (adm c m.live s a).2 := ⟨_, rfl⟩
 rw [← hx1, ← hx2] at HNEW HQ
 have HPL := As.mk (fun (W : World) (q : Nat) (x : Int) (h : MdR W c m) (h1 : 1 ≤ q) (h2 : q ≤ 65536) => ref_place c hg m m.A m.cap m.l q x W h h.bl hf (by omega) h1 h2)
 have hcv : c.v = .agg c.cs.toArray := rfl
 have hH : 1 ≤ c.H ∧ c.H ≤ 65536 := by obtain ⟨b1, b2, b3, b4, b5, b6, b7⟩ := hg.bounds; omega
 rw [hcv] at HNEW
 clear hcv hx1 hx2 hmd hf hg ok
 unfold Md.v at HWR HPL ⊢
 have hs : As (∀ W, Own [] [(w.heap.size + 3, EC 39 An.z), (w.heap.size + 2, EC 89 Md.zs), (w.heap.size + 1, EC 42 (Opp.cs ⟨3, p, s, a, n, b⟩)), (w.heap.size, EC 89 (m.cs c))] (fun _ => True) w W → W.cell? ⟨w.heap.size + 1, 0, none⟩ = some (.int .i64 3) ∧ W.cell? ⟨w.heap.size + 1, 2, none⟩ = some (.int .i64 s) ∧ W.cell? ⟨w.heap.size + 1, 3, none⟩ = some (.int .i64 a) ∧ W.cell? ⟨w.heap.size + 1, 4, none⟩ = some (.int .i64 n) ∧ W.cell? ⟨w.heap.size, 9, none⟩ = some (.int .i64 m.live) ∧ W.cell? ⟨w.heap.size, 8, none⟩ = some (.slice m.A m.l.length m.cap)) := ⟨fun W ho => ⟨ho.get me2 0 (by simp [Opp.cs]), ho.get me2 2 (by simp [Opp.cs]), ho.get me2 3 (by simp [Opp.cs]), ho.get me2 4 (by simp [Opp.cs]), ho.get me3 9 (by simp [Md.cs]), ho.get me3 8 (by simp [Md.cs])⟩⟩
 obtain ⟨w1, hw1⟩ : ∃ x, x = ((((w.alloc (.cells (m.cs c).toArray 89)).alloc (.cells (Opp.cs ⟨3, p, s, a, n, b⟩).toArray 42)).alloc (.cells #[.int .i64 0, .int .i64 0, .int .i64 0, .int .i64 0, .int .i64 0, .int .i64 0, .int .i64 0, .int .i64 0, .slice none 0 0, .int .i64 0, .int .i64 0, .int .i64 0, .slice none 0 0, .slice none 0 0] 89)).alloc (.cells #[.int .i64 0, .int .i64 0, .int .i64 0, .int .u8 0, .int .i64 0, .int .i64 0, .int .i64 0, .int .i64 0] 39)) := ⟨_, rfl⟩
 rw [← hw1] at HO
 obtain ⟨z0, z2, z3, z4, z9, z8⟩ := hs.out _ HO.out
 have hsz : w.heap.size + 1 + 1 = w.heap.size + 2 ∧ w.heap.size + 2 + 1 = w.heap.size + 3 := ⟨rfl, rfl⟩
 go_enter Tryz.func61, Tryz.ntmps61
 go_wp2_with fail
 try simp only [hsz.1, hsz.2]
 rw [← hw1]
 clear hw1 hsz
 refine rgn [(0, 1), (1, 0), (2, 1), (3, 1)] [] (fun W => W.cell? ⟨w.heap.size + 1, 2, none⟩ = some (.int .i64 s)) (by kernel_rfl) (by kernel_rfl) (fun _ _ _ d _ h => by cases d <;> exact h) z2 ?_
 obtain ⟨w2, hw2⟩ : ∃ x, x = w1.drew := ⟨_, rfl⟩
 have hod := HO.out.drew
 rw [← hw2] at hod ⊢
 have HO2 := As.mk hod
 clear hw2 hod HO z0 z2 z3 z4 z9 z8
 refine Run.pu (v := ?_) (a' := ?_) rfl rfl (Or.inl ⟨by rfl, ?_⟩) ?_ ?_; rotate_left 2; (focus (intro W; go_simp; with_reducible rfl)); (focus (simp only [zq1, zq2, zq3, Act.put, zq4, zq5, zq6]; rfl))
 refine Run.rd (v := ?_) (a' := ?_) rfl rfl (Or.inl ⟨by rfl, ?_⟩) ?_ ?_; rotate_left 2; (focus (intro W hW; go_simp; with_reducible rfl)); (focus (simp only [zq1, zq2, zq3, Act.put, zq4, zq5, zq6]; rfl))
 iterate 2 (refine Run.pu (v := ?_) (a' := ?_) rfl rfl (Or.inl ⟨by rfl, ?_⟩) ?_ ?_; rotate_left 2; (focus (intro W; go_simp; with_reducible rfl)); (focus (simp only [zq1, zq2, zq3, Act.put, zq4, zq5, zq6]; rfl)))
 refine Run.nil ?_
 try simp only [zq1, zq2, zq3]
 try simp only [zq4, zq5, zq6]
 obtain ⟨z0, z2, z3, z4, z9, z8⟩ := hs.out _ HO2.out
 go_wp2_with (refine go_ldp HO2.out me3 (Md.split c m) rfl 34 (.tmp 20) rfl rfl _ Tryz.underlying34 rfl size34 ?_)
 refine (HNEW.out _).mono ?_
 rintro e w3 ⟨rfl, hb⟩
 have HO3 := As.mk (HO2.out.below hb)
 clear hb HO2 z0 z2 z3 z4 z9 z8 HNEW
 obtain ⟨z0, z2, z3, z4, z9, z8⟩ := hs.out _ HO3.out
 by_cases hx2 : x2 = 0
 · obtain ⟨q, rfl, hq1, hq2⟩ := HQ.out hx2
   subst hx2
   go_wp2_with (refine go_ld HO3.out me3 rfl 89 (.tmp 2) rfl rfl _ Tryz.underlying89 rfl size89 ?_)
   refine (HPL.out _ q _ (HMD.out.below HO3.out.toBelow) hq1 hq2).mono ?_
   rintro e w4 ⟨⟨m', at_, er, rfl, hE, hN, hR⟩, hb⟩
   have HO4 := As.mk ((HO3.out.result hb (fun W hW => hR W hW)).imp (R' := fun W => MdR W c m → MdR W c m') (fun W h => h.2))
   have HE := As.mk hE
   have HN := As.mk hN
   clear hE hN hR hb HO3 HQ z0 z2 z3 z4 z9 z8 HPL
   have HO5 := As.mk (box89 HO4.out)
   unfold Md.v
   by_cases her : er = 0
   · subst her
     obtain ⟨hat, hf', hl'⟩ := HE.out rfl
     go_wp2_with (first | (refine go_st HO5.out 0 rfl rfl 89 (.tmp 10) (.tmp 63) rfl rfl (m'.cs c) rfl rfl size89 (Md.one c m') ?_; intro w5 ho1; have HO6 : As (Own [] [(w4.heap.size, EC 89 (m'.cs c)), (w.heap.size + 3, EC 39 An.z), (w.heap.size + 2, EC 89 Md.zs), (w.heap.size + 1, EC 42 (Opp.cs ⟨3, p, s, a, n, b⟩)), (w.heap.size, EC 89 (m.cs c))] (fun W => MdR W c m → MdR W c m') w w5) := As.mk ho1; obtain ⟨z0, -, -, -, -, -⟩ := hs.out _ (ho1.drop.imp fun _ _ => trivial); have z13 : w5.cell? ⟨w4.heap.size, 13, none⟩ = some (.slice m'.Am c.H m'.cm) := ho1.get me0 13 (by simp [Md.cs]); clear ho1) | (refine go_ld HO6.out me0 rfl 89 (.tmp 10) rfl rfl _ Tryz.underlying89 rfl size89 ?_) | (refine go_st HO6.out 2 rfl rfl 89 (.tmp 4) (.tmp 85) rfl rfl (m'.cs c) rfl rfl size89 (Md.one c _) ?_; intro w8 ho1; have HO8 := As.mk ho1; clear ho1) | (refine go_st HO8.out 1 rfl rfl 39 (.tmp 5) (.tmp 87) rfl rfl (An.cs ⟨0, (at_ : Int), 0, 0, 0, 0, 0, 0⟩) rfl rfl size39 (An.one _) ?_; intro w9 ho1; have HO9 := As.mk ho1; clear ho1))
     refine bodyPost_ret (results_c2 rfl _ rfl rfl (HO9.out.range me2) (HO9.out.range me1) Tryz.underlying89 rfl size89 Tryz.underlying39 rfl size39) rfl ⟨⟨m', ⟨0, (at_ : Int), 0, 0, 0, 0, 0, 0⟩, rfl, hf', hl', fun W hW => HO9.out.ro W (fun k hk hx _ => hW k hx hk)⟩, HO9.out.toBelow⟩
   · obtain rfl : m = m' := (HN.out her).symm
     have her' := beqF her
     go_wp2_with (first | (refine go_st HO5.out 0 rfl rfl 89 (.tmp 10) (.tmp 63) rfl rfl (m.cs c) rfl rfl size89 (Md.one c m) ?_; intro w5 ho1; have HO6 : As (Own [] [(w4.heap.size, EC 89 (m.cs c)), (w.heap.size + 3, EC 39 An.z), (w.heap.size + 2, EC 89 Md.zs), (w.heap.size + 1, EC 42 (Opp.cs ⟨3, p, s, a, n, b⟩)), (w.heap.size, EC 89 (m.cs c))] (fun W => MdR W c m → MdR W c m) w w5) := As.mk ho1; obtain ⟨z0, -, -, -, -, -⟩ := hs.out _ (ho1.drop.imp fun _ _ => trivial); have z13 : w5.cell? ⟨w4.heap.size, 13, none⟩ = some (.slice m.Am c.H m.cm) := ho1.get me0 13 (by simp [Md.cs]); clear ho1) | (refine go_ld HO6.out me4 rfl 89 (.tmp 2) rfl rfl _ Tryz.underlying89 rfl size89 ?_))
     refine (HWR.out _ _).mono ?_
     rintro e w6 ⟨rfl, hb⟩
     have HOw := As.mk (HO6.out.below hb)
     clear hb HO6
     go_wp2_with (first | (refine go_st HOw.out 2 rfl rfl 89 (.tmp 4) (.tmp 71) rfl rfl (m.cs c) rfl rfl size89 (Md.one c m) ?_; intro wa ho1; have HOa := As.mk ho1; clear ho1) | (refine go_st HOa.out 1 rfl rfl 39 (.tmp 5) (.tmp 72) rfl rfl (An.no er).cs rfl rfl size39 (An.one _) ?_; intro wb ho1; have HOb := As.mk ho1; clear ho1))
     refine bodyPost_ret (results_c2 rfl _ rfl rfl (HOb.out.range me2) (HOb.out.range me1) Tryz.underlying89 rfl size89 Tryz.underlying39 rfl size39) rfl ⟨⟨m, An.no er, rfl, HF.out, by omega, fun W _ h => h⟩, HOb.out.toBelow⟩
 · have hx2' := beqF hx2
   go_wp2_with ((refine go_ld HO3.out me3 rfl 89 (.tmp 2) rfl rfl _ Tryz.underlying89 rfl size89 ?_))
   refine (HWR.out _ _).mono ?_
   rintro e w4 ⟨rfl, hb⟩
   have HOw := As.mk (HO3.out.below hb)
   clear hb HO3
   go_wp2_with (first | (refine go_st HOw.out 1 rfl rfl 89 (.tmp 4) (.tmp 54) rfl rfl (m.cs c) rfl rfl size89 (Md.one c m) ?_; intro wa ho1; have HOa := As.mk ho1; clear ho1) | (refine go_st HOa.out 0 rfl rfl 39 (.tmp 5) (.tmp 55) rfl rfl (An.no x2).cs rfl rfl size39 (An.one _) ?_; intro wb ho1; have HOb := As.mk ho1; clear ho1))
   refine bodyPost_ret (results_c2 rfl _ rfl rfl (HOb.out.range me1) (HOb.out.range me0) Tryz.underlying89 rfl size89 Tryz.underlying39 rfl size39) rfl ⟨⟨m, An.no x2, rfl, HF.out, by omega, fun W _ h => h⟩, HOb.out.toBelow⟩
end Go.Proofs.YtmookafmdonopaaGreat.Top
