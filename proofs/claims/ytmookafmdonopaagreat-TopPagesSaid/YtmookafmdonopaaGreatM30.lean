/- hodmanref17: Do walked (weak). -/
import Derived.Test.YtmookafmdonopaaGreatM29
/- hodmanref17: Do walked (weak). -/
namespace Go.Proofs.YtmookafmdonopaaGreat.Top
open Go Go.RowKit
set_option linter.unusedVariables false
set_option linter.unusedSimpArgs false
attribute [local go_sem] max2_int min2_int max_two min_two max_three

set_option maxHeartbeats 8000000 in
set_option maxRecDepth 100000 in
theorem ref_Do_1 (c : Cf) (hg : Good c) (m : Md) (p s a n b : Int) (w : World) (ok : OpOk ⟨1, p, s, a, n, b⟩) (hmd : MdR w c m) (hf : MdF c m) (hl : m.l.length ≤ 998) :
 Calls Tryz.prog 38 #[m.v c, .agg (Opp.cs ⟨1, p, s, a, n, b⟩).toArray] w fun e w' => RetM c m (m.l.length + 1) w w' e ∧ Below w.heap.size w w' := by
 have HMD := As.mk hmd
 have HF := As.mk hf
 have HO := As.mk (box4 w (m.cs c) (Opp.cs ⟨1, p, s, a, n, b⟩))
 have HWR := As.mk (fun (W : World) (er : Int) => ref_wrong c m er W)
 have HGV := As.mk (fun (W : World) (h : MdR W c m) => ref_give_1 c hg m p s a n b W ok h hf hl)
 have HG := As.mk hg
 have OK := As.mk ok
 clear hmd hf hg ok
 unfold Md.v at HWR ⊢
 have hs : As (∀ W, Own [] [(w.heap.size + 3, EC 39 An.z), (w.heap.size + 2, EC 89 Md.zs), (w.heap.size + 1, EC 42 (Opp.cs ⟨1, p, s, a, n, b⟩)), (w.heap.size, EC 89 (m.cs c))] (fun _ => True) w W → W.cell? ⟨w.heap.size + 1, 0, none⟩ = some (.int .i64 1) ∧ W.cell? ⟨w.heap.size + 1, 1, none⟩ = some (.int .i64 p) ∧ W.cell? ⟨w.heap.size, 8, none⟩ = some (.slice m.A m.l.length m.cap)) := ⟨fun W ho => ⟨ho.get me2 0 (by simp [Opp.cs]), ho.get me2 1 (by simp [Opp.cs]), ho.get me3 8 (by simp [Md.cs])⟩⟩
 obtain ⟨w1, hw1⟩ : ∃ x, x = ((((w.alloc (.cells (m.cs c).toArray 89)).alloc (.cells (Opp.cs ⟨1, p, s, a, n, b⟩).toArray 42)).alloc (.cells #[.int .i64 0, .int .i64 0, .int .i64 0, .int .i64 0, .int .i64 0, .int .i64 0, .int .i64 0, .int .i64 0, .slice none 0 0, .int .i64 0, .int .i64 0, .int .i64 0, .slice none 0 0, .slice none 0 0] 89)).alloc (.cells #[.int .i64 0, .int .i64 0, .int .i64 0, .int .u8 0, .int .i64 0, .int .i64 0, .int .i64 0, .int .i64 0] 39)) := ⟨_, rfl⟩
 obtain ⟨z0, z1, z8⟩ := hs.out _ HO.out
 go_enter Tryz.func38, Tryz.ntmps38
 unfold Md.v at HGV
 go_wp2_with (first | (refine go_ld HO.out me3 rfl 89 (.tmp 2) rfl rfl _ Tryz.underlying89 rfl size89 ?_) | (refine go_ld HO.out me2 rfl 42 (.tmp 3) rfl rfl _ Tryz.underlying42 rfl size42 ?_))
 refine (HGV.out _ (HMD.out.below HO.out.toBelow)).mono ?_
 rintro e w2 ⟨⟨m', an, rfl, hf', hl', hR⟩, hb⟩
 have HO2 := As.mk ((HO.out.result hb (fun W hW => hR W hW)).imp (R' := fun W => MdR W c m → MdR W c m') (fun W h => h.2))
 have HF2 := As.mk hf'
 clear hb hR hf' HO z0 z1 z8 hw1
 unfold Md.v
 go_wp2_with (first | (refine go_st HO2.out 1 rfl rfl 89 (.tmp 4) (.tmp 18) rfl rfl (m'.cs c) rfl rfl size89 (Md.one c _) ?_; intro wa ho1; have HOa := As.mk ho1; clear ho1) | (refine go_st HOa.out 0 rfl rfl 39 (.tmp 5) (.tmp 19) rfl rfl (an.cs) rfl rfl size39 (An.one _) ?_; intro wb ho1; have HOb := As.mk ho1; clear ho1))
 exact bodyPost_ret (results_c2 rfl _ rfl rfl (HOb.out.range me1) (HOb.out.range me0) Tryz.underlying89 rfl size89 Tryz.underlying39 rfl size39) rfl ⟨⟨m', an, rfl, HF2.out, hl', fun W hW => HOb.out.ro W (fun k hk hx _ => hW k hx hk)⟩, HOb.out.toBelow⟩
set_option maxHeartbeats 8000000 in
set_option maxRecDepth 100000 in
theorem ref_Do_2 (c : Cf) (hg : Good c) (m : Md) (p s a n b : Int) (w : World) (ok : OpOk ⟨2, p, s, a, n, b⟩) (hmd : MdR w c m) (hf : MdF c m) (hl : m.l.length ≤ 998) :
 Calls Tryz.prog 38 #[m.v c, .agg (Opp.cs ⟨2, p, s, a, n, b⟩).toArray] w fun e w' => RetM c m (m.l.length + 1) w w' e ∧ Below w.heap.size w w' := by
 have HMD := As.mk hmd
 have HF := As.mk hf
 have HO := As.mk (box4 w (m.cs c) (Opp.cs ⟨2, p, s, a, n, b⟩))
 have HWR := As.mk (fun (W : World) (er : Int) => ref_wrong c m er W)
 have HGV := As.mk (fun (W : World) (h : MdR W c m) => ref_give_2 c hg m p s a n b W ok h hf hl)
 have HG := As.mk hg
 have OK := As.mk ok
 clear hmd hf hg ok
 unfold Md.v at HWR ⊢
 have hs : As (∀ W, Own [] [(w.heap.size + 3, EC 39 An.z), (w.heap.size + 2, EC 89 Md.zs), (w.heap.size + 1, EC 42 (Opp.cs ⟨2, p, s, a, n, b⟩)), (w.heap.size, EC 89 (m.cs c))] (fun _ => True) w W → W.cell? ⟨w.heap.size + 1, 0, none⟩ = some (.int .i64 2) ∧ W.cell? ⟨w.heap.size + 1, 1, none⟩ = some (.int .i64 p) ∧ W.cell? ⟨w.heap.size, 8, none⟩ = some (.slice m.A m.l.length m.cap)) := ⟨fun W ho => ⟨ho.get me2 0 (by simp [Opp.cs]), ho.get me2 1 (by simp [Opp.cs]), ho.get me3 8 (by simp [Md.cs])⟩⟩
 obtain ⟨w1, hw1⟩ : ∃ x, x = ((((w.alloc (.cells (m.cs c).toArray 89)).alloc (.cells (Opp.cs ⟨2, p, s, a, n, b⟩).toArray 42)).alloc (.cells #[.int .i64 0, .int .i64 0, .int .i64 0, .int .i64 0, .int .i64 0, .int .i64 0, .int .i64 0, .int .i64 0, .slice none 0 0, .int .i64 0, .int .i64 0, .int .i64 0, .slice none 0 0, .slice none 0 0] 89)).alloc (.cells #[.int .i64 0, .int .i64 0, .int .i64 0, .int .u8 0, .int .i64 0, .int .i64 0, .int .i64 0, .int .i64 0] 39)) := ⟨_, rfl⟩
 obtain ⟨z0, z1, z8⟩ := hs.out _ HO.out
 go_enter Tryz.func38, Tryz.ntmps38
 unfold Md.v at HGV
 go_wp2_with (first | (refine go_ld HO.out me3 rfl 89 (.tmp 2) rfl rfl _ Tryz.underlying89 rfl size89 ?_) | (refine go_ld HO.out me2 rfl 42 (.tmp 3) rfl rfl _ Tryz.underlying42 rfl size42 ?_))
 refine (HGV.out _ (HMD.out.below HO.out.toBelow)).mono ?_
 rintro e w2 ⟨⟨m', an, rfl, hf', hl', hR⟩, hb⟩
 have HO2 := As.mk ((HO.out.result hb (fun W hW => hR W hW)).imp (R' := fun W => MdR W c m → MdR W c m') (fun W h => h.2))
 have HF2 := As.mk hf'
 clear hb hR hf' HO z0 z1 z8 hw1
 unfold Md.v
 go_wp2_with (first | (refine go_st HO2.out 1 rfl rfl 89 (.tmp 4) (.tmp 18) rfl rfl (m'.cs c) rfl rfl size89 (Md.one c _) ?_; intro wa ho1; have HOa := As.mk ho1; clear ho1) | (refine go_st HOa.out 0 rfl rfl 39 (.tmp 5) (.tmp 19) rfl rfl (an.cs) rfl rfl size39 (An.one _) ?_; intro wb ho1; have HOb := As.mk ho1; clear ho1))
 exact bodyPost_ret (results_c2 rfl _ rfl rfl (HOb.out.range me1) (HOb.out.range me0) Tryz.underlying89 rfl size89 Tryz.underlying39 rfl size39) rfl ⟨⟨m', an, rfl, HF2.out, hl', fun W hW => HOb.out.ro W (fun k hk hx _ => hW k hx hk)⟩, HOb.out.toBelow⟩
set_option maxHeartbeats 8000000 in
set_option maxRecDepth 100000 in
theorem ref_Do_3 (c : Cf) (hg : Good c) (m : Md) (p s a n b : Int) (w : World) (ok : OpOk ⟨3, p, s, a, n, b⟩) (hmd : MdR w c m) (hf : MdF c m) (hl : m.l.length ≤ 998) :
 Calls Tryz.prog 38 #[m.v c, .agg (Opp.cs ⟨3, p, s, a, n, b⟩).toArray] w fun e w' => RetM c m (m.l.length + 1) w w' e ∧ Below w.heap.size w w' := by
 have HMD := As.mk hmd
 have HF := As.mk hf
 have HO := As.mk (box4 w (m.cs c) (Opp.cs ⟨3, p, s, a, n, b⟩))
 have HWR := As.mk (fun (W : World) (er : Int) => ref_wrong c m er W)
 have HGV := As.mk (fun (W : World) (h : MdR W c m) => ref_give_3 c hg m p s a n b W ok h hf hl)
 have HG := As.mk hg
 have OK := As.mk ok
 clear hmd hf hg ok
 unfold Md.v at HWR ⊢
 have hs : As (∀ W, Own [] [(w.heap.size + 3, EC 39 An.z), (w.heap.size + 2, EC 89 Md.zs), (w.heap.size + 1, EC 42 (Opp.cs ⟨3, p, s, a, n, b⟩)), (w.heap.size, EC 89 (m.cs c))] (fun _ => True) w W → W.cell? ⟨w.heap.size + 1, 0, none⟩ = some (.int .i64 3) ∧ W.cell? ⟨w.heap.size + 1, 1, none⟩ = some (.int .i64 p) ∧ W.cell? ⟨w.heap.size, 8, none⟩ = some (.slice m.A m.l.length m.cap)) := ⟨fun W ho => ⟨ho.get me2 0 (by simp [Opp.cs]), ho.get me2 1 (by simp [Opp.cs]), ho.get me3 8 (by simp [Md.cs])⟩⟩
 obtain ⟨w1, hw1⟩ : ∃ x, x = ((((w.alloc (.cells (m.cs c).toArray 89)).alloc (.cells (Opp.cs ⟨3, p, s, a, n, b⟩).toArray 42)).alloc (.cells #[.int .i64 0, .int .i64 0, .int .i64 0, .int .i64 0, .int .i64 0, .int .i64 0, .int .i64 0, .int .i64 0, .slice none 0 0, .int .i64 0, .int .i64 0, .int .i64 0, .slice none 0 0, .slice none 0 0] 89)).alloc (.cells #[.int .i64 0, .int .i64 0, .int .i64 0, .int .u8 0, .int .i64 0, .int .i64 0, .int .i64 0, .int .i64 0] 39)) := ⟨_, rfl⟩
 obtain ⟨z0, z1, z8⟩ := hs.out _ HO.out
 go_enter Tryz.func38, Tryz.ntmps38
 unfold Md.v at HGV
 go_wp2_with (first | (refine go_ld HO.out me3 rfl 89 (.tmp 2) rfl rfl _ Tryz.underlying89 rfl size89 ?_) | (refine go_ld HO.out me2 rfl 42 (.tmp 3) rfl rfl _ Tryz.underlying42 rfl size42 ?_))
 refine (HGV.out _ (HMD.out.below HO.out.toBelow)).mono ?_
 rintro e w2 ⟨⟨m', an, rfl, hf', hl', hR⟩, hb⟩
 have HO2 := As.mk ((HO.out.result hb (fun W hW => hR W hW)).imp (R' := fun W => MdR W c m → MdR W c m') (fun W h => h.2))
 have HF2 := As.mk hf'
 clear hb hR hf' HO z0 z1 z8 hw1
 unfold Md.v
 go_wp2_with (first | (refine go_st HO2.out 1 rfl rfl 89 (.tmp 4) (.tmp 18) rfl rfl (m'.cs c) rfl rfl size89 (Md.one c _) ?_; intro wa ho1; have HOa := As.mk ho1; clear ho1) | (refine go_st HOa.out 0 rfl rfl 39 (.tmp 5) (.tmp 19) rfl rfl (an.cs) rfl rfl size39 (An.one _) ?_; intro wb ho1; have HOb := As.mk ho1; clear ho1))
 exact bodyPost_ret (results_c2 rfl _ rfl rfl (HOb.out.range me1) (HOb.out.range me0) Tryz.underlying89 rfl size89 Tryz.underlying39 rfl size39) rfl ⟨⟨m', an, rfl, HF2.out, hl', fun W hW => HOb.out.ro W (fun k hk hx _ => hW k hx hk)⟩, HOb.out.toBelow⟩
set_option maxHeartbeats 8000000 in
set_option maxRecDepth 100000 in
theorem ref_Do_48 (c : Cf) (hg : Good c) (m : Md) (kd p s a n b : Int) (w : World) (ok : OpOk ⟨kd, p, s, a, n, b⟩) (hk : 4 ≤ kd ∧ kd ≤ 8) (hmd : MdR w c m) (hf : MdF c m) (hl : m.l.length ≤ 998) :
 Calls Tryz.prog 38 #[m.v c, .agg (Opp.cs ⟨kd, p, s, a, n, b⟩).toArray] w fun e w' => RetM c m (m.l.length + 1) w w' e ∧ Below w.heap.size w w' := by
 have HMD := As.mk hmd
 have HF := As.mk hf
 have HO := As.mk (box4 w (m.cs c) (Opp.cs ⟨kd, p, s, a, n, b⟩))
 have HWR := As.mk (fun (W : World) (er : Int) => ref_wrong c m er W)
 have HOF := As.mk (fun (W : World) (ix : Nat) (h : MdR W c m) (hix : ix < m.l.length) => ref_of c hg m kd p s a n b ix W ok hk h hf hl hix)
 have HFD := As.mk (fun (W : World) (h : MdR W c m) => ref_Find m.A m.cap m.l.length m.l p W rfl h.bl (by omega))
 have HG := As.mk hg
 have OK := As.mk ok
 clear hmd hf hg ok
 unfold Md.v at HWR ⊢
 have hs : As (∀ W, Own [] [(w.heap.size + 3, EC 39 An.z), (w.heap.size + 2, EC 89 Md.zs), (w.heap.size + 1, EC 42 (Opp.cs ⟨kd, p, s, a, n, b⟩)), (w.heap.size, EC 89 (m.cs c))] (fun _ => True) w W → W.cell? ⟨w.heap.size + 1, 0, none⟩ = some (.int .i64 kd) ∧ W.cell? ⟨w.heap.size + 1, 1, none⟩ = some (.int .i64 p) ∧ W.cell? ⟨w.heap.size, 8, none⟩ = some (.slice m.A m.l.length m.cap)) := ⟨fun W ho => ⟨ho.get me2 0 (by simp [Opp.cs]), ho.get me2 1 (by simp [Opp.cs]), ho.get me3 8 (by simp [Md.cs])⟩⟩
 obtain ⟨w1, hw1⟩ : ∃ x, x = ((((w.alloc (.cells (m.cs c).toArray 89)).alloc (.cells (Opp.cs ⟨kd, p, s, a, n, b⟩).toArray 42)).alloc (.cells #[.int .i64 0, .int .i64 0, .int .i64 0, .int .i64 0, .int .i64 0, .int .i64 0, .int .i64 0, .int .i64 0, .slice none 0 0, .int .i64 0, .int .i64 0, .int .i64 0, .slice none 0 0, .slice none 0 0] 89)).alloc (.cells #[.int .i64 0, .int .i64 0, .int .i64 0, .int .u8 0, .int .i64 0, .int .i64 0, .int .i64 0, .int .i64 0] 39)) := ⟨_, rfl⟩
 obtain ⟨z0, z1, z8⟩ := hs.out _ HO.out
 go_enter Tryz.func38, Tryz.ntmps38
 unfold Md.v at HOF
 have hkk : kd = 4 ∨ kd = 5 ∨ kd = 6 ∨ kd = 7 ∨ kd = 8 := by omega
 have hn1 : (kd == 1) = false ∧ (kd == 2) = false ∧ (kd == 3) = false ∧ (kd == 9) = false ∧ (kd == 10) = false := ⟨beqF (by omega), beqF (by omega), beqF (by omega), beqF (by omega), beqF (by omega)⟩
 obtain ⟨n1, n2, n3, n9, n10⟩ := hn1
 clear hw1
 have HO1 := HO
 clear HO hk
 have key : ∀ K : Prop, (∀ (_ : kd = 4 ∨ kd = 5 ∨ kd = 6 ∨ kd = 7 ∨ kd = 8), K) → K := fun K h => h hkk
 rcases hkk with rfl | rfl | rfl | rfl | rfl
 all_goals
  go_wp2_with fail
  refine (HFD.out _ (HMD.out.below HO1.out.toBelow)).mono ?_
  rintro e w2 ⟨⟨i, rfl, hi, hi1⟩, rfl⟩
  by_cases hi0 : i < 0
  · go_wp2_with (refine go_ld HO1.out me3 rfl 89 (.tmp 2) rfl rfl _ Tryz.underlying89 rfl size89 ?_)
    refine (HWR.out _ _).mono ?_
    rintro e w3 ⟨rfl, hb⟩
    have HO3 := As.mk (HO1.out.below hb)
    clear hb HO1
    go_wp2_with (first | (refine go_st HO3.out 1 rfl rfl 89 (.tmp 4) (.tmp 70) rfl rfl (m.cs c) rfl rfl size89 (Md.one c _) ?_; intro wa ho1; have HOa := As.mk ho1; clear ho1) | (refine go_st HOa.out 0 rfl rfl 39 (.tmp 5) (.tmp 71) rfl rfl (An.cs (An.no 8)) rfl rfl size39 (An.one _) ?_; intro wb ho1; have HOb := As.mk ho1; clear ho1))
    exact bodyPost_ret (results_c2 rfl _ rfl rfl (HOb.out.range me1) (HOb.out.range me0) Tryz.underlying89 rfl size89 Tryz.underlying39 rfl size39) rfl ⟨⟨m, An.no 8, rfl, HF.out, by omega, fun W _ h => h⟩, HOb.out.toBelow⟩
  · obtain ⟨ix, rfl⟩ : ∃ ix : Nat, i = (ix : Int) := ⟨i.toNat, by omega⟩
    have hix : ix < m.l.length := by have := hi (by omega); omega
    clear hi hi1
    go_wp2_with (first | (refine go_ld HO1.out me3 rfl 89 (.tmp 2) rfl rfl _ Tryz.underlying89 rfl size89 ?_) | (refine go_ld HO1.out me2 rfl 42 (.tmp 3) rfl rfl _ Tryz.underlying42 rfl size42 ?_))
    refine (HOF.out _ ix (HMD.out.below HO1.out.toBelow) hix).mono ?_
    rintro e w3 ⟨⟨m', an, rfl, hf', hl', hR⟩, hb⟩
    have HO2 := As.mk ((HO1.out.result hb (fun W hW => hR W hW)).imp (R' := fun W => MdR W c m → MdR W c m') (fun W h => h.2))
    have HF2 := As.mk hf'
    clear hb hR hf' HO1 z0 z1 z8
    unfold Md.v
    go_wp2_with (first | (refine go_st HO2.out 1 rfl rfl 89 (.tmp 4) (.tmp 76) rfl rfl (m'.cs c) rfl rfl size89 (Md.one c _) ?_; intro wa ho1; have HOa := As.mk ho1; clear ho1) | (refine go_st HOa.out 0 rfl rfl 39 (.tmp 5) (.tmp 77) rfl rfl (an.cs) rfl rfl size39 (An.one _) ?_; intro wb ho1; have HOb := As.mk ho1; clear ho1))
    exact bodyPost_ret (results_c2 rfl _ rfl rfl (HOb.out.range me1) (HOb.out.range me0) Tryz.underlying89 rfl size89 Tryz.underlying39 rfl size39) rfl ⟨⟨m', an, rfl, HF2.out, hl', fun W hW => HOb.out.ro W (fun k hk hx _ => hW k hx hk)⟩, HOb.out.toBelow⟩
set_option maxHeartbeats 8000000 in
set_option maxRecDepth 100000 in
theorem ref_Do_9 (c : Cf) (hg : Good c) (m : Md) (p s a n b : Int) (w : World) (ok : OpOk ⟨9, p, s, a, n, b⟩) (hmd : MdR w c m) (hf : MdF c m) (hl : m.l.length ≤ 998) :
 Calls Tryz.prog 38 #[m.v c, .agg (Opp.cs ⟨9, p, s, a, n, b⟩).toArray] w fun e w' => RetM c m (m.l.length + 1) w w' e ∧ Below w.heap.size w w' := by
 have HMD := As.mk hmd
 have HF := As.mk hf
 have HO := As.mk (box4 w (m.cs c) (Opp.cs ⟨9, p, s, a, n, b⟩))
 have HWR := As.mk (fun (W : World) (er : Int) => ref_wrong c m er W)
 obtain ⟨np, hnp⟩ : ∃ np, np = c.H / c.Page := ⟨_, rfl⟩
 have hb7 : c.H ≤ 65536 := hg.max_
 have hnp1 : 1 ≤ np := by obtain ⟨b1, b2, b3, b4, b5, b6, b7⟩ := hg.bounds; rw [hnp]; exact (Nat.le_div_iff_mul_le hg.p1).2 (by omega)
 have hnp6 : np ≤ 65536 := by rw [hnp]; exact Nat.le_trans (Nat.div_le_self _ _) hg.max_
 have HNP := As.mk hnp
 have HMET := As.mk (fun (W : World) (h : MdR W c m) => ref_Met c.Page c.H m.A m.cap m.l W h.bl hg.p1 (by obtain ⟨b1, b2, b3, b4, b5, b6, b7⟩ := hg.bounds; omega) hg.max_ (by omega))
 rw [← hnp] at HMET
 clear hnp
 have HG := As.mk hg
 have OK := As.mk ok
 clear hmd hf hg ok
 unfold Md.v at HWR ⊢
 have hs : As (∀ W, Own [] [(w.heap.size + 3, EC 39 An.z), (w.heap.size + 2, EC 89 Md.zs), (w.heap.size + 1, EC 42 (Opp.cs ⟨9, p, s, a, n, b⟩)), (w.heap.size, EC 89 (m.cs c))] (fun _ => True) w W → W.cell? ⟨w.heap.size + 1, 0, none⟩ = some (.int .i64 9) ∧ W.cell? ⟨w.heap.size + 1, 1, none⟩ = some (.int .i64 p) ∧ W.cell? ⟨w.heap.size, 8, none⟩ = some (.slice m.A m.l.length m.cap)) := ⟨fun W ho => ⟨ho.get me2 0 (by simp [Opp.cs]), ho.get me2 1 (by simp [Opp.cs]), ho.get me3 8 (by simp [Md.cs])⟩⟩
 obtain ⟨w1, hw1⟩ : ∃ x, x = ((((w.alloc (.cells (m.cs c).toArray 89)).alloc (.cells (Opp.cs ⟨9, p, s, a, n, b⟩).toArray 42)).alloc (.cells #[.int .i64 0, .int .i64 0, .int .i64 0, .int .i64 0, .int .i64 0, .int .i64 0, .int .i64 0, .int .i64 0, .slice none 0 0, .int .i64 0, .int .i64 0, .int .i64 0, .slice none 0 0, .slice none 0 0] 89)).alloc (.cells #[.int .i64 0, .int .i64 0, .int .i64 0, .int .u8 0, .int .i64 0, .int .i64 0, .int .i64 0, .int .i64 0] 39)) := ⟨_, rfl⟩
 obtain ⟨z0, z1, z8⟩ := hs.out _ HO.out
 go_enter Tryz.func38, Tryz.ntmps38
 rw [← hw1] at HO z0 z1 z8
 have HSS : As (∀ W, Own [] [(w.heap.size + 3, EC 39 An.z), (w.heap.size + 2, EC 89 Md.zs), (w.heap.size + 1, EC 42 (Opp.cs ⟨9, p, s, a, n, b⟩)), (w.heap.size, EC 89 (m.cs c))] (fun _ => True) w W → W.cell? ⟨w.heap.size, 12, none⟩ = some (.slice m.Ao np m.co) ∧ W.cell? ⟨w.heap.size, 4, none⟩ = some (.int .i64 c.Page) ∧ W.cell? ⟨w.heap.size, 6, none⟩ = some (.int .i64 c.H) ∧ W.cell? ⟨w.heap.size, 8, none⟩ = some (.slice m.A m.l.length m.cap)) := ⟨fun W ho => ⟨by rw [HNP.out]; exact ho.get me3 12 (by simp [Md.cs]), ho.get me3 4 (by simp [Md.cs]), ho.get me3 6 (by simp [Md.cs]), ho.get me3 8 (by simp [Md.cs])⟩⟩
 have zl0 : ((((w.alloc (.cells (m.cs c).toArray 89)).alloc (.cells (Opp.cs ⟨9, p, s, a, n, b⟩).toArray 42)).alloc (.cells #[.int .i64 0, .int .i64 0, .int .i64 0, .int .i64 0, .int .i64 0, .int .i64 0, .int .i64 0, .int .i64 0, .slice none 0 0, .int .i64 0, .int .i64 0, .int .i64 0, .slice none 0 0, .slice none 0 0] 89)).alloc (.cells #[.int .i64 0, .int .i64 0, .int .i64 0, .int .u8 0, .int .i64 0, .int .i64 0, .int .i64 0, .int .i64 0] 39)).cell? ⟨w.heap.size + 1, 0, none⟩ = some (.int .i64 9) := hw1 ▸ z0
 go_wp2_with fail
 rw [← hw1]
 clear hw1 zl0
 refine rgn [(0, 1), (1, 0), (2, 1), (3, 1), (4, 0), (5, 1), (6, 1), (7, 0), (8, 1), (9, 0), (10, 2), (11, 2), (12, 1), (13, 1), (14, 1), (15, 1), (16, 1)] [] (fun W => W.cell? ⟨w.heap.size, 12, none⟩ = some (.slice m.Ao np m.co) ∧ W.cell? ⟨w.heap.size, 4, none⟩ = some (.int .i64 c.Page) ∧ W.cell? ⟨w.heap.size, 6, none⟩ = some (.int .i64 c.H) ∧ W.cell? ⟨w.heap.size, 8, none⟩ = some (.slice m.A m.l.length m.cap)) (by kernel_rfl) (by kernel_rfl) (fun _ _ _ d _ h => by cases d <;> exact h) (HSS.out _ HO.out.drew) ?_
 obtain ⟨w2, hw2⟩ : ∃ x, x = w1.drew := ⟨_, rfl⟩
 have hod := HO.out.drew
 rw [← hw2] at hod ⊢
 have HO2 := As.mk hod
 clear hw2 hod HO z0 z1 z8
 refine Run.pu (v := ?_) (a' := ?_) rfl rfl (Or.inl ⟨by rfl, ?_⟩) ?_ ?_; rotate_left 2; (focus (intro W; go_simp; with_reducible rfl)); (focus (simp only [zq1, zq2, zq3, Act.put, zq4, zq5, zq6]; rfl))
 refine Run.rd (v := ?_) (a' := ?_) rfl rfl (Or.inl ⟨by rfl, ?_⟩) ?_ ?_; rotate_left 2; (focus (rintro W ⟨hW1, hW2, hW3, hW4⟩; go_simp; with_reducible rfl)); (focus (simp only [zq1, zq2, zq3, Act.put, zq4, zq5, zq6]; rfl))
 iterate 2 (refine Run.pu (v := ?_) (a' := ?_) rfl rfl (Or.inl ⟨by rfl, ?_⟩) ?_ ?_; rotate_left 2; (focus (intro W; go_simp; with_reducible rfl)); (focus (simp only [zq1, zq2, zq3, Act.put, zq4, zq5, zq6]; rfl)))
 refine Run.rd (v := ?_) (a' := ?_) rfl rfl (Or.inl ⟨by rfl, ?_⟩) ?_ ?_; rotate_left 2; (focus (rintro W ⟨hW1, hW2, hW3, hW4⟩; go_simp; with_reducible rfl)); (focus (simp only [zq1, zq2, zq3, Act.put, zq4, zq5, zq6]; rfl))
 iterate 2 (refine Run.pu (v := ?_) (a' := ?_) rfl rfl (Or.inl ⟨by rfl, ?_⟩) ?_ ?_; rotate_left 2; (focus (intro W; go_simp; with_reducible rfl)); (focus (simp only [zq1, zq2, zq3, Act.put, zq4, zq5, zq6]; rfl)))
 refine Run.rd (v := ?_) (a' := ?_) rfl rfl (Or.inl ⟨by rfl, ?_⟩) ?_ ?_; rotate_left 2; (focus (rintro W ⟨hW1, hW2, hW3, hW4⟩; go_simp; with_reducible rfl)); (focus (simp only [zq1, zq2, zq3, Act.put, zq4, zq5, zq6]; rfl))
 refine Run.pu (v := ?_) (a' := ?_) rfl rfl (Or.inl ⟨by rfl, ?_⟩) ?_ ?_; rotate_left 2; (focus (intro W; go_simp; with_reducible rfl)); (focus (simp only [zq1, zq2, zq3, Act.put, zq4, zq5, zq6]; rfl))
 refine Run.rd (v := ?_) (a' := ?_) rfl rfl (Or.inl ⟨by rfl, ?_⟩) ?_ ?_; rotate_left 2; (focus (rintro W ⟨hW1, hW2, hW3, hW4⟩; go_simp; with_reducible rfl)); (focus (simp only [zq1, zq2, zq3, Act.put, zq4, zq5, zq6]; rfl))
 refine Run.ef rfl (fun K hK => ?_)
 simp only [zq1, zq2, zq3]
 try simp only [zq4, zq5, zq6]
 go_wp2_with fail
 refine (HMET.out _ (HMD.out.below HO2.out.toBelow)).mono ?_
 rintro e w5 ⟨⟨v, rfl, bs, hbs, hfr⟩, hb⟩
 obtain ⟨gm, capm, xm, rfl, hcm, -⟩ := hfr.form hnp1
 have HFR := As.mk hfr.now
 have HO5 := As.mk (HO2.out.below hb)
 clear hb hfr HO2 HMET
 go_wp2_with fail
 refine hK.out _ _ (HSS.out _ HO5.out) ?_
 clear hK K
 refine Run.ef rfl (fun K hK => ?_)
 simp only [zq1, zq2, zq3]
 try simp only [zq4, zq5, zq6]
 obtain ⟨on, hon, hrow⟩ := (HMD.out.below HO5.out.toBelow).on
 rw [← HNP.out] at hrow hon
 have HROW := As.mk hrow
 clear hrow
 go_wp2_with fail
 refine (ref_Trim np m.Ao (some ⟨gm, 0, none⟩) m.co capm on bs _ HROW.out hon HFR.out hbs hnp1 hnp6).mono ?_
 rintro e w6 ⟨⟨v, x, rfl, hv⟩, hb⟩
 obtain ⟨_, _, hvr⟩ := hv w6 (Agr.refl _ _)
 obtain ⟨A2, c2, rfl⟩ := hvr.form
 have HO6 := As.mk ((HO5.out.result hb (fun W hW => hv W hW)).imp (R' := fun W => MdR W c m → MdR W c (m.setOn A2 c2)) (fun W h hm => ⟨hm.bl, by have := h.2; rw [HNP.out] at this; exact this, hm.mem⟩))
 clear hb hv hvr HO5 HROW hon HFR hbs hcm
 go_wp2_with fail
 refine hK.out _ _ (HSS.out _ (HO6.out.imp fun _ _ => trivial)) ?_
 clear hK K
 iterate 5 (refine Run.pu (v := ?_) (a' := ?_) rfl rfl (Or.inl ⟨by rfl, ?_⟩) ?_ ?_; rotate_left 2; (focus (intro W; go_simp; with_reducible rfl)); (focus (simp only [zq1, zq2, zq3, Act.put, zq4, zq5, zq6]; rfl)))
 refine Run.nil ?_
 try simp only [zq1, zq2, zq3]
 try simp only [zq4, zq5, zq6]
 go_wp2_with (first | (refine go_st1 HO6.out 3 rfl rfl 56 (.tmp 38) (.tmp 37) rfl 12 rfl (.slice A2 np c2) rfl rfl (by simp [Md.cs]) size56 ?_; intro w7 ho; have HO7 : As (Own [] [(w.heap.size + 3, EC 39 An.z), (w.heap.size + 2, EC 89 Md.zs), (w.heap.size + 1, EC 42 (Opp.cs ⟨9, p, s, a, n, b⟩)), (w.heap.size, EC 89 ((m.setOn A2 c2).cs c))] (fun W => MdR W c m → MdR W c (m.setOn A2 c2)) w w7) := As.mk (by rw [show (m.setOn A2 c2).cs c = (m.cs c).set 12 (.slice A2 np c2) by rw [HNP.out]; rfl]; exact ho); clear ho) | (refine go_ld HO7.out me3 rfl 89 (.tmp 2) rfl rfl _ Tryz.underlying89 rfl size89 ?_) | (refine go_st HO7.out 1 rfl rfl 89 (.tmp 4) (.tmp 39) rfl rfl ((m.setOn A2 c2).cs c) rfl rfl size89 (Md.one c _) ?_; intro wa ho1; have HOa := As.mk ho1; clear ho1) | (refine go_st HOa.out 0 rfl rfl 39 (.tmp 5) (.tmp 41) rfl rfl (An.cs ⟨0, 0, x, 0, 0, 0, 0, 0⟩) rfl rfl size39 (An.one _) ?_; intro wb ho1; have HOb := As.mk ho1; clear ho1))
 exact bodyPost_ret (results_c2 rfl _ rfl rfl (HOb.out.range me1) (HOb.out.range me0) Tryz.underlying89 rfl size89 Tryz.underlying39 rfl size39) rfl ⟨⟨m.setOn A2 c2, ⟨0, 0, x, 0, 0, 0, 0, 0⟩, rfl, HF.out, by show m.l.length ≤ _; omega, fun W hW => HOb.out.ro W (fun k hk hx _ => hW k hx hk)⟩, HOb.out.toBelow⟩
set_option maxHeartbeats 8000000 in
set_option maxRecDepth 100000 in
theorem ref_Do_10 (c : Cf) (hg : Good c) (m : Md) (p s a n b : Int) (w : World) (ok : OpOk ⟨10, p, s, a, n, b⟩) (hmd : MdR w c m) (hf : MdF c m) (hl : m.l.length ≤ 998) :
 Calls Tryz.prog 38 #[m.v c, .agg (Opp.cs ⟨10, p, s, a, n, b⟩).toArray] w fun e w' => RetM c m (m.l.length + 1) w w' e ∧ Below w.heap.size w w' := by
 have HMD := As.mk hmd
 have HF := As.mk hf
 have HO := As.mk (box4 w (m.cs c) (Opp.cs ⟨10, p, s, a, n, b⟩))
 have HWR := As.mk (fun (W : World) (er : Int) => ref_wrong c m er W)
 obtain ⟨np, hnp⟩ : ∃ np, np = c.H / c.Page := ⟨_, rfl⟩
 have hb7 : c.H ≤ 65536 := hg.max_
 have hnp1 : 1 ≤ np := by obtain ⟨b1, b2, b3, b4, b5, b6, b7⟩ := hg.bounds; rw [hnp]; exact (Nat.le_div_iff_mul_le hg.p1).2 (by omega)
 have hnp6 : np ≤ 65536 := by rw [hnp]; exact Nat.le_trans (Nat.div_le_self _ _) hg.max_
 have HNP := As.mk hnp
 clear hnp
 have HG := As.mk hg
 have OK := As.mk ok
 clear hmd hf hg ok
 unfold Md.v at HWR ⊢
 have hs : As (∀ W, Own [] [(w.heap.size + 3, EC 39 An.z), (w.heap.size + 2, EC 89 Md.zs), (w.heap.size + 1, EC 42 (Opp.cs ⟨10, p, s, a, n, b⟩)), (w.heap.size, EC 89 (m.cs c))] (fun _ => True) w W → W.cell? ⟨w.heap.size + 1, 0, none⟩ = some (.int .i64 10) ∧ W.cell? ⟨w.heap.size + 1, 1, none⟩ = some (.int .i64 p) ∧ W.cell? ⟨w.heap.size, 8, none⟩ = some (.slice m.A m.l.length m.cap)) := ⟨fun W ho => ⟨ho.get me2 0 (by simp [Opp.cs]), ho.get me2 1 (by simp [Opp.cs]), ho.get me3 8 (by simp [Md.cs])⟩⟩
 obtain ⟨w1, hw1⟩ : ∃ x, x = ((((w.alloc (.cells (m.cs c).toArray 89)).alloc (.cells (Opp.cs ⟨10, p, s, a, n, b⟩).toArray 42)).alloc (.cells #[.int .i64 0, .int .i64 0, .int .i64 0, .int .i64 0, .int .i64 0, .int .i64 0, .int .i64 0, .int .i64 0, .slice none 0 0, .int .i64 0, .int .i64 0, .int .i64 0, .slice none 0 0, .slice none 0 0] 89)).alloc (.cells #[.int .i64 0, .int .i64 0, .int .i64 0, .int .u8 0, .int .i64 0, .int .i64 0, .int .i64 0, .int .i64 0] 39)) := ⟨_, rfl⟩
 obtain ⟨z0, z1, z8⟩ := hs.out _ HO.out
 go_enter Tryz.func38, Tryz.ntmps38
 rw [← hw1] at HO z0 z1 z8
 have HSS : As (∀ W, Own [] [(w.heap.size + 3, EC 39 An.z), (w.heap.size + 2, EC 89 Md.zs), (w.heap.size + 1, EC 42 (Opp.cs ⟨10, p, s, a, n, b⟩)), (w.heap.size, EC 89 (m.cs c))] (fun _ => True) w W → W.rangeAt w.heap.size 0 (m.cs c) ∧ W.cell? ⟨w.heap.size, 9, none⟩ = some (.int .i64 m.live) ∧ W.cell? ⟨w.heap.size, 10, none⟩ = some (.int .i64 m.peak) ∧ W.cell? ⟨w.heap.size, 11, none⟩ = some (.int .i64 m.mark) ∧ W.cell? ⟨w.heap.size, 12, none⟩ = some (.slice m.Ao np m.co)) := ⟨fun W ho => ⟨ho.range me3, ho.get me3 9 (by simp [Md.cs]), ho.get me3 10 (by simp [Md.cs]), ho.get me3 11 (by simp [Md.cs]), by rw [HNP.out]; exact ho.get me3 12 (by simp [Md.cs])⟩⟩
 have zl0 : ((((w.alloc (.cells (m.cs c).toArray 89)).alloc (.cells (Opp.cs ⟨10, p, s, a, n, b⟩).toArray 42)).alloc (.cells #[.int .i64 0, .int .i64 0, .int .i64 0, .int .i64 0, .int .i64 0, .int .i64 0, .int .i64 0, .int .i64 0, .slice none 0 0, .int .i64 0, .int .i64 0, .int .i64 0, .slice none 0 0, .slice none 0 0] 89)).alloc (.cells #[.int .i64 0, .int .i64 0, .int .i64 0, .int .u8 0, .int .i64 0, .int .i64 0, .int .i64 0, .int .i64 0] 39)).cell? ⟨w.heap.size + 1, 0, none⟩ = some (.int .i64 10) := hw1 ▸ z0
 go_wp2_with fail
 rw [← hw1]
 clear hw1 zl0
 refine rgn [(0, 0), (1, 1), (2, 0), (3, 1), (4, 0), (5, 1), (6, 0), (7, 1), (8, 0), (9, 2), (10, 1), (11, 2), (12, 3)] [12] (fun W => W.rangeAt w.heap.size 0 (m.cs c) ∧ W.cell? ⟨w.heap.size, 9, none⟩ = some (.int .i64 m.live) ∧ W.cell? ⟨w.heap.size, 10, none⟩ = some (.int .i64 m.peak) ∧ W.cell? ⟨w.heap.size, 11, none⟩ = some (.int .i64 m.mark) ∧ W.cell? ⟨w.heap.size, 12, none⟩ = some (.slice m.Ao np m.co)) (by kernel_rfl) (by kernel_rfl) (fun _ _ _ d _ h => by cases d <;> exact h) (HSS.out _ HO.out.drew) ?_
 obtain ⟨w2, hw2⟩ : ∃ x, x = w1.drew := ⟨_, rfl⟩
 have hod := HO.out.drew
 rw [← hw2] at hod ⊢
 have HO2 := As.mk hod
 clear hw2 hod HO z0 z1 z8
 refine Run.rd (v := .agg (m.cs c).toArray) (a' := ?_) rfl rfl (yieldsIf_load_mid rfl 89 (.tmp 2) rfl w.heap.size 0 rfl (m.cs c) _ (fun W hW => hW.1) Tryz.underlying89 rfl size89) ?_ ?_
 rotate_left 1
 · simp only [zq1, zq2, zq3, Act.put, zq4, zq5, zq6]; rfl
 refine Run.pu (v := ?_) (a' := ?_) rfl rfl (Or.inl ⟨by rfl, ?_⟩) ?_ ?_; rotate_left 2; (focus (intro W; go_simp; with_reducible rfl)); (focus (simp only [zq1, zq2, zq3, Act.put, zq4, zq5, zq6]; rfl))
 refine Run.rd (v := ?_) (a' := ?_) rfl rfl (Or.inl ⟨by rfl, ?_⟩) ?_ ?_; rotate_left 2; (focus (rintro W ⟨hW1, hW2, hW3, hW4, hW5⟩; go_simp; with_reducible rfl)); (focus (simp only [zq1, zq2, zq3, Act.put, zq4, zq5, zq6]; rfl))
 refine Run.pu (v := ?_) (a' := ?_) rfl rfl (Or.inl ⟨by rfl, ?_⟩) ?_ ?_; rotate_left 2; (focus (intro W; go_simp; with_reducible rfl)); (focus (simp only [zq1, zq2, zq3, Act.put, zq4, zq5, zq6]; rfl))
 refine Run.rd (v := ?_) (a' := ?_) rfl rfl (Or.inl ⟨by rfl, ?_⟩) ?_ ?_; rotate_left 2; (focus (rintro W ⟨hW1, hW2, hW3, hW4, hW5⟩; go_simp; with_reducible rfl)); (focus (simp only [zq1, zq2, zq3, Act.put, zq4, zq5, zq6]; rfl))
 refine Run.pu (v := ?_) (a' := ?_) rfl rfl (Or.inl ⟨by rfl, ?_⟩) ?_ ?_; rotate_left 2; (focus (intro W; go_simp; with_reducible rfl)); (focus (simp only [zq1, zq2, zq3, Act.put, zq4, zq5, zq6]; rfl))
 refine Run.rd (v := ?_) (a' := ?_) rfl rfl (Or.inl ⟨by rfl, ?_⟩) ?_ ?_; rotate_left 2; (focus (rintro W ⟨hW1, hW2, hW3, hW4, hW5⟩; go_simp; with_reducible rfl)); (focus (simp only [zq1, zq2, zq3, Act.put, zq4, zq5, zq6]; rfl))
 refine Run.pu (v := ?_) (a' := ?_) rfl rfl (Or.inl ⟨by rfl, ?_⟩) ?_ ?_; rotate_left 2; (focus (intro W; go_simp; with_reducible rfl)); (focus (simp only [zq1, zq2, zq3, Act.put, zq4, zq5, zq6]; rfl))
 refine Run.rd (v := ?_) (a' := ?_) rfl rfl (Or.inl ⟨by rfl, ?_⟩) ?_ ?_; rotate_left 2; (focus (rintro W ⟨hW1, hW2, hW3, hW4, hW5⟩; go_simp; with_reducible rfl)); (focus (simp only [zq1, zq2, zq3, Act.put, zq4, zq5, zq6]; rfl))
 refine Run.ef rfl (fun K hK => ?_)
 simp only [zq1, zq2, zq3]
 try simp only [zq4, zq5, zq6]
 obtain ⟨on, hon, hrow⟩ := (HMD.out.below HO2.out.toBelow).on
 rw [← HNP.out] at hrow hon
 have HCT := As.mk (ref_Count m.Ao m.co on w2 (by rw [hon]; exact hrow) (by omega))
 rw [hon] at HCT
 clear hrow hon
 go_wp2_with fail
 refine HCT.out.mono ?_
 rintro e w5 ⟨⟨x, rfl⟩, rfl⟩
 clear HCT
 go_wp2_with fail
 refine hK.out _ _ (HSS.out _ HO2.out) ?_
 clear hK K
 refine Run.pu (v := ?_) (a' := ?_) rfl rfl (Or.inl ⟨by rfl, ?_⟩) ?_ ?_; rotate_left 2; (focus (intro W; go_simp; with_reducible rfl)); (focus (simp only [zq1, zq2, zq3, Act.put, zq4, zq5, zq6]; rfl))
 refine Run.ef rfl (fun K hK => ?_)
 simp only [zq1, zq2, zq3]
 try simp only [zq4, zq5, zq6]
 refine go_st HO2.out 1 rfl rfl 89 (.tmp 4) (.tmp 44) rfl rfl (m.cs c) rfl rfl size89 (Md.one c m) ?_
 intro wa ho
 have HOa := As.mk ho
 clear ho HO2
 go_wp2_with fail
 refine hK.out _ _ ⟨HOa.out.range me3, HOa.out.get me3 9 (by simp [Md.cs]), HOa.out.get me3 10 (by simp [Md.cs]), HOa.out.get me3 11 (by simp [Md.cs]), by rw [HNP.out]; exact HOa.out.get me3 12 (by simp [Md.cs])⟩ ?_
 clear hK K
 refine Run.la rfl (fun K hK => ?_)
 simp only [zq1, zq2, zq3]
 try simp only [zq4, zq5, zq6]
 refine go_st HOa.out 0 rfl rfl 39 (.tmp 5) (.tmp 54) rfl rfl (An.cs ⟨0, 0, 0, 0, m.live, m.peak, m.mark, x⟩) rfl rfl size39 (An.one _) ?_
 intro wb ho
 have HOb := As.mk ho
 clear ho HOa
 go_wp2_with fail
 refine hK.out _ _ ?_
 clear hK K
 refine Run.nil ?_
 try simp only [zq1, zq2, zq3]
 try simp only [zq4, zq5, zq6]
 go_wp2_with fail
 exact bodyPost_ret (results_c2 rfl _ rfl rfl (HOb.out.range me1) (HOb.out.range me0) Tryz.underlying89 rfl size89 Tryz.underlying39 rfl size39) rfl ⟨⟨m, ⟨0, 0, 0, 0, m.live, m.peak, m.mark, x⟩, rfl, HF.out, by omega, fun W _ h => h⟩, HOb.out.toBelow⟩
theorem ref_Do (c : Cf) (hg : Good c) (m : Md) (o : Opp) (w : World) (ok : OpOk o) (hmd : MdR w c m) (hf : MdF c m) (hl : m.l.length ≤ 998) :
 Calls Tryz.prog 38 #[m.v c, .agg o.cs.toArray] w fun e w' => RetM c m (m.l.length + 1) w w' e ∧ Below w.heap.size w w' := by
 obtain ⟨kd, p, s, a, n, b⟩ := o
 have hk := ok.kind
 simp only at hk
 have h10 : kd = 1 ∨ kd = 2 ∨ kd = 3 ∨ (4 ≤ kd ∧ kd ≤ 8) ∨ kd = 9 ∨ kd = 10 := by omega
 rcases h10 with rfl | rfl | rfl | h | rfl | rfl
 · exact ref_Do_1 c hg m p s a n b w ok hmd hf hl
 · exact ref_Do_2 c hg m p s a n b w ok hmd hf hl
 · exact ref_Do_3 c hg m p s a n b w ok hmd hf hl
 · exact ref_Do_48 c hg m kd p s a n b w ok h hmd hf hl
 · exact ref_Do_9 c hg m p s a n b w ok hmd hf hl
 · exact ref_Do_10 c hg m p s a n b w ok hmd hf hl
end Go.Proofs.YtmookafmdonopaaGreat.Top
