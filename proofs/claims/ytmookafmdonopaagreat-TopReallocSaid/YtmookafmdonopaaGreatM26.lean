/- hodmanref17: Find, New walked (weak). -/
import Derived.Test.YtmookafmdonopaaGreatM25
/- hodmanref17: Find, New walked (weak). -/
namespace Go.Proofs.YtmookafmdonopaaGreat.Top
open Go Go.RowKit
set_option linter.unusedVariables false
set_option linter.unusedSimpArgs false
attribute [local go_sem] max2_int min2_int max_two min_two max_three

theorem ref_Find (A : Option Addr) (c ln : Nat) (l : List MB) (at_ : Int) (w : World) (hln : ln = l.length) (hr : Row w (.slice A ln c) ln (mbV l)) (hl : ln ≤ 100000) :
 Calls Tryz.prog 65 #[.slice A ln c, .int .i64 at_] w fun e w' => (∃ i : Int, e = .returned (.int .i64 i) ∧ (0 ≤ i → i < ln) ∧ -1 ≤ i) ∧ w' = w := by
 have HR := As.mk hr
 have HLN := As.mk hln
 clear hr hln
 go_enter Tryz.func65, Tryz.ntmps65
 go_wp2
 go_loop [5] (fun i => ∃ k : Nat, k ≤ ln ∧ i = .int .i64 (k : Int)) (fun i => ln - (intOf i).toNat)
 case atStart => exact ⟨0, Nat.zero_le _, rfl⟩
 case round =>
  obtain ⟨k, hk, rfl⟩ := hrel
  by_cases hkn : k < ln
  · obtain ⟨mb, hm⟩ : ∃ m, l[k]? = some m := ⟨l[k]'(by have := HLN.out; omega), List.getElem?_eq_getElem _⟩
    obtain ⟨bb, oo, rfl, hnc, hcell⟩ := HR.out.cell' (by rw [mbV_len]; have := HLN.out; omega)
    have y0 := hcell _ _ (mbV_at l k mb hm).1
    clear hcell hm
    by_cases ha : (mb.1 : Int) = at_
    · have ha' := beqT ha
      go_wp2_with fail
      go_ret
      exact ⟨⟨_, rfl, fun _ => by omega, by omega⟩, rfl⟩
    · have ha' := beqF ha
      go_wp2_with fail
      go_round
      case rel => exact ⟨k + 1, by omega, by go_num⟩
      case measure => simp [intOf]; omega
  · have e : k = ln := by omega
    subst e
    go_wp2
    go_ret
    exact ⟨⟨_, rfl, fun h => absurd h (by decide), by decide⟩, rfl⟩
def Cf.cs (c : Cf) : List Value := [.int .i64 c.G, .int .i64 c.N, .int .i64 c.M, .int .i64 c.L, .int .i64 c.Page, .int .i64 c.P, .int .i64 c.H, .int .i64 c.Seed]
theorem Cf.one (c : Cf) : ∀ v ∈ c.cs, v.oneCell' = true := by
 intro v hv
 simp only [Cf.cs, List.mem_cons, List.not_mem_nil, or_false] at hv
 rcases hv with rfl | rfl | rfl | rfl | rfl | rfl | rfl | rfl <;> rfl
def Rw.cs (r : Rw) : List Value := [.int .i64 r.g, .int .i64 r.l, .int .i64 r.m, .int .i64 r.p, .int .i64 r.b, .int .i64 r.s]
theorem Rw.one (r : Rw) : ∀ v ∈ r.cs, v.oneCell' = true := by
 intro v hv
 simp only [Rw.cs, List.mem_cons, List.not_mem_nil, or_false] at hv
 rcases hv with rfl | rfl | rfl | rfl | rfl | rfl <;> rfl
theorem size34 : (Tryz.prog.info? 34).map (·.size) = some 8 := by kernel_rfl
theorem size25 : (Tryz.prog.info? 25).map (·.size) = some 6 := by kernel_rfl
theorem size42 : (Tryz.prog.info? 42).map (·.size) = some 6 := by kernel_rfl
theorem size48 : (Tryz.prog.info? 48).map (·.size) = some 3 := by kernel_rfl
def Z8 : List Value := [.int .i64 0, .int .i64 0, .int .i64 0, .int .i64 0, .int .i64 0, .int .i64 0, .int .i64 0, .int .i64 0]
set_option maxHeartbeats 4000000 in
theorem ref_NewM (r : Rw) (c : Cf) (w : World) (ok : r.ok) (hc : confOf r = (c, 0)) (hg : Good c) :
 Calls Tryz.prog 35 #[r.v] w fun e w' => (∃ m : Md, e = .returned (.tuple #[m.v c, .int .i64 0]) ∧ m.l = [] ∧ ∀ W, Agr w w' W → MdR W c m) ∧ Below w.heap.size w w' := by
 have HOF := As.mk (fun W => ref_Of_ok r W ok)
 rw [hc] at HOF
 have ho := ((Own.start (X := []) w).box r.cs.toArray 25).box Md.zs.toArray 89
 simp only [World.size_alloc, Md.zs, List.toList_toArray] at ho
 have HO := As.mk ho
 obtain ⟨b1, b2, b3, b4, b5, b6, b7⟩ := hg.bounds
 obtain ⟨np, hnp⟩ : ∃ np, np = c.H / c.Page := ⟨_, rfl⟩
 have hnp6 : np ≤ 65536 := by rw [hnp]; exact Nat.le_trans (Nat.div_le_self _ _) hg.max_
 have E1 := As.mk (show IntKind.i64.wrap ((c.H : Int) / (c.Page : Int)) = (np : Int) by rw [show (c.H : Int) / (c.Page : Int) = (np : Int) by rw [hnp]; rfl]; exact iw64 _ (by omega) (by omega))
 have HNP := As.mk hnp
 have p4 : (c.Page = 0) = False := eq_false (by omega)
 have p5 : ((c.Page : Int) = 0) = False := eq_false (by omega)
 have p6 : ((c.Page : Int) == 0) = false := beqF (by omega)
 have hrv : r.v = .agg r.cs.toArray := rfl
 have hcv : c.v = .agg c.cs.toArray := rfl
 rw [hrv, hcv] at HOF
 rw [hrv]
 clear ho hc hnp hg ok hrv hcv
 go_enter Tryz.func35, Tryz.ntmps35
 go_wp2_with (first | (refine go_ld HO.out me1 rfl 25 (.tmp 1) rfl rfl _ Tryz.underlying25 rfl size25 ?_) | fail)
 refine (HOF.out _).mono ?_
 rintro e w2 ⟨rfl, hb⟩
 have ho2 := (HO.out.below hb).box Z8.toArray 34
 simp only [Z8, List.toList_toArray] at ho2
 have HO2 := As.mk ho2
 clear ho2 hb HO HOF
 go_wp2_with (first | (refine go_st HO2.out 0 rfl rfl 34 (.tmp 4) (.tmp 9) rfl rfl c.cs rfl rfl size34 c.one ?_; intro w3 ho3; have HO3 := As.mk ho3; clear ho3) | fail)
 obtain ⟨q, hq⟩ : ∃ q, q = w2.heap.size := ⟨_, rfl⟩
 have ho := HO3.out
 rw [← hq] at ho ⊢
 clear hq HO3 HO2
 have hcs : CfS8 q c w3 := ⟨ho.get me0 0 (by simp [Cf.cs]), ho.get me0 1 (by simp [Cf.cs]), ho.get me0 2 (by simp [Cf.cs]), ho.get me0 3 (by simp [Cf.cs]), ho.get me0 4 (by simp [Cf.cs]), ho.get me0 5 (by simp [Cf.cs]), ho.get me0 6 (by simp [Cf.cs]), ho.get me0 7 (by simp [Cf.cs])⟩
 have HOD := As.mk ho.drew
 have HDS : As (∀ W, Own [] ((q, EC 34 c.cs) :: [(w.heap.size + 1, EC 89 [.int .i64 0, .int .i64 0, .int .i64 0, .int .i64 0, .int .i64 0, .int .i64 0, .int .i64 0, .int .i64 0, .slice none 0 0, .int .i64 0, .int .i64 0, .int .i64 0, .slice none 0 0, .slice none 0 0]), (w.heap.size, EC 25 r.cs)]) (fun _ => True) w W → CfS8 q c W) := ⟨fun W ho => ⟨ho.get me0 0 (by simp [Cf.cs]), ho.get me0 1 (by simp [Cf.cs]), ho.get me0 2 (by simp [Cf.cs]), ho.get me0 3 (by simp [Cf.cs]), ho.get me0 4 (by simp [Cf.cs]), ho.get me0 5 (by simp [Cf.cs]), ho.get me0 6 (by simp [Cf.cs]), ho.get me0 7 (by simp [Cf.cs])⟩⟩
 refine rgnT [(0, 0), (1, 1), (2, 0), (3, 1), (4, 0), (5, 1), (7, 1), (8, 0)] [(6, [(9, 2), (10, 1), (11, 3), (12, 1)]), (9, [(6, 2), (10, 1), (11, 3), (12, 1)])] [11] (CfS8 q c) (by kernel_rfl) (by kernel_rfl) (fun _ _ _ d _ h => by cases d <;> exact h) hcs ?_
 obtain ⟨w4, hw4⟩ : ∃ x, x = w3.drew := ⟨_, rfl⟩
 rw [← hw4] at HOD ⊢
 clear hw4 ho hcs
 unfold CfS8
 refine Run.rd (v := ?_) (a' := ?_) rfl rfl (Or.inl ⟨by rfl, ?_⟩) ?_ ?_; rotate_left 2; (focus (rintro W ⟨hW1, hW2, hW3, hW4, hW5, hW6, hW7, hW8⟩; go_simp; with_reducible rfl)); (focus (simp only [Act.put, zq4, zq5, zq6]; rfl))
 refine Run.pu (v := ?_) (a' := ?_) rfl rfl (Or.inl ⟨by rfl, ?_⟩) ?_ ?_; rotate_left 2; (focus (intro W; go_simp; with_reducible rfl)); (focus (simp only [Act.put, zq4, zq5, zq6]; rfl))
 refine Run.rd (v := ?_) (a' := ?_) rfl rfl (Or.inl ⟨by rfl, ?_⟩) ?_ ?_; rotate_left 2; (focus (rintro W ⟨hW1, hW2, hW3, hW4, hW5, hW6, hW7, hW8⟩; go_simp; with_reducible rfl)); (focus (simp only [Act.put, zq4, zq5, zq6]; rfl))
 refine Run.pu (v := ?_) (a' := ?_) rfl rfl (Or.inl ⟨by rfl, ?_⟩) ?_ ?_; rotate_left 2; (focus (intro W; go_simp; with_reducible rfl)); (focus (simp only [Act.put, zq4, zq5, zq6]; rfl))
 refine Run.rd (v := ?_) (a' := ?_) rfl rfl (Or.inl ⟨by rfl, ?_⟩) ?_ ?_; rotate_left 2; (focus (rintro W ⟨hW1, hW2, hW3, hW4, hW5, hW6, hW7, hW8⟩; go_simp; with_reducible rfl)); (focus (simp only [Act.put, zq4, zq5, zq6]; rfl))
 refine Run.pu (v := ?_) (a' := ?_) rfl rfl (Or.inl ⟨by rfl, ?_⟩) ?_ ?_
 rotate_left 2
 · intro W; go_simp; simp only [E1.out]; with_reducible rfl
 · simp only [Act.put, zq4, zq5, zq6]; rfl
 refine Run.pu (v := ?_) (a' := ?_) rfl rfl (Or.inl ⟨by rfl, ?_⟩) ?_ ?_; rotate_left 2; (focus (intro W; go_simp; with_reducible rfl)); (focus (simp only [Act.put, zq4, zq5, zq6]; rfl))
 refine Run.rd (v := ?_) (a' := ?_) rfl rfl (Or.inl ⟨by rfl, ?_⟩) ?_ ?_; rotate_left 2; (focus (rintro W ⟨hW1, hW2, hW3, hW4, hW5, hW6, hW7, hW8⟩; go_simp; with_reducible rfl)); (focus (simp only [Act.put, zq4, zq5, zq6]; rfl))
 refine Run.nilG ?_
 simp only [zq1, zq2, zq3]
 try simp only [zq4, zq5, zq6]
 have HOD : As (Own [] ((q, EC 34 c.cs) :: [(w.heap.size + 1, EC 89 [.int .i64 0, .int .i64 0, .int .i64 0, .int .i64 0, .int .i64 0, .int .i64 0, .int .i64 0, .int .i64 0, .slice none 0 0, .int .i64 0, .int .i64 0, .int .i64 0, .slice none 0 0, .slice none 0 0]), (w.heap.size, EC 25 r.cs)]) (fun _ => True) w w4) := HOD
 intro b_ hb_
 simp only [List.mem_cons, List.not_mem_nil, or_false] at hb_
 rcases hb_ with rfl | rfl
 · refine Run.wpOp_of_list rfl fun K hK => ?_
   simp only [zq1, zq2, zq3]
   refine go_make rfl _ _ 56 4 (.bool false) 1 rfl Tryz.underlying56 info4 rfl .i64 .i64 _ _ np rfl rfl (by rfl) (by rfl) (by omega) (by simp only [maxLen]; omega) HOD.out ?_
   intro w5 ho hb
   have HO := As.mk ho
   have hcs : CfS8 q c w5 := HDS.out _ ho.drop
   have HCS := As.mk hcs
   clear ho hb hcs HOD
   go_wp2
   refine hK.out _ _ ⟨HCS.out, ?_⟩
   clear hK K HCS
   refine Run.ef rfl (fun K hK => ?_)
   simp only [zq1, zq2, zq3]
   try simp only [zq4, zq5, zq6]
   refine go_make rfl _ _ 22 5 (.int .u8 0) 1 rfl Tryz.underlying22 info5 rfl .i64 .i64 _ _ c.H rfl rfl (by rfl) (by rfl) (by omega) (by simp only [maxLen]; omega) HO.out ?_
   intro w6 ho hb
   have HO2 := As.mk ho
   have HCS := As.mk (HDS.out _ ho.drop.drop)
   clear ho hb HO HDS
   go_wp2
   refine hK.out _ _ HCS.out ?_
   clear hK K HCS
   refine Run.pu (v := ?_) (a' := ?_) rfl rfl (Or.inl ⟨by rfl, ?_⟩) ?_ ?_; rotate_left 2; (focus (intro W; go_simp; with_reducible rfl)); (focus (simp only [zq1, zq2, zq3, Act.put, zq4, zq5, zq6]; rfl))
   refine Run.la rfl (fun K hK => ?_)
   simp only [zq1, zq2, zq3]
   try simp only [zq4, zq5, zq6]
   refine go_st HO2.out 3 rfl rfl 89 (.tmp 2) (.tmp 25) rfl rfl (Md.cs c ⟨none, some ⟨w4.heap.size, 0, none⟩, some ⟨w5.heap.size, 0, none⟩, 0, np, c.H, 0, 0, 0, []⟩) (by simp only [Md.cs, ← HNP.out]; rfl) rfl size89 (Md.one c _) ?_
   intro w7 ho
   have HO7 := As.mk ho
   clear ho HO2
   go_wp2
   refine hK.out _ _ ?_
   clear hK K
   refine Run.pu (v := ?_) (a' := ?_) rfl rfl (Or.inl ⟨by rfl, ?_⟩) ?_ ?_; rotate_left 2; (focus (intro W; go_simp; with_reducible rfl)); (focus (simp only [zq1, zq2, zq3, Act.put, zq4, zq5, zq6]; rfl))
   refine Run.nil ?_
   try simp only [zq1, zq2, zq3]
   go_wp2_with fail
   refine bodyPost_ret (results_ct rfl _ rfl (HO7.out.range me3) Tryz.underlying89 rfl size89) rfl ⟨⟨⟨none, some ⟨w4.heap.size, 0, none⟩, some ⟨w5.heap.size, 0, none⟩, 0, np, c.H, 0, 0, 0, []⟩, rfl, rfl, fun W hW => ⟨Row.nil _ _ _, ?_, ?_⟩⟩, HO7.out.toBelow⟩
   · rw [← HNP.out]
     refine ⟨List.replicate np false, by simp, ?_⟩
     rw [List.map_replicate]
     exact (HO7.out.fr me1 (Nat.le_refl _)).row hW
   · refine ⟨List.replicate c.H 0, by simp, ?_⟩
     rw [show uV (List.replicate c.H 0) = List.replicate c.H (.int .u8 0) by simp [uV]]
     exact (HO7.out.fr me0 (Nat.le_refl _)).row hW
 · refine Run.wpOp_of_list rfl fun K hK => ?_
   simp only [zq1, zq2, zq3]
   refine go_make rfl _ _ 22 5 (.int .u8 0) 1 rfl Tryz.underlying22 info5 rfl .i64 .i64 _ _ c.H rfl rfl (by rfl) (by rfl) (by omega) (by simp only [maxLen]; omega) HOD.out ?_
   intro w5 ho hb
   have HO := As.mk ho
   have hcs : CfS8 q c w5 := HDS.out _ ho.drop
   have HCS := As.mk hcs
   clear ho hb hcs HOD
   go_wp2
   refine hK.out _ _ ⟨HCS.out, ?_⟩
   clear hK K HCS
   refine Run.ef rfl (fun K hK => ?_)
   simp only [zq1, zq2, zq3]
   try simp only [zq4, zq5, zq6]
   refine go_make rfl _ _ 56 4 (.bool false) 1 rfl Tryz.underlying56 info4 rfl .i64 .i64 _ _ np rfl rfl (by rfl) (by rfl) (by omega) (by simp only [maxLen]; omega) HO.out ?_
   intro w6 ho hb
   have HO2 := As.mk ho
   have HCS := As.mk (HDS.out _ ho.drop.drop)
   clear ho hb HO HDS
   go_wp2
   refine hK.out _ _ HCS.out ?_
   clear hK K HCS
   refine Run.pu (v := ?_) (a' := ?_) rfl rfl (Or.inl ⟨by rfl, ?_⟩) ?_ ?_; rotate_left 2; (focus (intro W; go_simp; with_reducible rfl)); (focus (simp only [zq1, zq2, zq3, Act.put, zq4, zq5, zq6]; rfl))
   refine Run.la rfl (fun K hK => ?_)
   simp only [zq1, zq2, zq3]
   try simp only [zq4, zq5, zq6]
   refine go_st HO2.out 3 rfl rfl 89 (.tmp 2) (.tmp 25) rfl rfl (Md.cs c ⟨none, some ⟨w5.heap.size, 0, none⟩, some ⟨w4.heap.size, 0, none⟩, 0, np, c.H, 0, 0, 0, []⟩) (by simp only [Md.cs, ← HNP.out]; rfl) rfl size89 (Md.one c _) ?_
   intro w7 ho
   have HO7 := As.mk ho
   clear ho HO2
   go_wp2
   refine hK.out _ _ ?_
   clear hK K
   refine Run.pu (v := ?_) (a' := ?_) rfl rfl (Or.inl ⟨by rfl, ?_⟩) ?_ ?_; rotate_left 2; (focus (intro W; go_simp; with_reducible rfl)); (focus (simp only [zq1, zq2, zq3, Act.put, zq4, zq5, zq6]; rfl))
   refine Run.nil ?_
   try simp only [zq1, zq2, zq3]
   go_wp2_with fail
   refine bodyPost_ret (results_ct rfl _ rfl (HO7.out.range me3) Tryz.underlying89 rfl size89) rfl ⟨⟨⟨none, some ⟨w5.heap.size, 0, none⟩, some ⟨w4.heap.size, 0, none⟩, 0, np, c.H, 0, 0, 0, []⟩, rfl, rfl, fun W hW => ⟨Row.nil _ _ _, ?_, ?_⟩⟩, HO7.out.toBelow⟩
   · rw [← HNP.out]
     refine ⟨List.replicate np false, by simp, ?_⟩
     rw [List.map_replicate]
     exact (HO7.out.fr me0 (Nat.le_refl _)).row hW
   · refine ⟨List.replicate c.H 0, by simp, ?_⟩
     rw [show uV (List.replicate c.H 0) = List.replicate c.H (.int .u8 0) by simp [uV]]
     exact (HO7.out.fr me1 (Nat.le_refl _)).row hW
end Go.Proofs.YtmookafmdonopaaGreat.Top
