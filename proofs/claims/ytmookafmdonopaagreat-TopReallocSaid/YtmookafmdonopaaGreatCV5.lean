/- hodmantop.TopRealloc walked. -/
import Derived.Test.YtmookafmdonopaaGreatCT62
import Derived.Test.YtmookafmdonopaaGreatCT58
import Derived.Test.YtmookafmdonopaaGreatCT59
namespace Go.Proofs.YtmookafmdonopaaGreat.Top
open Go Go.RowKit
set_option linter.unusedVariables false
set_option linter.unusedSimpArgs false
attribute [local go_sem] max2_int min2_int max_two min_two max_three

set_option maxHeartbeats 8000000 in
set_option maxRecDepth 100000 in
theorem fld39 (a0 a1 a2 a3 a4 a5 a6 a7 : Int) (w : World) : (Instr.field 39 (.agg #[.int .i64 a0, .int .i64 a1, .int .i64 a2, .int .u8 a3, .int .i64 a4, .int .i64 a5, .int .i64 a6, .int .i64 a7]) 3).run Tryz.prog w = .ok (.int .u8 a3) w := by
 simp [Instr.field, run_underlying Tryz.underlying39, asAgg, part]
set_option maxHeartbeats 8000000 in
set_option maxRecDepth 100000 in
theorem fld39n (a0 a1 a2 a3 a4 a5 a6 a7 : Int) (w : World) : (Instr.field 39 (.agg #[.int .i64 a0, .int .i64 a1, .int .i64 a2, .int .u8 a3, .int .i64 a4, .int .i64 a5, .int .i64 a6, .int .i64 a7]) 2).run Tryz.prog w = .ok (.int .i64 a2) w := by
 simp [Instr.field, run_underlying Tryz.underlying39, asAgg, part]
set_option maxHeartbeats 8000000 in
set_option maxRecDepth 100000 in
theorem TopRealloc_walk (w : World) {A A2 : Option Addr} {n c n2 c2 : Nat} (h1 : BIn w A n c) (h2 : BIn w A2 n2 c2) {u v : Int} (hu : (Lit.int .u8 u).wf = true) (hv : (Lit.int .u8 v).wf = true) : Calls Tryz.prog 5 #[.slice A n c, .slice A2 n2 c2, .int .u8 u, .int .u8 v] w fun e w' => e = .returned (.bool true) ∧ Below w.heap.size w w' := by
 obtain ⟨u, rfl, hu2⟩ := wf_u8' hu
 obtain ⟨v, rfl, hv2⟩ := wf_u8' hv
 clear hu hv
 by_cases hn : n ≤ 6
 · by_cases hn2 : n2 ≤ 150
   · obtain ⟨bs, B⟩ := h1.bytes (by omega)
     obtain ⟨bs2, B2⟩ := h2.bytes (by omega)
     have HB := As.mk B
     have HB2 := As.mk B2
     clear h1 h2 B B2
     go_enter Tryz.func5, Tryz.ntmps5
     go_wp2_with fail
     refine (top_begun w).mono ?_
     rintro e w1 ⟨rfl, hb⟩
     have HO1 := As.mk ((Own.start (X := []) w).below hb)
     clear hb
     go_wp2_with fail
     refine (play_Made A n c w1).mono ?_
     rintro e w2 ⟨rfl, rfl⟩
     obtain ⟨p, hp⟩ : ∃ p, p = w1.heap.size := ⟨_, rfl⟩
     obtain ⟨w2, hw2⟩ : ∃ x, x = w1.alloc (.cells #[.slice A n c, .int .i64 0] 73) := ⟨_, rfl⟩
     have ho := HO1.out.box #[.slice A n c, .int .i64 0] 73
     rw [← hw2, ← hp] at ho ⊢
     have HO2 : As (Own [] [(p, PK A n c 0)] (fun _ => True) w w2) := As.mk ho
     clear ho hw2 hp HO1
     go_wp2_with fail
     refine (play_Raw [] (fun _ => True) w w2 p A n c 0 true bs HB.out HO2.out (Nat.zero_le _)).mono ?_
     rintro e w3 ⟨r, rfl, hsm, hbud, j, -, ho⟩
     obtain ⟨cf, hc, hg, hH, hok⟩ := small_conf r hsm
     have HPP := As.mk (conf_P r hc (hbud rfl))
     have HO3 := As.mk ho.drop
     have HCF := As.mk (And.intro hc (And.intro hg (And.intro hH hok)))
     clear ho HO2 hsm hbud hc hg hH hok
     have hrv : r.v = .agg #[.int .i64 r.g, .int .i64 r.l, .int .i64 r.m, .int .i64 r.p, .int .i64 r.b, .int .i64 r.s] := rfl
     have HO4 := As.mk (HO3.out.box #[.int .i64 r.g, .int .i64 r.l, .int .i64 r.m, .int .i64 r.p, .int .i64 r.b, .int .i64 r.s] 25)
     rw [hrv]
     obtain ⟨g5, hg5⟩ : ∃ g, g = w3.heap.size := ⟨_, rfl⟩
     obtain ⟨w4, hw4⟩ : ∃ x, x = w3.alloc (.cells #[.int .i64 r.g, .int .i64 r.l, .int .i64 r.m, .int .i64 r.p, .int .i64 r.b, .int .i64 r.s] 25) := ⟨_, rfl⟩
     go_wp2_with fail
     have ho := HO4.out
     rw [← hw4, ← hg5] at ho ⊢
     have HO5 : As (Own [] [(g5, EC 25 r.cs)] (fun _ => True) w w4) := As.mk ho
     clear ho hw4 hg5 HO4 HO3 hrv
     refine (heap_New r cf _ _ w w4 HO5.out HCF.out.1 HCF.out.2.1 HCF.out.2.2.1).mono ?_
     rintro e w5 ⟨h, rfl, H⟩
     have HH := As.mk H
     clear H HO5
     go_wp2_with fail
     refine (heap_Conf h cf w5 HH.out.conf).mono ?_
     rintro e w6 ⟨rfl, hb⟩
     have H6 := HH.out.below hb
     have hcv : cf.v = .agg #[.int .i64 cf.G, .int .i64 cf.N, .int .i64 cf.M, .int .i64 cf.L, .int .i64 cf.Page, .int .i64 cf.P, .int .i64 cf.H, .int .i64 cf.Seed] := rfl
     have hbx := H6.box #[.int .i64 cf.G, .int .i64 cf.N, .int .i64 cf.M, .int .i64 cf.L, .int .i64 cf.Page, .int .i64 cf.P, .int .i64 cf.H, .int .i64 cf.Seed] 34
     rw [hcv]
     obtain ⟨g8, hg8⟩ : ∃ g, g = w6.heap.size := ⟨_, rfl⟩
     obtain ⟨w7, hw7⟩ : ∃ x, x = w6.alloc (.cells #[.int .i64 cf.G, .int .i64 cf.N, .int .i64 cf.M, .int .i64 cf.L, .int .i64 cf.Page, .int .i64 cf.P, .int .i64 cf.H, .int .i64 cf.Seed] 34) := ⟨_, rfl⟩
     rw [← hw7, ← hg8] at hbx
     have HH7 : As (HW h cf (Hs.new cf) (List.replicate cf.H 0) [(g8, EC 34 cf.cs), (g5, EC 25 r.cs)] (fun _ => True) w w7) := As.mk hbx
     go_wp2_with fail
     rw [← hw7, ← hg8]
     clear hbx hw7 hg8 hcv H6 hb HH
     refine rgn [(0, 1), (2, 0), (1, 2), (3, 2), (4, 1)] [] (fun W => W.rangeAt g5 0 r.cs) (by kernel_rfl) (by kernel_rfl) (fun _ _ _ d _ h => by cases d <;> exact h) (HH7.out.drew.range me1) ?_
     have HHD := As.mk HH7.out.drew
     obtain ⟨w8, hw8⟩ : ∃ x, x = w7.drew := ⟨_, rfl⟩
     rw [← hw8] at HHD ⊢
     clear hw8 HH7
     refine Run.pu (v := ?_) (a' := ?_) rfl rfl (Or.inl ⟨by rfl, ?_⟩) ?_ ?_; rotate_left 2; (focus (intro W; go_simp; with_reducible rfl)); (focus (simp only [zq1, zq2, zq3, Act.put, zq4, zq5, zq6]; rfl))
     refine Run.rd (v := .agg r.cs.toArray) (a' := ?_) rfl rfl (yieldsIf_load_mid rfl 25 (.tmp 9) rfl g5 0 rfl r.cs _ (fun W hW => hW) Tryz.underlying25 rfl size25) ?_ ?_
     rotate_left 1
     · simp only [zq1, zq2, zq3, Act.put, zq4, zq5, zq6]; rfl
     refine Run.ef rfl (fun K hK => ?_)
     simp only [zq1, zq2, zq3]
     try simp only [zq4, zq5, zq6]
     go_wp2_with fail
     refine (play_Made A2 n2 c2 w8).mono ?_
     rintro e w9 ⟨rfl, rfl⟩
     have hbx := HHD.out.box #[.slice A2 n2 c2, .int .i64 0] 73
     have hbo := HHD.out.below ((Below.refl w8.heap.size w8).alloc (Nat.le_refl _) (.cells #[.slice A2 n2 c2, .int .i64 0] 73))
     obtain ⟨p2, hp2⟩ : ∃ g, g = w8.heap.size := ⟨_, rfl⟩
     obtain ⟨w9, hw9⟩ : ∃ x, x = w8.alloc (.cells #[.slice A2 n2 c2, .int .i64 0] 73) := ⟨_, rfl⟩
     rw [← hw9] at hbo
     rw [← hw9, ← hp2] at hbx ⊢
     have HH9 := As.mk hbo
     have HP9 : As (HW h cf (Hs.new cf) (List.replicate cf.H 0) ((p2, PK A2 n2 c2 0) :: [(g8, EC 34 cf.cs), (g5, EC 25 r.cs)]) (fun _ => True) w w9) := As.mk hbx
     clear hbx hbo hw9 hp2 HHD
     go_wp2_with fail
     refine hK.out _ _ (HH9.out.range me1) ?_
     clear hK K
     refine Run.ef rfl (fun K hK => ?_)
     simp only [zq1, zq2, zq3]
     try simp only [zq4, zq5, zq6]
     go_wp2_with fail
     refine (heap_Ops HH9.out p2 A2 n2 c2 0 r HCF.out.1 HCF.out.2.2.2 HCF.out.2.1 bs2 HB2.out HP9.out (Nat.zero_le _) 40 (by decide)).mono ?_
     rintro e w10 ⟨A3, c3, ops, rfl, hops, hok, hh⟩
     have HH10 := As.mk (hh.imp (R' := fun W => Row W (.slice A3 ops.length c3) ops.length (opV ops)) (fun W h => h.2))
     have HOK := As.mk hok
     clear hh hok HH9 HP9
     go_wp2_with fail
     refine hK.out _ _ (HH10.out.range me1) ?_
     clear hK K
     refine Run.pu (v := ?_) (a' := ?_) rfl rfl (Or.inl ⟨by rfl, ?_⟩) ?_ ?_; rotate_left 2; (focus (intro W; go_simp; with_reducible rfl)); (focus (simp only [zq1, zq2, zq3, Act.put, zq4, zq5, zq6]; rfl))
     refine Run.nil ?_
     try simp only [zq1, zq2, zq3]
     try simp only [zq4, zq5, zq6]
     go_wp2_with fail
     obtain ⟨no, hno⟩ : ∃ x, x = ops.length := ⟨_, rfl⟩
     rw [← hno] at hops HH10 ⊢
     have HNO := As.mk hno
     clear hno
     go_loopw [14] (fun i wr => ∃ (k : Nat) (s : Hs) (mem : List Nat), k ≤ no ∧ i = .int .i64 (k : Int) ∧ As (Iv cf s ∧ Ci cf s.bl) ∧ HW h cf s mem [(g8, EC 34 cf.cs), (g5, EC 25 r.cs)] (fun W => Row W (.slice A3 no c3) no (opV ops)) w wr) (fun i _ => no - (intOf i).toNat)
     case atStart => exact ⟨0, Hs.new cf, _, Nat.zero_le _, rfl, ⟨new_iv HCF.out.2.1 HCF.out.2.2.1⟩, HH10.out⟩
     case round =>
      clear HH10
      obtain ⟨k, s, mem, hk, rfl, IV, hh⟩ := hrel
      have HH := As.mk hh
      clear hh
      by_cases hkn : k < no
      · obtain ⟨o, ho⟩ : ∃ o, ops[k]? = some o := ⟨ops[k]'(by have := HNO.out; omega), List.getElem?_eq_getElem _⟩
        have hok := HOK.out o (List.mem_of_getElem? ho)
        have hro := HH.out.now
        rw [HNO.out] at hro
        obtain ⟨b3, q3, rfl, hrg⟩ := ops_range hro k o ho
        have HRG := As.mk hrg
        have HDO := As.mk (show Calls Tryz.prog 16 #[.pointer (some ⟨h, 0, none⟩), .agg o.cs.toArray] wr _ from heap_Do h cf s mem _ _ w wr o HH.out IV.out.1 hok)
        have IV1 := As.mk (do_ok IV.out.1 IV.out.2 mem hok)
        clear ho hok hro hrg
        go_wp2_with (refine wpList_load_mid rfl 42 (.tmp 66) rfl b3 (q3 + k * 6) rfl o.cs _ HRG.out Tryz.underlying42 rfl size42 ?_)
        refine HDO.out.mono ?_
        rintro e w11 ⟨rfl, mem1, H1, -⟩
        obtain ⟨s1, hs1⟩ : ∃ x, x = (doP cf s mem o).1 := ⟨_, rfl⟩
        rw [← hs1] at H1 IV1
        have HH1 := As.mk H1
        clear H1 hs1 HDO HRG HH
        go_wp2_with fail
        go_roundw
        case rel => exact ⟨k + 1, s1, mem1, by omega, by go_num, IV1, HH1.out⟩
        case measure => simp [intOf]; omega
      · have e : k = no := by omega
        rw [e]
        clear e hkn hk
        go_wp2_with fail
        refine (heap_Blocks h cf s mem _ _ w wr HH.out IV.out.1).mono ?_
        rintro e w12 ⟨v1, rfl, hfr, hb⟩
        obtain ⟨A4, c4, rfl⟩ := hfr.now.form
        have H2 := HH.out.result hb (R' := fun W => Row W (.slice A4 s.bl.length c4) s.bl.length (mbV (s.bl.map (Bk.mb cf)))) (fun W hW => hfr.row hW)
        obtain ⟨nb, hnb⟩ : ∃ x, x = s.bl.length := ⟨_, rfl⟩
        rw [← hnb] at H2 ⊢
        have HH2 := As.mk H2
        have HNB := As.mk hnb
        have hnb1 : nb ≤ 100000 := by rw [hnb]; have := IV.out.1.inv.len IV.out.1.good; have := IV.out.1.small; omega
        clear hb hfr H2 hnb HH
        by_cases hz : nb = 0
        · have f1 : ((nb : Int) == 0) = true := by simp [hz]
          go_wp2_with fail
          go_ret
          exact ⟨rfl, HH2.out.toBelow⟩
        · have f1 : ((nb : Int) == 0) = false := beqF (by omega)
          have f2 : ((nb : Int) = 0) = False := eq_false (by omega)
          have f3 : (nb = 0) = False := eq_false hz
          obtain ⟨q, hq⟩ : ∃ q, q = u % nb := ⟨_, rfl⟩
          have hqn : q < nb := by rw [hq]; exact Nat.mod_lt _ (by omega)
          have E1 := As.mk (show (u : Int) % (nb : Int) = (q : Int) by rw [hq]; rfl)
          have E2 := As.mk (show Int.tmod (u : Int) (nb : Int) = (q : Int) by rw [hq]; rfl)
          clear hq
          obtain ⟨b, hb⟩ : ∃ b, s.bl[q]? = some b := ⟨s.bl[q]'(by have := HNB.out; omega), List.getElem?_eq_getElem _⟩
          obtain ⟨b4, o4, rfl, -, -⟩ := HH2.out.now.2.cell' (by rw [mbV_len, List.length_map]; have := HNB.out; omega)
          obtain ⟨y0, y1, y2⟩ := blk_cells HH2.out.now.2 hb
          have HBM := As.mk (List.mem_of_getElem? hb)
          clear hb
          obtain ⟨at_, hat⟩ : ∃ x, x = b.at_ := ⟨_, rfl⟩
          obtain ⟨ch, hch⟩ : ∃ x, x = b.ch cf := ⟨_, rfl⟩
          obtain ⟨as_, has⟩ : ∃ x, x = b.asked := ⟨_, rfl⟩
          rw [← hat] at y0
          rw [← hch] at y1
          rw [← has] at y2
          have hbx := HH2.out.box #[.int .i64 (at_ : Int), .int .i64 (ch : Int), .int .i64 (as_ : Int)] 48
          have z8 : (w12.alloc (.cells #[.int .i64 (at_ : Int), .int .i64 (ch : Int), .int .i64 (as_ : Int)] 48)).cell? ⟨g8, 1, none⟩ = some (.int .i64 (cf.N : Int)) := hbx.rd me1 1 (by simp [Cf.cs])
          have HBX := As.mk hbx
          have HAT := As.mk (And.intro hat (And.intro hch has))
          have hN := HCF.out.2.1.bounds
          obtain ⟨sz, hsz⟩ : ∃ sz, sz = v % (cf.N + 2) := ⟨_, rfl⟩
          have E3 := As.mk (show (v : Int) % ((cf.N : Int) + 2) = (sz : Int) by rw [hsz]; rfl)
          have E4 := As.mk (show Int.tmod (v : Int) ((cf.N : Int) + 2) = (sz : Int) by rw [hsz]; rfl)
          have n1 : ((cf.N : Int) + 2 = 0) = False := eq_false (by omega)
          have n2 : ((cf.N : Int) + 2 == 0) = false := beqF (by omega)
          have HSZ := As.mk hsz
          clear hat hch has hbx hsz HH2
          go_wp2_with (first | (simp only [E1.out]) | (simp only [E2.out]) | (simp only [E3.out]) | (simp only [E4.out]))
          obtain ⟨g16, hg16⟩ : ∃ g, g = w12.heap.size := ⟨_, rfl⟩
          obtain ⟨w13, hw13⟩ : ∃ y, y = w12.alloc (.cells #[.int .i64 (at_ : Int), .int .i64 (ch : Int), .int .i64 (as_ : Int)] 48) := ⟨_, rfl⟩
          rw [← hg16, ← hw13] at HBX
          simp only [← hg16, ← hw13]
          clear hg16 hw13 z8 y0 y1 y2
          refine (heap_Copy HBX.out IV.out.1).mono ?_
          rintro e w14 ⟨x, rfl, H2⟩
          have HC : As (HW2 h x cf s mem s mem ([] ++ [(g16, EC 48 [.int .i64 (at_ : Int), .int .i64 (ch : Int), .int .i64 (as_ : Int)]), (g8, EC 34 cf.cs), (g5, EC 25 r.cs)]) (fun W => Row W (.slice A3 no c3) no (opV ops) ∧ Row W (.slice (some ⟨b4, o4, none⟩) nb c4) nb (mbV (s.bl.map (Bk.mb cf)))) w w14) := As.mk H2
          clear H2 HBX
          go_wp2_with fail
          have hfit := IV.out.1.inv.fits b HBM.out
          have hch4 : at_ + ch ≤ 4096 := by rw [HAT.out.1, HAT.out.2.1]; exact Nat.le_trans hfit IV.out.1.small
          have hld : ∀ i : Nat, i < ch → doP cf s mem ⟨7, at_, 0, 0, i, 0⟩ = (s, ⟨0, 0, 0, ((mem.getD (at_ + i) 0 : Nat) : Int), 0, 0, 0, 0⟩) := by
           intro i hi
           rw [HAT.out.1]
           exact doP_load IV.out.1 mem HBM.out (by rw [← HAT.out.2.1]; exact hi)
          have HLD := As.mk hld
          have hre := re_all IV.out.1 HBM.out (sz : Int) mem
          rw [← HAT.out.1, ← HAT.out.2.1] at hre
          have HRE := As.mk hre
          have hfe : ∀ m, doP cf s m ⟨5, at_, 0, 0, 0, 0⟩ = (s.without b, An.no 0) := by
           intro m
           rw [HAT.out.1]
           exact doP_free IV.out.1 m HBM.out
          have HFE := As.mk hfe
          have hszN : (sz : Int) ≤ 2 ^ 30 := by
           have h1 := HCF.out.2.1.bounds
           have h2 : sz < cf.N + 2 := by rw [HSZ.out]; exact Nat.mod_lt _ (by omega)
           have h3 : cf.N + 2 ≤ 2 ^ 30 := by omega
           omega
          clear hfit hld hre hfe n1 n2 hu2 hv2
          go_loopw [19, 20] (fun vv i wr => ∃ (k : Nat) (G : List (Nat × (Obj → Prop))), k ≤ ch ∧ i = .int .i64 (k : Int) ∧ As (SG w 5 1 vv k (wasB mem at_ k) G) ∧ HW2 h x cf s mem s mem (G ++ [(g16, EC 48 [.int .i64 (at_ : Int), .int .i64 (ch : Int), .int .i64 (as_ : Int)]), (g8, EC 34 cf.cs), (g5, EC 25 r.cs)]) (fun W => Row W (.slice A3 no c3) no (opV ops) ∧ Row W (.slice (some ⟨b4, o4, none⟩) nb c4) nb (mbV (s.bl.map (Bk.mb cf)))) w wr) (fun _ i _ => ch - (intOf i).toNat)
          case atStart => exact ⟨0, [], Nat.zero_le _, rfl, ⟨SG.nil _ _ _⟩, HC.out⟩
          case round =>
           clear HC
           obtain ⟨k, G, hk, rfl, HSG, hh⟩ := hrel
           have HH := As.mk hh
           have z1 := hh.rd (List.mem_append_right _ me0) 1 (by simp)
           have z0 := hh.rd (List.mem_append_right _ me0) 0 (by simp)
           simp only [List.getElem?_cons_zero, List.getElem?_cons_succ] at z0 z1
           clear hh
           by_cases hkn : k < ch
           · have hl := HH.out.do_ IV.out.1 ⟨7, at_, 0, 0, k, 0⟩ (ok_load (Int.le_trans (Int.ofNat_le.2 (show k ≤ 65536 by omega)) (by decide)))
             rw [HLD.out k hkn] at hl
             have HL := As.mk hl
             clear hl
             go_wp2_with fail
             refine HL.out.mono ?_
             rintro e w20 ⟨rfl, mem4, H4, hd⟩
             have hm4 : mem4 = mem := (hd.2.1 (by decide : (4 : Int) ≤ 7) (by decide : (7 : Int) ≤ 8)).2 (by decide : (7 : Int) ≠ 4) (by decide : (7 : Int) ≠ 8)
             rw [hm4] at H4
             obtain ⟨Q, R', hox, hback⟩ := HW2.join HSG.out H4
             have HOX := As.mk hox
             have HBK := As.mk hback
             obtain ⟨by_, hby⟩ : ∃ y, y = mem.getD (at_ + k) 0 := ⟨_, rfl⟩
             rw [← hby]
             have HBY := As.mk hby
             clear hox hback hby H4 hd hm4 HL z0 z1 HH HSG
             rw [show (⟨0, 0, 0, (by_ : Int), 0, 0, 0, 0⟩ : An).v = .agg #[.int .i64 0, .int .i64 0, .int .i64 0, .int .u8 (by_ : Int), .int .i64 0, .int .i64 0, .int .i64 0, .int .i64 0] from rfl]
             go_wp2_with (first | (simp only [fld39]) | (at_builtin; refine go_app w rfl _ _ 22 5 _ 1 1 rfl Tryz.underlying22 info5 rfl (by decide) u19 k (wasB mem at_ k) rfl ⟨w20.heap.size, 0, none⟩ 1 1 [.int .u8 (by_ : Int)] rfl (HOX.out.alloc _) rfl (news _) (by intro u hu; rw [List.mem_singleton.1 hu]; rfl) (by simp only [maxLen]; omega) (by omega) ?_; intro v1 w21 hw1; have HW21 := As.mk hw1; clear hw1))
             have hg := HBK.out (k + 1) v1 (wasB mem at_ (k + 1)) w21 (by rw [wasB_succ, ← HBY.out]; exact HW21.out)
             obtain ⟨G', g1, g2⟩ := hg
             have HG1 := As.mk g1
             have HG2 := As.mk g2
             clear g1 g2 HW21 HBK HOX
             go_roundw
             case rel => exact ⟨k + 1, G', by omega, by go_num, HG1, HG2.out⟩
             case measure => simp [intOf]; omega
           · have e : k = ch := by omega
             rw [e] at HSG
             rw [e]
             clear e hkn hk
             have hkp := HW2.keep HSG.out HH.out
             obtain ⟨A5, c5, rfl⟩ := hkp.now.2.form
             have HK := As.mk hkp
             obtain ⟨s1, ax, s2, hr1, hr2, iv1, iv2, hcase⟩ := HRE.out
             obtain ⟨xe, xa, xn, xb, xl, xp, xm, xg⟩ := ax
             have hx := HK.out.do_ IV.out.1 ⟨4, at_, sz, 0, 0, 0⟩ (ok_re hszN)
             rw [hr1] at hx
             have HX := As.mk hx
             have HR2 := As.mk hr2
             have HCS := As.mk hcase
             have IV2 := As.mk (And.intro iv1 iv2)
             have IVW := As.mk (IV.out.1.without HBM.out).1
             clear hx hkp hr1 hr2 iv1 iv2 hcase HRE HH HSG HLD
             go_wp2_with fail
             refine HX.out.mono ?_
             rintro e w15 ⟨rfl, mem1, H1, hd⟩
             have HDM := As.mk hd
             have hb := H1.swap.box #[.int .i64 xe, .int .i64 xa, .int .i64 xn, .int .u8 xb, .int .i64 xl, .int .i64 xp, .int .i64 xm, .int .i64 xg] 39
             obtain ⟨g21, hg21⟩ : ∃ g, g = w15.heap.size := ⟨_, rfl⟩
             obtain ⟨w16, hw16⟩ : ∃ y, y = w15.alloc (.cells #[.int .i64 xe, .int .i64 xa, .int .i64 xn, .int .u8 xb, .int .i64 xl, .int .i64 xp, .int .i64 xm, .int .i64 xg] 39) := ⟨_, rfl⟩
             have y0 := hb.rd me1 0 (by simp)
             simp only [List.getElem?_cons_zero, List.getElem?_cons_succ] at y0
             rw [← hg21, ← hw16] at hb
             have hf := hb.do_ IV.out.1 ⟨5, at_, 0, 0, 0, 0⟩ ok_fr
             rw [HFE.out] at hf
             have HF := As.mk hf
             clear hb H1 HX hd hf z0 z1
             rw [show (⟨xe, xa, xn, xb, xl, xp, xm, xg⟩ : An).v = .agg #[.int .i64 xe, .int .i64 xa, .int .i64 xn, .int .u8 xb, .int .i64 xl, .int .i64 xp, .int .i64 xm, .int .i64 xg] from rfl]
             go_wp2_with fail
             simp only [← hg21, ← hw16]
             clear hg21 hw16
             refine HF.out.mono ?_
             rintro e w17 ⟨rfl, mem2, H2, -⟩
             have hm := H2.do_ IVW.out ⟨1, 0, sz, 0, 0, 0⟩ (ok_mal hszN)
             rw [HR2.out] at hm
             have HM := As.mk hm
             clear hm H2 HF y0
             go_wp2_with fail
             refine HM.out.mono ?_
             rintro e w18 ⟨rfl, mem3, H3, -⟩
             have hb := H3.swap.box #[.int .i64 xe, .int .i64 xa, .int .i64 xn, .int .u8 xb, .int .i64 xl, .int .i64 xp, .int .i64 xm, .int .i64 xg] 39
             obtain ⟨g22, hg22⟩ : ∃ g, g = w18.heap.size := ⟨_, rfl⟩
             obtain ⟨w19, hw19⟩ : ∃ y, y = w18.alloc (.cells #[.int .i64 xe, .int .i64 xa, .int .i64 xn, .int .u8 xb, .int .i64 xl, .int .i64 xp, .int .i64 xm, .int .i64 xg] 39) := ⟨_, rfl⟩
             have r0 := hb.rd me0 0 (by simp)
             have r1 := hb.rd me0 1 (by simp)
             have q0 := hb.rd me1 0 (by simp)
             have q1 := hb.rd me1 1 (by simp)
             simp only [List.getElem?_cons_zero, List.getElem?_cons_succ] at r0 r1 q0 q1
             rw [← hg22, ← hw19] at hb
             have HB19 := As.mk hb
             clear hb H3 HM
             rw [show (⟨xe, xa, xn, xb, xl, xp, xm, xg⟩ : An).v = .agg #[.int .i64 xe, .int .i64 xa, .int .i64 xn, .int .u8 xb, .int .i64 xl, .int .i64 xp, .int .i64 xm, .int .i64 xg] from rfl]
             rcases (show ((xe ≠ 0 ∧ s1 = s) ∨ _) from HCS.out) with ⟨hxe, hss⟩ | ⟨hss, a, ch2, hax, ha6, hc6, hus, hld⟩
             · clear HCS
               have hxe2 : (xe = 0) = False := eq_false hxe
               have hxe3 : (xe == 0) = false := beqF hxe
               go_wp2_with fail
               simp only [← hg22, ← hw19]
               clear hg22 hw19 r0 r1 q0 q1
               refine (HW2.blocks HB19.out IV2.out.1).mono ?_
               rintro e w20 ⟨A6, c6, rfl, H4⟩
               rw [hss, ← HNB.out] at H4 ⊢
               have HSB := As.mk (same_Blocks A6 (some ⟨b4, o4, none⟩) c6 c4 nb (s.bl.map (Bk.mb cf)) w20 (by rw [List.length_map, HNB.out]) H4.now.2 H4.now.1.1.2 hnb1)
               have HH4 := As.mk H4
               clear H4 HB19
               go_wp2_with fail
               refine HSB.out.mono ?_
               rintro e w21 ⟨rfl, hb⟩
               have HH5 := As.mk (HH4.out.below hb)
               clear hb HH4 HSB
               go_wp2_with fail
               go_ret
               exact ⟨rfl, HH5.out.toBelow⟩
             · subst hss
               injection hax with e1 e2 e3 e4 e5 e6 e7 e8
               subst e1 e2 e3 e4 e5 e6 e7 e8
               clear HCS
               have hlds := hld mem1 HDM.out
               have HLD := As.mk hlds
               have HB20 : As (HW2 h x cf s1 mem1 s1 mem3 [(g22, EC 39 [.int .i64 0, .int .i64 (a : Int), .int .i64 0, .int .u8 0, .int .i64 0, .int .i64 0, .int .i64 0, .int .i64 0]), (g21, EC 39 [.int .i64 0, .int .i64 (a : Int), .int .i64 0, .int .u8 0, .int .i64 0, .int .i64 0, .int .i64 0, .int .i64 0]), (g16, EC 48 [.int .i64 (at_ : Int), .int .i64 (ch : Int), .int .i64 (as_ : Int)]), (g8, EC 34 cf.cs), (g5, EC 25 r.cs)] (fun W => (Row W (.slice A3 no c3) no (opV ops) ∧ Row W (.slice (some ⟨b4, o4, none⟩) nb c4) nb (mbV (s.bl.map (Bk.mb cf)))) ∧ Row W (.slice A5 ch c5) ch (wasB mem at_ ch)) w w19) := HB19
               have hu := HB20.out.do_ IV2.out.1 ⟨6, a, 0, 0, 0, 0⟩ (ok_usable _)
               rw [hus] at hu
               have HU := As.mk hu
               clear hu hus hld hlds HB19 HR2 HDM
               go_wp2_with fail
               simp only [← hg22, ← hw19]
               clear hg22 hw19 r0 r1 q0 q1
               refine HU.out.mono ?_
               rintro e w20 ⟨rfl, mem4, H4, hd⟩
               have hm4 : mem4 = mem1 := (hd.2.1 (by decide : (4 : Int) ≤ 6) (by decide : (6 : Int) ≤ 8)).2 (by decide : (6 : Int) ≠ 4) (by decide : (6 : Int) ≠ 8)
               rw [hm4] at H4
               have HH4 := As.mk H4
               clear H4 hd hm4 HU HB20
               rw [show (⟨0, 0, (ch2 : Int), 0, 0, 0, 0, 0⟩ : An).v = .agg #[.int .i64 0, .int .i64 0, .int .i64 (ch2 : Int), .int .u8 0, .int .i64 0, .int .i64 0, .int .i64 0, .int .i64 0] from rfl]
               obtain ⟨mn, hmn⟩ : ∃ m, m = min ch2 ch := ⟨_, rfl⟩
               have hmn1 : mn ≤ ch2 := by omega
               have hmn2 : mn ≤ ch := by omega
               have E7 := As.mk (show min (ch2 : Int) (ch : Int) = (mn : Int) by omega)
               clear hmn
               go_wp2_with (simp only [fld39n])
               go_loopw [24] (fun i wr => ∃ k : Nat, k ≤ mn ∧ i = .int .i64 (k : Int) ∧ HW2 h x cf s1 mem1 s1 mem3 [(g22, EC 39 [.int .i64 0, .int .i64 (a : Int), .int .i64 0, .int .u8 0, .int .i64 0, .int .i64 0, .int .i64 0, .int .i64 0]), (g21, EC 39 [.int .i64 0, .int .i64 (a : Int), .int .i64 0, .int .u8 0, .int .i64 0, .int .i64 0, .int .i64 0, .int .i64 0]), (g16, EC 48 [.int .i64 (at_ : Int), .int .i64 (ch : Int), .int .i64 (as_ : Int)]), (g8, EC 34 cf.cs), (g5, EC 25 r.cs)] (fun W => (Row W (.slice A3 no c3) no (opV ops) ∧ Row W (.slice (some ⟨b4, o4, none⟩) nb c4) nb (mbV (s.bl.map (Bk.mb cf)))) ∧ Row W (.slice A5 ch c5) ch (wasB mem at_ ch)) w wr) (fun i _ => mn - (intOf i).toNat)
               case atStart => exact ⟨0, Nat.zero_le _, rfl, HH4.out⟩
               case round =>
                clear HH4
                obtain ⟨k, hk, rfl, hh⟩ := hrel
                have HH := As.mk hh
                have z1 := hh.rd me2 1 (by simp)
                simp only [List.getElem?_cons_zero, List.getElem?_cons_succ] at z1
                clear hh
                by_cases hkn : k < mn
                · have hlk := HLD.out k (by omega) (by omega)
                  obtain ⟨by_, hby⟩ : ∃ y, y = mem.getD (at_ + k) 0 := ⟨_, rfl⟩
                  rw [← hby] at hlk
                  have HLK := As.mk hlk
                  obtain ⟨b5, o5, rfl, hnc5, hcell5⟩ := HH.out.now.2.cell' (by rw [wasB_len]; omega)
                  have y5 := hcell5 k _ (wasB_at mem at_ (by omega))
                  rw [← hby] at y5
                  have HHW := As.mk (fun (W : World) (H : HW2 h x cf s1 mem1 s1 mem3 [(g22, EC 39 [.int .i64 0, .int .i64 (a : Int), .int .i64 0, .int .u8 0, .int .i64 0, .int .i64 0, .int .i64 0, .int .i64 0]), (g21, EC 39 [.int .i64 0, .int .i64 (a : Int), .int .i64 0, .int .u8 0, .int .i64 0, .int .i64 0, .int .i64 0, .int .i64 0]), (g16, EC 48 [.int .i64 (at_ : Int), .int .i64 (ch : Int), .int .i64 (as_ : Int)]), (g8, EC 34 cf.cs), (g5, EC 25 r.cs)] (fun W => (Row W (.slice A3 no c3) no (opV ops) ∧ Row W (.slice (some ⟨b4, o4, none⟩) nb c4) nb (mbV (s.bl.map (Bk.mb cf)))) ∧ Row W (.slice (some ⟨b5, o5, none⟩) ch c5) ch (wasB mem at_ ch)) w W) => show W.cell? ⟨g21, 1, none⟩ = some (.int .i64 (a : Int)) ∧ W.cell? ⟨b5, o5 + k, none⟩ = some (.int .u8 (by_ : Int)) from ⟨by
                   have := H.rd me1 1 (by simp)
                   simpa only [List.getElem?_cons_zero, List.getElem?_cons_succ] using this, by
                   obtain ⟨b6, o6, h7, -, h8⟩ := H.now.2.cell' (by rw [wasB_len]; omega)
                   simp only [Option.some.injEq, Addr.mk.injEq, and_true] at h7
                   obtain ⟨rfl, rfl⟩ := h7
                   rw [hby]
                   exact h8 k _ (wasB_at mem at_ (by omega))⟩)
                  clear hlk hcell5 y5 hby HLD
                  go_wp2_with (simp only [E7.out])
                  refine rgn [(0, 1), (1, 1), (2, 0), (3, 1), (4, 1), (7, 1), (8, 1), (9, 1), (10, 0), (5, 2), (6, 1), (11, 1)] [] (fun W => W.cell? ⟨g21, 1, none⟩ = some (.int .i64 (a : Int)) ∧ W.cell? ⟨b5, o5 + k, none⟩ = some (.int .u8 (by_ : Int))) (by kernel_rfl) (by kernel_rfl) (fun _ _ _ d _ h => by cases d <;> exact h) (HHW.out _ HH.out.drew) ?_
                  have HHD := As.mk HH.out.drew
                  have HL2 := As.mk (fun (W : World) (H : HW2 h x cf s1 mem1 s1 mem3 [(g22, EC 39 [.int .i64 0, .int .i64 (a : Int), .int .i64 0, .int .u8 0, .int .i64 0, .int .i64 0, .int .i64 0, .int .i64 0]), (g21, EC 39 [.int .i64 0, .int .i64 (a : Int), .int .i64 0, .int .u8 0, .int .i64 0, .int .i64 0, .int .i64 0, .int .i64 0]), (g16, EC 48 [.int .i64 (at_ : Int), .int .i64 (ch : Int), .int .i64 (as_ : Int)]), (g8, EC 34 cf.cs), (g5, EC 25 r.cs)] (fun W => (Row W (.slice A3 no c3) no (opV ops) ∧ Row W (.slice (some ⟨b4, o4, none⟩) nb c4) nb (mbV (s.bl.map (Bk.mb cf)))) ∧ Row W (.slice (some ⟨b5, o5, none⟩) ch c5) ch (wasB mem at_ ch)) w W) => H.do_ IV2.out.1 ⟨7, a, 0, 0, k, 0⟩ (ok_load (Int.le_trans (Int.ofNat_le.2 (show k ≤ 65536 by omega)) (by decide))))
                  rw [HLK.out] at HL2
                  obtain ⟨wd, hwd⟩ : ∃ y, y = wr.drew := ⟨_, rfl⟩
                  rw [← hwd] at HHD ⊢
                  clear hwd HH
                  iterate 2 (refine Run.pu (v := ?_) (a' := ?_) rfl rfl (Or.inl ⟨by rfl, ?_⟩) ?_ ?_; rotate_left 2; (focus (intro W; go_simp; with_reducible rfl)); (focus (simp only [zq1, zq2, zq3, Act.put, zq4, zq5, zq6]; rfl)))
                  refine Run.rd (v := ?_) (a' := ?_) rfl rfl (Or.inl ⟨by rfl, ?_⟩) ?_ ?_; rotate_left 2; (focus (rintro W ⟨hW1, hW2⟩; go_simp; with_reducible rfl)); (focus (simp only [zq1, zq2, zq3, Act.put, zq4, zq5, zq6]; rfl))
                  iterate 4 (refine Run.pu (v := ?_) (a' := ?_) rfl rfl (Or.inl ⟨by rfl, ?_⟩) ?_ ?_; rotate_left 2; (focus (intro W; go_simp; with_reducible rfl)); (focus (simp only [zq1, zq2, zq3, Act.put, zq4, zq5, zq6]; rfl)))
                  refine Run.pu (v := ?_) (a' := ?_) rfl rfl (Or.inl ⟨by rfl, ?_⟩) ?_ ?_
                  rotate_left 2
                  · intro W; go_simp; rw [if_pos (by omega)]
                  · simp only [zq1, zq2, zq3, Act.put, zq4, zq5, zq6]; rfl
                  refine Run.rd (v := ?_) (a' := ?_) rfl rfl (Or.inl ⟨by rfl, ?_⟩) ?_ ?_; rotate_left 2; (focus (rintro W ⟨hW1, hW2⟩; go_simp; with_reducible rfl)); (focus (simp only [zq1, zq2, zq3, Act.put, zq4, zq5, zq6]; rfl))
                  refine Run.ef rfl (fun K hK => ?_)
                  simp only [zq1, zq2, zq3]
                  try simp only [zq4, zq5, zq6]
                  go_wp2_with fail
                  refine (HL2.out _ HHD.out).mono ?_
                  rintro e w21 ⟨rfl, mem5, H5, hd⟩
                  have hm5 : mem5 = mem1 := (hd.2.1 (by decide : (4 : Int) ≤ 7) (by decide : (7 : Int) ≤ 8)).2 (by decide : (7 : Int) ≠ 4) (by decide : (7 : Int) ≠ 8)
                  rw [hm5] at H5
                  have HH5 := As.mk H5
                  clear H5 hd hm5 HL2 HHD
                  rw [show (⟨0, 0, 0, (by_ : Int), 0, 0, 0, 0⟩ : An).v = .agg #[.int .i64 0, .int .i64 0, .int .i64 0, .int .u8 (by_ : Int), .int .i64 0, .int .i64 0, .int .i64 0, .int .i64 0] from rfl]
                  go_wp2_with fail
                  refine hK.out _ _ (HHW.out _ HH5.out) ?_
                  clear hK K
                  refine Run.pu (v := ?_) (a' := ?_) rfl rfl (Or.inl ⟨by rfl, ?_⟩) ?_ ?_
                  rotate_left 2
                  · intro W; go_simp; simp only [fld39, Result.andThen_ok]; with_reducible rfl
                  · simp only [zq1, zq2, zq3, Act.put, zq4, zq5, zq6]; rfl
                  refine Run.pu (v := ?_) (a' := ?_) rfl rfl (Or.inl ⟨by rfl, ?_⟩) ?_ ?_; rotate_left 2; (focus (intro W; go_simp; with_reducible rfl)); (focus (simp only [zq1, zq2, zq3, Act.put, zq4, zq5, zq6]; rfl))
                  refine Run.nil ?_
                  try simp only [zq1, zq2, zq3]
                  try simp only [zq4, zq5, zq6]
                  go_wp2_with fail
                  go_roundw
                  case rel => exact ⟨k + 1, by omega, by go_num, HH5.out⟩
                  case measure => simp [intOf]; omega
                · have e : k = mn := by omega
                  rw [e]
                  clear e hkn hk
                  have hnb2 : s1.bl.length ≤ 100000 := by have := IV2.out.1.inv.len IV2.out.1.good; have := IV2.out.1.small; omega
                  obtain ⟨nb2, hnb3⟩ : ∃ y, y = s1.bl.length := ⟨_, rfl⟩
                  rw [← hnb3] at hnb2
                  have HNB2 := As.mk hnb3
                  clear hnb3
                  go_wp2_with (simp only [E7.out])
                  refine (HW2.blocks HH.out IV2.out.1).mono ?_
                  rintro e w21 ⟨A6, c6, rfl, H6⟩
                  rw [← HNB2.out] at H6 ⊢
                  have HH6 := As.mk H6.swap
                  clear H6 HH
                  go_wp2_with fail
                  refine (HW2.blocks HH6.out IV2.out.2).mono ?_
                  rintro e w22 ⟨A7, c7, rfl, H7⟩
                  rw [← HNB2.out] at H7 ⊢
                  have HSB := As.mk (same_Blocks A6 A7 c6 c7 nb2 (s1.bl.map (Bk.mb cf)) w22 (by rw [List.length_map, HNB2.out]) H7.now.1.2 H7.now.2 hnb2)
                  have HH7 := As.mk H7
                  clear H7 HH6
                  go_wp2_with fail
                  refine HSB.out.mono ?_
                  rintro e w23 ⟨rfl, hb⟩
                  have HH8 := As.mk (HH7.out.below hb)
                  clear hb HH7 HSB
                  go_wp2_with fail
                  go_ret
                  exact ⟨rfl, HH8.out.toBelow⟩
   · go_enter Tryz.func5, Tryz.ntmps5
     go_wp2_with fail
     refine (top_begun w).mono ?_
     rintro e w1 ⟨rfl, hb⟩
     have HO1 := As.mk ((Own.start (X := []) w).below hb)
     clear hb
     go_wp2_with fail
     go_ret
     exact ⟨rfl, HO1.out.toBelow⟩
 · go_enter Tryz.func5, Tryz.ntmps5
   go_wp2_with fail
   refine (top_begun w).mono ?_
   rintro e w1 ⟨rfl, hb⟩
   have HO1 := As.mk ((Own.start (X := []) w).below hb)
   clear hb
   go_wp2_with fail
   go_ret
   exact ⟨rfl, HO1.out.toBelow⟩
end Go.Proofs.YtmookafmdonopaaGreat.Top
