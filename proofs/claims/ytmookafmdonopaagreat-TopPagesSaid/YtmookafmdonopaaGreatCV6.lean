/- hodmantop.TopPages walked. -/
import Derived.Test.YtmookafmdonopaaGreatCT50
import Derived.Test.YtmookafmdonopaaGreatCT60
import Derived.Test.YtmookafmdonopaaGreatCT61
import Derived.Test.YtmookafmdonopaaGreatCU27
namespace Go.Proofs.YtmookafmdonopaaGreat.Top
open Go Go.RowKit
set_option linter.unusedVariables false
set_option linter.unusedSimpArgs false
attribute [local go_sem] max2_int min2_int max_two min_two max_three

set_option maxHeartbeats 8000000 in
set_option maxRecDepth 100000 in
theorem TopPages_walk (w : World) {A A2 : Option Addr} {n c n2 c2 : Nat} (h1 : BIn w A n c) (h2 : BIn w A2 n2 c2) {v : Int} (hv : (Lit.int .u8 v).wf = true) : Calls Tryz.prog 7 #[.slice A n c, .slice A2 n2 c2, .int .u8 v] w fun e w' => e = .returned (.bool true) ∧ Below w.heap.size w w' := by
 obtain ⟨v, rfl, hv2⟩ := wf_u8p hv
 clear hv
 by_cases hn : n ≤ 6
 · by_cases hn2 : n2 ≤ 200
   · obtain ⟨bs, B⟩ := h1.bytes (by omega)
     obtain ⟨bs2, B2⟩ := h2.bytes (by omega)
     have HB := As.mk B
     have HB2 := As.mk B2
     clear h1 h2 B B2
     go_enter Tryz.func7, Tryz.ntmps7
     go_wp2_with fail
     refine (top_begun w).mono ?_
     rintro e w1 ⟨rfl, hb⟩
     have HO1 := As.mk ((Own.start (X := []) w).below hb)
     clear hb
     go_wp2_with fail
     refine (play_Made A n c w1).mono ?_
     rintro e w2 ⟨rfl, rfl⟩
     obtain ⟨p, hp⟩ : ∃ p, p = w1.heap.size := ⟨_, rfl⟩
     obtain ⟨w2, hw2⟩ : ∃ x, x = w1.alloc (.cells #[.slice A n c, .int .i64 0] 73) := ⟨_, rfl⟩
     have ho := HO1.out.box #[.slice A n c, .int .i64 0] 73
     rw [← hw2, ← hp] at ho ⊢
     have HO2 : As (Own [] [(p, PK A n c 0)] (fun _ => True) w w2) := As.mk ho
     clear ho hw2 hp HO1
     go_wp2_with fail
     refine (play_Raw [] (fun _ => True) w w2 p A n c 0 false bs HB.out HO2.out (Nat.zero_le _)).mono ?_
     rintro e w3 ⟨r, rfl, hsm, -, j, -, ho⟩
     obtain ⟨bq, hbq⟩ : ∃ b, b = v % 6 := ⟨_, rfl⟩
     have hbq5 : bq ≤ 5 := by omega
     obtain ⟨r2, hr2⟩ : ∃ x : Rw, x = ⟨r.g, r.l, r.m, r.p, (bq : Int), r.s⟩ := ⟨_, rfl⟩
     have hsm2 : SmallR r2 := by rw [hr2]; exact ⟨hsm.g, hsm.l, hsm.m, hsm.p, (show 0 ≤ (bq : Int) ∧ (bq : Int) ≤ 5000 by omega), hsm.s, hsm.lg⟩
     obtain ⟨cf, hc, hg, hH, hok⟩ := small_conf r2 hsm2
     have HO3 := As.mk ho.drop
     have HCF := As.mk (And.intro hc (And.intro hg (And.intro hH hok)))
     clear ho HO2 hsm hsm2 hc hg hH hok
     have hrv : r.v = .agg #[.int .i64 r.g, .int .i64 r.l, .int .i64 r.m, .int .i64 r.p, .int .i64 r.b, .int .i64 r.s] := rfl
     have HO4 := As.mk (HO3.out.box #[.int .i64 r.g, .int .i64 r.l, .int .i64 r.m, .int .i64 r.p, .int .i64 (bq : Int), .int .i64 r.s] 25)
     rw [hrv]
     have E1 := As.mk (show Int.tmod (v : Int) 6 = (bq : Int) by rw [hbq]; rfl)
     have E2 := As.mk (show (v : Int) % 6 = (bq : Int) by rw [hbq]; rfl)
     have HR2 := As.mk hr2
     clear hbq hr2
     go_wp2_with (first | (simp only [E1.out]) | (simp only [E2.out]))
     obtain ⟨g5, hg5⟩ : ∃ g, g = w3.heap.size := ⟨_, rfl⟩
     obtain ⟨w4, hw4⟩ : ∃ x, x = w3.alloc (.cells #[.int .i64 r.g, .int .i64 r.l, .int .i64 r.m, .int .i64 r.p, .int .i64 (bq : Int), .int .i64 r.s] 25) := ⟨_, rfl⟩
     have ho := HO4.out
     rw [← hw4, ← hg5] at ho ⊢
     have HO5 : As (Own [] [(g5, EC 25 r2.cs)] (fun _ => True) w w4) := ⟨by rw [HR2.out]; exact ho⟩
     rw [show (#[.int .i64 r.g, .int .i64 r.l, .int .i64 r.m, .int .i64 r.p, .int .i64 (bq : Int), .int .i64 r.s] : Array Value) = r2.cs.toArray by rw [HR2.out]; rfl]
     clear ho hw4 hg5 HO4 HO3 hrv HR2 E1 E2
     refine (heap_New r2 cf _ _ w w4 HO5.out HCF.out.1 HCF.out.2.1 HCF.out.2.2.1).mono ?_
     rintro e w5 ⟨h, rfl, H⟩
     have HH := As.mk H
     clear H HO5
     go_wp2_with fail
     refine (heap_Conf h cf w5 HH.out.conf).mono ?_
     rintro e w6 ⟨rfl, hb⟩
     have H6 := HH.out.below hb
     have hcv : cf.v = .agg #[.int .i64 cf.G, .int .i64 cf.N, .int .i64 cf.M, .int .i64 cf.L, .int .i64 cf.Page, .int .i64 cf.P, .int .i64 cf.H, .int .i64 cf.Seed] := rfl
     have hbx := H6.box #[.int .i64 cf.G, .int .i64 cf.N, .int .i64 cf.M, .int .i64 cf.L, .int .i64 cf.Page, .int .i64 cf.P, .int .i64 cf.H, .int .i64 cf.Seed] 34
     rw [hcv]
     obtain ⟨g8, hg8⟩ : ∃ g, g = w6.heap.size := ⟨_, rfl⟩
     obtain ⟨w7, hw7⟩ : ∃ x, x = w6.alloc (.cells #[.int .i64 cf.G, .int .i64 cf.N, .int .i64 cf.M, .int .i64 cf.L, .int .i64 cf.Page, .int .i64 cf.P, .int .i64 cf.H, .int .i64 cf.Seed] 34) := ⟨_, rfl⟩
     rw [← hw7, ← hg8] at hbx
     have HH7 : As (HW h cf (Hs.new cf) (List.replicate cf.H 0) [(g8, EC 34 cf.cs), (g5, EC 25 r2.cs)] (fun _ => True) w w7) := As.mk hbx
     go_wp2_with fail
     rw [← hw7, ← hg8]
     clear hbx hw7 hg8 hcv H6 hb HH
     refine rgn [(0, 1), (2, 0), (1, 2), (3, 2), (4, 1)] [] (fun W => W.rangeAt g5 0 r2.cs) (by kernel_rfl) (by kernel_rfl) (fun _ _ _ d _ h => by cases d <;> exact h) (HH7.out.drew.range me1) ?_
     have HHD := As.mk HH7.out.drew
     obtain ⟨w8, hw8⟩ : ∃ x, x = w7.drew := ⟨_, rfl⟩
     rw [← hw8] at HHD ⊢
     clear hw8 HH7
     refine Run.pu (v := ?_) (a' := ?_) rfl rfl (Or.inl ⟨by rfl, ?_⟩) ?_ ?_; rotate_left 2; (focus (intro W; go_simp; with_reducible rfl)); (focus (simp only [zq1, zq2, zq3, Act.put, zq4, zq5, zq6]; rfl))
     refine Run.rd (v := .agg r2.cs.toArray) (a' := ?_) rfl rfl (yieldsIf_load_mid rfl 25 (.tmp 7) rfl g5 0 rfl r2.cs _ (fun W hW => hW) Tryz.underlying25 rfl size25) ?_ ?_
     rotate_left 1
     · simp only [zq1, zq2, zq3, Act.put, zq4, zq5, zq6]; rfl
     refine Run.ef rfl (fun K hK => ?_)
     simp only [zq1, zq2, zq3]
     try simp only [zq4, zq5, zq6]
     go_wp2_with fail
     refine (play_Made A2 n2 c2 w8).mono ?_
     rintro e w9 ⟨rfl, rfl⟩
     have hbx := HHD.out.box #[.slice A2 n2 c2, .int .i64 0] 73
     have hbo := HHD.out.below ((Below.refl w8.heap.size w8).alloc (Nat.le_refl _) (.cells #[.slice A2 n2 c2, .int .i64 0] 73))
     obtain ⟨p2, hp2⟩ : ∃ g, g = w8.heap.size := ⟨_, rfl⟩
     obtain ⟨w9, hw9⟩ : ∃ x, x = w8.alloc (.cells #[.slice A2 n2 c2, .int .i64 0] 73) := ⟨_, rfl⟩
     rw [← hw9] at hbo
     rw [← hw9, ← hp2] at hbx ⊢
     have HH9 := As.mk hbo
     have HP9 : As (HW h cf (Hs.new cf) (List.replicate cf.H 0) ((p2, PK A2 n2 c2 0) :: [(g8, EC 34 cf.cs), (g5, EC 25 r2.cs)]) (fun _ => True) w w9) := As.mk hbx
     clear hbx hbo hw9 hp2 HHD
     go_wp2_with fail
     refine hK.out _ _ (HH9.out.range me1) ?_
     clear hK K
     refine Run.ef rfl (fun K hK => ?_)
     simp only [zq1, zq2, zq3]
     try simp only [zq4, zq5, zq6]
     go_wp2_with fail
     refine (heap_Ops HH9.out p2 A2 n2 c2 0 r2 HCF.out.1 HCF.out.2.2.2 HCF.out.2.1 bs2 HB2.out HP9.out (Nat.zero_le _) 60 (by decide)).mono ?_
     rintro e w10 ⟨A3, c3, ops, rfl, hops, hok, hh⟩
     have HH10 := As.mk (hh.imp (R' := fun W => Row W (.slice A3 ops.length c3) ops.length (opV ops)) (fun W h => h.2))
     have HOK := As.mk hok
     clear hh hok HH9 HP9
     go_wp2_with fail
     refine hK.out _ _ (HH10.out.range me1) ?_
     clear hK K
     refine Run.pu (v := ?_) (a' := ?_) rfl rfl (Or.inl ⟨by rfl, ?_⟩) ?_ ?_; rotate_left 2; (focus (intro W; go_simp; with_reducible rfl)); (focus (simp only [zq1, zq2, zq3, Act.put, zq4, zq5, zq6]; rfl))
     refine Run.nil ?_
     try simp only [zq1, zq2, zq3]
     try simp only [zq4, zq5, zq6]
     go_wp2_with fail
     obtain ⟨no, hno⟩ : ∃ x, x = ops.length := ⟨_, rfl⟩
     rw [← hno] at hops HH10 ⊢
     have HNO := As.mk hno
     clear hno
     go_loopw [12] (fun i wr => ∃ (k : Nat) (s : Hs) (mem : List Nat), k ≤ no ∧ i = .int .i64 (k : Int) ∧ As (Iv cf s ∧ Ci cf s.bl) ∧ HW h cf s mem [(g8, EC 34 cf.cs), (g5, EC 25 r2.cs)] (fun W => Row W (.slice A3 no c3) no (opV ops)) w wr) (fun i _ => no - (intOf i).toNat)
     case atStart => exact ⟨0, Hs.new cf, _, Nat.zero_le _, rfl, ⟨new_iv HCF.out.2.1 HCF.out.2.2.1⟩, HH10.out⟩
     case round =>
      clear HH10
      obtain ⟨k, s, mem, hk, rfl, IV, hh⟩ := hrel
      have HH := As.mk hh
      clear hh
      by_cases hkn : k < no
      · obtain ⟨o, ho⟩ : ∃ o, ops[k]? = some o := ⟨ops[k]'(by have := HNO.out; omega), List.getElem?_eq_getElem _⟩
        have hok := HOK.out o (List.mem_of_getElem? ho)
        have hro := HH.out.now
        rw [HNO.out] at hro
        obtain ⟨b3, q3, rfl, hrg⟩ := ops_range hro k o ho
        have HRG := As.mk hrg
        have HDO := As.mk (fun (mem : List Nat) (L : List (Nat × (Obj → Prop))) (R : World → Prop) (W : World) (H : HW h cf s mem L R w W) => show Calls Tryz.prog 16 #[.pointer (some ⟨h, 0, none⟩), .agg #[.int .i64 o.kind, .int .i64 o.p, .int .i64 o.s, .int .i64 o.a, .int .i64 o.n, .int .u8 o.b]] W _ from heap_Do h cf s mem L R w W o H IV.out.1 hok)
        have IV1 := As.mk (do_ok IV.out.1 IV.out.2 mem hok)
        have HPA := As.mk (place_all IV.out.1 IV.out.2 (S := o.s) GoodA.one)
        have HK1 := As.mk (show o.kind = 1 → doP cf s mem o = alignedP cf s o.s 1 from fun h => by unfold doP; rw [if_pos h])
        have hbx := HH.out.box #[.int .i64 o.kind, .int .i64 o.p, .int .i64 o.s, .int .i64 o.a, .int .i64 o.n, .int .u8 o.b] 42
        have HBX := As.mk hbx
        clear ho hok hro hrg hbx HH
        go_wp2_with (refine wpList_load_mid rfl 42 (.tmp 65) rfl b3 (q3 + k * 6) rfl [.int .i64 o.kind, .int .i64 o.p, .int .i64 o.s, .int .i64 o.a, .int .i64 o.n, .int .u8 o.b] _ HRG.out Tryz.underlying42 rfl size42 ?_)
        obtain ⟨g13, hg13⟩ : ∃ g, g = wr.heap.size := ⟨_, rfl⟩
        obtain ⟨w12, hw12⟩ : ∃ y, y = wr.alloc (.cells #[.int .i64 o.kind, .int .i64 o.p, .int .i64 o.s, .int .i64 o.a, .int .i64 o.n, .int .u8 o.b] 42) := ⟨_, rfl⟩
        rw [← hg13, ← hw12] at HBX
        have HBY : As (HW h cf s mem ((g13, EC 42 [.int .i64 o.kind, .int .i64 o.p, .int .i64 o.s, .int .i64 o.a, .int .i64 o.n, .int .u8 o.b]) :: [(g8, EC 34 cf.cs), (g5, EC 25 r2.cs)]) (fun W => Row W (.slice (some ⟨b3, q3, none⟩) no c3) no (opV ops)) w w12) := HBX
        try simp only [← hg13, ← hw12]
        clear hg13 hw12 HBX HRG
        refine (heap_BlocksO h cf s mem _ _ w w12 HBY.out IV.out.1).mono ?_
        rintro e w13 ⟨vl, rfl, hol⟩
        obtain ⟨G, hsg, hh⟩ := HBY.out.takeS hol
        obtain ⟨A4, c4, rfl⟩ := hol.row.form
        obtain ⟨nb, hnb⟩ : ∃ x, x = s.bl.length := ⟨_, rfl⟩
        rw [← hnb] at hsg ⊢
        have HSG := As.mk hsg
        have HNB := As.mk hnb
        have hnb1 : nb ≤ 70000 := by rw [hnb]; have := IV.out.1.inv.len IV.out.1.good; have := IV.out.1.small; omega
        have HH13 := As.mk hh
        have HMS := As.mk (show ∀ b ∈ s.bl.map (Bk.mb cf), 1 ≤ b.2.1 ∧ b.1 + b.2.1 ≤ cf.H by
         intro b hb
         obtain ⟨x, hx, rfl⟩ := List.mem_map.1 hb
         exact ⟨ch_pos HCF.out.2.1 x, IV.out.1.inv.fits x hx⟩)
        clear hol hsg hh hnb HBY
        go_wp2_with (refine wpList_load_mid rfl 42 (.tmp 13) rfl g13 0 rfl [.int .i64 o.kind, .int .i64 o.p, .int .i64 o.s, .int .i64 o.a, .int .i64 o.n, .int .u8 o.b] _ (HH13.out.range (List.mem_append_right _ me0)) Tryz.underlying42 rfl size42 ?_)
        refine (HDO.out _ _ _ _ HH13.out).mono ?_
        rintro e w14 ⟨rfl, mem1, H1, -⟩
        obtain ⟨an, han⟩ : ∃ x, x = (doP cf s mem o).2 := ⟨_, rfl⟩
        obtain ⟨s1, hs1⟩ : ∃ x, x = (doP cf s mem o).1 := ⟨_, rfl⟩
        rw [← han]
        rw [← hs1] at H1 IV1
        obtain ⟨xe, xa, xn, xb, xl, xp, xm, xg⟩ := an
        have HAN := As.mk han
        have hbx := H1.box #[.int .i64 xe, .int .i64 xa, .int .i64 xn, .int .u8 xb, .int .i64 xl, .int .i64 xp, .int .i64 xm, .int .i64 xg] 39
        obtain ⟨g15, hg15⟩ : ∃ g, g = w14.heap.size := ⟨_, rfl⟩
        obtain ⟨w15, hw15⟩ : ∃ y, y = w14.alloc (.cells #[.int .i64 xe, .int .i64 xa, .int .i64 xn, .int .u8 xb, .int .i64 xl, .int .i64 xp, .int .i64 xm, .int .i64 xg] 39) := ⟨_, rfl⟩
        have z0 := hbx.rd (List.mem_cons_of_mem _ (List.mem_append_right _ me0)) 0 (by simp)
        have z2 := hbx.rd (List.mem_cons_of_mem _ (List.mem_append_right _ me0)) 2 (by simp)
        have y0 := hbx.rd me0 0 (by simp)
        have r8 := hbx.range (List.mem_cons_of_mem _ (List.mem_append_right _ me1))
        simp only [List.getElem?_cons_zero, List.getElem?_cons_succ] at z0 z2 y0
        rw [← hg15, ← hw15] at hbx
        have HH15 : As (HW h cf s1 mem1 (G ++ ((g15, EC 39 [.int .i64 xe, .int .i64 xa, .int .i64 xn, .int .u8 xb, .int .i64 xl, .int .i64 xp, .int .i64 xm, .int .i64 xg]) :: (g13, EC 42 [.int .i64 o.kind, .int .i64 o.p, .int .i64 o.s, .int .i64 o.a, .int .i64 o.n, .int .u8 o.b]) :: [(g8, EC 34 cf.cs), (g5, EC 25 r2.cs)])) (fun W => Row W (.slice (some ⟨b3, q3, none⟩) no c3) no (opV ops)) w w15) := ⟨hbx.perm List.perm_middle⟩
        clear hbx H1 han hs1 HDO HH13
        rw [show (⟨xe, xa, xn, xb, xl, xp, xm, xg⟩ : An).v = .agg #[.int .i64 xe, .int .i64 xa, .int .i64 xn, .int .u8 xb, .int .i64 xl, .int .i64 xp, .int .i64 xm, .int .i64 xg] from rfl]
        have hcont : HW h cf s1 mem1 [(g8, EC 34 cf.cs), (g5, EC 25 r2.cs)] (fun W => Row W (.slice (some ⟨b3, q3, none⟩) no c3) no (opV ops)) w w15 := ((HW.keep HSG.out HH15.out).drop.drop).imp fun W h => h.1
        have HCT := As.mk hcont
        clear hcont
        by_cases hk1 : o.kind = 1
        · have hd := HK1.out hk1
          rw [hd] at HAN
          rcases HPA.out with ⟨h0, he⟩ | ⟨k', i, a, e1, e2, hkL, hlow, hfit, hcase⟩
          · have hx1 : xe = (adm cf (sumB cf s.bl : Nat) o.s 1).2 := by rw [← he, ← HAN.out]
            have f0 : (xe = 0) = False := eq_false (by rw [hx1]; exact h0)
            have f6 : (xe = 6) = False := eq_false (by rw [hx1]; exact adm_6 _ _ _ _)
            have f0' : (xe == 0) = false := beqF (by rw [hx1]; exact h0)
            have f6' : (xe == 6) = false := beqF (by rw [hx1]; exact adm_6 _ _ _ _)
            have f0n : (xe != 0) = true := by rw [bne, f0']; rfl
            have f6n : (xe != 6) = true := by rw [bne, f6']; rfl
            clear hx1 hd h0 he
            clear r8
            go_wp2_with fail
            simp only [← hg15, ← hw15]
            clear hg15 hw15
            go_roundw
            case rel => exact ⟨k + 1, s1, mem1, by omega, by go_num, IV1, HCT.out⟩
            case measure => simp [intOf]; omega
          · obtain ⟨q, hq⟩ : ∃ q, q = cf.G * 2 ^ k' := ⟨_, rfl⟩
            obtain ⟨at_, hat⟩ : ∃ x, x = i * 2 ^ k' * cf.G := ⟨_, rfl⟩
            obtain ⟨l2, hl2⟩ : ∃ l2, l2 = s.bl.map (Bk.mb cf) ++ [(at_, q, (a : Int))] := ⟨_, rfl⟩
            rw [← hq, ← hat, ← hl2] at hcase
            obtain ⟨ct, hct⟩ : ∃ x, x = cntT (metL cf l2) := ⟨_, rfl⟩
            rw [← hct] at hcase
            have HCH := As.mk (fun W => ref_Charge cf HCF.out.2.1 o.s 1 W GoodA.one)
            rw [adm_chg e1, ← hq, show cf.v = .agg cf.cs.toArray from rfl] at HCH
            have hq4 : 1 ≤ q ∧ at_ + q ≤ cf.H ∧ cf.H ≤ 4096 := by
             refine ⟨by rw [hq]; exact Nat.mul_pos HCF.out.2.1.g1 (Nat.two_pow_pos _), by rw [hq, hat]; exact hfit, HCF.out.2.2.1⟩
            have HQ := As.mk (And.intro hq (And.intro hat hlow))
            have HE2 := As.mk e2
            have HCTE := As.mk hct
            have HCS := As.mk hcase
            clear hq hat hct e1 e2 hlow hfit hd hkL hcase
            have hH6 : cf.H ≤ 65536 := by omega
            have hq6 : q ≤ 65536 := by omega
            have HLO := As.mk (fun (W : World) (hr : Row W (.slice A4 nb c4) nb (mbV (s.bl.map (Bk.mb cf)))) => show Calls Tryz.prog 22 #[.agg cf.cs.toArray, .slice A4 nb c4, .int .i64 (q : Int)] W (fun e w' => e = .returned (.tuple #[.int .i64 (at_ : Int), .bool true]) ∧ Below W.heap.size W w') from by
             have h1 := ref_LowestS cf hH6 A4 c4 (s.bl.map (Bk.mb cf)) q W (by rw [List.length_map, ← HNB.out]; exact hr) (by rw [List.length_map, ← HNB.out]; omega) (fun b hb => Nat.le_trans (HMS.out b hb).2 hH6) hq4.1 hq6
             rw [List.length_map, ← HNB.out] at h1
             refine h1.mono ?_
             rintro e w' ⟨hlo, hb⟩
             refine ⟨?_, hb⟩
             rw [HQ.out.1] at hlo
             rcases low_of HCF.out.2.1 IV.out.1.inv hlo with ⟨i2, h2, h3⟩ | ⟨h2, _⟩
             · rw [HQ.out.2.2] at h2
               injection h2 with h2
               rw [h3, HQ.out.2.1, h2]
             · rw [HQ.out.2.2] at h2
               cases h2)
            have HL2 := As.mk hl2
            have hmv : mbV l2 = mbV (s.bl.map (Bk.mb cf)) ++ [.int .i64 (at_ : Int), .int .i64 (q : Int), .int .i64 (a : Int)] := by rw [hl2]; exact mbV_app _ _
            have HMV := As.mk hmv
            have hml : l2.length = nb + 1 := by rw [hl2, List.length_append, List.length_map, HNB.out]; rfl
            have HML := As.mk hml
            have HMS2 := As.mk (show ∀ b ∈ l2, 1 ≤ b.2.1 ∧ b.1 + b.2.1 ≤ cf.H by
             intro b hb
             rw [hl2] at hb
             rcases List.mem_append.1 hb with hb | hb
             · exact HMS.out b hb
             · rw [List.mem_singleton.1 hb]; exact ⟨hq4.1, hq4.2.1⟩)
            clear hl2 hmv hml hH6 hq6
            rcases HCS.out with ⟨he, hae, hcP⟩ | ⟨he, hcP⟩
            · have hx1 : xe = 0 := by rw [← he, ← HAN.out]
              have hx2 : xa = (at_ : Int) := by rw [← hae, ← HAN.out]
              subst hx1
              subst hx2
              clear he hae HCS
              have hcd : decide (ct ≤ cf.P) = true := by rw [decide_eq_true_eq]; omega
              go_wp2_with (refine wpList_load_mid rfl 34 (.tmp 10) rfl g8 0 rfl cf.cs _ r8 Tryz.underlying34 rfl size34 ?_)
              simp only [← hg15, ← hw15]
              clear hg15 hw15 r8 z0 z2 y0 HCT
              have HCD := As.mk hcd
              refine (HCH.out _).mono ?_
              rintro e w16 ⟨rfl, hb⟩
              have HH16 := As.mk (HH15.out.below hb)
              clear hb HH15 HCH hcP hcd
              have r8 := HH16.out.range (List.mem_append_right _ me2)
              have hrow := (HW.keep HSG.out HH16.out).now.2
              go_wp2_with (refine wpList_load_mid rfl 34 (.tmp 10) rfl g8 0 rfl cf.cs _ r8 Tryz.underlying34 rfl size34 ?_)
              refine (HLO.out _ hrow).mono ?_
              rintro e w17 ⟨rfl, hb⟩
              have HH17 := As.mk (HH16.out.below hb)
              clear hb HH16 HLO hrow r8
              have HS1 := As.mk (fun (G' : List (Nat × (Obj → Prop))) (R' : World → Prop) (W : World) (H : HW h cf s1 mem1 (G' ++ ((g15, EC 39 [.int .i64 0, .int .i64 (at_ : Int), .int .i64 xn, .int .u8 xb, .int .i64 xl, .int .i64 xp, .int .i64 xm, .int .i64 xg]) :: (g13, EC 42 [.int .i64 o.kind, .int .i64 o.p, .int .i64 o.s, .int .i64 o.a, .int .i64 o.n, .int .u8 o.b]) :: [(g8, EC 34 cf.cs), (g5, EC 25 r2.cs)])) R' w W) => show W.cell? ⟨g8, 4, none⟩ = some (.int .i64 (cf.Page : Int)) ∧ W.cell? ⟨g8, 6, none⟩ = some (.int .i64 (cf.H : Int)) ∧ W.cell? ⟨g13, 2, none⟩ = some (.int .i64 o.s) from ⟨H.rd (List.mem_append_right _ me2) 4 (by simp [Cf.cs]), H.rd (List.mem_append_right _ me2) 6 (by simp [Cf.cs]), H.rd (List.mem_append_right _ me1) 2 (by simp)⟩)
              go_wp2_with fail
              refine rgn [(0, 1), (1, 0), (2, 1), (3, 0), (4, 1), (5, 1), (6, 1), (7, 1), (8, 0), (9, 1), (10, 2), (11, 2), (12, 2), (13, 1)] [] (fun W => W.cell? ⟨g8, 4, none⟩ = some (.int .i64 (cf.Page : Int)) ∧ W.cell? ⟨g8, 6, none⟩ = some (.int .i64 (cf.H : Int)) ∧ W.cell? ⟨g13, 2, none⟩ = some (.int .i64 o.s)) (by kernel_rfl) (by kernel_rfl) (fun _ _ _ d _ h => by cases d <;> exact h) (HS1.out _ _ _ HH17.out.drew) ?_
              have HHD := As.mk HH17.out.drew
              obtain ⟨wd, hwd⟩ : ∃ y, y = w17.drew := ⟨_, rfl⟩
              rw [← hwd] at HHD ⊢
              clear hwd HH17
              refine Run.pu (v := ?_) (a' := ?_) rfl rfl (Or.inl ⟨by rfl, ?_⟩) ?_ ?_; rotate_left 2; (focus (intro W; go_simp; with_reducible rfl)); (focus (simp only [zq1, zq2, zq3, Act.put, zq4, zq5, zq6]; rfl))
              refine Run.rd (v := ?_) (a' := ?_) rfl rfl (Or.inl ⟨by rfl, ?_⟩) ?_ ?_; rotate_left 2; (focus (rintro W ⟨hW1, hW2, hW3⟩; go_simp; with_reducible rfl)); (focus (simp only [zq1, zq2, zq3, Act.put, zq4, zq5, zq6]; rfl))
              refine Run.pu (v := ?_) (a' := ?_) rfl rfl (Or.inl ⟨by rfl, ?_⟩) ?_ ?_; rotate_left 2; (focus (intro W; go_simp; with_reducible rfl)); (focus (simp only [zq1, zq2, zq3, Act.put, zq4, zq5, zq6]; rfl))
              refine Run.rd (v := ?_) (a' := ?_) rfl rfl (Or.inl ⟨by rfl, ?_⟩) ?_ ?_; rotate_left 2; (focus (rintro W ⟨hW1, hW2, hW3⟩; go_simp; with_reducible rfl)); (focus (simp only [zq1, zq2, zq3, Act.put, zq4, zq5, zq6]; rfl))
              iterate 4 (refine Run.pu (v := ?_) (a' := ?_) rfl rfl (Or.inl ⟨by rfl, ?_⟩) ?_ ?_; rotate_left 2; (focus (intro W; go_simp; with_reducible rfl)); (focus (simp only [zq1, zq2, zq3, Act.put, zq4, zq5, zq6]; rfl)))
              refine Run.rd (v := ?_) (a' := ?_) rfl rfl (Or.inl ⟨by rfl, ?_⟩) ?_ ?_; rotate_left 2; (focus (rintro W ⟨hW1, hW2, hW3⟩; go_simp; with_reducible rfl)); (focus (simp only [zq1, zq2, zq3, Act.put, zq4, zq5, zq6]; rfl))
              refine Run.pu (v := ?_) (a' := ?_) rfl rfl (Or.inl ⟨by rfl, ?_⟩) ?_ ?_; rotate_left 2; (focus (intro W; go_simp; with_reducible rfl)); (focus (simp only [zq1, zq2, zq3, Act.put, zq4, zq5, zq6]; rfl))
              refine Run.ef rfl (fun K hK => ?_)
              simp only [zq1, zq2, zq3]
              try simp only [zq4, zq5, zq6]
              go_wp2
              obtain ⟨Q, R', hox, hback⟩ := HW.join HSG.out HHD.out
              have HOX := As.mk (hox.alloc (.cells #[.int .i64 (at_ : Int), .int .i64 (q : Int), .int .i64 o.s] 48))
              have HBK := As.mk hback
              refine hK.out _ _ (HS1.out _ _ _ (HHD.out.below (box_below _ _))) ?_
              clear hK K hox hback
              refine Run.ef rfl (fun K hK => ?_)
              simp only [zq1, zq2, zq3]
              try simp only [zq4, zq5, zq6]
              refine go_app w rfl _ _ 43 48 _ 3 24 rfl Tryz.underlying43 info48 rfl (by decide) (.slice A4 nb c4) nb _ (by simp [Act.eval]) ⟨wd.heap.size, 0, none⟩ 1 1 [.int .i64 (at_ : Int), .int .i64 (q : Int), .int .i64 o.s] (by simp [Act.eval]) HOX.out rfl (news _) (by
               intro u hu
               simp at hu
               rcases hu with rfl | rfl | rfl <;> rfl) (by simp only [maxLen]; omega) (by omega) ?_
              intro v1 w18 hw18
              obtain ⟨G2, g1, g2⟩ := HBK.out (nb + 1) v1 (mbV l2) w18 (by rw [HMV.out, ← HE2.out]; exact hw18)
              obtain ⟨A6, c6, rfl⟩ := hw18.row.form
              have HG1 := As.mk g1
              have HG2 := As.mk g2
              have hl2r := (HW.keep g1 g2).now.2
              have hmet := pin_Met cf HCF.out.2.1 A6 c6 (nb + 1) l2 w18 HML.out.symm hl2r HMS2.out (by omega) HCF.out.2.2.1
              obtain ⟨np, hnp⟩ : ∃ x, x = cf.H / cf.Page := ⟨_, rfl⟩
              have hn4 : np ≤ 4096 := by rw [hnp]; exact Nat.le_trans (Nat.div_le_self _ _) HCF.out.2.2.1
              have hml : (metL cf l2).length = np := by rw [metL_len, hnp]
              rw [← hnp] at hmet
              have HMET := As.mk hmet
              have HMLL := As.mk hml
              clear hnp hmet hml hw18 g1 g2 hl2r HOX HBK HHD HSG
              go_wp2
              refine hK.out _ _ (HS1.out _ _ _ HG2.out) ?_
              clear hK K
              refine Run.ef rfl (fun K hK => ?_)
              simp only [zq1, zq2, zq3]
              try simp only [zq4, zq5, zq6]
              go_wp2_with fail
              refine HMET.out.mono ?_
              rintro e w19 ⟨⟨v9, rfl, hfr⟩, hb⟩
              obtain ⟨A7, c7, rfl⟩ := hfr.now.form
              have HH19 := As.mk ((HW.keep HG1.out HG2.out).result hb (R' := fun W => Row W (.slice A7 np c7) np ((metL cf l2).map Value.bool)) (fun W hW => hfr.row hW))
              clear hfr hb HMET HG1 HG2
              go_wp2_with fail
              refine hK.out _ _ (HS1.out [] _ _ HH19.out) ?_
              clear hK K HS1
              refine Run.pu (v := ?_) (a' := ?_) rfl rfl (Or.inl ⟨by rfl, ?_⟩) ?_ ?_; rotate_left 2; (focus (intro W; go_simp; with_reducible rfl)); (focus (simp only [zq1, zq2, zq3, Act.put, zq4, zq5, zq6]; rfl))
              refine Run.nil ?_
              try simp only [zq1, zq2, zq3]
              try simp only [zq4, zq5, zq6]
              go_wp2_with fail
              have HS2 := As.mk (fun (W : World) (b0 : W.cell? ⟨g15, 0, none⟩ = (([.int .i64 0, .int .i64 (at_ : Int), .int .i64 xn, .int .u8 xb, .int .i64 xl, .int .i64 xp, .int .i64 xm, .int .i64 xg] : List Value))[0]?) (b1 : W.cell? ⟨g15, 1, none⟩ = (([.int .i64 0, .int .i64 (at_ : Int), .int .i64 xn, .int .u8 xb, .int .i64 xl, .int .i64 xp, .int .i64 xm, .int .i64 xg] : List Value))[1]?) (b2 : W.cell? ⟨g8, 5, none⟩ = cf.cs[5]?) => show W.cell? ⟨g15, 0, none⟩ = some (.int .i64 0) ∧ W.cell? ⟨g15, 1, none⟩ = some (.int .i64 (at_ : Int)) ∧ W.cell? ⟨g8, 5, none⟩ = some (.int .i64 (cf.P : Int)) from ⟨b0, b1, b2⟩)
              refine rgn [(0, 1), (1, 0), (2, 1), (3, 1), (5, 1), (6, 0), (4, 2), (7, 1), (8, 1), (9, 1), (10, 1), (11, 0), (12, 1), (13, 1), (14, 1), (15, 0), (16, 1), (17, 1), (18, 1), (19, 1)] [] (fun W => W.cell? ⟨g15, 0, none⟩ = some (.int .i64 0) ∧ W.cell? ⟨g15, 1, none⟩ = some (.int .i64 (at_ : Int)) ∧ W.cell? ⟨g8, 5, none⟩ = some (.int .i64 (cf.P : Int))) (by kernel_rfl) (by kernel_rfl) (fun _ _ _ d _ h => by cases d <;> exact h) (HS2.out _ (HH19.out.drew.rd me0 0 (by simp)) (HH19.out.drew.rd me0 1 (by simp)) (HH19.out.drew.rd me2 5 (by simp [Cf.cs]))) ?_
              have HHE := As.mk HH19.out.drew
              obtain ⟨we, hwe⟩ : ∃ y, y = w19.drew := ⟨_, rfl⟩
              rw [← hwe] at HHE ⊢
              clear hwe HH19
              refine Run.pu (v := ?_) (a' := ?_) rfl rfl (Or.inl ⟨by rfl, ?_⟩) ?_ ?_; rotate_left 2; (focus (intro W; go_simp; with_reducible rfl)); (focus (simp only [zq1, zq2, zq3, Act.put, zq4, zq5, zq6]; rfl))
              refine Run.rd (v := ?_) (a' := ?_) rfl rfl (Or.inl ⟨by rfl, ?_⟩) ?_ ?_; rotate_left 2; (focus (rintro W ⟨hW1, hW2, hW3⟩; go_simp; with_reducible rfl)); (focus (simp only [zq1, zq2, zq3, Act.put, zq4, zq5, zq6]; rfl))
              iterate 3 (refine Run.pu (v := ?_) (a' := ?_) rfl rfl (Or.inl ⟨by rfl, ?_⟩) ?_ ?_; rotate_left 2; (focus (intro W; go_simp; with_reducible rfl)); (focus (simp only [zq1, zq2, zq3, Act.put, zq4, zq5, zq6]; rfl)))
              refine Run.rd (v := ?_) (a' := ?_) rfl rfl (Or.inl ⟨by rfl, ?_⟩) ?_ ?_; rotate_left 2; (focus (rintro W ⟨hW1, hW2, hW3⟩; go_simp; with_reducible rfl)); (focus (simp only [zq1, zq2, zq3, Act.put, zq4, zq5, zq6]; rfl))
              refine Run.ef rfl (fun K hK => ?_)
              simp only [zq1, zq2, zq3]
              try simp only [zq4, zq5, zq6]
              have HPC := As.mk (pin_Count_n A7 c7 np (metL cf l2) we HMLL.out HHE.out.now.2 (by omega))
              rw [← HCTE.out] at HPC
              go_wp2_with fail
              refine HPC.out.mono ?_
              rintro e w20 ⟨rfl, rfl⟩
              clear HPC
              go_wp2_with fail
              refine hK.out _ _ (HS2.out _ (HHE.out.rd me0 0 (by simp)) (HHE.out.rd me0 1 (by simp)) (HHE.out.rd me2 5 (by simp [Cf.cs]))) ?_
              clear hK K HS2
              refine Run.pu (v := ?_) (a' := ?_) rfl rfl (Or.inl ⟨by rfl, ?_⟩) ?_ ?_
              rotate_left 2
              · intro W; go_simp; simp only [HCD.out]; with_reducible rfl
              · simp only [zq1, zq2, zq3, Act.put, zq4, zq5, zq6]; rfl
              iterate 3 (refine Run.pu (v := ?_) (a' := ?_) rfl rfl (Or.inl ⟨by rfl, ?_⟩) ?_ ?_; rotate_left 2; (focus (intro W; go_simp; with_reducible rfl)); (focus (simp only [zq1, zq2, zq3, Act.put, zq4, zq5, zq6]; rfl)))
              refine Run.rd (v := ?_) (a' := ?_) rfl rfl (Or.inl ⟨by rfl, ?_⟩) ?_ ?_; rotate_left 2; (focus (rintro W ⟨hW1, hW2, hW3⟩; go_simp; with_reducible rfl)); (focus (simp only [zq1, zq2, zq3, Act.put, zq4, zq5, zq6]; rfl))
              iterate 3 (refine Run.pu (v := ?_) (a' := ?_) rfl rfl (Or.inl ⟨by rfl, ?_⟩) ?_ ?_; rotate_left 2; (focus (intro W; go_simp; with_reducible rfl)); (focus (simp only [zq1, zq2, zq3, Act.put, zq4, zq5, zq6]; rfl)))
              refine Run.rd (v := ?_) (a' := ?_) rfl rfl (Or.inl ⟨by rfl, ?_⟩) ?_ ?_; rotate_left 2; (focus (rintro W ⟨hW1, hW2, hW3⟩; go_simp; with_reducible rfl)); (focus (simp only [zq1, zq2, zq3, Act.put, zq4, zq5, zq6]; rfl))
              iterate 4 (refine Run.pu (v := ?_) (a' := ?_) rfl rfl (Or.inl ⟨by rfl, ?_⟩) ?_ ?_; rotate_left 2; (focus (intro W; go_simp; with_reducible rfl)); (focus (simp only [zq1, zq2, zq3, Act.put, zq4, zq5, zq6]; rfl)))
              refine Run.nil ?_
              try simp only [zq1, zq2, zq3]
              try simp only [zq4, zq5, zq6]
              go_wp2_with fail
              go_roundw
              case rel => exact ⟨k + 1, s1, mem1, by omega, by go_num, IV1, (HHE.out.drop.drop).imp fun W h => h.1.1⟩
              case measure => simp [intOf]; omega
            · have hx1 : xe = 6 := by rw [← he, ← HAN.out]
              subst hx1
              clear he HCS
              have hcd : decide (ct ≤ cf.P) = false := by rw [decide_eq_false_iff_not]; omega
              go_wp2_with (refine wpList_load_mid rfl 34 (.tmp 10) rfl g8 0 rfl cf.cs _ r8 Tryz.underlying34 rfl size34 ?_)
              simp only [← hg15, ← hw15]
              clear hg15 hw15 r8 z0 z2 y0 HCT
              have HCD := As.mk hcd
              refine (HCH.out _).mono ?_
              rintro e w16 ⟨rfl, hb⟩
              have HH16 := As.mk (HH15.out.below hb)
              clear hb HH15 HCH hcP hcd
              have r8 := HH16.out.range (List.mem_append_right _ me2)
              have hrow := (HW.keep HSG.out HH16.out).now.2
              go_wp2_with (refine wpList_load_mid rfl 34 (.tmp 10) rfl g8 0 rfl cf.cs _ r8 Tryz.underlying34 rfl size34 ?_)
              refine (HLO.out _ hrow).mono ?_
              rintro e w17 ⟨rfl, hb⟩
              have HH17 := As.mk (HH16.out.below hb)
              clear hb HH16 HLO hrow r8
              have HS1 := As.mk (fun (G' : List (Nat × (Obj → Prop))) (R' : World → Prop) (W : World) (H : HW h cf s1 mem1 (G' ++ ((g15, EC 39 [.int .i64 6, .int .i64 xa, .int .i64 xn, .int .u8 xb, .int .i64 xl, .int .i64 xp, .int .i64 xm, .int .i64 xg]) :: (g13, EC 42 [.int .i64 o.kind, .int .i64 o.p, .int .i64 o.s, .int .i64 o.a, .int .i64 o.n, .int .u8 o.b]) :: [(g8, EC 34 cf.cs), (g5, EC 25 r2.cs)])) R' w W) => show W.cell? ⟨g8, 4, none⟩ = some (.int .i64 (cf.Page : Int)) ∧ W.cell? ⟨g8, 6, none⟩ = some (.int .i64 (cf.H : Int)) ∧ W.cell? ⟨g13, 2, none⟩ = some (.int .i64 o.s) from ⟨H.rd (List.mem_append_right _ me2) 4 (by simp [Cf.cs]), H.rd (List.mem_append_right _ me2) 6 (by simp [Cf.cs]), H.rd (List.mem_append_right _ me1) 2 (by simp)⟩)
              go_wp2_with fail
              refine rgn [(0, 1), (1, 0), (2, 1), (3, 0), (4, 1), (5, 1), (6, 1), (7, 1), (8, 0), (9, 1), (10, 2), (11, 2), (12, 2), (13, 1)] [] (fun W => W.cell? ⟨g8, 4, none⟩ = some (.int .i64 (cf.Page : Int)) ∧ W.cell? ⟨g8, 6, none⟩ = some (.int .i64 (cf.H : Int)) ∧ W.cell? ⟨g13, 2, none⟩ = some (.int .i64 o.s)) (by kernel_rfl) (by kernel_rfl) (fun _ _ _ d _ h => by cases d <;> exact h) (HS1.out _ _ _ HH17.out.drew) ?_
              have HHD := As.mk HH17.out.drew
              obtain ⟨wd, hwd⟩ : ∃ y, y = w17.drew := ⟨_, rfl⟩
              rw [← hwd] at HHD ⊢
              clear hwd HH17
              refine Run.pu (v := ?_) (a' := ?_) rfl rfl (Or.inl ⟨by rfl, ?_⟩) ?_ ?_; rotate_left 2; (focus (intro W; go_simp; with_reducible rfl)); (focus (simp only [zq1, zq2, zq3, Act.put, zq4, zq5, zq6]; rfl))
              refine Run.rd (v := ?_) (a' := ?_) rfl rfl (Or.inl ⟨by rfl, ?_⟩) ?_ ?_; rotate_left 2; (focus (rintro W ⟨hW1, hW2, hW3⟩; go_simp; with_reducible rfl)); (focus (simp only [zq1, zq2, zq3, Act.put, zq4, zq5, zq6]; rfl))
              refine Run.pu (v := ?_) (a' := ?_) rfl rfl (Or.inl ⟨by rfl, ?_⟩) ?_ ?_; rotate_left 2; (focus (intro W; go_simp; with_reducible rfl)); (focus (simp only [zq1, zq2, zq3, Act.put, zq4, zq5, zq6]; rfl))
              refine Run.rd (v := ?_) (a' := ?_) rfl rfl (Or.inl ⟨by rfl, ?_⟩) ?_ ?_; rotate_left 2; (focus (rintro W ⟨hW1, hW2, hW3⟩; go_simp; with_reducible rfl)); (focus (simp only [zq1, zq2, zq3, Act.put, zq4, zq5, zq6]; rfl))
              iterate 4 (refine Run.pu (v := ?_) (a' := ?_) rfl rfl (Or.inl ⟨by rfl, ?_⟩) ?_ ?_; rotate_left 2; (focus (intro W; go_simp; with_reducible rfl)); (focus (simp only [zq1, zq2, zq3, Act.put, zq4, zq5, zq6]; rfl)))
              refine Run.rd (v := ?_) (a' := ?_) rfl rfl (Or.inl ⟨by rfl, ?_⟩) ?_ ?_; rotate_left 2; (focus (rintro W ⟨hW1, hW2, hW3⟩; go_simp; with_reducible rfl)); (focus (simp only [zq1, zq2, zq3, Act.put, zq4, zq5, zq6]; rfl))
              refine Run.pu (v := ?_) (a' := ?_) rfl rfl (Or.inl ⟨by rfl, ?_⟩) ?_ ?_; rotate_left 2; (focus (intro W; go_simp; with_reducible rfl)); (focus (simp only [zq1, zq2, zq3, Act.put, zq4, zq5, zq6]; rfl))
              refine Run.ef rfl (fun K hK => ?_)
              simp only [zq1, zq2, zq3]
              try simp only [zq4, zq5, zq6]
              go_wp2
              obtain ⟨Q, R', hox, hback⟩ := HW.join HSG.out HHD.out
              have HOX := As.mk (hox.alloc (.cells #[.int .i64 (at_ : Int), .int .i64 (q : Int), .int .i64 o.s] 48))
              have HBK := As.mk hback
              refine hK.out _ _ (HS1.out _ _ _ (HHD.out.below (box_below _ _))) ?_
              clear hK K hox hback
              refine Run.ef rfl (fun K hK => ?_)
              simp only [zq1, zq2, zq3]
              try simp only [zq4, zq5, zq6]
              refine go_app w rfl _ _ 43 48 _ 3 24 rfl Tryz.underlying43 info48 rfl (by decide) (.slice A4 nb c4) nb _ (by simp [Act.eval]) ⟨wd.heap.size, 0, none⟩ 1 1 [.int .i64 (at_ : Int), .int .i64 (q : Int), .int .i64 o.s] (by simp [Act.eval]) HOX.out rfl (news _) (by
               intro u hu
               simp at hu
               rcases hu with rfl | rfl | rfl <;> rfl) (by simp only [maxLen]; omega) (by omega) ?_
              intro v1 w18 hw18
              obtain ⟨G2, g1, g2⟩ := HBK.out (nb + 1) v1 (mbV l2) w18 (by rw [HMV.out, ← HE2.out]; exact hw18)
              obtain ⟨A6, c6, rfl⟩ := hw18.row.form
              have HG1 := As.mk g1
              have HG2 := As.mk g2
              have hl2r := (HW.keep g1 g2).now.2
              have hmet := pin_Met cf HCF.out.2.1 A6 c6 (nb + 1) l2 w18 HML.out.symm hl2r HMS2.out (by omega) HCF.out.2.2.1
              obtain ⟨np, hnp⟩ : ∃ x, x = cf.H / cf.Page := ⟨_, rfl⟩
              have hn4 : np ≤ 4096 := by rw [hnp]; exact Nat.le_trans (Nat.div_le_self _ _) HCF.out.2.2.1
              have hml : (metL cf l2).length = np := by rw [metL_len, hnp]
              rw [← hnp] at hmet
              have HMET := As.mk hmet
              have HMLL := As.mk hml
              clear hnp hmet hml hw18 g1 g2 hl2r HOX HBK HHD HSG
              go_wp2
              refine hK.out _ _ (HS1.out _ _ _ HG2.out) ?_
              clear hK K
              refine Run.ef rfl (fun K hK => ?_)
              simp only [zq1, zq2, zq3]
              try simp only [zq4, zq5, zq6]
              go_wp2_with fail
              refine HMET.out.mono ?_
              rintro e w19 ⟨⟨v9, rfl, hfr⟩, hb⟩
              obtain ⟨A7, c7, rfl⟩ := hfr.now.form
              have HH19 := As.mk ((HW.keep HG1.out HG2.out).result hb (R' := fun W => Row W (.slice A7 np c7) np ((metL cf l2).map Value.bool)) (fun W hW => hfr.row hW))
              clear hfr hb HMET HG1 HG2
              go_wp2_with fail
              refine hK.out _ _ (HS1.out [] _ _ HH19.out) ?_
              clear hK K HS1
              refine Run.pu (v := ?_) (a' := ?_) rfl rfl (Or.inl ⟨by rfl, ?_⟩) ?_ ?_; rotate_left 2; (focus (intro W; go_simp; with_reducible rfl)); (focus (simp only [zq1, zq2, zq3, Act.put, zq4, zq5, zq6]; rfl))
              refine Run.nil ?_
              try simp only [zq1, zq2, zq3]
              try simp only [zq4, zq5, zq6]
              go_wp2_with fail
              have HS2 := As.mk (fun (W : World) (b0 : W.cell? ⟨g15, 0, none⟩ = (([.int .i64 6, .int .i64 xa, .int .i64 xn, .int .u8 xb, .int .i64 xl, .int .i64 xp, .int .i64 xm, .int .i64 xg] : List Value))[0]?) (b1 : W.cell? ⟨g15, 1, none⟩ = (([.int .i64 6, .int .i64 xa, .int .i64 xn, .int .u8 xb, .int .i64 xl, .int .i64 xp, .int .i64 xm, .int .i64 xg] : List Value))[1]?) (b2 : W.cell? ⟨g8, 5, none⟩ = cf.cs[5]?) => show W.cell? ⟨g15, 0, none⟩ = some (.int .i64 6) ∧ W.cell? ⟨g15, 1, none⟩ = some (.int .i64 xa) ∧ W.cell? ⟨g8, 5, none⟩ = some (.int .i64 (cf.P : Int)) from ⟨b0, b1, b2⟩)
              refine rgn [(0, 1), (1, 0), (2, 1), (3, 1), (5, 1), (6, 0), (4, 2), (7, 1), (8, 1), (9, 1), (10, 1), (11, 0), (12, 1), (13, 1), (14, 1), (15, 0), (16, 1), (17, 1), (18, 1), (19, 1)] [] (fun W => W.cell? ⟨g15, 0, none⟩ = some (.int .i64 6) ∧ W.cell? ⟨g15, 1, none⟩ = some (.int .i64 xa) ∧ W.cell? ⟨g8, 5, none⟩ = some (.int .i64 (cf.P : Int))) (by kernel_rfl) (by kernel_rfl) (fun _ _ _ d _ h => by cases d <;> exact h) (HS2.out _ (HH19.out.drew.rd me0 0 (by simp)) (HH19.out.drew.rd me0 1 (by simp)) (HH19.out.drew.rd me2 5 (by simp [Cf.cs]))) ?_
              have HHE := As.mk HH19.out.drew
              obtain ⟨we, hwe⟩ : ∃ y, y = w19.drew := ⟨_, rfl⟩
              rw [← hwe] at HHE ⊢
              clear hwe HH19
              refine Run.pu (v := ?_) (a' := ?_) rfl rfl (Or.inl ⟨by rfl, ?_⟩) ?_ ?_; rotate_left 2; (focus (intro W; go_simp; with_reducible rfl)); (focus (simp only [zq1, zq2, zq3, Act.put, zq4, zq5, zq6]; rfl))
              refine Run.rd (v := ?_) (a' := ?_) rfl rfl (Or.inl ⟨by rfl, ?_⟩) ?_ ?_; rotate_left 2; (focus (rintro W ⟨hW1, hW2, hW3⟩; go_simp; with_reducible rfl)); (focus (simp only [zq1, zq2, zq3, Act.put, zq4, zq5, zq6]; rfl))
              iterate 3 (refine Run.pu (v := ?_) (a' := ?_) rfl rfl (Or.inl ⟨by rfl, ?_⟩) ?_ ?_; rotate_left 2; (focus (intro W; go_simp; with_reducible rfl)); (focus (simp only [zq1, zq2, zq3, Act.put, zq4, zq5, zq6]; rfl)))
              refine Run.rd (v := ?_) (a' := ?_) rfl rfl (Or.inl ⟨by rfl, ?_⟩) ?_ ?_; rotate_left 2; (focus (rintro W ⟨hW1, hW2, hW3⟩; go_simp; with_reducible rfl)); (focus (simp only [zq1, zq2, zq3, Act.put, zq4, zq5, zq6]; rfl))
              refine Run.ef rfl (fun K hK => ?_)
              simp only [zq1, zq2, zq3]
              try simp only [zq4, zq5, zq6]
              have HPC := As.mk (pin_Count_n A7 c7 np (metL cf l2) we HMLL.out HHE.out.now.2 (by omega))
              rw [← HCTE.out] at HPC
              go_wp2_with fail
              refine HPC.out.mono ?_
              rintro e w20 ⟨rfl, rfl⟩
              clear HPC
              go_wp2_with fail
              refine hK.out _ _ (HS2.out _ (HHE.out.rd me0 0 (by simp)) (HHE.out.rd me0 1 (by simp)) (HHE.out.rd me2 5 (by simp [Cf.cs]))) ?_
              clear hK K HS2
              refine Run.pu (v := ?_) (a' := ?_) rfl rfl (Or.inl ⟨by rfl, ?_⟩) ?_ ?_
              rotate_left 2
              · intro W; go_simp; simp only [HCD.out]; with_reducible rfl
              · simp only [zq1, zq2, zq3, Act.put, zq4, zq5, zq6]; rfl
              iterate 3 (refine Run.pu (v := ?_) (a' := ?_) rfl rfl (Or.inl ⟨by rfl, ?_⟩) ?_ ?_; rotate_left 2; (focus (intro W; go_simp; with_reducible rfl)); (focus (simp only [zq1, zq2, zq3, Act.put, zq4, zq5, zq6]; rfl)))
              refine Run.rd (v := ?_) (a' := ?_) rfl rfl (Or.inl ⟨by rfl, ?_⟩) ?_ ?_; rotate_left 2; (focus (rintro W ⟨hW1, hW2, hW3⟩; go_simp; with_reducible rfl)); (focus (simp only [zq1, zq2, zq3, Act.put, zq4, zq5, zq6]; rfl))
              iterate 2 (refine Run.pu (v := ?_) (a' := ?_) rfl rfl (Or.inl ⟨by rfl, ?_⟩) ?_ ?_; rotate_left 2; (focus (intro W; go_simp; with_reducible rfl)); (focus (simp only [zq1, zq2, zq3, Act.put, zq4, zq5, zq6]; rfl)))
              refine Run.pu (v := undef) (a' := ?_) rfl rfl (Or.inr ⟨by rfl, rfl⟩) ?_ ?_; rotate_left 1; (focus (simp only [zq1, zq2, zq3, Act.put, zq4, zq5, zq6]; rfl))
              refine Run.rd (v := undef) (a' := ?_) rfl rfl (Or.inr ⟨by rfl, rfl⟩) ?_ ?_; rotate_left 1; (focus (simp only [zq1, zq2, zq3, Act.put, zq4, zq5, zq6]; rfl))
              iterate 2 (refine Run.pu (v := undef) (a' := ?_) rfl rfl (Or.inr ⟨by rfl, rfl⟩) ?_ ?_; rotate_left 1; (focus (simp only [zq1, zq2, zq3, Act.put, zq4, zq5, zq6]; rfl)))
              iterate 2 (refine Run.pu (v := ?_) (a' := ?_) rfl rfl (Or.inl ⟨by rfl, ?_⟩) ?_ ?_; rotate_left 2; (focus (intro W; go_simp; with_reducible rfl)); (focus (simp only [zq1, zq2, zq3, Act.put, zq4, zq5, zq6]; rfl)))
              refine Run.nil ?_
              try simp only [zq1, zq2, zq3]
              try simp only [zq4, zq5, zq6]
              go_wp2_with fail
              go_roundw
              case rel => exact ⟨k + 1, s1, mem1, by omega, by go_num, IV1, (HHE.out.drop.drop).imp fun W h => h.1.1⟩
              case measure => simp [intOf]; omega
        · have f1 : (o.kind = 1) = False := eq_false hk1
          have f1' : (o.kind == 1) = false := beqF hk1
          have f1n : (o.kind != 1) = true := by rw [bne, f1']; rfl
          clear r8
          go_wp2_with fail
          simp only [← hg15, ← hw15]
          clear hg15 hw15
          go_roundw
          case rel => exact ⟨k + 1, s1, mem1, by omega, by go_num, IV1, HCT.out⟩
          case measure => simp [intOf]; omega
      · have e : k = no := by omega
        rw [e]
        clear e hkn hk
        go_wp2_with fail
        go_ret
        exact ⟨rfl, HH.out.toBelow⟩
   · go_enter Tryz.func7, Tryz.ntmps7
     go_wp2_with fail
     refine (top_begun w).mono ?_
     rintro e w1 ⟨rfl, hb⟩
     have HO1 := As.mk ((Own.start (X := []) w).below hb)
     clear hb
     go_wp2_with fail
     go_ret
     exact ⟨rfl, HO1.out.toBelow⟩
 · go_enter Tryz.func7, Tryz.ntmps7
   go_wp2_with fail
   refine (top_begun w).mono ?_
   rintro e w1 ⟨rfl, hb⟩
   have HO1 := As.mk ((Own.start (X := []) w).below hb)
   clear hb
   go_wp2_with fail
   go_ret
   exact ⟨rfl, HO1.out.toBelow⟩
end Go.Proofs.YtmookafmdonopaaGreat.Top
