/- hodmantop.TopPlace walked. -/
import Derived.Test.YtmookafmdonopaaGreatCT50
import Derived.Test.YtmookafmdonopaaGreatCT61
import Derived.Test.YtmookafmdonopaaGreatCU27
namespace Go.Proofs.YtmookafmdonopaaGreat.Top
open Go Go.RowKit
set_option linter.unusedVariables false
set_option linter.unusedSimpArgs false
attribute [local go_sem] max2_int min2_int max_two min_two max_three

set_option maxHeartbeats 8000000 in
set_option maxRecDepth 100000 in
theorem TopPlace_walk (w : World) {A A2 : Option Addr} {n c n2 c2 : Nat} (h1 : BIn w A n c) (h2 : BIn w A2 n2 c2) : Calls Tryz.prog 8 #[.slice A n c, .slice A2 n2 c2] w fun e w' => e = .returned (.bool true) ∧ Below w.heap.size w w' := by
 by_cases hn : n ≤ 6
 · by_cases hn2 : n2 ≤ 250
   · obtain ⟨bs, B⟩ := h1.bytes (by omega)
     obtain ⟨bs2, B2⟩ := h2.bytes (by omega)
     have HB := As.mk B
     have HB2 := As.mk B2
     clear h1 h2 B B2
     go_enter Tryz.func8, Tryz.ntmps8
     go_wp2_with fail
     refine (top_begun w).mono ?_
     rintro e w1 ⟨rfl, hb⟩
     have HO1 := As.mk ((Own.start (X := []) w).below hb)
     clear hb
     go_wp2_with fail
     refine (play_Made A n c w1).mono ?_
     rintro e w2 ⟨rfl, rfl⟩
     obtain ⟨p, hp⟩ : ∃ p, p = w1.heap.size := ⟨_, rfl⟩
     obtain ⟨w2, hw2⟩ : ∃ x, x = w1.alloc (.cells #[.slice A n c, .int .i64 0] 73) := ⟨_, rfl⟩
     have ho := HO1.out.box #[.slice A n c, .int .i64 0] 73
     rw [← hw2, ← hp] at ho ⊢
     have HO2 : As (Own [] [(p, PK A n c 0)] (fun _ => True) w w2) := As.mk ho
     clear ho hw2 hp HO1
     go_wp2_with fail
     refine (play_Raw [] (fun _ => True) w w2 p A n c 0 false bs HB.out HO2.out (Nat.zero_le _)).mono ?_
     rintro e w3 ⟨r, rfl, hsm, -, j, -, ho⟩
     obtain ⟨cf, hc, hg, hH, hok⟩ := small_conf r hsm
     have HO3 := As.mk ho.drop
     have HCF := As.mk (And.intro hc (And.intro hg (And.intro hH hok)))
     clear ho HO2 hsm hc hg hH hok
     have hrv : r.v = .agg #[.int .i64 r.g, .int .i64 r.l, .int .i64 r.m, .int .i64 r.p, .int .i64 r.b, .int .i64 r.s] := rfl
     have HO4 := As.mk (HO3.out.box #[.int .i64 r.g, .int .i64 r.l, .int .i64 r.m, .int .i64 r.p, .int .i64 r.b, .int .i64 r.s] 25)
     rw [hrv]
     obtain ⟨g5, hg5⟩ : ∃ g, g = w3.heap.size := ⟨_, rfl⟩
     obtain ⟨w4, hw4⟩ : ∃ x, x = w3.alloc (.cells #[.int .i64 r.g, .int .i64 r.l, .int .i64 r.m, .int .i64 r.p, .int .i64 r.b, .int .i64 r.s] 25) := ⟨_, rfl⟩
     go_wp2_with fail
     have ho := HO4.out
     rw [← hw4, ← hg5] at ho ⊢
     have HO5 : As (Own [] [(g5, EC 25 r.cs)] (fun _ => True) w w4) := As.mk ho
     clear ho hw4 hg5 HO4 HO3 hrv
     refine (heap_New r cf _ _ w w4 HO5.out HCF.out.1 HCF.out.2.1 HCF.out.2.2.1).mono ?_
     rintro e w5 ⟨h, rfl, H⟩
     have HH := As.mk H
     clear H HO5
     go_wp2_with fail
     refine (heap_Conf h cf w5 HH.out.conf).mono ?_
     rintro e w6 ⟨rfl, hb⟩
     have H6 := HH.out.below hb
     have hcv : cf.v = .agg #[.int .i64 cf.G, .int .i64 cf.N, .int .i64 cf.M, .int .i64 cf.L, .int .i64 cf.Page, .int .i64 cf.P, .int .i64 cf.H, .int .i64 cf.Seed] := rfl
     have hbx := H6.box #[.int .i64 cf.G, .int .i64 cf.N, .int .i64 cf.M, .int .i64 cf.L, .int .i64 cf.Page, .int .i64 cf.P, .int .i64 cf.H, .int .i64 cf.Seed] 34
     rw [hcv]
     obtain ⟨g8, hg8⟩ : ∃ g, g = w6.heap.size := ⟨_, rfl⟩
     obtain ⟨w7, hw7⟩ : ∃ x, x = w6.alloc (.cells #[.int .i64 cf.G, .int .i64 cf.N, .int .i64 cf.M, .int .i64 cf.L, .int .i64 cf.Page, .int .i64 cf.P, .int .i64 cf.H, .int .i64 cf.Seed] 34) := ⟨_, rfl⟩
     rw [← hw7, ← hg8] at hbx
     have HH7 : As (HW h cf (Hs.new cf) (List.replicate cf.H 0) [(g8, EC 34 cf.cs), (g5, EC 25 r.cs)] (fun _ => True) w w7) := As.mk hbx
     go_wp2_with fail
     rw [← hw7, ← hg8]
     clear hbx hw7 hg8 hcv H6 hb HH
     refine rgn [(0, 1), (2, 0), (1, 2), (3, 2), (4, 1)] [] (fun W => W.rangeAt g5 0 r.cs) (by kernel_rfl) (by kernel_rfl) (fun _ _ _ d _ h => by cases d <;> exact h) (HH7.out.drew.range me1) ?_
     have HHD := As.mk HH7.out.drew
     obtain ⟨w8, hw8⟩ : ∃ x, x = w7.drew := ⟨_, rfl⟩
     rw [← hw8] at HHD ⊢
     clear hw8 HH7
     refine Run.pu (v := ?_) (a' := ?_) rfl rfl (Or.inl ⟨by rfl, ?_⟩) ?_ ?_; rotate_left 2; (focus (intro W; go_simp; with_reducible rfl)); (focus (simp only [zq1, zq2, zq3, Act.put, zq4, zq5, zq6]; rfl))
     refine Run.rd (v := .agg r.cs.toArray) (a' := ?_) rfl rfl (yieldsIf_load_mid rfl 25 (.tmp 5) rfl g5 0 rfl r.cs _ (fun W hW => hW) Tryz.underlying25 rfl size25) ?_ ?_
     rotate_left 1
     · simp only [zq1, zq2, zq3, Act.put, zq4, zq5, zq6]; rfl
     refine Run.ef rfl (fun K hK => ?_)
     simp only [zq1, zq2, zq3]
     try simp only [zq4, zq5, zq6]
     go_wp2_with fail
     refine (play_Made A2 n2 c2 w8).mono ?_
     rintro e w9 ⟨rfl, rfl⟩
     have hbx := HHD.out.box #[.slice A2 n2 c2, .int .i64 0] 73
     have hbo := HHD.out.below ((Below.refl w8.heap.size w8).alloc (Nat.le_refl _) (.cells #[.slice A2 n2 c2, .int .i64 0] 73))
     obtain ⟨p2, hp2⟩ : ∃ g, g = w8.heap.size := ⟨_, rfl⟩
     obtain ⟨w9, hw9⟩ : ∃ x, x = w8.alloc (.cells #[.slice A2 n2 c2, .int .i64 0] 73) := ⟨_, rfl⟩
     rw [← hw9] at hbo
     rw [← hw9, ← hp2] at hbx ⊢
     have HH9 := As.mk hbo
     have HP9 : As (HW h cf (Hs.new cf) (List.replicate cf.H 0) ((p2, PK A2 n2 c2 0) :: [(g8, EC 34 cf.cs), (g5, EC 25 r.cs)]) (fun _ => True) w w9) := As.mk hbx
     clear hbx hbo hw9 hp2 HHD
     go_wp2_with fail
     refine hK.out _ _ (HH9.out.range me1) ?_
     clear hK K
     refine Run.ef rfl (fun K hK => ?_)
     simp only [zq1, zq2, zq3]
     try simp only [zq4, zq5, zq6]
     go_wp2_with fail
     refine (heap_Ops HH9.out p2 A2 n2 c2 0 r HCF.out.1 HCF.out.2.2.2 HCF.out.2.1 bs2 HB2.out HP9.out (Nat.zero_le _) 80 (by decide)).mono ?_
     rintro e w10 ⟨A3, c3, ops, rfl, hops, hok, hh⟩
     have HH10 := As.mk (hh.imp (R' := fun W => Row W (.slice A3 ops.length c3) ops.length (opV ops)) (fun W h => h.2))
     have HOK := As.mk hok
     clear hh hok HH9 HP9
     go_wp2_with fail
     refine hK.out _ _ (HH10.out.range me1) ?_
     clear hK K
     refine Run.pu (v := ?_) (a' := ?_) rfl rfl (Or.inl ⟨by rfl, ?_⟩) ?_ ?_; rotate_left 2; (focus (intro W; go_simp; with_reducible rfl)); (focus (simp only [zq1, zq2, zq3, Act.put, zq4, zq5, zq6]; rfl))
     refine Run.nil ?_
     try simp only [zq1, zq2, zq3]
     try simp only [zq4, zq5, zq6]
     go_wp2_with fail
     obtain ⟨no, hno⟩ : ∃ x, x = ops.length := ⟨_, rfl⟩
     rw [← hno] at hops HH10 ⊢
     have HNO := As.mk hno
     clear hno
     go_loopw [10] (fun i wr => ∃ (k : Nat) (s : Hs) (mem : List Nat), k ≤ no ∧ i = .int .i64 (k : Int) ∧ As (Iv cf s ∧ Ci cf s.bl) ∧ HW h cf s mem [(g8, EC 34 cf.cs), (g5, EC 25 r.cs)] (fun W => Row W (.slice A3 no c3) no (opV ops)) w wr) (fun i _ => no - (intOf i).toNat)
     case atStart => exact ⟨0, Hs.new cf, _, Nat.zero_le _, rfl, ⟨new_iv HCF.out.2.1 HCF.out.2.2.1⟩, HH10.out⟩
     case round =>
      clear HH10
      obtain ⟨k, s, mem, hk, rfl, IV, hh⟩ := hrel
      have HH := As.mk hh
      clear hh
      by_cases hkn : k < no
      · obtain ⟨o, ho⟩ : ∃ o, ops[k]? = some o := ⟨ops[k]'(by have := HNO.out; omega), List.getElem?_eq_getElem _⟩
        have hok := HOK.out o (List.mem_of_getElem? ho)
        have hro := HH.out.now
        rw [HNO.out] at hro
        obtain ⟨b3, q3, rfl, hrg⟩ := ops_range hro k o ho
        have HRG := As.mk hrg
        have HDO := As.mk (fun (mem : List Nat) (L : List (Nat × (Obj → Prop))) (R : World → Prop) (W : World) (H : HW h cf s mem L R w W) => show Calls Tryz.prog 16 #[.pointer (some ⟨h, 0, none⟩), .agg #[.int .i64 o.kind, .int .i64 o.p, .int .i64 o.s, .int .i64 o.a, .int .i64 o.n, .int .u8 o.b]] W _ from heap_Do h cf s mem L R w W o H IV.out.1 hok)
        have IV1 := As.mk (do_ok IV.out.1 IV.out.2 mem hok)
        have HOKA := As.mk hok.a
        have HN7 := As.mk (do_no7 IV.out.1 IV.out.2 mem hok)
        have HK1 := As.mk (show o.kind = 1 → doP cf s mem o = alignedP cf s o.s 1 from fun h => by unfold doP; rw [if_pos h])
        have HK3 := As.mk (show o.kind = 3 → doP cf s mem o = alignedP cf s o.s o.a from fun h => by unfold doP; rw [if_neg (by omega), if_neg (by omega), if_pos h])
        have hbx := HH.out.box #[.int .i64 o.kind, .int .i64 o.p, .int .i64 o.s, .int .i64 o.a, .int .i64 o.n, .int .u8 o.b] 42
        have HBX := As.mk hbx
        clear ho hok hro hrg hbx HH
        go_wp2_with (refine wpList_load_mid rfl 42 (.tmp 66) rfl b3 (q3 + k * 6) rfl [.int .i64 o.kind, .int .i64 o.p, .int .i64 o.s, .int .i64 o.a, .int .i64 o.n, .int .u8 o.b] _ HRG.out Tryz.underlying42 rfl size42 ?_)
        obtain ⟨g11, hg11⟩ : ∃ g, g = wr.heap.size := ⟨_, rfl⟩
        obtain ⟨w12, hw12⟩ : ∃ y, y = wr.alloc (.cells #[.int .i64 o.kind, .int .i64 o.p, .int .i64 o.s, .int .i64 o.a, .int .i64 o.n, .int .u8 o.b] 42) := ⟨_, rfl⟩
        rw [← hg11, ← hw12] at HBX
        have HBY : As (HW h cf s mem ((g11, EC 42 [.int .i64 o.kind, .int .i64 o.p, .int .i64 o.s, .int .i64 o.a, .int .i64 o.n, .int .u8 o.b]) :: [(g8, EC 34 cf.cs), (g5, EC 25 r.cs)]) (fun W => Row W (.slice (some ⟨b3, q3, none⟩) no c3) no (opV ops)) w w12) := HBX
        try simp only [← hg11, ← hw12]
        clear hg11 hw12 HBX HRG
        refine (heap_Blocks h cf s mem _ _ w w12 HBY.out IV.out.1).mono ?_
        rintro e w13 ⟨vl, rfl, hfr, hb⟩
        obtain ⟨A4, c4, rfl⟩ := hfr.now.form
        have h13 := HBY.out.result hb (R' := fun W => Row W (.slice A4 s.bl.length c4) s.bl.length (mbV (s.bl.map (Bk.mb cf)))) (fun W hW => hfr.row hW)
        obtain ⟨nb, hnb⟩ : ∃ x, x = s.bl.length := ⟨_, rfl⟩
        rw [← hnb] at h13 ⊢
        have HNB := As.mk hnb
        have hnb1 : nb ≤ 70000 := by rw [hnb]; have := IV.out.1.inv.len IV.out.1.good; omega
        have HMS := As.mk (show ∀ b ∈ s.bl.map (Bk.mb cf), 1 ≤ b.2.1 ∧ b.1 + b.2.1 ≤ cf.H by
         intro b hb
         obtain ⟨x, hx, rfl⟩ := List.mem_map.1 hb
         exact ⟨ch_pos HCF.out.2.1 x, IV.out.1.inv.fits x hx⟩)
        have HLV := As.mk (show sumB cf s.bl ≤ 65536 by have := IV.out.1.live; have := HCF.out.2.1.bounds; omega)
        have HH13 := As.mk h13
        clear hfr hb h13 hnb HBY
        go_wp2_with fail
        go_loopw [13, 14] (fun lv iv wr2 => ∃ kk l1 : Nat, kk ≤ nb ∧ lv = .int .i64 (l1 : Int) ∧ iv = .int .i64 (kk : Int) ∧ As (l1 = sumB cf (s.bl.take kk)) ∧ HW h cf s mem ((g11, EC 42 [.int .i64 o.kind, .int .i64 o.p, .int .i64 o.s, .int .i64 o.a, .int .i64 o.n, .int .u8 o.b]) :: [(g8, EC 34 cf.cs), (g5, EC 25 r.cs)]) (fun W => Row W (.slice (some ⟨b3, q3, none⟩) no c3) no (opV ops) ∧ Row W (.slice A4 nb c4) nb (mbV (s.bl.map (Bk.mb cf)))) w wr2) (fun _ iv _ => nb - (intOf iv).toNat)
        case atStart => exact ⟨0, 0, Nat.zero_le _, rfl, rfl, ⟨by simp [sumB]⟩, HH13.out⟩
        case round =>
         clear HH13
         obtain ⟨kk, l1, hkk, rfl, rfl, HL1, hh2⟩ := hrel
         have HH := As.mk hh2
         clear hh2
         by_cases hkl : kk < nb
         · obtain ⟨b, hb⟩ : ∃ b, s.bl[kk]? = some b := ⟨s.bl[kk]'(by have := HNB.out; omega), List.getElem?_eq_getElem _⟩
           obtain ⟨b4, o4, rfl, -, -⟩ := HH.out.now.2.cell' (by rw [mbV_len, List.length_map]; have := HNB.out; omega)
           obtain ⟨-, y1, -⟩ := blk_cells HH.out.now.2 hb
           obtain ⟨ch, hch⟩ : ∃ x, x = b.ch cf := ⟨_, rfl⟩
           rw [← hch] at y1
           have hs2 : l1 + ch = sumB cf (s.bl.take (kk + 1)) := by rw [sum_take hb, HL1.out, hch]
           have hsl : l1 + ch ≤ 65536 := by rw [hs2]; exact Nat.le_trans (sum_take_le _ _ _) HLV.out
           have HS2 := As.mk hs2
           clear hch hb hs2
           go_wp2_with fail
           go_roundw
           case rel => exact ⟨kk + 1, l1 + ch, by omega, by go_num, by go_num, HS2, HH.out⟩
           case measure => simp [intOf]; omega
         · have e : kk = nb := by omega
           have hl1 : l1 = sumB cf s.bl := by rw [HL1.out, e, HNB.out, List.take_length]
           rw [e]
           have HLE := As.mk hl1
           clear e hkl hkk hl1 HL1
           have r11 := HH.out.range me0
           go_wp2_with (refine wpList_load_mid rfl 42 (.tmp 11) rfl g11 0 rfl [.int .i64 o.kind, .int .i64 o.p, .int .i64 o.s, .int .i64 o.a, .int .i64 o.n, .int .u8 o.b] _ r11 Tryz.underlying42 rfl size42 ?_)
           refine (HDO.out _ _ _ _ HH.out).mono ?_
           rintro e w14 ⟨rfl, mem1, H1, -⟩
           obtain ⟨an, han⟩ : ∃ x, x = (doP cf s mem o).2 := ⟨_, rfl⟩
           obtain ⟨s1, hs1⟩ : ∃ x, x = (doP cf s mem o).1 := ⟨_, rfl⟩
           rw [← han]
           rw [← hs1] at H1 IV1
           obtain ⟨xe, xa, xn, xb, xl, xp, xm, xg⟩ := an
           have HAN := As.mk han
           have hx7 : xe ≠ 7 := by have := HN7.out; rw [← han] at this; exact this
           have f7 : (xe = 7) = False := eq_false hx7
           have f7' : (xe == 7) = false := beqF hx7
           have hbx := H1.box #[.int .i64 xe, .int .i64 xa, .int .i64 xn, .int .u8 xb, .int .i64 xl, .int .i64 xp, .int .i64 xm, .int .i64 xg] 39
           obtain ⟨g15, hg15⟩ : ∃ g, g = w14.heap.size := ⟨_, rfl⟩
           obtain ⟨w15, hw15⟩ : ∃ y, y = w14.alloc (.cells #[.int .i64 xe, .int .i64 xa, .int .i64 xn, .int .u8 xb, .int .i64 xl, .int .i64 xp, .int .i64 xm, .int .i64 xg] 39) := ⟨_, rfl⟩
           have z0 := hbx.rd me1 0 (by simp)
           have z2 := hbx.rd me1 2 (by simp)
           have z3 := hbx.rd me1 3 (by simp)
           have y0 := hbx.rd me0 0 (by simp)
           have r8 := hbx.range me2
           simp only [List.getElem?_cons_zero, List.getElem?_cons_succ] at z0 z2 z3 y0
           rw [← hg15, ← hw15] at hbx
           have HH15 : As (HW h cf s1 mem1 ((g15, EC 39 [.int .i64 xe, .int .i64 xa, .int .i64 xn, .int .u8 xb, .int .i64 xl, .int .i64 xp, .int .i64 xm, .int .i64 xg]) :: (g11, EC 42 [.int .i64 o.kind, .int .i64 o.p, .int .i64 o.s, .int .i64 o.a, .int .i64 o.n, .int .u8 o.b]) :: [(g8, EC 34 cf.cs), (g5, EC 25 r.cs)]) (fun W => Row W (.slice (some ⟨b3, q3, none⟩) no c3) no (opV ops) ∧ Row W (.slice A4 nb c4) nb (mbV (s.bl.map (Bk.mb cf)))) w w15) := ⟨hbx⟩
           clear hbx H1 han hs1 HDO HN7 HH r11 hx7
           rw [show (⟨xe, xa, xn, xb, xl, xp, xm, xg⟩ : An).v = .agg #[.int .i64 xe, .int .i64 xa, .int .i64 xn, .int .u8 xb, .int .i64 xl, .int .i64 xp, .int .i64 xm, .int .i64 xg] from rfl]
           by_cases hk1 : o.kind = 1
           · rw [HK1.out hk1] at HAN
             rw [hk1] at z0
             have HNW := As.mk (fun W => ref_New cf HCF.out.2.1 (l1 : Int) o.s 1 W GoodA.one)
             rw [show cf.v = .agg cf.cs.toArray from rfl] at HNW
             have hpa := place_all IV.out.1 IV.out.2 (S := o.s) (A := 1) GoodA.one
             rw [← HLE.out] at hpa
             obtain ⟨ad, had⟩ : ∃ x, x = adm cf (l1 : Int) o.s 1 := ⟨_, rfl⟩
             rw [← had] at HNW hpa
             clear had
             obtain ⟨ad1, ad2⟩ := ad
             rcases hpa with ⟨h0, he⟩ | ⟨k', i, a, e1, e2, hkL, hlow, hfit, hcase⟩
             · have hx1 : ad2 = xe := by rw [← HAN.out] at he; exact he.symm
               subst hx1
               have f0 : (ad2 = 0) = False := eq_false h0
               have f0' : (ad2 == 0) = false := beqF h0
               clear he h0
               go_wp2_with (refine wpList_load_mid rfl 34 (.tmp 8) rfl g8 0 rfl cf.cs _ r8 Tryz.underlying34 rfl size34 ?_)
               simp only [← hg15, ← hw15]
               clear hg15 hw15 r8 z0 z2 z3 y0
               refine (HNW.out _).mono ?_
               rintro e w16 ⟨rfl, hb⟩
               have HH16 := As.mk (HH15.out.below hb)
               clear hb HH15 HNW
               have y0 := HH16.out.rd me0 0 (by simp)
               simp only [List.getElem?_cons_zero, List.getElem?_cons_succ] at y0
               go_wp2_with fail
               go_roundw
               case rel => exact ⟨k + 1, s1, mem1, by omega, by go_num, IV1, (HH16.out.drop.drop).imp fun W h => h.1⟩
               case measure => simp [intOf]; omega
             · injection e1 with e3 e4
               subst e3
               subst e4
               obtain ⟨q, hq⟩ : ∃ q, q = cf.G * 2 ^ k' := ⟨_, rfl⟩
               obtain ⟨at_, hat⟩ : ∃ x, x = i * 2 ^ k' * cf.G := ⟨_, rfl⟩
               rw [← hq, ← hat] at hcase hfit
               rw [← hq] at HNW
               rw [metL_app] at hcase
               have hq1 : 1 ≤ q := by rw [hq]; exact Nat.mul_pos HCF.out.2.1.g1 (Nat.two_pow_pos _)
               have hq4 : 1 ≤ q ∧ at_ + q ≤ cf.H ∧ cf.H ≤ 4096 := ⟨hq1, hfit, HCF.out.2.2.1⟩
               obtain ⟨fF, hfF⟩ : ∃ x, x = at_ / cf.Page := ⟨_, rfl⟩
               obtain ⟨bB, hbB⟩ : ∃ x, x = (at_ + q - 1) / cf.Page + 1 := ⟨_, rfl⟩
               obtain ⟨np, hnp⟩ : ∃ x, x = cf.H / cf.Page := ⟨_, rfl⟩
               have hpg1 : 1 ≤ cf.Page := HCF.out.2.1.p1
               have hFB : fF ≤ bB := by rw [hfF, hbB, hat, hq]; exact Nat.le_of_lt (pg_le HCF.out.2.1 (bkAt cf i k' a))
               have hBn : bB ≤ np := by rw [hbB, hnp, hat, hq]; exact pgB_le HCF.out.2.1 (bkAt cf i k' a) (by rw [hat, hq] at hfit; exact hfit)
               have hnp0 : 0 < np := Nat.lt_of_lt_of_le (by rw [hbB]; exact Nat.succ_pos _) hBn
               have hn4 : np ≤ 4096 := by rw [hnp]; exact Nat.le_trans (Nat.div_le_self _ _) HCF.out.2.2.1
               have hgb := HCF.out.2.1.bounds
               have HP2 := As.mk (fun W => pin_Pages cf.Page at_ q W hpg1 hq1 (by omega) (by omega) (by omega))
               rw [← hfF, ← hbB] at HP2
               have hcase2 : ((alignedP cf s o.s 1).2.err = 0 ∧ cntT (onTo (metL cf (s.bl.map (Bk.mb cf))) fF (bB - fF)) ≤ cf.P) ∨ ((alignedP cf s o.s 1).2.err = 6 ∧ cf.P < cntT (onTo (metL cf (s.bl.map (Bk.mb cf))) fF (bB - fF))) := by
                rw [hfF, hbB]
                rcases hcase with ⟨x1, -, x2⟩ | ⟨x1, x2⟩
                · exact Or.inl ⟨x1, x2⟩
                · exact Or.inr ⟨x1, x2⟩
               rw [← HAN.out] at hcase2
               obtain ⟨ct, hct⟩ : ∃ x, x = cntT (onTo (metL cf (s.bl.map (Bk.mb cf))) fF (bB - fF)) := ⟨_, rfl⟩
               rw [← hct] at hcase2
               have HCS := As.mk hcase2
               have HCTE := As.mk hct
               have HQ := As.mk (And.intro hq (And.intro hat hlow))
               have HPG := As.mk (fun (mem : List Nat) (L : List (Nat × (Obj → Prop))) (R : World → Prop) (W : World) (H : HW h cf s1 mem L R w W) => show Calls Tryz.prog 28 #[.pointer (some ⟨h, 0, none⟩)] W (fun e w' => ∃ v, e = .returned v ∧ Fr W.heap.size w' 4 v np (s1.on.map Value.bool) ∧ Below W.heap.size W w') from by rw [hnp]; exact heap_Pages H IV1.out.1)
               have HON := As.mk (show s1.on.length = np by rw [hnp]; exact IV1.out.1.on)
               have HML := As.mk (show (metL cf (s.bl.map (Bk.mb cf))).length = np by rw [hnp]; exact metL_len _ _)
               have HME := As.mk (fun (W : World) (hr : Row W (.slice A4 nb c4) nb (mbV (s.bl.map (Bk.mb cf)))) => show Calls Tryz.prog 23 #[.int .i64 cf.Page, .int .i64 cf.H, .slice A4 nb c4] W (fun e w' => (∃ v, e = .returned v ∧ Fr W.heap.size w' 4 v np ((metL cf (s.bl.map (Bk.mb cf))).map Value.bool)) ∧ Below W.heap.size W w') from by rw [hnp]; exact pin_Met cf HCF.out.2.1 A4 c4 nb _ W (by rw [List.length_map, HNB.out]) hr HMS.out (by omega) HCF.out.2.2.1)
               clear hq hat hlow hcase hcase2 hct e2 hkL hfF hbB hnp
               have hH6 : cf.H ≤ 65536 := by omega
               have hq6 : q ≤ 65536 := by omega
               have HLO := As.mk (fun (W : World) (hr : Row W (.slice A4 nb c4) nb (mbV (s.bl.map (Bk.mb cf)))) => show Calls Tryz.prog 22 #[.agg cf.cs.toArray, .slice A4 nb c4, .int .i64 (q : Int)] W (fun e w' => e = .returned (.tuple #[.int .i64 (at_ : Int), .bool true]) ∧ Below W.heap.size W w') from by
                have h1 := ref_LowestS cf hH6 A4 c4 (s.bl.map (Bk.mb cf)) q W (by rw [List.length_map, ← HNB.out]; exact hr) (by rw [List.length_map, ← HNB.out]; omega) (fun b hb => Nat.le_trans (HMS.out b hb).2 hH6) hq4.1 hq6
                rw [List.length_map, ← HNB.out] at h1
                refine h1.mono ?_
                rintro e w' ⟨hlo, hb⟩
                refine ⟨?_, hb⟩
                rw [HQ.out.1] at hlo
                rcases low_of HCF.out.2.1 IV.out.1.inv hlo with ⟨i2, h2, h3⟩ | ⟨h2, _⟩
                · rw [HQ.out.2.2] at h2
                  injection h2 with h2
                  rw [h3, HQ.out.2.1, h2]
                · rw [HQ.out.2.2] at h2
                  cases h2)
               clear hH6 hq6
               go_wp2_with (refine wpList_load_mid rfl 34 (.tmp 8) rfl g8 0 rfl cf.cs _ r8 Tryz.underlying34 rfl size34 ?_)
               simp only [← hg15, ← hw15]
               clear hg15 hw15 r8 z0 z2 z3 y0
               refine (HNW.out _).mono ?_
               rintro e w16 ⟨rfl, hb⟩
               have HH16 := As.mk (HH15.out.below hb)
               clear hb HH15 HNW
               have r8 := HH16.out.range me2
               go_wp2_with (refine wpList_load_mid rfl 34 (.tmp 8) rfl g8 0 rfl cf.cs _ r8 Tryz.underlying34 rfl size34 ?_)
               refine (HLO.out _ HH16.out.now.2).mono ?_
               rintro e w17 ⟨rfl, hb⟩
               have HH17 := As.mk (HH16.out.below hb)
               have z4 := HH17.out.rd me2 4 (by simp [Cf.cs])
               have z4' : w17.cell? ⟨g8, 4, none⟩ = some (.int .i64 (cf.Page : Int)) := z4
               clear hb HH16 HLO r8 z4
               go_wp2_with fail
               refine (HP2.out _).mono ?_
               rintro e w18 ⟨rfl, nq, rfl⟩
               have HH18 := As.mk (HH17.out.below (w1 := w17.drewN nq) ⟨rfl, rfl, rfl, Nat.le_refl _, fun _ _ => rfl⟩)
               obtain ⟨w18, hw18⟩ : ∃ y, y = w17.drewN nq := ⟨_, rfl⟩
               rw [← hw18] at HH18 ⊢
               clear HH17 z4' hw18 HP2
               go_wp2_with fail
               have hP30 : cf.P ≤ 2 ^ 30 := Nat.le_trans HCF.out.2.1.p (by decide)
               have HS1 := As.mk (fun (R' : World → Prop) (W : World) (H : HW h cf s1 mem1 ((g15, EC 39 [.int .i64 xe, .int .i64 xa, .int .i64 xn, .int .u8 xb, .int .i64 xl, .int .i64 xp, .int .i64 xm, .int .i64 xg]) :: (g11, EC 42 [.int .i64 o.kind, .int .i64 o.p, .int .i64 o.s, .int .i64 o.a, .int .i64 o.n, .int .u8 o.b]) :: [(g8, EC 34 cf.cs), (g5, EC 25 r.cs)]) R' w W) => show W.cell? ⟨g8, 4, none⟩ = some (.int .i64 (cf.Page : Int)) ∧ W.cell? ⟨g8, 6, none⟩ = some (.int .i64 (cf.H : Int)) ∧ W.cell? ⟨g8, 5, none⟩ = some (.int .i64 (cf.P : Int)) from ⟨H.rd me2 4 (by simp [Cf.cs]), H.rd me2 6 (by simp [Cf.cs]), H.rd me2 5 (by simp [Cf.cs])⟩)
               refine rgn [(0, 1), (2, 1), (3, 0), (4, 1), (5, 0), (6, 1), (8, 1), (9, 1), (10, 1), (11, 0), (1, 2), (7, 2), (12, 2), (13, 1), (14, 1), (15, 1), (16, 1), (17, 1), (18, 1), (19, 1)] [] (fun W => W.cell? ⟨g8, 4, none⟩ = some (.int .i64 (cf.Page : Int)) ∧ W.cell? ⟨g8, 6, none⟩ = some (.int .i64 (cf.H : Int)) ∧ W.cell? ⟨g8, 5, none⟩ = some (.int .i64 (cf.P : Int))) (by kernel_rfl) (by kernel_rfl) (fun _ _ _ d _ h => by cases d <;> exact h) (HS1.out _ _ HH18.out.drew) ?_
               have HHD := As.mk HH18.out.drew
               obtain ⟨wd, hwd⟩ : ∃ y, y = w18.drew := ⟨_, rfl⟩
               rw [← hwd] at HHD ⊢
               clear hwd HH18
               iterate 2 (refine Run.pu (v := ?_) (a' := ?_) rfl rfl (Or.inl ⟨by rfl, ?_⟩) ?_ ?_; rotate_left 2; (focus (intro W; go_simp; with_reducible rfl)); (focus (simp only [zq1, zq2, zq3, Act.put, zq4, zq5, zq6]; rfl)))
               refine Run.rd (v := ?_) (a' := ?_) rfl rfl (Or.inl ⟨by rfl, ?_⟩) ?_ ?_; rotate_left 2; (focus (rintro W ⟨hW1, hW2, hW3⟩; go_simp; with_reducible rfl)); (focus (simp only [zq1, zq2, zq3, Act.put, zq4, zq5, zq6]; rfl))
               refine Run.pu (v := ?_) (a' := ?_) rfl rfl (Or.inl ⟨by rfl, ?_⟩) ?_ ?_; rotate_left 2; (focus (intro W; go_simp; with_reducible rfl)); (focus (simp only [zq1, zq2, zq3, Act.put, zq4, zq5, zq6]; rfl))
               refine Run.rd (v := ?_) (a' := ?_) rfl rfl (Or.inl ⟨by rfl, ?_⟩) ?_ ?_; rotate_left 2; (focus (rintro W ⟨hW1, hW2, hW3⟩; go_simp; with_reducible rfl)); (focus (simp only [zq1, zq2, zq3, Act.put, zq4, zq5, zq6]; rfl))
               iterate 4 (refine Run.pu (v := ?_) (a' := ?_) rfl rfl (Or.inl ⟨by rfl, ?_⟩) ?_ ?_; rotate_left 2; (focus (intro W; go_simp; with_reducible rfl)); (focus (simp only [zq1, zq2, zq3, Act.put, zq4, zq5, zq6]; rfl)))
               refine Run.rd (v := ?_) (a' := ?_) rfl rfl (Or.inl ⟨by rfl, ?_⟩) ?_ ?_; rotate_left 2; (focus (rintro W ⟨hW1, hW2, hW3⟩; go_simp; with_reducible rfl)); (focus (simp only [zq1, zq2, zq3, Act.put, zq4, zq5, zq6]; rfl))
               refine Run.ef rfl (fun K hK => ?_)
               simp only [zq1, zq2, zq3]
               try simp only [zq4, zq5, zq6]
               go_wp2_with fail
               refine (HPG.out _ _ _ _ HHD.out).mono ?_
               rintro e w19 ⟨v1, rfl, hfr, hb⟩
               obtain ⟨A5, c5, rfl⟩ := hfr.now.form
               have HH19 := As.mk (HHD.out.result hb (R' := fun W => Row W (.slice A5 np c5) np (s1.on.map Value.bool)) (fun W hW => hfr.row hW))
               clear hfr hb HHD HPG
               go_wp2_with fail
               refine hK.out _ _ (HS1.out _ _ HH19.out) ?_
               clear hK K
               refine Run.ef rfl (fun K hK => ?_)
               simp only [zq1, zq2, zq3]
               try simp only [zq4, zq5, zq6]
               go_wp2_with fail
               refine (HME.out _ HH19.out.now.1.2).mono ?_
               rintro e w20 ⟨⟨v2, rfl, hfr⟩, hb⟩
               obtain ⟨A6, c6, rfl⟩ := hfr.now.form
               have HH20 := As.mk (HH19.out.result hb (R' := fun W => Row W (.slice A6 np c6) np ((metL cf (s.bl.map (Bk.mb cf))).map Value.bool)) (fun W hW => hfr.row hW))
               clear hfr hb HH19 HME
               go_wp2_with fail
               refine hK.out _ _ (HS1.out _ _ HH20.out) ?_
               clear hK K
               refine Run.ef rfl (fun K hK => ?_)
               simp only [zq1, zq2, zq3]
               try simp only [zq4, zq5, zq6]
               have HCM := As.mk (commit_ok A5 A6 c5 c6 fF bB cf.P np s1.on _ w20 HON.out HML.out HH20.out.now.1.2 HH20.out.now.2 (by omega) hnp0 hFB hBn hP30)
               rw [← HCTE.out] at HCM
               go_wp2_with fail
               refine HCM.out.mono ?_
               rintro e w21 ⟨⟨v3, v4, rfl⟩, hb⟩
               have HH21 := As.mk (HH20.out.below hb)
               clear hb HH20 HCM
               go_wp2_with fail
               refine hK.out _ _ (HS1.out _ _ HH21.out) ?_
               clear hK K HS1
               iterate 7 (refine Run.pu (v := ?_) (a' := ?_) rfl rfl (Or.inl ⟨by rfl, ?_⟩) ?_ ?_; rotate_left 2; (focus (intro W; go_simp; with_reducible rfl)); (focus (simp only [zq1, zq2, zq3, Act.put, zq4, zq5, zq6]; rfl)))
               refine Run.nil ?_
               try simp only [zq1, zq2, zq3]
               try simp only [zq4, zq5, zq6]
               have y0 := HH21.out.rd me0 0 (by simp)
               simp only [List.getElem?_cons_zero, List.getElem?_cons_succ] at y0
               have hend := (HH21.out.drop.drop).imp (R' := (fun W => Row W (.slice (some ⟨b3, q3, none⟩) no c3) no (opV ops))) fun W h => h.1.1.1
               have HEND := As.mk hend
               clear hend HH21
               rcases HCS.out with ⟨hx, hP⟩ | ⟨hx, hP⟩
               · have hd : decide (ct ≤ cf.P) = true := decide_eq_true hP
                 simp only [hd]
                 rw [hx] at y0
                 go_wp2_with fail
                 go_roundw
                 case rel => exact ⟨k + 1, s1, mem1, by omega, by go_num, IV1, HEND.out⟩
                 case measure => simp [intOf]; omega
               · have hd : decide (ct ≤ cf.P) = false := decide_eq_false (by omega)
                 simp only [hd]
                 rw [hx] at y0
                 go_wp2_with fail
                 go_roundw
                 case rel => exact ⟨k + 1, s1, mem1, by omega, by go_num, IV1, HEND.out⟩
                 case measure => simp [intOf]; omega
           · by_cases hk3 : o.kind = 3
             · rw [HK3.out hk3] at HAN
               rw [hk3] at z0
               have HNW := As.mk (fun W => ref_New cf HCF.out.2.1 (l1 : Int) o.s o.a W HOKA.out)
               rw [show cf.v = .agg cf.cs.toArray from rfl] at HNW
               have hpa := place_all IV.out.1 IV.out.2 (S := o.s) (A := o.a) HOKA.out
               rw [← HLE.out] at hpa
               obtain ⟨ad, had⟩ : ∃ x, x = adm cf (l1 : Int) o.s o.a := ⟨_, rfl⟩
               rw [← had] at HNW hpa
               clear had
               obtain ⟨ad1, ad2⟩ := ad
               rcases hpa with ⟨h0, he⟩ | ⟨k', i, a, e1, e2, hkL, hlow, hfit, hcase⟩
               · have hx1 : ad2 = xe := by rw [← HAN.out] at he; exact he.symm
                 subst hx1
                 have f0 : (ad2 = 0) = False := eq_false h0
                 have f0' : (ad2 == 0) = false := beqF h0
                 clear he h0
                 go_wp2_with (refine wpList_load_mid rfl 34 (.tmp 8) rfl g8 0 rfl cf.cs _ r8 Tryz.underlying34 rfl size34 ?_)
                 simp only [← hg15, ← hw15]
                 clear hg15 hw15 r8 z0 z2 z3 y0
                 refine (HNW.out _).mono ?_
                 rintro e w16 ⟨rfl, hb⟩
                 have HH16 := As.mk (HH15.out.below hb)
                 clear hb HH15 HNW
                 have y0 := HH16.out.rd me0 0 (by simp)
                 simp only [List.getElem?_cons_zero, List.getElem?_cons_succ] at y0
                 go_wp2_with fail
                 go_roundw
                 case rel => exact ⟨k + 1, s1, mem1, by omega, by go_num, IV1, (HH16.out.drop.drop).imp fun W h => h.1⟩
                 case measure => simp [intOf]; omega
               · injection e1 with e3 e4
                 subst e3
                 subst e4
                 obtain ⟨q, hq⟩ : ∃ q, q = cf.G * 2 ^ k' := ⟨_, rfl⟩
                 obtain ⟨at_, hat⟩ : ∃ x, x = i * 2 ^ k' * cf.G := ⟨_, rfl⟩
                 rw [← hq, ← hat] at hcase hfit
                 rw [← hq] at HNW
                 rw [metL_app] at hcase
                 have hq1 : 1 ≤ q := by rw [hq]; exact Nat.mul_pos HCF.out.2.1.g1 (Nat.two_pow_pos _)
                 have hq4 : 1 ≤ q ∧ at_ + q ≤ cf.H ∧ cf.H ≤ 4096 := ⟨hq1, hfit, HCF.out.2.2.1⟩
                 obtain ⟨fF, hfF⟩ : ∃ x, x = at_ / cf.Page := ⟨_, rfl⟩
                 obtain ⟨bB, hbB⟩ : ∃ x, x = (at_ + q - 1) / cf.Page + 1 := ⟨_, rfl⟩
                 obtain ⟨np, hnp⟩ : ∃ x, x = cf.H / cf.Page := ⟨_, rfl⟩
                 have hpg1 : 1 ≤ cf.Page := HCF.out.2.1.p1
                 have hFB : fF ≤ bB := by rw [hfF, hbB, hat, hq]; exact Nat.le_of_lt (pg_le HCF.out.2.1 (bkAt cf i k' a))
                 have hBn : bB ≤ np := by rw [hbB, hnp, hat, hq]; exact pgB_le HCF.out.2.1 (bkAt cf i k' a) (by rw [hat, hq] at hfit; exact hfit)
                 have hnp0 : 0 < np := Nat.lt_of_lt_of_le (by rw [hbB]; exact Nat.succ_pos _) hBn
                 have hn4 : np ≤ 4096 := by rw [hnp]; exact Nat.le_trans (Nat.div_le_self _ _) HCF.out.2.2.1
                 have hgb := HCF.out.2.1.bounds
                 have HP2 := As.mk (fun W => pin_Pages cf.Page at_ q W hpg1 hq1 (by omega) (by omega) (by omega))
                 rw [← hfF, ← hbB] at HP2
                 have hcase2 : ((alignedP cf s o.s o.a).2.err = 0 ∧ cntT (onTo (metL cf (s.bl.map (Bk.mb cf))) fF (bB - fF)) ≤ cf.P) ∨ ((alignedP cf s o.s o.a).2.err = 6 ∧ cf.P < cntT (onTo (metL cf (s.bl.map (Bk.mb cf))) fF (bB - fF))) := by
                  rw [hfF, hbB]
                  rcases hcase with ⟨x1, -, x2⟩ | ⟨x1, x2⟩
                  · exact Or.inl ⟨x1, x2⟩
                  · exact Or.inr ⟨x1, x2⟩
                 rw [← HAN.out] at hcase2
                 obtain ⟨ct, hct⟩ : ∃ x, x = cntT (onTo (metL cf (s.bl.map (Bk.mb cf))) fF (bB - fF)) := ⟨_, rfl⟩
                 rw [← hct] at hcase2
                 have HCS := As.mk hcase2
                 have HCTE := As.mk hct
                 have HQ := As.mk (And.intro hq (And.intro hat hlow))
                 have HPG := As.mk (fun (mem : List Nat) (L : List (Nat × (Obj → Prop))) (R : World → Prop) (W : World) (H : HW h cf s1 mem L R w W) => show Calls Tryz.prog 28 #[.pointer (some ⟨h, 0, none⟩)] W (fun e w' => ∃ v, e = .returned v ∧ Fr W.heap.size w' 4 v np (s1.on.map Value.bool) ∧ Below W.heap.size W w') from by rw [hnp]; exact heap_Pages H IV1.out.1)
                 have HON := As.mk (show s1.on.length = np by rw [hnp]; exact IV1.out.1.on)
                 have HML := As.mk (show (metL cf (s.bl.map (Bk.mb cf))).length = np by rw [hnp]; exact metL_len _ _)
                 have HME := As.mk (fun (W : World) (hr : Row W (.slice A4 nb c4) nb (mbV (s.bl.map (Bk.mb cf)))) => show Calls Tryz.prog 23 #[.int .i64 cf.Page, .int .i64 cf.H, .slice A4 nb c4] W (fun e w' => (∃ v, e = .returned v ∧ Fr W.heap.size w' 4 v np ((metL cf (s.bl.map (Bk.mb cf))).map Value.bool)) ∧ Below W.heap.size W w') from by rw [hnp]; exact pin_Met cf HCF.out.2.1 A4 c4 nb _ W (by rw [List.length_map, HNB.out]) hr HMS.out (by omega) HCF.out.2.2.1)
                 clear hq hat hlow hcase hcase2 hct e2 hkL hfF hbB hnp
                 have hH6 : cf.H ≤ 65536 := by omega
                 have hq6 : q ≤ 65536 := by omega
                 have HLO := As.mk (fun (W : World) (hr : Row W (.slice A4 nb c4) nb (mbV (s.bl.map (Bk.mb cf)))) => show Calls Tryz.prog 22 #[.agg cf.cs.toArray, .slice A4 nb c4, .int .i64 (q : Int)] W (fun e w' => e = .returned (.tuple #[.int .i64 (at_ : Int), .bool true]) ∧ Below W.heap.size W w') from by
                  have h1 := ref_LowestS cf hH6 A4 c4 (s.bl.map (Bk.mb cf)) q W (by rw [List.length_map, ← HNB.out]; exact hr) (by rw [List.length_map, ← HNB.out]; omega) (fun b hb => Nat.le_trans (HMS.out b hb).2 hH6) hq4.1 hq6
                  rw [List.length_map, ← HNB.out] at h1
                  refine h1.mono ?_
                  rintro e w' ⟨hlo, hb⟩
                  refine ⟨?_, hb⟩
                  rw [HQ.out.1] at hlo
                  rcases low_of HCF.out.2.1 IV.out.1.inv hlo with ⟨i2, h2, h3⟩ | ⟨h2, _⟩
                  · rw [HQ.out.2.2] at h2
                    injection h2 with h2
                    rw [h3, HQ.out.2.1, h2]
                  · rw [HQ.out.2.2] at h2
                    cases h2)
                 clear hH6 hq6
                 go_wp2_with (refine wpList_load_mid rfl 34 (.tmp 8) rfl g8 0 rfl cf.cs _ r8 Tryz.underlying34 rfl size34 ?_)
                 simp only [← hg15, ← hw15]
                 clear hg15 hw15 r8 z0 z2 z3 y0
                 refine (HNW.out _).mono ?_
                 rintro e w16 ⟨rfl, hb⟩
                 have HH16 := As.mk (HH15.out.below hb)
                 clear hb HH15 HNW
                 have r8 := HH16.out.range me2
                 go_wp2_with (refine wpList_load_mid rfl 34 (.tmp 8) rfl g8 0 rfl cf.cs _ r8 Tryz.underlying34 rfl size34 ?_)
                 refine (HLO.out _ HH16.out.now.2).mono ?_
                 rintro e w17 ⟨rfl, hb⟩
                 have HH17 := As.mk (HH16.out.below hb)
                 have z4 := HH17.out.rd me2 4 (by simp [Cf.cs])
                 have z4' : w17.cell? ⟨g8, 4, none⟩ = some (.int .i64 (cf.Page : Int)) := z4
                 clear hb HH16 HLO r8 z4
                 go_wp2_with fail
                 refine (HP2.out _).mono ?_
                 rintro e w18 ⟨rfl, nq, rfl⟩
                 have HH18 := As.mk (HH17.out.below (w1 := w17.drewN nq) ⟨rfl, rfl, rfl, Nat.le_refl _, fun _ _ => rfl⟩)
                 obtain ⟨w18, hw18⟩ : ∃ y, y = w17.drewN nq := ⟨_, rfl⟩
                 rw [← hw18] at HH18 ⊢
                 clear HH17 z4' hw18 HP2
                 go_wp2_with fail
                 have hP30 : cf.P ≤ 2 ^ 30 := Nat.le_trans HCF.out.2.1.p (by decide)
                 have HS1 := As.mk (fun (R' : World → Prop) (W : World) (H : HW h cf s1 mem1 ((g15, EC 39 [.int .i64 xe, .int .i64 xa, .int .i64 xn, .int .u8 xb, .int .i64 xl, .int .i64 xp, .int .i64 xm, .int .i64 xg]) :: (g11, EC 42 [.int .i64 o.kind, .int .i64 o.p, .int .i64 o.s, .int .i64 o.a, .int .i64 o.n, .int .u8 o.b]) :: [(g8, EC 34 cf.cs), (g5, EC 25 r.cs)]) R' w W) => show W.cell? ⟨g8, 4, none⟩ = some (.int .i64 (cf.Page : Int)) ∧ W.cell? ⟨g8, 6, none⟩ = some (.int .i64 (cf.H : Int)) ∧ W.cell? ⟨g8, 5, none⟩ = some (.int .i64 (cf.P : Int)) from ⟨H.rd me2 4 (by simp [Cf.cs]), H.rd me2 6 (by simp [Cf.cs]), H.rd me2 5 (by simp [Cf.cs])⟩)
                 refine rgn [(0, 1), (2, 1), (3, 0), (4, 1), (5, 0), (6, 1), (8, 1), (9, 1), (10, 1), (11, 0), (1, 2), (7, 2), (12, 2), (13, 1), (14, 1), (15, 1), (16, 1), (17, 1), (18, 1), (19, 1)] [] (fun W => W.cell? ⟨g8, 4, none⟩ = some (.int .i64 (cf.Page : Int)) ∧ W.cell? ⟨g8, 6, none⟩ = some (.int .i64 (cf.H : Int)) ∧ W.cell? ⟨g8, 5, none⟩ = some (.int .i64 (cf.P : Int))) (by kernel_rfl) (by kernel_rfl) (fun _ _ _ d _ h => by cases d <;> exact h) (HS1.out _ _ HH18.out.drew) ?_
                 have HHD := As.mk HH18.out.drew
                 obtain ⟨wd, hwd⟩ : ∃ y, y = w18.drew := ⟨_, rfl⟩
                 rw [← hwd] at HHD ⊢
                 clear hwd HH18
                 iterate 2 (refine Run.pu (v := ?_) (a' := ?_) rfl rfl (Or.inl ⟨by rfl, ?_⟩) ?_ ?_; rotate_left 2; (focus (intro W; go_simp; with_reducible rfl)); (focus (simp only [zq1, zq2, zq3, Act.put, zq4, zq5, zq6]; rfl)))
                 refine Run.rd (v := ?_) (a' := ?_) rfl rfl (Or.inl ⟨by rfl, ?_⟩) ?_ ?_; rotate_left 2; (focus (rintro W ⟨hW1, hW2, hW3⟩; go_simp; with_reducible rfl)); (focus (simp only [zq1, zq2, zq3, Act.put, zq4, zq5, zq6]; rfl))
                 refine Run.pu (v := ?_) (a' := ?_) rfl rfl (Or.inl ⟨by rfl, ?_⟩) ?_ ?_; rotate_left 2; (focus (intro W; go_simp; with_reducible rfl)); (focus (simp only [zq1, zq2, zq3, Act.put, zq4, zq5, zq6]; rfl))
                 refine Run.rd (v := ?_) (a' := ?_) rfl rfl (Or.inl ⟨by rfl, ?_⟩) ?_ ?_; rotate_left 2; (focus (rintro W ⟨hW1, hW2, hW3⟩; go_simp; with_reducible rfl)); (focus (simp only [zq1, zq2, zq3, Act.put, zq4, zq5, zq6]; rfl))
                 iterate 4 (refine Run.pu (v := ?_) (a' := ?_) rfl rfl (Or.inl ⟨by rfl, ?_⟩) ?_ ?_; rotate_left 2; (focus (intro W; go_simp; with_reducible rfl)); (focus (simp only [zq1, zq2, zq3, Act.put, zq4, zq5, zq6]; rfl)))
                 refine Run.rd (v := ?_) (a' := ?_) rfl rfl (Or.inl ⟨by rfl, ?_⟩) ?_ ?_; rotate_left 2; (focus (rintro W ⟨hW1, hW2, hW3⟩; go_simp; with_reducible rfl)); (focus (simp only [zq1, zq2, zq3, Act.put, zq4, zq5, zq6]; rfl))
                 refine Run.ef rfl (fun K hK => ?_)
                 simp only [zq1, zq2, zq3]
                 try simp only [zq4, zq5, zq6]
                 go_wp2_with fail
                 refine (HPG.out _ _ _ _ HHD.out).mono ?_
                 rintro e w19 ⟨v1, rfl, hfr, hb⟩
                 obtain ⟨A5, c5, rfl⟩ := hfr.now.form
                 have HH19 := As.mk (HHD.out.result hb (R' := fun W => Row W (.slice A5 np c5) np (s1.on.map Value.bool)) (fun W hW => hfr.row hW))
                 clear hfr hb HHD HPG
                 go_wp2_with fail
                 refine hK.out _ _ (HS1.out _ _ HH19.out) ?_
                 clear hK K
                 refine Run.ef rfl (fun K hK => ?_)
                 simp only [zq1, zq2, zq3]
                 try simp only [zq4, zq5, zq6]
                 go_wp2_with fail
                 refine (HME.out _ HH19.out.now.1.2).mono ?_
                 rintro e w20 ⟨⟨v2, rfl, hfr⟩, hb⟩
                 obtain ⟨A6, c6, rfl⟩ := hfr.now.form
                 have HH20 := As.mk (HH19.out.result hb (R' := fun W => Row W (.slice A6 np c6) np ((metL cf (s.bl.map (Bk.mb cf))).map Value.bool)) (fun W hW => hfr.row hW))
                 clear hfr hb HH19 HME
                 go_wp2_with fail
                 refine hK.out _ _ (HS1.out _ _ HH20.out) ?_
                 clear hK K
                 refine Run.ef rfl (fun K hK => ?_)
                 simp only [zq1, zq2, zq3]
                 try simp only [zq4, zq5, zq6]
                 have HCM := As.mk (commit_ok A5 A6 c5 c6 fF bB cf.P np s1.on _ w20 HON.out HML.out HH20.out.now.1.2 HH20.out.now.2 (by omega) hnp0 hFB hBn hP30)
                 rw [← HCTE.out] at HCM
                 go_wp2_with fail
                 refine HCM.out.mono ?_
                 rintro e w21 ⟨⟨v3, v4, rfl⟩, hb⟩
                 have HH21 := As.mk (HH20.out.below hb)
                 clear hb HH20 HCM
                 go_wp2_with fail
                 refine hK.out _ _ (HS1.out _ _ HH21.out) ?_
                 clear hK K HS1
                 iterate 7 (refine Run.pu (v := ?_) (a' := ?_) rfl rfl (Or.inl ⟨by rfl, ?_⟩) ?_ ?_; rotate_left 2; (focus (intro W; go_simp; with_reducible rfl)); (focus (simp only [zq1, zq2, zq3, Act.put, zq4, zq5, zq6]; rfl)))
                 refine Run.nil ?_
                 try simp only [zq1, zq2, zq3]
                 try simp only [zq4, zq5, zq6]
                 have y0 := HH21.out.rd me0 0 (by simp)
                 simp only [List.getElem?_cons_zero, List.getElem?_cons_succ] at y0
                 have hend := (HH21.out.drop.drop).imp (R' := (fun W => Row W (.slice (some ⟨b3, q3, none⟩) no c3) no (opV ops))) fun W h => h.1.1.1
                 have HEND := As.mk hend
                 clear hend HH21
                 rcases HCS.out with ⟨hx, hP⟩ | ⟨hx, hP⟩
                 · have hd : decide (ct ≤ cf.P) = true := decide_eq_true hP
                   simp only [hd]
                   rw [hx] at y0
                   go_wp2_with fail
                   go_roundw
                   case rel => exact ⟨k + 1, s1, mem1, by omega, by go_num, IV1, HEND.out⟩
                   case measure => simp [intOf]; omega
                 · have hd : decide (ct ≤ cf.P) = false := decide_eq_false (by omega)
                   simp only [hd]
                   rw [hx] at y0
                   go_wp2_with fail
                   go_roundw
                   case rel => exact ⟨k + 1, s1, mem1, by omega, by go_num, IV1, HEND.out⟩
                   case measure => simp [intOf]; omega
             · have f1 : (o.kind = 1) = False := eq_false hk1
               have f1' : (o.kind == 1) = false := beqF hk1
               have f1n : (o.kind != 1) = true := by rw [bne, f1']; rfl
               have f3 : (o.kind = 3) = False := eq_false hk3
               have f3' : (o.kind == 3) = false := beqF hk3
               have f3n : (o.kind != 3) = true := by rw [bne, f3']; rfl
               clear r8
               go_wp2_with fail
               simp only [← hg15, ← hw15]
               clear hg15 hw15
               go_roundw
               case rel => exact ⟨k + 1, s1, mem1, by omega, by go_num, IV1, (HH15.out.drop.drop).imp fun W h => h.1⟩
               case measure => simp [intOf]; omega
      · have e : k = no := by omega
        rw [e]
        clear e hkn hk
        go_wp2_with fail
        go_ret
        exact ⟨rfl, HH.out.toBelow⟩
   · go_enter Tryz.func8, Tryz.ntmps8
     go_wp2_with fail
     refine (top_begun w).mono ?_
     rintro e w1 ⟨rfl, hb⟩
     have HO1 := As.mk ((Own.start (X := []) w).below hb)
     clear hb
     go_wp2_with fail
     go_ret
     exact ⟨rfl, HO1.out.toBelow⟩
 · go_enter Tryz.func8, Tryz.ntmps8
   go_wp2_with fail
   refine (top_begun w).mono ?_
   rintro e w1 ⟨rfl, hb⟩
   have HO1 := As.mk ((Own.start (X := []) w).below hb)
   clear hb
   go_wp2_with fail
   go_ret
   exact ⟨rfl, HO1.out.toBelow⟩
end Go.Proofs.YtmookafmdonopaaGreat.Top
