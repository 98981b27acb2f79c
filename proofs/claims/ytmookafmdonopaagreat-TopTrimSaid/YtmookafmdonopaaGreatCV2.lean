/- hodmantop.TopTrim walked. -/
import Derived.Test.YtmookafmdonopaaGreatCT50
namespace Go.Proofs.YtmookafmdonopaaGreat.Top
open Go Go.RowKit
set_option linter.unusedVariables false
set_option linter.unusedSimpArgs false
attribute [local go_sem] max2_int min2_int max_two min_two max_three

set_option maxHeartbeats 8000000 in
set_option maxRecDepth 100000 in
theorem TopTrim_walk (w : World) {A A2 : Option Addr} {n c n2 c2 : Nat} (h1 : BIn w A n c) (h2 : BIn w A2 n2 c2) : Calls Tryz.prog 9 #[.slice A n c, .slice A2 n2 c2] w fun e w' => e = .returned (.bool true) ∧ Below w.heap.size w w' := by
  by_cases hn : n ≤ 6
  · by_cases hn2 : n2 ≤ 200
    · obtain ⟨bs, B⟩ := h1.bytes (by omega)
      obtain ⟨bs2, B2⟩ := h2.bytes (by omega)
      have HB := As.mk B
      have HB2 := As.mk B2
      clear h1 h2 B B2
      go_enter Tryz.func9, Tryz.ntmps9
      go_wp2_with fail
      refine (top_begun w).mono ?_
      rintro e w1 ⟨rfl, hb⟩
      have HO1 := As.mk ((Own.start (X := []) w).below hb)
      clear hb
      go_wp2_with fail
      refine (play_Made A n c w1).mono ?_
      rintro e w2 ⟨rfl, rfl⟩
      obtain ⟨p, hp⟩ : ∃ p, p = w1.heap.size := ⟨_, rfl⟩
      obtain ⟨w2, hw2⟩ : ∃ x, x = w1.alloc (.cells #[.slice A n c, .int .i64 0] 73) := ⟨_, rfl⟩
      have ho := HO1.out.box #[.slice A n c, .int .i64 0] 73
      rw [← hw2, ← hp] at ho ⊢
      have HO2 : As (Own [] [(p, PK A n c 0)] (fun _ => True) w w2) := As.mk ho
      clear ho hw2 hp HO1
      go_wp2_with fail
      refine (play_Raw [] (fun _ => True) w w2 p A n c 0 false bs HB.out HO2.out (Nat.zero_le _)).mono ?_
      rintro e w3 ⟨r, rfl, hsm, -, j, -, ho⟩
      obtain ⟨cf, hc, hg, hH, hok⟩ := small_conf r hsm
      have HO3 := As.mk ho.drop
      have HCF := As.mk (And.intro hc (And.intro hg (And.intro hH hok)))
      clear ho HO2 hsm hc hg hH hok
      have hrv : r.v = .agg #[.int .i64 r.g, .int .i64 r.l, .int .i64 r.m, .int .i64 r.p, .int .i64 r.b, .int .i64 r.s] := rfl
      have HO4 := As.mk (HO3.out.box #[.int .i64 r.g, .int .i64 r.l, .int .i64 r.m, .int .i64 r.p, .int .i64 r.b, .int .i64 r.s] 25)
      rw [hrv]
      obtain ⟨g5, hg5⟩ : ∃ g, g = w3.heap.size := ⟨_, rfl⟩
      obtain ⟨w4, hw4⟩ : ∃ x, x = w3.alloc (.cells #[.int .i64 r.g, .int .i64 r.l, .int .i64 r.m, .int .i64 r.p, .int .i64 r.b, .int .i64 r.s] 25) := ⟨_, rfl⟩
      go_wp2_with fail
      have ho := HO4.out
      rw [← hw4, ← hg5] at ho ⊢
      have HO5 : As (Own [] [(g5, EC 25 r.cs)] (fun _ => True) w w4) := As.mk ho
      clear ho hw4 hg5 HO4 HO3 hrv
      refine (heap_New r cf _ _ w w4 HO5.out HCF.out.1 HCF.out.2.1 HCF.out.2.2.1).mono ?_
      rintro e w5 ⟨h, rfl, H⟩
      have HH := As.mk H
      clear H HO5
      go_wp2_with fail
      refine (heap_Conf h cf w5 HH.out.conf).mono ?_
      rintro e w6 ⟨rfl, hb⟩
      have H6 := HH.out.below hb
      have hcv : cf.v = .agg #[.int .i64 cf.G, .int .i64 cf.N, .int .i64 cf.M, .int .i64 cf.L, .int .i64 cf.Page, .int .i64 cf.P, .int .i64 cf.H, .int .i64 cf.Seed] := rfl
      have hbx := H6.box #[.int .i64 cf.G, .int .i64 cf.N, .int .i64 cf.M, .int .i64 cf.L, .int .i64 cf.Page, .int .i64 cf.P, .int .i64 cf.H, .int .i64 cf.Seed] 34
      rw [hcv]
      obtain ⟨g8, hg8⟩ : ∃ g, g = w6.heap.size := ⟨_, rfl⟩
      obtain ⟨w7, hw7⟩ : ∃ x, x = w6.alloc (.cells #[.int .i64 cf.G, .int .i64 cf.N, .int .i64 cf.M, .int .i64 cf.L, .int .i64 cf.Page, .int .i64 cf.P, .int .i64 cf.H, .int .i64 cf.Seed] 34) := ⟨_, rfl⟩
      rw [← hw7, ← hg8] at hbx
      have HH7 : As (HW h cf (Hs.new cf) (List.replicate cf.H 0) [(g8, EC 34 cf.cs), (g5, EC 25 r.cs)] (fun _ => True) w w7) := As.mk hbx
      go_wp2_with fail
      rw [← hw7, ← hg8]
      clear hbx hw7 hg8 hcv H6 hb HH
      refine rgn [(0, 1), (2, 0), (1, 2), (3, 2), (4, 1)] [] (fun W => W.rangeAt g5 0 r.cs) (by kernel_rfl) (by kernel_rfl) (fun _ _ _ d _ h => by cases d <;> exact h) (HH7.out.drew.range me1) ?_
      have HHD := As.mk HH7.out.drew
      obtain ⟨w8, hw8⟩ : ∃ x, x = w7.drew := ⟨_, rfl⟩
      rw [← hw8] at HHD ⊢
      clear hw8 HH7
      refine Run.pu (v := ?_) (a' := ?_) rfl rfl (Or.inl ⟨by rfl, ?_⟩) ?_ ?_; rotate_left 2; (focus (intro W; go_simp; with_reducible rfl)); (focus (simp only [List.getElem_toArray, List.getElem_cons_succ, List.getElem_cons_zero, Act.put, List.setIfInBounds_toArray, List.set_cons_zero, List.set_cons_succ]; rfl))
      refine Run.rd (v := .agg r.cs.toArray) (a' := ?_) rfl rfl (yieldsIf_load_mid rfl 25 (.tmp 5) rfl g5 0 rfl r.cs _ (fun W hW => hW) Tryz.underlying25 rfl size25) ?_ ?_
      rotate_left 1
      · simp only [List.getElem_toArray, List.getElem_cons_succ, List.getElem_cons_zero, Act.put, List.setIfInBounds_toArray, List.set_cons_zero, List.set_cons_succ]; rfl
      refine Run.ef rfl (fun K hK => ?_)
      simp only [List.getElem_toArray, List.getElem_cons_succ, List.getElem_cons_zero]
      try simp only [List.setIfInBounds_toArray, List.set_cons_zero, List.set_cons_succ]
      go_wp2_with fail
      refine (play_Made A2 n2 c2 w8).mono ?_
      rintro e w9 ⟨rfl, rfl⟩
      have hbx := HHD.out.box #[.slice A2 n2 c2, .int .i64 0] 73
      have hbo := HHD.out.below ((Below.refl w8.heap.size w8).alloc (Nat.le_refl _) (.cells #[.slice A2 n2 c2, .int .i64 0] 73))
      obtain ⟨p2, hp2⟩ : ∃ g, g = w8.heap.size := ⟨_, rfl⟩
      obtain ⟨w9, hw9⟩ : ∃ x, x = w8.alloc (.cells #[.slice A2 n2 c2, .int .i64 0] 73) := ⟨_, rfl⟩
      rw [← hw9] at hbo
      rw [← hw9, ← hp2] at hbx ⊢
      have HH9 := As.mk hbo
      have HP9 : As (HW h cf (Hs.new cf) (List.replicate cf.H 0) ((p2, PK A2 n2 c2 0) :: [(g8, EC 34 cf.cs), (g5, EC 25 r.cs)]) (fun _ => True) w w9) := As.mk hbx
      clear hbx hbo hw9 hp2 HHD
      go_wp2_with fail
      refine hK.out _ _ (HH9.out.range me1) ?_
      clear hK K
      refine Run.ef rfl (fun K hK => ?_)
      simp only [List.getElem_toArray, List.getElem_cons_succ, List.getElem_cons_zero]
      try simp only [List.setIfInBounds_toArray, List.set_cons_zero, List.set_cons_succ]
      go_wp2_with fail
      refine (heap_Ops HH9.out p2 A2 n2 c2 0 r HCF.out.1 HCF.out.2.2.2 HCF.out.2.1 bs2 HB2.out HP9.out (Nat.zero_le _) 60 (by decide)).mono ?_
      rintro e w10 ⟨A3, c3, ops, rfl, hops, hok, hh⟩
      have HH10 := As.mk (hh.imp (R' := fun W => Row W (.slice A3 ops.length c3) ops.length (opV ops)) (fun W h => h.2))
      have HOK := As.mk hok
      clear hh hok HH9 HP9
      go_wp2_with fail
      refine hK.out _ _ (HH10.out.range me1) ?_
      clear hK K
      refine Run.pu (v := ?_) (a' := ?_) rfl rfl (Or.inl ⟨by rfl, ?_⟩) ?_ ?_; rotate_left 2; (focus (intro W; go_simp; with_reducible rfl)); (focus (simp only [List.getElem_toArray, List.getElem_cons_succ, List.getElem_cons_zero, Act.put, List.setIfInBounds_toArray, List.set_cons_zero, List.set_cons_succ]; rfl))
      refine Run.nil ?_
      try simp only [List.getElem_toArray, List.getElem_cons_succ, List.getElem_cons_zero]
      try simp only [List.setIfInBounds_toArray, List.set_cons_zero, List.set_cons_succ]
      go_wp2_with fail
      obtain ⟨no, hno⟩ : ∃ x, x = ops.length := ⟨_, rfl⟩
      rw [← hno] at hops HH10 ⊢
      have HNO := As.mk hno
      clear hno
      go_loopw [10] (fun i wr => ∃ (k : Nat) (s : Hs) (mem : List Nat), k ≤ no ∧ i = .int .i64 (k : Int) ∧ As ((Iv cf s ∧ Ci cf s.bl) ∧ OnC cf s) ∧ HW h cf s mem [(g8, EC 34 cf.cs), (g5, EC 25 r.cs)] (fun W => Row W (.slice A3 no c3) no (opV ops)) w wr) (fun i _ => no - (intOf i).toNat)
      case atStart => exact ⟨0, Hs.new cf, _, Nat.zero_le _, rfl, ⟨⟨new_iv HCF.out.2.1 HCF.out.2.2.1, OnC.new cf⟩⟩, HH10.out⟩
      case round =>
        clear HH10
        obtain ⟨k, s, mem, hk, rfl, IV, hh⟩ := hrel
        have HH := As.mk hh
        clear hh
        by_cases hkn : k < no
        · obtain ⟨o, ho⟩ : ∃ o, ops[k]? = some o := ⟨ops[k]'(by have := HNO.out; omega), List.getElem?_eq_getElem _⟩
          have hok := HOK.out o (List.mem_of_getElem? ho)
          have hro := HH.out.now
          rw [HNO.out] at hro
          obtain ⟨b3, q3, rfl, hrg⟩ := ops_range hro k o ho
          have HRG := As.mk hrg
          have HDO := As.mk (show Calls Tryz.prog 16 #[.pointer (some ⟨h, 0, none⟩), .agg o.cs.toArray] wr _ from heap_Do h cf s mem _ _ w wr o HH.out IV.out.1.1 hok)
          have IV1 := As.mk (And.intro (do_ok IV.out.1.1 IV.out.1.2 mem hok) (do_on IV.out.1.1 IV.out.2 mem hok))
          clear ho hok hro hrg
          go_wp2_with (refine wpList_load_mid rfl 42 (.tmp 55) rfl b3 (q3 + k * 6) rfl o.cs _ HRG.out Tryz.underlying42 rfl size42 ?_)
          refine HDO.out.mono ?_
          rintro e w11 ⟨rfl, mem1, H1, -⟩
          obtain ⟨s1, hs1⟩ : ∃ x, x = (doP cf s mem o).1 := ⟨_, rfl⟩
          rw [← hs1] at H1 IV1
          have HH1 := As.mk H1
          clear H1 hs1 HDO HRG HH
          have E1 := As.mk (show Int.tmod (k : Int) 7 = ((k % 7 : Nat) : Int) from rfl)
          obtain ⟨r7, h7⟩ : ∃ x, x = k % 7 := ⟨_, rfl⟩
          rw [← h7] at E1
          by_cases hr7 : r7 = 3
          · have f7 : ((r7 : Int) == 3) = true := by simp [hr7]
            have f8 : ((k : Int) % 7 != 3) = false := by rw [show (k : Int) % 7 = 3 by omega]; rfl
            clear h7 hr7
            obtain ⟨np, hnp⟩ : ∃ x, x = cf.H / cf.Page := ⟨_, rfl⟩
            have HPG := As.mk (fun (mem : List Nat) (L : List (Nat × (Obj → Prop))) (R : World → Prop) (W : World) (s : Hs) (H : HW h cf s mem L R w W) (iv : Iv cf s) => show Calls Tryz.prog 28 #[.pointer (some ⟨h, 0, none⟩)] W (fun e w' => ∃ v, e = .returned v ∧ Fr W.heap.size w' 4 v np (s.on.map Value.bool) ∧ Below W.heap.size W w') from by rw [hnp]; exact heap_Pages H iv)
            have hn4 : np ≤ 4096 := by rw [hnp]; exact Nat.le_trans (Nat.div_le_self _ _) HCF.out.2.2.1
            have HNP := As.mk hnp
            have HME := As.mk (metL_bl cf s1.bl)
            have HTR := As.mk (trim_on IV1.out.1.1 IV1.out.2)
            obtain ⟨s2, hs2⟩ : ∃ x, x = (trimP cf s1).1 := ⟨_, rfl⟩
            obtain ⟨gone, hgone⟩ : ∃ x, x = cntT (lessL s1.on (metB (metN cf s1.bl))) := ⟨_, rfl⟩
            obtain ⟨met, hmet⟩ : ∃ x, x = metB (metN cf s1.bl) := ⟨_, rfl⟩
            have HTM := As.mk (fun (mem : List Nat) (L : List (Nat × (Obj → Prop))) (R : World → Prop) (W : World) (H : HW h cf s1 mem L R w W) => show Calls Tryz.prog 16 #[.pointer (some ⟨h, 0, none⟩), .agg #[.int .i64 9, .int .i64 0, .int .i64 0, .int .i64 0, .int .i64 0, .int .u8 0]] W (fun e w' => e = .returned (.agg #[.int .i64 0, .int .i64 0, .int .i64 (gone : Int), .int .u8 0, .int .i64 0, .int .i64 0, .int .i64 0, .int .i64 0]) ∧ ∃ mem'', HW h cf s2 mem'' L R w w') from by
              have h1 := heap_Do h cf s1 mem L R w W ⟨9, 0, 0, 0, 0, 0⟩ H IV1.out.1.1 ok_trim
              refine h1.mono ?_
              rintro e w' ⟨he, m2, hm, -⟩
              refine ⟨?_, m2, ?_⟩
              · rw [he, hgone]; rfl
              · rw [hs2]; exact hm)
            have IV2 : As ((Iv cf s2 ∧ Ci cf s2.bl) ∧ OnC cf s2) := ⟨by rw [hs2]; exact And.intro (do_ok IV1.out.1.1 IV1.out.1.2 mem1 ok_trim) (do_on IV1.out.1.1 IV1.out.2 mem1 ok_trim)⟩
            rw [← hs2, ← hgone, ← hmet] at HTR
            rw [← hmet] at HME
            have hc1 : cntT s1.on ≤ 4096 := by have h1 := cntT_le s1.on; have h2 := IV1.out.1.1.on; rw [← hnp] at h2; omega
            have HL1 := As.mk (show s1.on.length = np by rw [hnp]; exact IV1.out.1.1.on)
            have HBL := As.mk (show s2.bl = s1.bl by rw [hs2]; rfl)
            have HL2 := As.mk (show s2.on.length = np by rw [hnp]; exact IV2.out.1.1.on)
            have HBN := As.mk (show s1.bl.length ≤ 100000 by have := IV1.out.1.1.inv.len IV1.out.1.1.good; have := IV1.out.1.1.small; omega)
            have HIN := As.mk (show ∀ b ∈ s1.bl.map (Bk.mb cf), 1 ≤ b.2.1 ∧ b.1 + b.2.1 ≤ cf.H by
              intro b hb
              obtain ⟨x, hx, rfl⟩ := List.mem_map.1 hb
              exact ⟨ch_pos HCF.out.2.1 x, IV1.out.1.1.inv.fits x hx⟩)
            clear hs2 hgone hmet hnp
            go_wp2_with fail
            refine (HPG.out _ _ _ w11 s1 HH1.out IV1.out.1.1).mono ?_
            rintro e w12 ⟨v, rfl, hfr, hb⟩
            obtain ⟨A4, c4, rfl⟩ := hfr.now.form
            have HCT := As.mk (pin_Count_n A4 c4 np s1.on w12 HL1.out hfr.now (by omega))
            have HH2 := As.mk (HH1.out.below hb)
            clear hfr hb HH1
            obtain ⟨ct1, hct1⟩ : ∃ x, x = cntT s1.on := ⟨_, rfl⟩
            rw [← hct1] at HTR hc1 HCT
            clear hct1
            go_wp2_with fail
            refine HCT.out.mono ?_
            rintro e w13 ⟨rfl, rfl⟩
            clear HCT
            go_wp2_with fail
            refine (HTM.out _ _ _ _ HH2.out).mono ?_
            rintro e w13 ⟨rfl, mem2, H3⟩
            have hbx := H3.box #[.int .i64 0, .int .i64 0, .int .i64 (gone : Int), .int .u8 0, .int .i64 0, .int .i64 0, .int .i64 0, .int .i64 0] 39
            obtain ⟨g12, hg12⟩ : ∃ g, g = w13.heap.size := ⟨_, rfl⟩
            obtain ⟨w14, hw14⟩ : ∃ x, x = w13.alloc (.cells #[.int .i64 0, .int .i64 0, .int .i64 (gone : Int), .int .u8 0, .int .i64 0, .int .i64 0, .int .i64 0, .int .i64 0] 39) := ⟨_, rfl⟩
            rw [← hg12, ← hw14] at hbx
            have HB14 := As.mk hbx
            clear hbx H3 HTM HH2
            go_wp2_with fail
            rw [← hg12, ← hw14]
            clear hg12 hw14
            have hS : w14.drew.cell? ⟨g8, 4, none⟩ = some (.int .i64 (cf.Page : Int)) ∧ w14.drew.cell? ⟨g8, 6, none⟩ = some (.int .i64 (cf.H : Int)) := ⟨HB14.out.drew.rd me1 4 (by simp [Cf.cs]), HB14.out.drew.rd me1 6 (by simp [Cf.cs])⟩
            refine rgn [(0, 1), (1, 0), (2, 1), (3, 0), (4, 1), (5, 2), (6, 2), (7, 1)] [] (fun W => W.cell? ⟨g8, 4, none⟩ = some (.int .i64 (cf.Page : Int)) ∧ W.cell? ⟨g8, 6, none⟩ = some (.int .i64 (cf.H : Int))) (by kernel_rfl) (by kernel_rfl) (fun _ _ _ d _ h => by cases d <;> exact h) hS ?_
            have HHD := As.mk HB14.out.drew
            obtain ⟨wd, hwd⟩ : ∃ x, x = w14.drew := ⟨_, rfl⟩
            rw [← hwd] at HHD ⊢
            clear hwd HB14 hS
            refine Run.pu (v := ?_) (a' := ?_) rfl rfl (Or.inl ⟨by rfl, ?_⟩) ?_ ?_; rotate_left 2; (focus (intro W; go_simp; with_reducible rfl)); (focus (simp only [List.getElem_toArray, List.getElem_cons_succ, List.getElem_cons_zero, Act.put, List.setIfInBounds_toArray, List.set_cons_zero, List.set_cons_succ]; rfl))
            refine Run.rd (v := ?_) (a' := ?_) rfl rfl (Or.inl ⟨by rfl, ?_⟩) ?_ ?_; rotate_left 2; (focus (rintro W ⟨hW1, hW2⟩; go_simp; with_reducible rfl)); (focus (simp only [List.getElem_toArray, List.getElem_cons_succ, List.getElem_cons_zero, Act.put, List.setIfInBounds_toArray, List.set_cons_zero, List.set_cons_succ]; rfl))
            refine Run.pu (v := ?_) (a' := ?_) rfl rfl (Or.inl ⟨by rfl, ?_⟩) ?_ ?_; rotate_left 2; (focus (intro W; go_simp; with_reducible rfl)); (focus (simp only [List.getElem_toArray, List.getElem_cons_succ, List.getElem_cons_zero, Act.put, List.setIfInBounds_toArray, List.set_cons_zero, List.set_cons_succ]; rfl))
            refine Run.rd (v := ?_) (a' := ?_) rfl rfl (Or.inl ⟨by rfl, ?_⟩) ?_ ?_; rotate_left 2; (focus (rintro W ⟨hW1, hW2⟩; go_simp; with_reducible rfl)); (focus (simp only [List.getElem_toArray, List.getElem_cons_succ, List.getElem_cons_zero, Act.put, List.setIfInBounds_toArray, List.set_cons_zero, List.set_cons_succ]; rfl))
            refine Run.pu (v := ?_) (a' := ?_) rfl rfl (Or.inl ⟨by rfl, ?_⟩) ?_ ?_; rotate_left 2; (focus (intro W; go_simp; with_reducible rfl)); (focus (simp only [List.getElem_toArray, List.getElem_cons_succ, List.getElem_cons_zero, Act.put, List.setIfInBounds_toArray, List.set_cons_zero, List.set_cons_succ]; rfl))
            refine Run.ef rfl (fun K hK => ?_)
            simp only [List.getElem_toArray, List.getElem_cons_succ, List.getElem_cons_zero]
            try simp only [List.setIfInBounds_toArray, List.set_cons_zero, List.set_cons_succ]
            go_wp2_with fail
            refine (heap_Blocks h cf s2 mem2 _ _ w wd HHD.out IV2.out.1.1).mono ?_
            rintro e w15 ⟨v, rfl, hfr, hb⟩
            rw [HBL.out] at hfr
            obtain ⟨A5, c5, rfl⟩ := hfr.now.form
            have HH15 := As.mk (HHD.out.below hb)
            have HMT := As.mk (pin_Met cf HCF.out.2.1 A5 c5 s1.bl.length (s1.bl.map (Bk.mb cf)) w15 (by simp) hfr.now HIN.out HBN.out HCF.out.2.2.1)
            rw [HME.out, ← HNP.out] at HMT
            obtain ⟨nb, hnb⟩ : ∃ x, x = s1.bl.length := ⟨_, rfl⟩
            rw [← hnb] at HMT ⊢
            clear hb hfr hnb HHD HIN HBN
            go_wp2_with fail
            refine hK.out _ _ ⟨HH15.out.rd me1 4 (by simp [Cf.cs]), HH15.out.rd me1 6 (by simp [Cf.cs])⟩ ?_
            clear hK K
            refine Run.ef rfl (fun K hK => ?_)
            simp only [List.getElem_toArray, List.getElem_cons_succ, List.getElem_cons_zero]
            try simp only [List.setIfInBounds_toArray, List.set_cons_zero, List.set_cons_succ]
            go_wp2_with fail
            refine HMT.out.mono ?_
            rintro e w16 ⟨⟨v, rfl, hfr⟩, hb⟩
            obtain ⟨A6, c6, rfl⟩ := hfr.now.form
            have HH16 := As.mk (HH15.out.result hb (R' := fun W => Row W (.slice A6 np c6) np (met.map Value.bool)) (fun W hW => hfr.row hW))
            clear hb hfr HH15 HMT
            go_wp2_with fail
            refine hK.out _ _ ⟨HH16.out.rd me1 4 (by simp [Cf.cs]), HH16.out.rd me1 6 (by simp [Cf.cs])⟩ ?_
            clear hK K
            refine Run.pu (v := ?_) (a' := ?_) rfl rfl (Or.inl ⟨by rfl, ?_⟩) ?_ ?_; rotate_left 2; (focus (intro W; go_simp; with_reducible rfl)); (focus (simp only [List.getElem_toArray, List.getElem_cons_succ, List.getElem_cons_zero, Act.put, List.setIfInBounds_toArray, List.set_cons_zero, List.set_cons_succ]; rfl))
            refine Run.nil ?_
            try simp only [List.getElem_toArray, List.getElem_cons_succ, List.getElem_cons_zero]
            try simp only [List.setIfInBounds_toArray, List.set_cons_zero, List.set_cons_succ]
            go_wp2_with fail
            have hS : w16.drew.cell? ⟨g12, 2, none⟩ = some (.int .i64 (gone : Int)) ∧ w16.drew.cell? ⟨g12, 0, none⟩ = some (.int .i64 0) := ⟨HH16.out.drew.rd me0 2 (by simp), HH16.out.drew.rd me0 0 (by simp)⟩
            refine rgn [(0, 1), (2, 1), (1, 2), (3, 2), (4, 1), (5, 1), (6, 1), (7, 0), (8, 1), (9, 1), (10, 2), (11, 1), (12, 1), (13, 1), (14, 1), (15, 1), (16, 0), (17, 1), (18, 1)] [] (fun W => W.cell? ⟨g12, 2, none⟩ = some (.int .i64 (gone : Int)) ∧ W.cell? ⟨g12, 0, none⟩ = some (.int .i64 0)) (by kernel_rfl) (by kernel_rfl) (fun _ _ _ d _ h => by cases d <;> exact h) hS ?_
            have HHD := As.mk HH16.out.drew
            obtain ⟨wd2, hwd⟩ : ∃ x, x = w16.drew := ⟨_, rfl⟩
            rw [← hwd] at HHD ⊢
            clear hwd HH16 hS
            iterate 2 (refine Run.pu (v := ?_) (a' := ?_) rfl rfl (Or.inl ⟨by rfl, ?_⟩) ?_ ?_; rotate_left 2; (focus (intro W; go_simp; with_reducible rfl)); (focus (simp only [List.getElem_toArray, List.getElem_cons_succ, List.getElem_cons_zero, Act.put, List.setIfInBounds_toArray, List.set_cons_zero, List.set_cons_succ]; rfl)))
            refine Run.ef rfl (fun K hK => ?_)
            simp only [List.getElem_toArray, List.getElem_cons_succ, List.getElem_cons_zero]
            try simp only [List.setIfInBounds_toArray, List.set_cons_zero, List.set_cons_succ]
            go_wp2_with fail
            refine (HPG.out _ _ _ wd2 s2 HHD.out IV2.out.1.1).mono ?_
            rintro e w17 ⟨v, rfl, hfr, hb⟩
            obtain ⟨A7, c7, rfl⟩ := hfr.now.form
            have HH17 := As.mk (HHD.out.below hb)
            have HSB := As.mk (same_Bools A7 A6 c7 c6 np met w17 (by rw [← HTR.out.1]; exact HL2.out) (by rw [← HTR.out.1]; exact hfr.now) HH17.out.now.2 (by omega))
            clear hfr hb HHD
            go_wp2_with fail
            refine hK.out _ _ ⟨HH17.out.rd me0 2 (by simp), HH17.out.rd me0 0 (by simp)⟩ ?_
            clear hK K
            refine Run.ef rfl (fun K hK => ?_)
            simp only [List.getElem_toArray, List.getElem_cons_succ, List.getElem_cons_zero]
            try simp only [List.setIfInBounds_toArray, List.set_cons_zero, List.set_cons_succ]
            go_wp2_with fail
            refine HSB.out.mono ?_
            rintro e w18 ⟨rfl, hb⟩
            have HH18 := As.mk (HH17.out.below hb)
            clear hb HH17 HSB
            have HC2 := As.mk (pin_Count_n A6 c6 np met w18 (by rw [← HTR.out.1]; exact HL2.out) HH18.out.now.2 (by omega))
            obtain ⟨ct2, hct2⟩ : ∃ x, x = cntT met := ⟨_, rfl⟩
            rw [← hct2] at HTR HC2
            have hsum := HTR.out.2
            go_wp2_with fail
            refine hK.out _ _ ⟨HH18.out.rd me0 2 (by simp), HH18.out.rd me0 0 (by simp)⟩ ?_
            clear hK K
            iterate 3 (refine Run.pu (v := ?_) (a' := ?_) rfl rfl (Or.inl ⟨by rfl, ?_⟩) ?_ ?_; rotate_left 2; (focus (intro W; go_simp; with_reducible rfl)); (focus (simp only [List.getElem_toArray, List.getElem_cons_succ, List.getElem_cons_zero, Act.put, List.setIfInBounds_toArray, List.set_cons_zero, List.set_cons_succ]; rfl)))
            refine Run.rd (v := ?_) (a' := ?_) rfl rfl (Or.inl ⟨by rfl, ?_⟩) ?_ ?_; rotate_left 2; (focus (rintro W ⟨hW1, hW2⟩; go_simp; with_reducible rfl)); (focus (simp only [List.getElem_toArray, List.getElem_cons_succ, List.getElem_cons_zero, Act.put, List.setIfInBounds_toArray, List.set_cons_zero, List.set_cons_succ]; rfl))
            iterate 2 (refine Run.pu (v := ?_) (a' := ?_) rfl rfl (Or.inl ⟨by rfl, ?_⟩) ?_ ?_; rotate_left 2; (focus (intro W; go_simp; with_reducible rfl)); (focus (simp only [List.getElem_toArray, List.getElem_cons_succ, List.getElem_cons_zero, Act.put, List.setIfInBounds_toArray, List.set_cons_zero, List.set_cons_succ]; rfl)))
            refine Run.ef rfl (fun K hK => ?_)
            simp only [List.getElem_toArray, List.getElem_cons_succ, List.getElem_cons_zero]
            try simp only [List.setIfInBounds_toArray, List.set_cons_zero, List.set_cons_succ]
            go_wp2_with fail
            refine HC2.out.mono ?_
            rintro e w19 ⟨rfl, rfl⟩
            clear HC2 hct2
            have E2 := As.mk (show IntKind.i64.wrap ((ct1 : Int) - (ct2 : Int)) = (gone : Int) by rw [IntKind.wrap_i64]; omega)
            go_wp2_with fail
            refine hK.out _ _ ⟨HH18.out.rd me0 2 (by simp), HH18.out.rd me0 0 (by simp)⟩ ?_
            clear hK K
            refine Run.pu (v := ?_) (a' := ?_) rfl rfl (Or.inl ⟨by rfl, ?_⟩) ?_ ?_
            rotate_left 2
            · intro W; go_simp; simp only [E2.out]; with_reducible rfl
            · simp only [List.getElem_toArray, List.getElem_cons_succ, List.getElem_cons_zero, Act.put, List.setIfInBounds_toArray, List.set_cons_zero, List.set_cons_succ]; rfl
            iterate 4 (refine Run.pu (v := ?_) (a' := ?_) rfl rfl (Or.inl ⟨by rfl, ?_⟩) ?_ ?_; rotate_left 2; (focus (intro W; go_simp; with_reducible rfl)); (focus (simp only [List.getElem_toArray, List.getElem_cons_succ, List.getElem_cons_zero, Act.put, List.setIfInBounds_toArray, List.set_cons_zero, List.set_cons_succ]; rfl)))
            refine Run.rd (v := ?_) (a' := ?_) rfl rfl (Or.inl ⟨by rfl, ?_⟩) ?_ ?_; rotate_left 2; (focus (rintro W ⟨hW1, hW2⟩; go_simp; with_reducible rfl)); (focus (simp only [List.getElem_toArray, List.getElem_cons_succ, List.getElem_cons_zero, Act.put, List.setIfInBounds_toArray, List.set_cons_zero, List.set_cons_succ]; rfl))
            iterate 2 (refine Run.pu (v := ?_) (a' := ?_) rfl rfl (Or.inl ⟨by rfl, ?_⟩) ?_ ?_; rotate_left 2; (focus (intro W; go_simp; with_reducible rfl)); (focus (simp only [List.getElem_toArray, List.getElem_cons_succ, List.getElem_cons_zero, Act.put, List.setIfInBounds_toArray, List.set_cons_zero, List.set_cons_succ]; rfl)))
            refine Run.nil ?_
            try simp only [List.getElem_toArray, List.getElem_cons_succ, List.getElem_cons_zero]
            try simp only [List.setIfInBounds_toArray, List.set_cons_zero, List.set_cons_succ]
            go_wp2_with fail
            go_roundw
            case rel => exact ⟨k + 1, s2, mem2, by omega, by go_num, IV2, (HH18.out.drop).imp fun W h => h.1⟩
            case measure => simp [intOf]; omega
          · have f7 : ((r7 : Int) == 3) = false := beqF (by omega)
            have f8 : ((k : Int) % 7 != 3) = true := by rw [bne, beqF (by omega)]; rfl
            clear h7 hr7
            go_wp2_with fail
            go_roundw
            case rel => exact ⟨k + 1, s1, mem1, by omega, by go_num, IV1, HH1.out⟩
            case measure => simp [intOf]; omega
        · have e : k = no := by omega
          rw [e]
          clear e hkn hk
          go_wp2_with fail
          go_ret
          exact ⟨rfl, HH.out.toBelow⟩
    · go_enter Tryz.func9, Tryz.ntmps9
      go_wp2_with fail
      refine (top_begun w).mono ?_
      rintro e w1 ⟨rfl, hb⟩
      have HO1 := As.mk ((Own.start (X := []) w).below hb)
      clear hb
      go_wp2_with fail
      go_ret
      exact ⟨rfl, HO1.out.toBelow⟩
  · go_enter Tryz.func9, Tryz.ntmps9
    go_wp2_with fail
    refine (top_begun w).mono ?_
    rintro e w1 ⟨rfl, hb⟩
    have HO1 := As.mk ((Own.start (X := []) w).below hb)
    clear hb
    go_wp2_with fail
    go_ret
    exact ⟨rfl, HO1.out.toBelow⟩
end Go.Proofs.YtmookafmdonopaaGreat.Top
