/- hodmantop.TopApart walked. -/
import Derived.Test.YtmookafmdonopaaGreatM36
namespace Go.Proofs.YtmookafmdonopaaGreat.Top
open Go Go.RowKit
set_option linter.unusedVariables false
set_option linter.unusedSimpArgs false
attribute [local go_sem] max2_int min2_int max_two min_two max_three

set_option maxHeartbeats 8000000 in
set_option maxRecDepth 100000 in
theorem TopApart_walk (w : World) {A A2 : Option Addr} {n c n2 c2 : Nat} (h1 : BIn w A n c) (h2 : BIn w A2 n2 c2) : Calls Tryz.prog 3 #[.slice A n c, .slice A2 n2 c2] w fun e w' => e = .returned (.bool true) ∧ Below w.heap.size w w' := by
  by_cases hn : n ≤ 6
  · by_cases hn2 : n2 ≤ 250
    · obtain ⟨bs, B⟩ := h1.bytes (by omega)
      obtain ⟨bs2, B2⟩ := h2.bytes (by omega)
      have HB := As.mk B
      have HB2 := As.mk B2
      clear h1 h2 B B2
      go_enter Tryz.func3, Tryz.ntmps3
      go_wp2_with fail
      refine (top_begun w).mono ?_
      rintro e w1 ⟨rfl, hb⟩
      have HO1 := As.mk ((Own.start (X := []) w).below hb)
      clear hb
      go_wp2_with fail
      refine (play_Made A n c w1).mono ?_
      rintro e w2 ⟨rfl, rfl⟩
      obtain ⟨p, hp⟩ : ∃ p, p = w1.heap.size := ⟨_, rfl⟩
      obtain ⟨w2, hw2⟩ : ∃ x, x = w1.alloc (.cells #[.slice A n c, .int .i64 0] 73) := ⟨_, rfl⟩
      have ho := HO1.out.box #[.slice A n c, .int .i64 0] 73
      rw [← hw2, ← hp] at ho ⊢
      have HO2 : As (Own [] [(p, PK A n c 0)] (fun _ => True) w w2) := As.mk ho
      clear ho hw2 hp HO1
      go_wp2_with fail
      refine (play_Raw [] (fun _ => True) w w2 p A n c 0 false bs HB.out HO2.out (Nat.zero_le _)).mono ?_
      rintro e w3 ⟨r, rfl, hsm, -, j, -, ho⟩
      obtain ⟨cf, hc, hg, hH, hok⟩ := small_conf r hsm
      have HO3 := As.mk ho.drop
      have HCF := As.mk (And.intro hc (And.intro hg (And.intro hH hok)))
      clear ho HO2 hsm hc hg hH hok
      have hrv : r.v = .agg #[.int .i64 r.g, .int .i64 r.l, .int .i64 r.m, .int .i64 r.p, .int .i64 r.b, .int .i64 r.s] := rfl
      have HO4 := As.mk (HO3.out.box #[.int .i64 r.g, .int .i64 r.l, .int .i64 r.m, .int .i64 r.p, .int .i64 r.b, .int .i64 r.s] 25)
      rw [hrv]
      obtain ⟨g5, hg5⟩ : ∃ g, g = w3.heap.size := ⟨_, rfl⟩
      obtain ⟨w4, hw4⟩ : ∃ x, x = w3.alloc (.cells #[.int .i64 r.g, .int .i64 r.l, .int .i64 r.m, .int .i64 r.p, .int .i64 r.b, .int .i64 r.s] 25) := ⟨_, rfl⟩
      go_wp2_with fail
      have ho := HO4.out
      rw [← hw4, ← hg5] at ho ⊢
      have HO5 : As (Own [] [(g5, EC 25 r.cs)] (fun _ => True) w w4) := As.mk ho
      clear ho hw4 hg5 HO4 HO3 hrv
      refine (heap_New r cf _ _ w w4 HO5.out HCF.out.1 HCF.out.2.1 HCF.out.2.2.1).mono ?_
      rintro e w5 ⟨h, rfl, H⟩
      have HH := As.mk H
      clear H HO5
      go_wp2_with fail
      refine (heap_Conf h cf w5 HH.out.conf).mono ?_
      rintro e w6 ⟨rfl, hb⟩
      have H6 := HH.out.below hb
      have hcv : cf.v = .agg #[.int .i64 cf.G, .int .i64 cf.N, .int .i64 cf.M, .int .i64 cf.L, .int .i64 cf.Page, .int .i64 cf.P, .int .i64 cf.H, .int .i64 cf.Seed] := rfl
      have hbx := H6.box #[.int .i64 cf.G, .int .i64 cf.N, .int .i64 cf.M, .int .i64 cf.L, .int .i64 cf.Page, .int .i64 cf.P, .int .i64 cf.H, .int .i64 cf.Seed] 34
      rw [hcv]
      obtain ⟨g8, hg8⟩ : ∃ g, g = w6.heap.size := ⟨_, rfl⟩
      obtain ⟨w7, hw7⟩ : ∃ x, x = w6.alloc (.cells #[.int .i64 cf.G, .int .i64 cf.N, .int .i64 cf.M, .int .i64 cf.L, .int .i64 cf.Page, .int .i64 cf.P, .int .i64 cf.H, .int .i64 cf.Seed] 34) := ⟨_, rfl⟩
      rw [← hw7, ← hg8] at hbx
      have HH7 : As (HW h cf (Hs.new cf) (List.replicate cf.H 0) [(g8, EC 34 cf.cs), (g5, EC 25 r.cs)] (fun _ => True) w w7) := As.mk hbx
      go_wp2_with fail
      rw [← hw7, ← hg8]
      clear hbx hw7 hg8 hcv H6 hb HH
      refine rgn [(0, 1), (2, 0), (1, 2), (3, 2), (4, 1)] [] (fun W => W.rangeAt g5 0 r.cs) (by kernel_rfl) (by kernel_rfl) (fun _ _ _ d _ h => by cases d <;> exact h) (HH7.out.drew.range me1) ?_
      have HHD := As.mk HH7.out.drew
      obtain ⟨w8, hw8⟩ : ∃ x, x = w7.drew := ⟨_, rfl⟩
      rw [← hw8] at HHD ⊢
      clear hw8 HH7
      refine Run.pu (v := ?_) (a' := ?_) rfl rfl (Or.inl ⟨by rfl, ?_⟩) ?_ ?_; rotate_left 2; (focus (intro W; go_simp; with_reducible rfl)); (focus (simp only [List.getElem_toArray, List.getElem_cons_succ, List.getElem_cons_zero, Act.put, List.setIfInBounds_toArray, List.set_cons_zero, List.set_cons_succ]; rfl))
      refine Run.rd (v := .agg r.cs.toArray) (a' := ?_) rfl rfl (yieldsIf_load_mid rfl 25 (.tmp 5) rfl g5 0 rfl r.cs _ (fun W hW => hW) Tryz.underlying25 rfl size25) ?_ ?_
      rotate_left 1
      · simp only [List.getElem_toArray, List.getElem_cons_succ, List.getElem_cons_zero, Act.put, List.setIfInBounds_toArray, List.set_cons_zero, List.set_cons_succ]; rfl
      refine Run.ef rfl (fun K hK => ?_)
      simp only [List.getElem_toArray, List.getElem_cons_succ, List.getElem_cons_zero]
      try simp only [List.setIfInBounds_toArray, List.set_cons_zero, List.set_cons_succ]
      go_wp2_with fail
      refine (play_Made A2 n2 c2 w8).mono ?_
      rintro e w9 ⟨rfl, rfl⟩
      have hbx := HHD.out.box #[.slice A2 n2 c2, .int .i64 0] 73
      have hbo := HHD.out.below ((Below.refl w8.heap.size w8).alloc (Nat.le_refl _) (.cells #[.slice A2 n2 c2, .int .i64 0] 73))
      obtain ⟨p2, hp2⟩ : ∃ g, g = w8.heap.size := ⟨_, rfl⟩
      obtain ⟨w9, hw9⟩ : ∃ x, x = w8.alloc (.cells #[.slice A2 n2 c2, .int .i64 0] 73) := ⟨_, rfl⟩
      rw [← hw9] at hbo
      rw [← hw9, ← hp2] at hbx ⊢
      have HH9 := As.mk hbo
      have HP9 : As (HW h cf (Hs.new cf) (List.replicate cf.H 0) ((p2, PK A2 n2 c2 0) :: [(g8, EC 34 cf.cs), (g5, EC 25 r.cs)]) (fun _ => True) w w9) := As.mk hbx
      clear hbx hbo hw9 hp2 HHD
      go_wp2_with fail
      refine hK.out _ _ (HH9.out.range me1) ?_
      clear hK K
      refine Run.ef rfl (fun K hK => ?_)
      simp only [List.getElem_toArray, List.getElem_cons_succ, List.getElem_cons_zero]
      try simp only [List.setIfInBounds_toArray, List.set_cons_zero, List.set_cons_succ]
      go_wp2_with fail
      refine (heap_Ops HH9.out p2 A2 n2 c2 0 r HCF.out.1 HCF.out.2.2.2 HCF.out.2.1 bs2 HB2.out HP9.out (Nat.zero_le _) 80 (by decide)).mono ?_
      rintro e w10 ⟨A3, c3, ops, rfl, hops, hok, hh⟩
      have HH10 := As.mk (hh.imp (R' := fun W => Row W (.slice A3 ops.length c3) ops.length (opV ops)) (fun W h => h.2))
      have HOK := As.mk hok
      clear hh hok HH9 HP9
      go_wp2_with fail
      refine hK.out _ _ (HH10.out.range me1) ?_
      clear hK K
      refine Run.pu (v := ?_) (a' := ?_) rfl rfl (Or.inl ⟨by rfl, ?_⟩) ?_ ?_; rotate_left 2; (focus (intro W; go_simp; with_reducible rfl)); (focus (simp only [List.getElem_toArray, List.getElem_cons_succ, List.getElem_cons_zero, Act.put, List.setIfInBounds_toArray, List.set_cons_zero, List.set_cons_succ]; rfl))
      refine Run.nil ?_
      try simp only [List.getElem_toArray, List.getElem_cons_succ, List.getElem_cons_zero]
      try simp only [List.setIfInBounds_toArray, List.set_cons_zero, List.set_cons_succ]
      go_wp2_with fail
      obtain ⟨no, hno⟩ : ∃ x, x = ops.length := ⟨_, rfl⟩
      rw [← hno] at hops HH10 ⊢
      have HNO := As.mk hno
      clear hno
      go_loopw [10] (fun i wr => ∃ (k : Nat) (s : Hs) (mem : List Nat), k ≤ no ∧ i = .int .i64 (k : Int) ∧ As (Iv cf s ∧ Ci cf s.bl) ∧ HW h cf s mem [(g8, EC 34 cf.cs), (g5, EC 25 r.cs)] (fun W => Row W (.slice A3 no c3) no (opV ops)) w wr) (fun i _ => no - (intOf i).toNat)
      case atStart => exact ⟨0, Hs.new cf, _, Nat.zero_le _, rfl, ⟨new_iv HCF.out.2.1 HCF.out.2.2.1⟩, HH10.out⟩
      case round =>
        clear HH10
        obtain ⟨k, s, mem, hk, rfl, IV, hh⟩ := hrel
        have HH := As.mk hh
        clear hh
        by_cases hkn : k < no
        · obtain ⟨o, ho⟩ : ∃ o, ops[k]? = some o := ⟨ops[k]'(by have := HNO.out; omega), List.getElem?_eq_getElem _⟩
          have hok := HOK.out o (List.mem_of_getElem? ho)
          have hro := HH.out.now
          rw [HNO.out] at hro
          obtain ⟨b3, q3, rfl, hrg⟩ := ops_range hro k o ho
          have HRG := As.mk hrg
          have HDO := As.mk (show Calls Tryz.prog 16 #[.pointer (some ⟨h, 0, none⟩), .agg o.cs.toArray] wr _ from heap_Do h cf s mem _ _ w wr o HH.out IV.out.1 hok)
          have IV1 := As.mk (do_ok IV.out.1 IV.out.2 mem hok)
          clear ho hok hro hrg
          go_wp2_with (refine wpList_load_mid rfl 42 (.tmp 60) rfl b3 (q3 + k * 6) rfl o.cs _ HRG.out Tryz.underlying42 rfl size42 ?_)
          refine HDO.out.mono ?_
          rintro e w11 ⟨rfl, mem1, H1, -⟩
          obtain ⟨s1, hs1⟩ : ∃ x, x = (doP cf s mem o).1 := ⟨_, rfl⟩
          rw [← hs1] at H1 IV1
          have HH1 := As.mk H1
          clear H1 hs1 HDO HRG HH
          go_wp2_with fail
          refine (heap_Blocks h cf s1 mem1 _ _ w w11 HH1.out IV1.out.1).mono ?_
          rintro e w12 ⟨v, rfl, hfr, hb⟩
          obtain ⟨A4, c4, rfl⟩ := hfr.now.form
          have H2 := HH1.out.result hb (R' := fun W => Row W (.slice A4 s1.bl.length c4) s1.bl.length (mbV (s1.bl.map (Bk.mb cf)))) (fun W hW => hfr.row hW)
          obtain ⟨nb, hnb⟩ : ∃ x, x = s1.bl.length := ⟨_, rfl⟩
          rw [← hnb] at H2 ⊢
          have HH2 := As.mk H2
          have HNB := As.mk hnb
          have hnb1 : nb ≤ 100000 := by rw [hnb]; have := IV1.out.1.inv.len IV1.out.1.good; have := IV1.out.1.small; omega
          clear hb hfr H2 hnb HH1
          go_wp2_with fail
          go_loopw [12, 13, 14] (fun en lv i wr => ∃ (q e1 l1 : Nat) (mem2 : List Nat), q ≤ nb ∧ i = .int .i64 (q : Int) ∧ en = .int .i64 (e1 : Int) ∧ lv = .int .i64 (l1 : Int) ∧ As ((∀ b, s1.bl[q]? = some b → e1 ≤ b.at_) ∧ l1 = sumB cf (s1.bl.take q)) ∧ HW h cf s1 mem2 [(g8, EC 34 cf.cs), (g5, EC 25 r.cs)] (fun W => Row W (.slice (some ⟨b3, q3, none⟩) no c3) no (opV ops) ∧ Row W (.slice A4 nb c4) nb (mbV (s1.bl.map (Bk.mb cf)))) w wr) (fun _ _ i _ => nb - (intOf i).toNat)
          case atStart => exact ⟨0, 0, 0, mem1, Nat.zero_le _, rfl, rfl, rfl, ⟨⟨fun _ _ => Nat.zero_le _, by simp [sumB]⟩⟩, HH2.out⟩
          case round =>
            clear HH2
            obtain ⟨q, e1, l1, mem2, hq, rfl, rfl, rfl, HP, hh⟩ := hrel
            have HH := As.mk hh
            clear hh
            by_cases hqn : q < nb
            · obtain ⟨b, hb⟩ : ∃ b, s1.bl[q]? = some b := ⟨s1.bl[q]'(by have := HNB.out; omega), List.getElem?_eq_getElem _⟩
              have hbm := List.mem_of_getElem? hb
              obtain ⟨b4, o4, rfl, -, -⟩ := HH.out.now.2.cell' (by rw [mbV_len, List.length_map]; have := HNB.out; omega)
              obtain ⟨at_, hat⟩ : ∃ x, x = b.at_ := ⟨_, rfl⟩
              obtain ⟨ch, hch⟩ : ∃ x, x = b.ch cf := ⟨_, rfl⟩
              obtain ⟨as_, has⟩ : ∃ x, x = b.asked := ⟨_, rfl⟩
              have HY : As (∀ (mem' : List Nat) (W : World), HW h cf s1 mem' [(g8, EC 34 cf.cs), (g5, EC 25 r.cs)] (fun W => Row W (.slice (some ⟨b3, q3, none⟩) no c3) no (opV ops) ∧ Row W (.slice (some ⟨b4, o4, none⟩) nb c4) nb (mbV (s1.bl.map (Bk.mb cf)))) w W → W.cell? ⟨b4, o4 + q * 3, none⟩ = some (.int .i64 (at_ : Int)) ∧ W.cell? ⟨b4, o4 + q * 3 + 1, none⟩ = some (.int .i64 (ch : Int)) ∧ W.cell? ⟨b4, o4 + q * 3 + 2, none⟩ = some (.int .i64 (as_ : Int)) ∧ W.cell? ⟨g8, 6, none⟩ = some (.int .i64 (cf.H : Int)) ∧ W.cell? ⟨g8, 2, none⟩ = some (.int .i64 (cf.M : Int)) ∧ W.rangeAt g8 0 cf.cs) := ⟨fun mem' W hW => by
                obtain ⟨y0, y1, y2⟩ := blk_cells hW.now.2 hb
                rw [← hat] at y0
                rw [← hch] at y1
                rw [← has] at y2
                exact ⟨y0, y1, y2, hW.rd me0 6 (by simp [Cf.cs]), hW.rd me0 2 (by simp [Cf.cs]), hW.range me0⟩⟩
              have hfit : at_ + ch ≤ cf.H := by rw [hat, hch]; exact IV1.out.1.inv.fits b hbm
              have hmul : at_ % ch = 0 := by rw [hat, hch]; exact Nat.mod_eq_zero_of_dvd (IV1.out.1.inv.mul b hbm)
              have hasd : as_ ≤ ch := by rw [has, hch]; exact IV1.out.1.inv.asked b hbm
              have hch1 : 1 ≤ ch := by rw [hch]; exact ch_pos HCF.out.2.1 b
              have hen : e1 ≤ at_ := by rw [hat]; exact HP.out.1 b hb
              have hH := HCF.out.2.2.1
              have HSH := As.mk (fun (W : World) => show Calls Tryz.prog 18 #[.agg cf.cs.toArray, .int .i64 (ch : Int)] W (fun e w' => e = .returned (.tuple #[.int .i64 (b.k : Int), .bool true]) ∧ Below W.heap.size W w') from by
                have h1 := conf_Shift cf HCF.out.2.1 b.k W (IV1.out.1.inv.k b hbm)
                rw [show cf.G * 2 ^ b.k = ch from hch.symm] at h1
                exact h1)
              have HUS := As.mk (fun (mem' : List Nat) (L : List (Nat × (Obj → Prop))) (R : World → Prop) (W : World) (H : HW h cf s1 mem' L R w W) => show Calls Tryz.prog 16 #[.pointer (some ⟨h, 0, none⟩), .agg #[.int .i64 6, .int .i64 (at_ : Int), .int .i64 0, .int .i64 0, .int .i64 0, .int .u8 0]] W (fun e w' => e = .returned (.agg #[.int .i64 0, .int .i64 0, .int .i64 (ch : Int), .int .u8 0, .int .i64 0, .int .i64 0, .int .i64 0, .int .i64 0]) ∧ ∃ mem'', HW h cf s1 mem'' L R w w') from by
                have h1 := heap_Do h cf s1 mem' L R w W ⟨6, b.at_, 0, 0, 0, 0⟩ H IV1.out.1 (ok_usable _)
                rw [← hat] at h1
                refine h1.mono ?_
                rintro e w' ⟨he, m2, hm, -⟩
                rw [hat, doP_usable IV1.out.1 mem' hbm] at he hm
                refine ⟨?_, m2, hm⟩
                rw [he, hch]
                rfl)
              have HNX : As ((∀ b', s1.bl[q + 1]? = some b' → at_ + ch ≤ b'.at_) ∧ l1 + ch = sumB cf (s1.bl.take (q + 1))) := ⟨⟨fun b' hb' => by rw [hat, hch]; exact next_apart IV1.out.1.inv hb hb', by rw [sum_take hb, HP.out.2, hch]⟩⟩
              obtain ⟨kk, hkk⟩ : ∃ x, x = b.k := ⟨_, rfl⟩
              rw [← hkk] at HSH
              have hsl : l1 + ch ≤ 65536 := by
                have h1 := HNX.out.2
                have h2 : sumB cf (s1.bl.take (q + 1)) ≤ sumB cf s1.bl := by
                  have h3 : sumB cf s1.bl = sumB cf (s1.bl.take (q + 1)) + sumB cf (s1.bl.drop (q + 1)) := by
                    unfold sumB
                    rw [← List.sum_append, ← List.map_append, List.take_append_drop]
                  omega
                have h4 := IV1.out.1.live
                have h5 := HCF.out.2.1.hm
                omega
              clear hat hch has hb hbm hkk
              obtain ⟨y0, y1, y2, yH, yM, yR⟩ := HY.out mem2 wr HH.out
              go_wp2_with fail
              refine rgn [(0, 0), (1, 1), (2, 1), (3, 1), (4, 1), (5, 0), (6, 2), (7, 1), (8, 1), (9, 1), (10, 1), (11, 1)] [] (fun W => W.rangeAt g8 0 cf.cs ∧ W.cell? ⟨b4, o4 + q * 3 + 1, none⟩ = some (.int .i64 (ch : Int))) (by kernel_rfl) (by kernel_rfl) (fun _ _ _ d _ h => by cases d <;> exact h) ⟨yR, y1⟩ ?_
              have HHD := As.mk HH.out.drew
              obtain ⟨wd, hwd⟩ : ∃ x, x = wr.drew := ⟨_, rfl⟩
              rw [← hwd] at HHD ⊢
              clear hwd HH y0 y1 y2 yH yM yR
              refine Run.rd (v := .agg cf.cs.toArray) (a' := ?_) rfl rfl (yieldsIf_load_mid rfl 34 (.tmp 8) rfl g8 0 rfl cf.cs _ (fun W hW => hW.1) Tryz.underlying34 rfl size34) ?_ ?_
              rotate_left 1
              · simp only [List.getElem_toArray, List.getElem_cons_succ, List.getElem_cons_zero, Act.put, List.setIfInBounds_toArray, List.set_cons_zero, List.set_cons_succ]; rfl
              iterate 4 (refine Run.pu (v := ?_) (a' := ?_) rfl rfl (Or.inl ⟨by rfl, ?_⟩) ?_ ?_; rotate_left 2; (focus (intro W; go_simp; with_reducible rfl)); (focus (simp only [List.getElem_toArray, List.getElem_cons_succ, List.getElem_cons_zero, Act.put, List.setIfInBounds_toArray, List.set_cons_zero, List.set_cons_succ]; rfl)))
              refine Run.rd (v := ?_) (a' := ?_) rfl rfl (Or.inl ⟨by rfl, ?_⟩) ?_ ?_; rotate_left 2; (focus (rintro W ⟨hW1, hW2⟩; go_simp; with_reducible rfl)); (focus (simp only [List.getElem_toArray, List.getElem_cons_succ, List.getElem_cons_zero, Act.put, List.setIfInBounds_toArray, List.set_cons_zero, List.set_cons_succ]; rfl))
              refine Run.ef rfl (fun K hK => ?_)
              simp only [List.getElem_toArray, List.getElem_cons_succ, List.getElem_cons_zero]
              try simp only [List.setIfInBounds_toArray, List.set_cons_zero, List.set_cons_succ]
              go_wp2_with fail
              refine (HSH.out wd).mono ?_
              rintro e w14 ⟨rfl, hb⟩
              have HH14 := As.mk (HHD.out.below hb)
              clear hb HHD
              obtain ⟨y0, y1, y2, yH, yM, yR⟩ := HY.out mem2 w14 HH14.out
              go_wp2_with fail
              refine hK.out _ _ ⟨yR, y1⟩ ?_
              clear hK K
              iterate 5 (refine Run.pu (v := ?_) (a' := ?_) rfl rfl (Or.inl ⟨by rfl, ?_⟩) ?_ ?_; rotate_left 2; (focus (intro W; go_simp; with_reducible rfl)); (focus (simp only [List.getElem_toArray, List.getElem_cons_succ, List.getElem_cons_zero, Act.put, List.setIfInBounds_toArray, List.set_cons_zero, List.set_cons_succ]; rfl)))
              refine Run.nil ?_
              try simp only [List.getElem_toArray, List.getElem_cons_succ, List.getElem_cons_zero]
              try simp only [List.setIfInBounds_toArray, List.set_cons_zero, List.set_cons_succ]
              go_wp2_with fail
              have f1 : ((kk : Int) < 0) = False := eq_false (by omega)
              have f2 : ((at_ : Int) < (e1 : Int)) = False := eq_false (by omega)
              have f3 : ((ch : Int) = 0) = False := eq_false (by omega)
              have f4 : (ch = 0) = False := eq_false (by omega)
              have f5 : ((ch : Int) == 0) = false := beqF (by omega)
              obtain ⟨m, hm⟩ : ∃ m, m = at_ + ch := ⟨_, rfl⟩
              have E1 := As.mk (show IntKind.i64.wrap ((at_ : Int) + (ch : Int)) = (m : Int) by rw [IntKind.wrap_i64]; omega)
              have f6 : ((cf.H : Int) < (m : Int)) = False := eq_false (by omega)
              have f7 : ((ch : Int) < (as_ : Int)) = False := eq_false (by omega)
              have HM := As.mk (show Int.tmod (at_ : Int) (ch : Int) = 0 by rw [show Int.tmod (at_ : Int) (ch : Int) = ((at_ % ch : Nat) : Int) from rfl, hmul]; rfl)
              have HM2 := As.mk hm
              clear hm hmul
              refine rgn [(0, 1), (1, 1), (2, 1), (3, 1), (4, 1), (5, 1), (6, 1), (7, 1), (8, 1), (9, 1), (10, 1), (11, 0), (12, 1), (13, 1), (14, 1), (15, 1), (16, 1), (17, 1), (18, 1), (19, 1), (20, 0), (21, 1), (22, 1), (23, 1), (24, 1), (25, 0), (26, 1), (27, 1), (28, 1), (29, 1), (30, 1), (31, 1), (32, 1), (33, 1), (34, 0), (35, 1), (36, 1), (37, 1), (38, 1), (39, 0), (40, 1), (41, 1), (42, 0), (43, 1), (44, 1), (45, 1), (46, 1), (47, 1), (48, 1), (49, 1), (50, 0), (51, 1), (52, 1), (53, 1), (54, 1), (55, 0), (56, 1), (57, 1)] [] (fun W => W.cell? ⟨b4, o4 + q * 3, none⟩ = some (.int .i64 (at_ : Int)) ∧ W.cell? ⟨b4, o4 + q * 3 + 1, none⟩ = some (.int .i64 (ch : Int)) ∧ W.cell? ⟨b4, o4 + q * 3 + 2, none⟩ = some (.int .i64 (as_ : Int)) ∧ W.cell? ⟨g8, 6, none⟩ = some (.int .i64 (cf.H : Int))) (by kernel_rfl) (by kernel_rfl) (fun _ _ _ d _ h => by cases d <;> exact h) ⟨y0, y1, y2, yH⟩ ?_
              have HHD := As.mk HH14.out.drew
              obtain ⟨wd, hwd⟩ : ∃ x, x = w14.drew := ⟨_, rfl⟩
              rw [← hwd] at HHD ⊢
              clear hwd HH14 y0 y1 y2 yH yM yR
              iterate 11 (refine Run.pu (v := ?_) (a' := ?_) rfl rfl (Or.inl ⟨by rfl, ?_⟩) ?_ ?_; rotate_left 2; (focus (intro W; go_simp; with_reducible rfl)); (focus (simp only [List.getElem_toArray, List.getElem_cons_succ, List.getElem_cons_zero, Act.put, List.setIfInBounds_toArray, List.set_cons_zero, List.set_cons_succ]; rfl)))
              refine Run.rd (v := ?_) (a' := ?_) rfl rfl (Or.inl ⟨by rfl, ?_⟩) ?_ ?_; rotate_left 2; (focus (rintro W ⟨hW1, hW2, hW3, hW4⟩; go_simp; with_reducible rfl)); (focus (simp only [List.getElem_toArray, List.getElem_cons_succ, List.getElem_cons_zero, Act.put, List.setIfInBounds_toArray, List.set_cons_zero, List.set_cons_succ]; rfl))
              iterate 8 (refine Run.pu (v := ?_) (a' := ?_) rfl rfl (Or.inl ⟨by rfl, ?_⟩) ?_ ?_; rotate_left 2; (focus (intro W; go_simp; with_reducible rfl)); (focus (simp only [List.getElem_toArray, List.getElem_cons_succ, List.getElem_cons_zero, Act.put, List.setIfInBounds_toArray, List.set_cons_zero, List.set_cons_succ]; rfl)))
              refine Run.rd (v := ?_) (a' := ?_) rfl rfl (Or.inl ⟨by rfl, ?_⟩) ?_ ?_; rotate_left 2; (focus (rintro W ⟨hW1, hW2, hW3, hW4⟩; go_simp; with_reducible rfl)); (focus (simp only [List.getElem_toArray, List.getElem_cons_succ, List.getElem_cons_zero, Act.put, List.setIfInBounds_toArray, List.set_cons_zero, List.set_cons_succ]; rfl))
              iterate 4 (refine Run.pu (v := ?_) (a' := ?_) rfl rfl (Or.inl ⟨by rfl, ?_⟩) ?_ ?_; rotate_left 2; (focus (intro W; go_simp; with_reducible rfl)); (focus (simp only [List.getElem_toArray, List.getElem_cons_succ, List.getElem_cons_zero, Act.put, List.setIfInBounds_toArray, List.set_cons_zero, List.set_cons_succ]; rfl)))
              refine Run.rd (v := ?_) (a' := ?_) rfl rfl (Or.inl ⟨by rfl, ?_⟩) ?_ ?_; rotate_left 2; (focus (rintro W ⟨hW1, hW2, hW3, hW4⟩; go_simp; with_reducible rfl)); (focus (simp only [List.getElem_toArray, List.getElem_cons_succ, List.getElem_cons_zero, Act.put, List.setIfInBounds_toArray, List.set_cons_zero, List.set_cons_succ]; rfl))
              refine Run.pu (v := ?_) (a' := ?_) rfl rfl (Or.inl ⟨by rfl, ?_⟩) ?_ ?_
              rotate_left 2
              · intro W; go_simp; simp only [HM.out]; with_reducible rfl
              · simp only [List.getElem_toArray, List.getElem_cons_succ, List.getElem_cons_zero, Act.put, List.setIfInBounds_toArray, List.set_cons_zero, List.set_cons_succ]; rfl
              iterate 7 (refine Run.pu (v := ?_) (a' := ?_) rfl rfl (Or.inl ⟨by rfl, ?_⟩) ?_ ?_; rotate_left 2; (focus (intro W; go_simp; with_reducible rfl)); (focus (simp only [List.getElem_toArray, List.getElem_cons_succ, List.getElem_cons_zero, Act.put, List.setIfInBounds_toArray, List.set_cons_zero, List.set_cons_succ]; rfl)))
              refine Run.rd (v := ?_) (a' := ?_) rfl rfl (Or.inl ⟨by rfl, ?_⟩) ?_ ?_; rotate_left 2; (focus (rintro W ⟨hW1, hW2, hW3, hW4⟩; go_simp; with_reducible rfl)); (focus (simp only [List.getElem_toArray, List.getElem_cons_succ, List.getElem_cons_zero, Act.put, List.setIfInBounds_toArray, List.set_cons_zero, List.set_cons_succ]; rfl))
              iterate 4 (refine Run.pu (v := ?_) (a' := ?_) rfl rfl (Or.inl ⟨by rfl, ?_⟩) ?_ ?_; rotate_left 2; (focus (intro W; go_simp; with_reducible rfl)); (focus (simp only [List.getElem_toArray, List.getElem_cons_succ, List.getElem_cons_zero, Act.put, List.setIfInBounds_toArray, List.set_cons_zero, List.set_cons_succ]; rfl)))
              refine Run.rd (v := ?_) (a' := ?_) rfl rfl (Or.inl ⟨by rfl, ?_⟩) ?_ ?_; rotate_left 2; (focus (rintro W ⟨hW1, hW2, hW3, hW4⟩; go_simp; with_reducible rfl)); (focus (simp only [List.getElem_toArray, List.getElem_cons_succ, List.getElem_cons_zero, Act.put, List.setIfInBounds_toArray, List.set_cons_zero, List.set_cons_succ]; rfl))
              refine Run.pu (v := ?_) (a' := ?_) rfl rfl (Or.inl ⟨by rfl, ?_⟩) ?_ ?_
              rotate_left 2
              · intro W; go_simp; simp only [E1.out]; with_reducible rfl
              · simp only [List.getElem_toArray, List.getElem_cons_succ, List.getElem_cons_zero, Act.put, List.setIfInBounds_toArray, List.set_cons_zero, List.set_cons_succ]; rfl
              refine Run.pu (v := ?_) (a' := ?_) rfl rfl (Or.inl ⟨by rfl, ?_⟩) ?_ ?_; rotate_left 2; (focus (intro W; go_simp; with_reducible rfl)); (focus (simp only [List.getElem_toArray, List.getElem_cons_succ, List.getElem_cons_zero, Act.put, List.setIfInBounds_toArray, List.set_cons_zero, List.set_cons_succ]; rfl))
              refine Run.rd (v := ?_) (a' := ?_) rfl rfl (Or.inl ⟨by rfl, ?_⟩) ?_ ?_; rotate_left 2; (focus (rintro W ⟨hW1, hW2, hW3, hW4⟩; go_simp; with_reducible rfl)); (focus (simp only [List.getElem_toArray, List.getElem_cons_succ, List.getElem_cons_zero, Act.put, List.setIfInBounds_toArray, List.set_cons_zero, List.set_cons_succ]; rfl))
              iterate 7 (refine Run.pu (v := ?_) (a' := ?_) rfl rfl (Or.inl ⟨by rfl, ?_⟩) ?_ ?_; rotate_left 2; (focus (intro W; go_simp; with_reducible rfl)); (focus (simp only [List.getElem_toArray, List.getElem_cons_succ, List.getElem_cons_zero, Act.put, List.setIfInBounds_toArray, List.set_cons_zero, List.set_cons_succ]; rfl)))
              refine Run.rd (v := ?_) (a' := ?_) rfl rfl (Or.inl ⟨by rfl, ?_⟩) ?_ ?_; rotate_left 2; (focus (rintro W ⟨hW1, hW2, hW3, hW4⟩; go_simp; with_reducible rfl)); (focus (simp only [List.getElem_toArray, List.getElem_cons_succ, List.getElem_cons_zero, Act.put, List.setIfInBounds_toArray, List.set_cons_zero, List.set_cons_succ]; rfl))
              iterate 4 (refine Run.pu (v := ?_) (a' := ?_) rfl rfl (Or.inl ⟨by rfl, ?_⟩) ?_ ?_; rotate_left 2; (focus (intro W; go_simp; with_reducible rfl)); (focus (simp only [List.getElem_toArray, List.getElem_cons_succ, List.getElem_cons_zero, Act.put, List.setIfInBounds_toArray, List.set_cons_zero, List.set_cons_succ]; rfl)))
              refine Run.rd (v := ?_) (a' := ?_) rfl rfl (Or.inl ⟨by rfl, ?_⟩) ?_ ?_; rotate_left 2; (focus (rintro W ⟨hW1, hW2, hW3, hW4⟩; go_simp; with_reducible rfl)); (focus (simp only [List.getElem_toArray, List.getElem_cons_succ, List.getElem_cons_zero, Act.put, List.setIfInBounds_toArray, List.set_cons_zero, List.set_cons_succ]; rfl))
              iterate 2 (refine Run.pu (v := ?_) (a' := ?_) rfl rfl (Or.inl ⟨by rfl, ?_⟩) ?_ ?_; rotate_left 2; (focus (intro W; go_simp; with_reducible rfl)); (focus (simp only [List.getElem_toArray, List.getElem_cons_succ, List.getElem_cons_zero, Act.put, List.setIfInBounds_toArray, List.set_cons_zero, List.set_cons_succ]; rfl)))
              obtain ⟨y0, y1, y2, yH, yM, yR⟩ := HY.out mem2 wd HHD.out
              refine Run.nil ?_
              try simp only [List.getElem_toArray, List.getElem_cons_succ, List.getElem_cons_zero]
              try simp only [List.setIfInBounds_toArray, List.set_cons_zero, List.set_cons_succ]
              go_wp2_with fail
              refine (HUS.out mem2 _ _ wd HHD.out).mono ?_
              rintro e w15 ⟨rfl, mem3, H3⟩
              have hbx := H3.box #[.int .i64 0, .int .i64 0, .int .i64 (ch : Int), .int .u8 0, .int .i64 0, .int .i64 0, .int .i64 0, .int .i64 0] 39
              obtain ⟨g17, hg17⟩ : ∃ g, g = w15.heap.size := ⟨_, rfl⟩
              obtain ⟨w16, hw16⟩ : ∃ x, x = w15.alloc (.cells #[.int .i64 0, .int .i64 0, .int .i64 (ch : Int), .int .u8 0, .int .i64 0, .int .i64 0, .int .i64 0, .int .i64 0] 39) := ⟨_, rfl⟩
              rw [← hg17, ← hw16] at hbx
              have HB16 := As.mk hbx
              have HH16 := As.mk hbx.drop
              clear hbx HHD y0 y1 y2 yH yM yR H3
              go_wp2_with fail
              rw [← hg17, ← hw16]
              clear hg17 hw16
              have hS : w16.drew.cell? ⟨g17, 0, none⟩ = some (.int .i64 0) ∧ w16.drew.cell? ⟨g17, 2, none⟩ = some (.int .i64 (ch : Int)) ∧ w16.drew.cell? ⟨b4, o4 + q * 3 + 1, none⟩ = some (.int .i64 (ch : Int)) := ⟨HB16.out.drew.rd me0 0 (by simp), HB16.out.drew.rd me0 2 (by simp), (HY.out mem3 _ HH16.out.drew).2.1⟩
              refine rgn [(0, 1), (1, 0), (2, 1), (3, 1), (4, 1), (5, 0), (6, 1), (7, 1), (8, 1), (9, 1), (10, 0), (11, 1), (12, 1)] [] (fun W => W.cell? ⟨g17, 0, none⟩ = some (.int .i64 0) ∧ W.cell? ⟨g17, 2, none⟩ = some (.int .i64 (ch : Int)) ∧ W.cell? ⟨b4, o4 + q * 3 + 1, none⟩ = some (.int .i64 (ch : Int))) (by kernel_rfl) (by kernel_rfl) (fun _ _ _ d _ h => by cases d <;> exact h) hS ?_
              have HHD := As.mk HH16.out.drew
              obtain ⟨wd2, hwd⟩ : ∃ x, x = w16.drew := ⟨_, rfl⟩
              rw [← hwd] at HHD ⊢
              clear hwd HH16 HB16 hS
              refine Run.pu (v := ?_) (a' := ?_) rfl rfl (Or.inl ⟨by rfl, ?_⟩) ?_ ?_; rotate_left 2; (focus (intro W; go_simp; with_reducible rfl)); (focus (simp only [List.getElem_toArray, List.getElem_cons_succ, List.getElem_cons_zero, Act.put, List.setIfInBounds_toArray, List.set_cons_zero, List.set_cons_succ]; rfl))
              refine Run.rd (v := ?_) (a' := ?_) rfl rfl (Or.inl ⟨by rfl, ?_⟩) ?_ ?_; rotate_left 2; (focus (rintro W ⟨hW1, hW2, hW3⟩; go_simp; with_reducible rfl)); (focus (simp only [List.getElem_toArray, List.getElem_cons_succ, List.getElem_cons_zero, Act.put, List.setIfInBounds_toArray, List.set_cons_zero, List.set_cons_succ]; rfl))
              iterate 3 (refine Run.pu (v := ?_) (a' := ?_) rfl rfl (Or.inl ⟨by rfl, ?_⟩) ?_ ?_; rotate_left 2; (focus (intro W; go_simp; with_reducible rfl)); (focus (simp only [List.getElem_toArray, List.getElem_cons_succ, List.getElem_cons_zero, Act.put, List.setIfInBounds_toArray, List.set_cons_zero, List.set_cons_succ]; rfl)))
              refine Run.rd (v := ?_) (a' := ?_) rfl rfl (Or.inl ⟨by rfl, ?_⟩) ?_ ?_; rotate_left 2; (focus (rintro W ⟨hW1, hW2, hW3⟩; go_simp; with_reducible rfl)); (focus (simp only [List.getElem_toArray, List.getElem_cons_succ, List.getElem_cons_zero, Act.put, List.setIfInBounds_toArray, List.set_cons_zero, List.set_cons_succ]; rfl))
              iterate 4 (refine Run.pu (v := ?_) (a' := ?_) rfl rfl (Or.inl ⟨by rfl, ?_⟩) ?_ ?_; rotate_left 2; (focus (intro W; go_simp; with_reducible rfl)); (focus (simp only [List.getElem_toArray, List.getElem_cons_succ, List.getElem_cons_zero, Act.put, List.setIfInBounds_toArray, List.set_cons_zero, List.set_cons_succ]; rfl)))
              refine Run.rd (v := ?_) (a' := ?_) rfl rfl (Or.inl ⟨by rfl, ?_⟩) ?_ ?_; rotate_left 2; (focus (rintro W ⟨hW1, hW2, hW3⟩; go_simp; with_reducible rfl)); (focus (simp only [List.getElem_toArray, List.getElem_cons_succ, List.getElem_cons_zero, Act.put, List.setIfInBounds_toArray, List.set_cons_zero, List.set_cons_succ]; rfl))
              iterate 2 (refine Run.pu (v := ?_) (a' := ?_) rfl rfl (Or.inl ⟨by rfl, ?_⟩) ?_ ?_; rotate_left 2; (focus (intro W; go_simp; with_reducible rfl)); (focus (simp only [List.getElem_toArray, List.getElem_cons_succ, List.getElem_cons_zero, Act.put, List.setIfInBounds_toArray, List.set_cons_zero, List.set_cons_succ]; rfl)))
              refine Run.nil ?_
              try simp only [List.getElem_toArray, List.getElem_cons_succ, List.getElem_cons_zero]
              try simp only [List.setIfInBounds_toArray, List.set_cons_zero, List.set_cons_succ]
              go_wp2_with fail
              obtain ⟨y0, y1, y2, yH, yM, yR⟩ := HY.out mem3 wd2.drew HHD.out.drew
              obtain ⟨l2, hl2⟩ : ∃ x, x = l1 + ch := ⟨_, rfl⟩
              have E2 := As.mk (show IntKind.i64.wrap ((l1 : Int) + (ch : Int)) = (l2 : Int) by rw [IntKind.wrap_i64]; omega)
              have HL2 := As.mk hl2
              clear hl2
              refine rgn [(0, 1), (1, 1), (2, 1), (3, 1), (4, 0), (5, 1), (6, 1), (7, 1), (8, 1), (9, 0), (10, 1), (11, 1), (12, 1), (13, 1), (14, 1), (15, 1), (16, 0), (17, 1), (18, 1), (19, 1)] [] (fun W => W.cell? ⟨b4, o4 + q * 3, none⟩ = some (.int .i64 (at_ : Int)) ∧ W.cell? ⟨b4, o4 + q * 3 + 1, none⟩ = some (.int .i64 (ch : Int))) (by kernel_rfl) (by kernel_rfl) (fun _ _ _ d _ h => by cases d <;> exact h) ⟨y0, y1⟩ ?_
              have HHE := As.mk HHD.out.drew
              obtain ⟨wd3, hwd⟩ : ∃ x, x = wd2.drew := ⟨_, rfl⟩
              rw [← hwd] at HHE ⊢
              clear hwd HHD y0 y1 y2 yH yM yR
              iterate 4 (refine Run.pu (v := ?_) (a' := ?_) rfl rfl (Or.inl ⟨by rfl, ?_⟩) ?_ ?_; rotate_left 2; (focus (intro W; go_simp; with_reducible rfl)); (focus (simp only [List.getElem_toArray, List.getElem_cons_succ, List.getElem_cons_zero, Act.put, List.setIfInBounds_toArray, List.set_cons_zero, List.set_cons_succ]; rfl)))
              refine Run.rd (v := ?_) (a' := ?_) rfl rfl (Or.inl ⟨by rfl, ?_⟩) ?_ ?_; rotate_left 2; (focus (rintro W ⟨hW1, hW2⟩; go_simp; with_reducible rfl)); (focus (simp only [List.getElem_toArray, List.getElem_cons_succ, List.getElem_cons_zero, Act.put, List.setIfInBounds_toArray, List.set_cons_zero, List.set_cons_succ]; rfl))
              iterate 4 (refine Run.pu (v := ?_) (a' := ?_) rfl rfl (Or.inl ⟨by rfl, ?_⟩) ?_ ?_; rotate_left 2; (focus (intro W; go_simp; with_reducible rfl)); (focus (simp only [List.getElem_toArray, List.getElem_cons_succ, List.getElem_cons_zero, Act.put, List.setIfInBounds_toArray, List.set_cons_zero, List.set_cons_succ]; rfl)))
              refine Run.rd (v := ?_) (a' := ?_) rfl rfl (Or.inl ⟨by rfl, ?_⟩) ?_ ?_; rotate_left 2; (focus (rintro W ⟨hW1, hW2⟩; go_simp; with_reducible rfl)); (focus (simp only [List.getElem_toArray, List.getElem_cons_succ, List.getElem_cons_zero, Act.put, List.setIfInBounds_toArray, List.set_cons_zero, List.set_cons_succ]; rfl))
              refine Run.pu (v := ?_) (a' := ?_) rfl rfl (Or.inl ⟨by rfl, ?_⟩) ?_ ?_
              rotate_left 2
              · intro W; go_simp; simp only [E1.out]; with_reducible rfl
              · simp only [List.getElem_toArray, List.getElem_cons_succ, List.getElem_cons_zero, Act.put, List.setIfInBounds_toArray, List.set_cons_zero, List.set_cons_succ]; rfl
              iterate 5 (refine Run.pu (v := ?_) (a' := ?_) rfl rfl (Or.inl ⟨by rfl, ?_⟩) ?_ ?_; rotate_left 2; (focus (intro W; go_simp; with_reducible rfl)); (focus (simp only [List.getElem_toArray, List.getElem_cons_succ, List.getElem_cons_zero, Act.put, List.setIfInBounds_toArray, List.set_cons_zero, List.set_cons_succ]; rfl)))
              refine Run.rd (v := ?_) (a' := ?_) rfl rfl (Or.inl ⟨by rfl, ?_⟩) ?_ ?_; rotate_left 2; (focus (rintro W ⟨hW1, hW2⟩; go_simp; with_reducible rfl)); (focus (simp only [List.getElem_toArray, List.getElem_cons_succ, List.getElem_cons_zero, Act.put, List.setIfInBounds_toArray, List.set_cons_zero, List.set_cons_succ]; rfl))
              refine Run.pu (v := ?_) (a' := ?_) rfl rfl (Or.inl ⟨by rfl, ?_⟩) ?_ ?_
              rotate_left 2
              · intro W; go_simp; simp only [E2.out]; with_reducible rfl
              · simp only [List.getElem_toArray, List.getElem_cons_succ, List.getElem_cons_zero, Act.put, List.setIfInBounds_toArray, List.set_cons_zero, List.set_cons_succ]; rfl
              iterate 2 (refine Run.pu (v := ?_) (a' := ?_) rfl rfl (Or.inl ⟨by rfl, ?_⟩) ?_ ?_; rotate_left 2; (focus (intro W; go_simp; with_reducible rfl)); (focus (simp only [List.getElem_toArray, List.getElem_cons_succ, List.getElem_cons_zero, Act.put, List.setIfInBounds_toArray, List.set_cons_zero, List.set_cons_succ]; rfl)))
              refine Run.nil ?_
              try simp only [List.getElem_toArray, List.getElem_cons_succ, List.getElem_cons_zero]
              try simp only [List.setIfInBounds_toArray, List.set_cons_zero, List.set_cons_succ]
              go_wp2_with fail
              go_roundw
              case rel => exact ⟨q + 1, m, l2, mem3, by omega, by go_num, rfl, rfl, ⟨⟨by rw [HM2.out]; exact HNX.out.1, by rw [HL2.out]; exact HNX.out.2⟩⟩, HHE.out⟩
              case measure => simp [intOf]; omega
            · have e : q = nb := by omega
              have hsum : l1 = sumB cf s1.bl := by
                have h1 := HP.out.2
                rw [e, List.take_of_length_le (by have := HNB.out; omega)] at h1
                exact h1
              have hlm : l1 ≤ cf.M := by rw [hsum]; exact IV1.out.1.live
              rw [e]
              have HFG := As.mk (show Calls Tryz.prog 16 #[.pointer (some ⟨h, 0, none⟩), .agg #[.int .i64 10, .int .i64 0, .int .i64 0, .int .i64 0, .int .i64 0, .int .u8 0]] wr (fun e w' => e = .returned (.agg #[.int .i64 0, .int .i64 0, .int .i64 0, .int .u8 0, .int .i64 (l1 : Int), .int .i64 (s1.peak : Int), .int .i64 (s1.mark : Int), .int .i64 (cntT s1.on : Int)]) ∧ ∃ mem'', HW h cf s1 mem'' [(g8, EC 34 cf.cs), (g5, EC 25 r.cs)] (fun W => Row W (.slice (some ⟨b3, q3, none⟩) no c3) no (opV ops) ∧ Row W (.slice A4 nb c4) nb (mbV (s1.bl.map (Bk.mb cf)))) w w') from by
                have h1 := heap_Do h cf s1 mem2 _ _ w wr ⟨10, 0, 0, 0, 0, 0⟩ HH.out IV1.out.1 ok_figures
                refine h1.mono ?_
                rintro e w' ⟨he, m2, hm, -⟩
                rw [doP_figures] at he hm
                refine ⟨?_, m2, hm⟩
                rw [he, hsum]
                rfl)
              clear e hqn hq hsum HP
              go_wp2_with fail
              refine HFG.out.mono ?_
              rintro e w15 ⟨rfl, mem3, H3⟩
              have hbx := H3.box #[.int .i64 0, .int .i64 0, .int .i64 0, .int .u8 0, .int .i64 (l1 : Int), .int .i64 (s1.peak : Int), .int .i64 (s1.mark : Int), .int .i64 (cntT s1.on : Int)] 39
              have z4 := hbx.rd me0 4 (by simp)
              simp only [List.getElem?_cons_zero, List.getElem?_cons_succ] at z4
              have z2 : (w15.alloc (.cells #[.int .i64 0, .int .i64 0, .int .i64 0, .int .u8 0, .int .i64 (l1 : Int), .int .i64 (s1.peak : Int), .int .i64 (s1.mark : Int), .int .i64 (cntT s1.on : Int)] 39)).cell? ⟨g8, 2, none⟩ = some (.int .i64 (cf.M : Int)) := hbx.rd me1 2 (by simp [Cf.cs])
              have HX := As.mk hbx.drop
              have f1 : ((cf.M : Int) < (l1 : Int)) = False := eq_false (by omega)
              clear hbx H3 HFG HH
              go_wp2_with fail
              go_roundw
              case rel => exact ⟨k + 1, s1, mem3, by omega, by go_num, IV1, HX.out.imp fun W h => h.1⟩
              case measure => simp [intOf]; omega
        · have e : k = no := by omega
          rw [e]
          clear e hkn hk
          go_wp2_with fail
          go_ret
          exact ⟨rfl, HH.out.toBelow⟩
    · go_enter Tryz.func3, Tryz.ntmps3
      go_wp2_with fail
      refine (top_begun w).mono ?_
      rintro e w1 ⟨rfl, hb⟩
      have HO1 := As.mk ((Own.start (X := []) w).below hb)
      clear hb
      go_wp2_with fail
      go_ret
      exact ⟨rfl, HO1.out.toBelow⟩
  · go_enter Tryz.func3, Tryz.ntmps3
    go_wp2_with fail
    refine (top_begun w).mono ?_
    rintro e w1 ⟨rfl, hb⟩
    have HO1 := As.mk ((Own.start (X := []) w).below hb)
    clear hb
    go_wp2_with fail
    go_ret
    exact ⟨rfl, HO1.out.toBelow⟩
end Go.Proofs.YtmookafmdonopaaGreat.Top
