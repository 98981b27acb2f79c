/- hodmantop.TopCalloc walked. -/
import Derived.Test.YtmookafmdonopaaGreatCT54
namespace Go.Proofs.YtmookafmdonopaaGreat.Top
open Go Go.RowKit
set_option linter.unusedVariables false
set_option linter.unusedSimpArgs false
attribute [local go_sem] max2_int min2_int max_two min_two max_three

theorem wf_u8' {u : Int} (h : (Lit.int .u8 u).wf = true) : ∃ n : Nat, u = (n : Int) ∧ n < 256 := by
  simp only [Lit.wf, Bool.and_eq_true, decide_eq_true_eq, show IntKind.u8.min = 0 from rfl, show IntKind.u8.max = 255 from rfl] at h
  exact ⟨u.toNat, by omega, by omega⟩
theorem HW2.range {h x g e : Nat} {c : Cf} {s s2 : Hs} {mem mem2 : List Nat} {L : List (Nat × (Obj → Prop))} {R : World → Prop} {w0 w : World} {cs : List Value} (H : HW2 h x c s mem s2 mem2 L R w0 w) (hm : (g, EC e cs) ∈ L) : w.rangeAt g 0 cs := by
  obtain ⟨d2, a, b, c', H⟩ := H
  exact H.range (List.mem_append_right _ hm)
theorem HW2.drop {h x g : Nat} {c : Cf} {s s2 : Hs} {mem mem2 : List Nat} {L : List (Nat × (Obj → Prop))} {R : World → Prop} {w0 w : World} {p : Obj → Prop} (H : HW2 h x c s mem s2 mem2 ((g, p) :: L) R w0 w) : HW2 h x c s mem s2 mem2 L R w0 w := by
  obtain ⟨d2, a, b, c', H⟩ := H
  exact ⟨d2, a, b, c', (H.perm List.perm_middle.symm).drop⟩
theorem ok_load {a i : Int} (hi : i ≤ 2 ^ 30) : OpOk ⟨7, a, 0, 0, i, 0⟩ := ⟨(by decide : (1 : Int) ≤ 7 ∧ (7 : Int) ≤ 10), Or.inl rfl, hi, (by decide : (0 : Int) ≤ 2 ^ 30), (by decide : (0 : Int) ≤ 0 ∧ (0 : Int) < 256)⟩
theorem size39_ : (Tryz.prog.info? 39).map (·.size) = some 8 := by kernel_rfl
theorem ok_cal {S N : Int} (hS : S ≤ 2 ^ 30) (hN : N ≤ 2 ^ 30) : OpOk ⟨2, 0, S, 0, N, 0⟩ := ⟨(by decide : (1 : Int) ≤ 2 ∧ (2 : Int) ≤ 10), Or.inl rfl, hN, hS, (by decide : (0 : Int) ≤ 0 ∧ (0 : Int) < 256)⟩
theorem ok_mal {S : Int} (hS : S ≤ 2 ^ 30) : OpOk ⟨1, 0, S, 0, 0, 0⟩ := ⟨(by decide : (1 : Int) ≤ 1 ∧ (1 : Int) ≤ 10), Or.inl rfl, (by decide : (0 : Int) ≤ 2 ^ 30), hS, (by decide : (0 : Int) ≤ 0 ∧ (0 : Int) < 256)⟩
set_option maxHeartbeats 8000000 in
set_option maxRecDepth 100000 in
theorem TopCalloc_walk (w : World) {A A2 : Option Addr} {n c n2 c2 : Nat} (h1 : BIn w A n c) (h2 : BIn w A2 n2 c2) {u v : Int} (hu : (Lit.int .u8 u).wf = true) (hv : (Lit.int .u8 v).wf = true) : Calls Tryz.prog 4 #[.slice A n c, .slice A2 n2 c2, .int .u8 u, .int .u8 v] w fun e w' => e = .returned (.bool true) ∧ Below w.heap.size w w' := by
  obtain ⟨u, rfl, hu2⟩ := wf_u8' hu
  obtain ⟨v, rfl, hv2⟩ := wf_u8' hv
  clear hu hv
  by_cases hn : n ≤ 6
  · by_cases hn2 : n2 ≤ 150
    · obtain ⟨bs, B⟩ := h1.bytes (by omega)
      obtain ⟨bs2, B2⟩ := h2.bytes (by omega)
      have HB := As.mk B
      have HB2 := As.mk B2
      clear h1 h2 B B2
      go_enter Tryz.func4, Tryz.ntmps4
      go_wp2_with fail
      refine (top_begun w).mono ?_
      rintro e w1 ⟨rfl, hb⟩
      have HO1 := As.mk ((Own.start (X := []) w).below hb)
      clear hb
      go_wp2_with fail
      refine (play_Made A n c w1).mono ?_
      rintro e w2 ⟨rfl, rfl⟩
      obtain ⟨p, hp⟩ : ∃ p, p = w1.heap.size := ⟨_, rfl⟩
      obtain ⟨w2, hw2⟩ : ∃ x, x = w1.alloc (.cells #[.slice A n c, .int .i64 0] 73) := ⟨_, rfl⟩
      have ho := HO1.out.box #[.slice A n c, .int .i64 0] 73
      rw [← hw2, ← hp] at ho ⊢
      have HO2 : As (Own [] [(p, PK A n c 0)] (fun _ => True) w w2) := As.mk ho
      clear ho hw2 hp HO1
      go_wp2_with fail
      refine (play_Raw [] (fun _ => True) w w2 p A n c 0 true bs HB.out HO2.out (Nat.zero_le _)).mono ?_
      rintro e w3 ⟨r, rfl, hsm, hbud, j, -, ho⟩
      obtain ⟨cf, hc, hg, hH, hok⟩ := small_conf r hsm
      have HPP := As.mk (conf_P r hc (hbud rfl))
      have HO3 := As.mk ho.drop
      have HCF := As.mk (And.intro hc (And.intro hg (And.intro hH hok)))
      clear ho HO2 hsm hbud hc hg hH hok
      have hrv : r.v = .agg #[.int .i64 r.g, .int .i64 r.l, .int .i64 r.m, .int .i64 r.p, .int .i64 r.b, .int .i64 r.s] := rfl
      have HO4 := As.mk (HO3.out.box #[.int .i64 r.g, .int .i64 r.l, .int .i64 r.m, .int .i64 r.p, .int .i64 r.b, .int .i64 r.s] 25)
      rw [hrv]
      obtain ⟨g5, hg5⟩ : ∃ g, g = w3.heap.size := ⟨_, rfl⟩
      obtain ⟨w4, hw4⟩ : ∃ x, x = w3.alloc (.cells #[.int .i64 r.g, .int .i64 r.l, .int .i64 r.m, .int .i64 r.p, .int .i64 r.b, .int .i64 r.s] 25) := ⟨_, rfl⟩
      go_wp2_with fail
      have ho := HO4.out
      rw [← hw4, ← hg5] at ho ⊢
      have HO5 : As (Own [] [(g5, EC 25 r.cs)] (fun _ => True) w w4) := As.mk ho
      clear ho hw4 hg5 HO4 HO3 hrv
      refine (heap_New r cf _ _ w w4 HO5.out HCF.out.1 HCF.out.2.1 HCF.out.2.2.1).mono ?_
      rintro e w5 ⟨h, rfl, H⟩
      have HH := As.mk H
      clear H HO5
      go_wp2_with fail
      go_wp2_with fail
      refine rgn [(0, 1), (2, 0), (1, 2), (3, 2), (4, 1)] [] (fun W => W.rangeAt g5 0 r.cs) (by kernel_rfl) (by kernel_rfl) (fun _ _ _ d _ h => by cases d <;> exact h) (HH.out.drew.range me0) ?_
      have HHD := As.mk HH.out.drew
      obtain ⟨w8, hw8⟩ : ∃ x, x = w5.drew := ⟨_, rfl⟩
      rw [← hw8] at HHD ⊢
      clear hw8 HH
      refine Run.pu (v := ?_) (a' := ?_) rfl rfl (Or.inl ⟨by rfl, ?_⟩) ?_ ?_; rotate_left 2; (focus (intro W; go_simp; with_reducible rfl)); (focus (simp only [List.getElem_toArray, List.getElem_cons_succ, List.getElem_cons_zero, Act.put, List.setIfInBounds_toArray, List.set_cons_zero, List.set_cons_succ]; rfl))
      refine Run.rd (v := .agg r.cs.toArray) (a' := ?_) rfl rfl (yieldsIf_load_mid rfl 25 (.tmp 9) rfl g5 0 rfl r.cs _ (fun W hW => hW) Tryz.underlying25 rfl size25) ?_ ?_
      rotate_left 1
      · simp only [List.getElem_toArray, List.getElem_cons_succ, List.getElem_cons_zero, Act.put, List.setIfInBounds_toArray, List.set_cons_zero, List.set_cons_succ]; rfl
      refine Run.ef rfl (fun K hK => ?_)
      simp only [List.getElem_toArray, List.getElem_cons_succ, List.getElem_cons_zero]
      try simp only [List.setIfInBounds_toArray, List.set_cons_zero, List.set_cons_succ]
      go_wp2_with fail
      refine (play_Made A2 n2 c2 w8).mono ?_
      rintro e w9 ⟨rfl, rfl⟩
      have hbx := HHD.out.box #[.slice A2 n2 c2, .int .i64 0] 73
      have hbo := HHD.out.below ((Below.refl w8.heap.size w8).alloc (Nat.le_refl _) (.cells #[.slice A2 n2 c2, .int .i64 0] 73))
      obtain ⟨p2, hp2⟩ : ∃ g, g = w8.heap.size := ⟨_, rfl⟩
      obtain ⟨w9, hw9⟩ : ∃ x, x = w8.alloc (.cells #[.slice A2 n2 c2, .int .i64 0] 73) := ⟨_, rfl⟩
      rw [← hw9] at hbo
      rw [← hw9, ← hp2] at hbx ⊢
      have HH9 := As.mk hbo
      have HP9 : As (HW h cf (Hs.new cf) (List.replicate cf.H 0) ((p2, PK A2 n2 c2 0) :: [(g5, EC 25 r.cs)]) (fun _ => True) w w9) := As.mk hbx
      clear hbx hbo hw9 hp2 HHD
      go_wp2_with fail
      refine hK.out _ _ (HH9.out.range me0) ?_
      clear hK K
      refine Run.ef rfl (fun K hK => ?_)
      simp only [List.getElem_toArray, List.getElem_cons_succ, List.getElem_cons_zero]
      try simp only [List.setIfInBounds_toArray, List.set_cons_zero, List.set_cons_succ]
      go_wp2_with fail
      refine (heap_Ops HH9.out p2 A2 n2 c2 0 r HCF.out.1 HCF.out.2.2.2 HCF.out.2.1 bs2 HB2.out HP9.out (Nat.zero_le _) 40 (by decide)).mono ?_
      rintro e w10 ⟨A3, c3, ops, rfl, hops, hok, hh⟩
      have HH10 := As.mk (hh.imp (R' := fun W => Row W (.slice A3 ops.length c3) ops.length (opV ops)) (fun W h => h.2))
      have HOK := As.mk hok
      clear hh hok HH9 HP9
      go_wp2_with fail
      refine hK.out _ _ (HH10.out.range me0) ?_
      clear hK K
      refine Run.pu (v := ?_) (a' := ?_) rfl rfl (Or.inl ⟨by rfl, ?_⟩) ?_ ?_; rotate_left 2; (focus (intro W; go_simp; with_reducible rfl)); (focus (simp only [List.getElem_toArray, List.getElem_cons_succ, List.getElem_cons_zero, Act.put, List.setIfInBounds_toArray, List.set_cons_zero, List.set_cons_succ]; rfl))
      refine Run.nil ?_
      try simp only [List.getElem_toArray, List.getElem_cons_succ, List.getElem_cons_zero]
      try simp only [List.setIfInBounds_toArray, List.set_cons_zero, List.set_cons_succ]
      go_wp2_with fail
      obtain ⟨no, hno⟩ : ∃ x, x = ops.length := ⟨_, rfl⟩
      rw [← hno] at hops HH10 ⊢
      have HNO := As.mk hno
      clear hno
      go_loopw [13] (fun i wr => ∃ (k : Nat) (s : Hs) (mem : List Nat), k ≤ no ∧ i = .int .i64 (k : Int) ∧ As (Iv cf s ∧ Ci cf s.bl) ∧ HW h cf s mem [(g5, EC 25 r.cs)] (fun W => Row W (.slice A3 no c3) no (opV ops)) w wr) (fun i _ => no - (intOf i).toNat)
      case atStart => exact ⟨0, Hs.new cf, _, Nat.zero_le _, rfl, ⟨new_iv HCF.out.2.1 HCF.out.2.2.1⟩, HH10.out⟩
      case round =>
        clear HH10
        obtain ⟨k, s, mem, hk, rfl, IV, hh⟩ := hrel
        have HH := As.mk hh
        clear hh
        by_cases hkn : k < no
        · obtain ⟨o, ho⟩ : ∃ o, ops[k]? = some o := ⟨ops[k]'(by have := HNO.out; omega), List.getElem?_eq_getElem _⟩
          have hok := HOK.out o (List.mem_of_getElem? ho)
          have hro := HH.out.now
          rw [HNO.out] at hro
          obtain ⟨b3, q3, rfl, hrg⟩ := ops_range hro k o ho
          have HRG := As.mk hrg
          have HDO := As.mk (show Calls Tryz.prog 16 #[.pointer (some ⟨h, 0, none⟩), .agg o.cs.toArray] wr _ from heap_Do h cf s mem _ _ w wr o HH.out IV.out.1 hok)
          have IV1 := As.mk (do_ok IV.out.1 IV.out.2 mem hok)
          clear ho hok hro hrg
          go_wp2_with (refine wpList_load_mid rfl 42 (.tmp 61) rfl b3 (q3 + k * 6) rfl o.cs _ HRG.out Tryz.underlying42 rfl size42 ?_)
          refine HDO.out.mono ?_
          rintro e w11 ⟨rfl, mem1, H1, -⟩
          obtain ⟨s1, hs1⟩ : ∃ x, x = (doP cf s mem o).1 := ⟨_, rfl⟩
          rw [← hs1] at H1 IV1
          have HH1 := As.mk H1
          clear H1 hs1 HDO HRG HH
          go_wp2_with fail
          go_roundw
          case rel => exact ⟨k + 1, s1, mem1, by omega, by go_num, IV1, HH1.out⟩
          case measure => simp [intOf]; omega
        · have e : k = no := by omega
          rw [e]
          clear e hkn hk
          go_wp2_with fail
          obtain ⟨mn, hmn⟩ : ∃ m, m = u % 6 := ⟨_, rfl⟩
          obtain ⟨sz, hsz⟩ : ∃ m, m = v % 40 := ⟨_, rfl⟩
          have E1 := As.mk (show Int.tmod (u : Int) 6 = (mn : Int) by rw [show Int.tmod (u : Int) 6 = ((u % 6 : Nat) : Int) from rfl, hmn])
          have E2 := As.mk (show Int.tmod (v : Int) 40 = (sz : Int) by rw [show Int.tmod (v : Int) 40 = ((v % 40 : Nat) : Int) from rfl, hsz])
          have hm5 : mn ≤ 5 := by omega
          have hs39 : sz ≤ 39 := by omega
          clear hmn hsz
          go_wp2_with (first | (simp only [E1.out]) | (simp only [E2.out]))
          simp only [show (u : Int) % 6 = (mn : Int) from E1.out, show (v : Int) % 40 = (sz : Int) from E2.out]
          refine (heap_Copy HH.out IV.out.1).mono ?_
          rintro e w13 ⟨x, rfl, H2⟩
          have HC := As.mk H2
          clear H2 HH
          go_wp2_with fail
          have hPP : cf.H / cf.Page ≤ cf.P := by rw [HPP.out]; have := Nat.div_le_self cf.H cf.Page; have := HCF.out.2.2.1; omega
          have HALL := cal_all IV.out.1 IV.out.2 hPP mn sz mem
          obtain ⟨pr, hpr⟩ : ∃ y, y = mn * sz := ⟨_, rfl⟩
          have hpr2 : pr ≤ 195 := by rw [hpr]; exact Nat.le_trans (Nat.mul_le_mul hm5 hs39) (by decide)
          have e7 : wrap64 ((mn : Int) * (sz : Int)) = (pr : Int) := by
            rw [show (mn : Int) * (sz : Int) = (pr : Int) by rw [hpr, Int.natCast_mul]]
            unfold wrap64
            omega
          rw [← hpr] at HALL
          obtain ⟨s1, ax, s2, hdx, hdy, hall⟩ := HALL
          obtain ⟨xe, xa, xn, xb, xl, xp, xm, xg⟩ := ax
          have hx := HC.out.do_ IV.out.1 ⟨2, 0, sz, 0, mn, 0⟩ (ok_cal (Int.le_trans (Int.ofNat_le.2 hs39) (by decide)) (Int.le_trans (Int.ofNat_le.2 hm5) (by decide)))
          rw [hdx] at hx
          have HX := As.mk hx
          have hpr3 : (pr : Int) ≤ 2 ^ 30 := Int.le_trans (Int.ofNat_le.2 hpr2) (by decide)
          have HY := As.mk (fun (W : World) (L : List (Nat × (Obj → Prop))) (R : World → Prop) (s1 : Hs) (mem1 : List Nat) (H : HW2 x h cf s mem s1 mem1 L R w W) => H.do_ IV.out.1 ⟨1, 0, pr, 0, 0, 0⟩ (ok_mal hpr3))
          rw [hdy] at HY
          have HLL := As.mk hall
          clear hdx hdy hall hx HC hpr
          refine HX.out.mono ?_
          rintro e w14 ⟨rfl, mem1, H1, hd⟩
          have HDM := As.mk hd
          have hb := H1.swap.box #[.int .i64 xe, .int .i64 xa, .int .i64 xn, .int .u8 xb, .int .i64 xl, .int .i64 xp, .int .i64 xm, .int .i64 xg] 39
          obtain ⟨g17, hg17⟩ : ∃ g, g = w14.heap.size := ⟨_, rfl⟩
          obtain ⟨w15, hw15⟩ : ∃ y, y = w14.alloc (.cells #[.int .i64 xe, .int .i64 xa, .int .i64 xn, .int .u8 xb, .int .i64 xl, .int .i64 xp, .int .i64 xm, .int .i64 xg] 39) := ⟨_, rfl⟩
          rw [← hg17, ← hw15] at hb
          have HB15 := As.mk hb
          clear hb H1 HX hd
          rw [show (⟨xe, xa, xn, xb, xl, xp, xm, xg⟩ : An).v = .agg #[.int .i64 xe, .int .i64 xa, .int .i64 xn, .int .u8 xb, .int .i64 xl, .int .i64 xp, .int .i64 xm, .int .i64 xg] from rfl]
          go_wp2_with fail
          simp only [← hg17, ← hw15, e7]
          clear hg17 hw15
          have HYY := As.mk (HY.out w15 _ _ s1 mem1 HB15.out)
          clear HY HB15
          refine HYY.out.mono ?_
          rintro e w16 ⟨rfl, mem2, H2, -⟩
          have hb := H2.swap.box #[.int .i64 xe, .int .i64 xa, .int .i64 xn, .int .u8 xb, .int .i64 xl, .int .i64 xp, .int .i64 xm, .int .i64 xg] 39
          obtain ⟨g18, hg18⟩ : ∃ g, g = w16.heap.size := ⟨_, rfl⟩
          obtain ⟨w17, hw17⟩ : ∃ y, y = w16.alloc (.cells #[.int .i64 xe, .int .i64 xa, .int .i64 xn, .int .u8 xb, .int .i64 xl, .int .i64 xp, .int .i64 xm, .int .i64 xg] 39) := ⟨_, rfl⟩
          have r18 := hb.range me0
          have r17 := hb.range me1
          have z0 := hb.rd me1 0 (by simp)
          have z1 := hb.rd me1 1 (by simp)
          simp only [List.getElem?_cons_zero, List.getElem?_cons_succ] at z0 z1
          rw [← hg18, ← hw17] at hb
          have HB17 := As.mk hb
          clear hb H2 HYY
          rw [show (⟨xe, xa, xn, xb, xl, xp, xm, xg⟩ : An).v = .agg #[.int .i64 xe, .int .i64 xa, .int .i64 xn, .int .u8 xb, .int .i64 xl, .int .i64 xp, .int .i64 xm, .int .i64 xg] from rfl]
          rcases (show (xe ≠ 0 ∨ _) from HLL.out) with hxe | ⟨a, ch, hax, h4, h5, hiv, hus, hld⟩
          · clear HLL
            have hxe2 : (xe = 0) = False := eq_false hxe
            have hxe3 : (xe == 0) = false := beqF hxe
            go_wp2_with (first | (refine wpList_load_mid rfl 39 (.tmp 17) rfl g17 0 rfl (#[.int .i64 xe, .int .i64 xa, .int .i64 xn, .int .u8 xb, .int .i64 xl, .int .i64 xp, .int .i64 xm, .int .i64 xg] : Array Value).toList _ r17 Tryz.underlying39 rfl size39_ ?_) | (refine wpList_load_mid rfl 39 (.tmp 18) rfl w16.heap.size 0 rfl (#[.int .i64 xe, .int .i64 xa, .int .i64 xn, .int .u8 xb, .int .i64 xl, .int .i64 xp, .int .i64 xm, .int .i64 xg] : Array Value).toList _ r18 Tryz.underlying39 rfl size39_ ?_))
            go_ret
            exact ⟨rfl, by rw [← hw17]; exact HB17.out.toBelow⟩
          · injection hax with q1 q2 q3 q4 q5 q6 q7 q8
            subst q1 q2 q3 q4 q5 q6 q7 q8
            clear HLL
            have HLD := As.mk (hld mem1 HDM.out)
            have hu := HB17.out.do_ hiv ⟨6, a, 0, 0, 0, 0⟩ (ok_usable _)
            rw [hus] at hu
            have HU := As.mk hu
            clear hu hus hld
            go_wp2_with (first | (refine wpList_load_mid rfl 39 (.tmp 17) rfl g17 0 rfl (#[.int .i64 0, .int .i64 (a : Int), .int .i64 0, .int .u8 0, .int .i64 0, .int .i64 0, .int .i64 0, .int .i64 0] : Array Value).toList _ r17 Tryz.underlying39 rfl size39_ ?_) | (refine wpList_load_mid rfl 39 (.tmp 18) rfl w16.heap.size 0 rfl (#[.int .i64 0, .int .i64 (a : Int), .int .i64 0, .int .u8 0, .int .i64 0, .int .i64 0, .int .i64 0, .int .i64 0] : Array Value).toList _ r18 Tryz.underlying39 rfl size39_ ?_))
            simp only [← hg18, ← hw17]
            clear hg18 hw17 z0 z1 r17 r18 HB17
            refine HU.out.mono ?_
            rintro e w18 ⟨rfl, mem3, H3, hd⟩
            have hm3 : mem3 = mem1 := (hd.2.1 (by decide : (4 : Int) ≤ 6) (by decide : (6 : Int) ≤ 8)).2 (by decide : (6 : Int) ≠ 4) (by decide : (6 : Int) ≠ 8)
            rw [hm3] at H3
            have hb := H3.box #[.int .i64 0, .int .i64 0, .int .i64 (ch : Int), .int .u8 0, .int .i64 0, .int .i64 0, .int .i64 0, .int .i64 0] 39
            obtain ⟨g19, hg19⟩ : ∃ g, g = w18.heap.size := ⟨_, rfl⟩
            obtain ⟨w19, hw19⟩ : ∃ y, y = w18.alloc (.cells #[.int .i64 0, .int .i64 0, .int .i64 (ch : Int), .int .u8 0, .int .i64 0, .int .i64 0, .int .i64 0, .int .i64 0] 39) := ⟨_, rfl⟩
            rw [← hg19, ← hw19] at hb
            have HB19 := As.mk hb
            clear hb H3 HU hd hm3
            rw [show (⟨0, 0, (ch : Int), 0, 0, 0, 0, 0⟩ : An).v = .agg #[.int .i64 0, .int .i64 0, .int .i64 (ch : Int), .int .u8 0, .int .i64 0, .int .i64 0, .int .i64 0, .int .i64 0] from rfl]
            go_wp2_with fail
            simp only [← hg19, ← hw19]
            clear hg19 hw19
            go_loopw [20, 21] (fun i jx wr => ∃ k : Nat, k ≤ ch ∧ i = .int .i64 (k : Int) ∧ HW2 h x cf s1 mem1 s2 mem2 [(g19, EC 39 (#[.int .i64 0, .int .i64 0, .int .i64 (ch : Int), .int .u8 0, .int .i64 0, .int .i64 0, .int .i64 0, .int .i64 0] : Array Value).toList), (g18, EC 39 (#[.int .i64 0, .int .i64 (a : Int), .int .i64 0, .int .u8 0, .int .i64 0, .int .i64 0, .int .i64 0, .int .i64 0] : Array Value).toList), (g17, EC 39 (#[.int .i64 0, .int .i64 (a : Int), .int .i64 0, .int .u8 0, .int .i64 0, .int .i64 0, .int .i64 0, .int .i64 0] : Array Value).toList), (g5, EC 25 r.cs)] (fun W => Row W (.slice A3 no c3) no (opV ops)) w wr) (fun i _ _ => ch - (intOf i).toNat)
            case atStart => exact ⟨0, Nat.zero_le _, rfl, HB19.out⟩
            case round =>
              clear HB19
              obtain ⟨k, hk, rfl, hh⟩ := hrel
              have HH := As.mk hh
              have u1 := hh.rd me0 2 (by simp)
              have u0 := hh.rd me0 0 (by simp)
              have u2 := hh.rd me2 1 (by simp)
              simp only [List.getElem?_cons_zero, List.getElem?_cons_succ] at u0 u1 u2
              clear hh
              by_cases hkn : k < ch
              · have hl := HH.out.do_ hiv ⟨7, a, 0, 0, k, 0⟩ (ok_load (Int.le_trans (Int.ofNat_le.2 (show k ≤ 65536 by omega)) (by decide)))
                rw [HLD.out k hkn] at hl
                have HL := As.mk hl
                clear hl
                go_wp2_with fail
                refine HL.out.mono ?_
                rintro e w20 ⟨rfl, mem4, H4, hd⟩
                have hm4 : mem4 = mem1 := (hd.2.1 (by decide : (4 : Int) ≤ 7) (by decide : (7 : Int) ≤ 8)).2 (by decide : (7 : Int) ≠ 4) (by decide : (7 : Int) ≠ 8)
                rw [hm4] at H4
                have hb := H4.box #[.int .i64 0, .int .i64 0, .int .i64 0, .int .u8 0, .int .i64 0, .int .i64 0, .int .i64 0, .int .i64 0] 39
                have v0 := hb.rd me0 0 (by simp)
                have v3 := hb.rd me0 3 (by simp)
                simp only [List.getElem?_cons_zero, List.getElem?_cons_succ] at v0 v3
                have HE := As.mk hb.drop
                clear hb H4 hd hm4 HL u0 u1 u2 HH
                rw [show (⟨0, 0, 0, 0, 0, 0, 0, 0⟩ : An).v = .agg #[.int .i64 0, .int .i64 0, .int .i64 0, .int .u8 0, .int .i64 0, .int .i64 0, .int .i64 0, .int .i64 0] from rfl]
                go_wp2_with fail
                go_roundw
                case rel => exact ⟨k + 1, by omega, by go_num, HE.out⟩
                case measure => simp [intOf]; omega
              · have e : k = ch := by omega
                rw [e]
                clear e hkn hk
                go_wp2_with (simp only [e7])
                go_ret
                exact ⟨rfl, HH.out.toBelow⟩
    · go_enter Tryz.func4, Tryz.ntmps4
      go_wp2_with fail
      refine (top_begun w).mono ?_
      rintro e w1 ⟨rfl, hb⟩
      have HO1 := As.mk ((Own.start (X := []) w).below hb)
      clear hb
      go_wp2_with fail
      go_ret
      exact ⟨rfl, HO1.out.toBelow⟩
  · go_enter Tryz.func4, Tryz.ntmps4
    go_wp2_with fail
    refine (top_begun w).mono ?_
    rintro e w1 ⟨rfl, hb⟩
    have HO1 := As.mk ((Own.start (X := []) w).below hb)
    clear hb
    go_wp2_with fail
    go_ret
    exact ⟨rfl, HO1.out.toBelow⟩
end Go.Proofs.YtmookafmdonopaaGreat.Top
