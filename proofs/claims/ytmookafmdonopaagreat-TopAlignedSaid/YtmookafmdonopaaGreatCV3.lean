/- hodmantop.TopAligned walked. -/
import Derived.Test.YtmookafmdonopaaGreatCT51
import Derived.Test.YtmookafmdonopaaGreatCT53
namespace Go.Proofs.YtmookafmdonopaaGreat.Top
open Go Go.RowKit
set_option linter.unusedVariables false
set_option linter.unusedSimpArgs false
attribute [local go_sem] max2_int min2_int max_two min_two max_three

theorem wf_u8 {u : Int} (h : (Lit.int .u8 u).wf = true) : ∃ n : Nat, u = (n : Int) ∧ n < 256 := by
  simp only [Lit.wf, Bool.and_eq_true, decide_eq_true_eq, show IntKind.u8.min = 0 from rfl, show IntKind.u8.max = 255 from rfl] at h
  exact ⟨u.toNat, by omega, by omega⟩
theorem shl_one {m al : Nat} (hm : m ≤ 7) (h : al = 2 ^ m) : IntKind.i64.wrap (2 ^ min m 64) = (al : Int) := by
  have : m = 0 ∨ m = 1 ∨ m = 2 ∨ m = 3 ∨ m = 4 ∨ m = 5 ∨ m = 6 ∨ m = 7 := by omega
  rcases this with rfl | rfl | rfl | rfl | rfl | rfl | rfl | rfl <;> (rw [h]; rfl)
theorem max_half {m al al2 : Nat} (hm : m ≤ 7) (h : al = 2 ^ m) (h2 : al2 = 2 ^ (m - 1)) : al = 1 ∧ al2 = 1 ∨ al = 2 * al2 := by
  cases m with
  | zero => exact Or.inl ⟨h, h2⟩
  | succ m => rw [Nat.add_sub_cancel] at h2; right; rw [h, h2, Nat.pow_succ]; omega
set_option maxHeartbeats 8000000 in
set_option maxRecDepth 100000 in
theorem TopAligned_walk (w : World) {A A2 : Option Addr} {n c n2 c2 : Nat} (h1 : BIn w A n c) (h2 : BIn w A2 n2 c2) {u v : Int} (hu : (Lit.int .u8 u).wf = true) (hv : (Lit.int .u8 v).wf = true) : Calls Tryz.prog 6 #[.slice A n c, .slice A2 n2 c2, .int .u8 u, .int .u8 v] w fun e w' => e = .returned (.bool true) ∧ Below w.heap.size w w' := by
  obtain ⟨u, rfl, hu2⟩ := wf_u8 hu
  obtain ⟨v, rfl, hv2⟩ := wf_u8 hv
  clear hu hv
  by_cases hn : n ≤ 6
  · by_cases hn2 : n2 ≤ 150
    · obtain ⟨bs, B⟩ := h1.bytes (by omega)
      obtain ⟨bs2, B2⟩ := h2.bytes (by omega)
      have HB := As.mk B
      have HB2 := As.mk B2
      clear h1 h2 B B2
      go_enter Tryz.func6, Tryz.ntmps6
      go_wp2_with fail
      refine (top_begun w).mono ?_
      rintro e w1 ⟨rfl, hb⟩
      have HO1 := As.mk ((Own.start (X := []) w).below hb)
      clear hb
      go_wp2_with fail
      refine (play_Made A n c w1).mono ?_
      rintro e w2 ⟨rfl, rfl⟩
      obtain ⟨p, hp⟩ : ∃ p, p = w1.heap.size := ⟨_, rfl⟩
      obtain ⟨w2, hw2⟩ : ∃ x, x = w1.alloc (.cells #[.slice A n c, .int .i64 0] 73) := ⟨_, rfl⟩
      have ho := HO1.out.box #[.slice A n c, .int .i64 0] 73
      rw [← hw2, ← hp] at ho ⊢
      have HO2 : As (Own [] [(p, PK A n c 0)] (fun _ => True) w w2) := As.mk ho
      clear ho hw2 hp HO1
      go_wp2_with fail
      refine (play_Raw [] (fun _ => True) w w2 p A n c 0 true bs HB.out HO2.out (Nat.zero_le _)).mono ?_
      rintro e w3 ⟨r, rfl, hsm, hbud, j, -, ho⟩
      obtain ⟨cf, hc, hg, hH, hok⟩ := small_conf r hsm
      have HPP := As.mk (conf_P r hc (hbud rfl))
      have HO3 := As.mk ho.drop
      have HCF := As.mk (And.intro hc (And.intro hg (And.intro hH hok)))
      clear ho HO2 hsm hbud hc hg hH hok
      have hrv : r.v = .agg #[.int .i64 r.g, .int .i64 r.l, .int .i64 r.m, .int .i64 r.p, .int .i64 r.b, .int .i64 r.s] := rfl
      have HO4 := As.mk (HO3.out.box #[.int .i64 r.g, .int .i64 r.l, .int .i64 r.m, .int .i64 r.p, .int .i64 r.b, .int .i64 r.s] 25)
      rw [hrv]
      obtain ⟨g5, hg5⟩ : ∃ g, g = w3.heap.size := ⟨_, rfl⟩
      obtain ⟨w4, hw4⟩ : ∃ x, x = w3.alloc (.cells #[.int .i64 r.g, .int .i64 r.l, .int .i64 r.m, .int .i64 r.p, .int .i64 r.b, .int .i64 r.s] 25) := ⟨_, rfl⟩
      go_wp2_with fail
      have ho := HO4.out
      rw [← hw4, ← hg5] at ho ⊢
      have HO5 : As (Own [] [(g5, EC 25 r.cs)] (fun _ => True) w w4) := As.mk ho
      clear ho hw4 hg5 HO4 HO3 hrv
      refine (heap_New r cf _ _ w w4 HO5.out HCF.out.1 HCF.out.2.1 HCF.out.2.2.1).mono ?_
      rintro e w5 ⟨h, rfl, H⟩
      have HH := As.mk H
      clear H HO5
      go_wp2_with fail
      go_wp2_with fail
      refine rgn [(0, 1), (2, 0), (1, 2), (3, 2), (4, 1)] [] (fun W => W.rangeAt g5 0 r.cs) (by kernel_rfl) (by kernel_rfl) (fun _ _ _ d _ h => by cases d <;> exact h) (HH.out.drew.range me0) ?_
      have HHD := As.mk HH.out.drew
      obtain ⟨w8, hw8⟩ : ∃ x, x = w5.drew := ⟨_, rfl⟩
      rw [← hw8] at HHD ⊢
      clear hw8 HH
      refine Run.pu (v := ?_) (a' := ?_) rfl rfl (Or.inl ⟨by rfl, ?_⟩) ?_ ?_; rotate_left 2; (focus (intro W; go_simp; with_reducible rfl)); (focus (simp only [List.getElem_toArray, List.getElem_cons_succ, List.getElem_cons_zero, Act.put, List.setIfInBounds_toArray, List.set_cons_zero, List.set_cons_succ]; rfl))
      refine Run.rd (v := .agg r.cs.toArray) (a' := ?_) rfl rfl (yieldsIf_load_mid rfl 25 (.tmp 9) rfl g5 0 rfl r.cs _ (fun W hW => hW) Tryz.underlying25 rfl size25) ?_ ?_
      rotate_left 1
      · simp only [List.getElem_toArray, List.getElem_cons_succ, List.getElem_cons_zero, Act.put, List.setIfInBounds_toArray, List.set_cons_zero, List.set_cons_succ]; rfl
      refine Run.ef rfl (fun K hK => ?_)
      simp only [List.getElem_toArray, List.getElem_cons_succ, List.getElem_cons_zero]
      try simp only [List.setIfInBounds_toArray, List.set_cons_zero, List.set_cons_succ]
      go_wp2_with fail
      refine (play_Made A2 n2 c2 w8).mono ?_
      rintro e w9 ⟨rfl, rfl⟩
      have hbx := HHD.out.box #[.slice A2 n2 c2, .int .i64 0] 73
      have hbo := HHD.out.below ((Below.refl w8.heap.size w8).alloc (Nat.le_refl _) (.cells #[.slice A2 n2 c2, .int .i64 0] 73))
      obtain ⟨p2, hp2⟩ : ∃ g, g = w8.heap.size := ⟨_, rfl⟩
      obtain ⟨w9, hw9⟩ : ∃ x, x = w8.alloc (.cells #[.slice A2 n2 c2, .int .i64 0] 73) := ⟨_, rfl⟩
      rw [← hw9] at hbo
      rw [← hw9, ← hp2] at hbx ⊢
      have HH9 := As.mk hbo
      have HP9 : As (HW h cf (Hs.new cf) (List.replicate cf.H 0) ((p2, PK A2 n2 c2 0) :: [(g5, EC 25 r.cs)]) (fun _ => True) w w9) := As.mk hbx
      clear hbx hbo hw9 hp2 HHD
      go_wp2_with fail
      refine hK.out _ _ (HH9.out.range me0) ?_
      clear hK K
      refine Run.ef rfl (fun K hK => ?_)
      simp only [List.getElem_toArray, List.getElem_cons_succ, List.getElem_cons_zero]
      try simp only [List.setIfInBounds_toArray, List.set_cons_zero, List.set_cons_succ]
      go_wp2_with fail
      refine (heap_Ops HH9.out p2 A2 n2 c2 0 r HCF.out.1 HCF.out.2.2.2 HCF.out.2.1 bs2 HB2.out HP9.out (Nat.zero_le _) 40 (by decide)).mono ?_
      rintro e w10 ⟨A3, c3, ops, rfl, hops, hok, hh⟩
      have HH10 := As.mk (hh.imp (R' := fun W => Row W (.slice A3 ops.length c3) ops.length (opV ops)) (fun W h => h.2))
      have HOK := As.mk hok
      clear hh hok HH9 HP9
      go_wp2_with fail
      refine hK.out _ _ (HH10.out.range me0) ?_
      clear hK K
      refine Run.pu (v := ?_) (a' := ?_) rfl rfl (Or.inl ⟨by rfl, ?_⟩) ?_ ?_; rotate_left 2; (focus (intro W; go_simp; with_reducible rfl)); (focus (simp only [List.getElem_toArray, List.getElem_cons_succ, List.getElem_cons_zero, Act.put, List.setIfInBounds_toArray, List.set_cons_zero, List.set_cons_succ]; rfl))
      refine Run.nil ?_
      try simp only [List.getElem_toArray, List.getElem_cons_succ, List.getElem_cons_zero]
      try simp only [List.setIfInBounds_toArray, List.set_cons_zero, List.set_cons_succ]
      go_wp2_with fail
      obtain ⟨no, hno⟩ : ∃ x, x = ops.length := ⟨_, rfl⟩
      rw [← hno] at hops HH10 ⊢
      have HNO := As.mk hno
      clear hno
      go_loopw [13] (fun i wr => ∃ (k : Nat) (s : Hs) (mem : List Nat), k ≤ no ∧ i = .int .i64 (k : Int) ∧ As (Iv cf s ∧ Ci cf s.bl) ∧ HW h cf s mem [(g5, EC 25 r.cs)] (fun W => Row W (.slice A3 no c3) no (opV ops)) w wr) (fun i _ => no - (intOf i).toNat)
      case atStart => exact ⟨0, Hs.new cf, _, Nat.zero_le _, rfl, ⟨new_iv HCF.out.2.1 HCF.out.2.2.1⟩, HH10.out⟩
      case round =>
        clear HH10
        obtain ⟨k, s, mem, hk, rfl, IV, hh⟩ := hrel
        have HH := As.mk hh
        clear hh
        by_cases hkn : k < no
        · obtain ⟨o, ho⟩ : ∃ o, ops[k]? = some o := ⟨ops[k]'(by have := HNO.out; omega), List.getElem?_eq_getElem _⟩
          have hok := HOK.out o (List.mem_of_getElem? ho)
          have hro := HH.out.now
          rw [HNO.out] at hro
          obtain ⟨b3, q3, rfl, hrg⟩ := ops_range hro k o ho
          have HRG := As.mk hrg
          have HDO := As.mk (show Calls Tryz.prog 16 #[.pointer (some ⟨h, 0, none⟩), .agg o.cs.toArray] wr _ from heap_Do h cf s mem _ _ w wr o HH.out IV.out.1 hok)
          have IV1 := As.mk (do_ok IV.out.1 IV.out.2 mem hok)
          clear ho hok hro hrg
          go_wp2_with (refine wpList_load_mid rfl 42 (.tmp 59) rfl b3 (q3 + k * 6) rfl o.cs _ HRG.out Tryz.underlying42 rfl size42 ?_)
          refine HDO.out.mono ?_
          rintro e w11 ⟨rfl, mem1, H1, -⟩
          obtain ⟨s1, hs1⟩ : ∃ x, x = (doP cf s mem o).1 := ⟨_, rfl⟩
          rw [← hs1] at H1 IV1
          have HH1 := As.mk H1
          clear H1 hs1 HDO HRG HH
          go_wp2_with fail
          go_roundw
          case rel => exact ⟨k + 1, s1, mem1, by omega, by go_num, IV1, HH1.out⟩
          case measure => simp [intOf]; omega
        · have e : k = no := by omega
          rw [e]
          clear e hkn hk
          go_wp2_with fail
          obtain ⟨m, hm⟩ : ∃ m, m = v % 8 := ⟨_, rfl⟩
          have E1 := As.mk (show Int.tmod (v : Int) 8 = (m : Int) by rw [show Int.tmod (v : Int) 8 = ((v % 8 : Nat) : Int) from rfl, hm])
          have HM7 := As.mk (show m ≤ 7 by omega)
          obtain ⟨al, hal⟩ : ∃ al, al = 2 ^ m := ⟨_, rfl⟩
          have SH := As.mk (shl_one HM7.out hal)
          obtain ⟨sz, hsz⟩ : ∃ sz, sz = u % (cf.N + 1) := ⟨_, rfl⟩
          have hN := HCF.out.2.1.bounds
          have E2 := As.mk (show Int.tmod (u : Int) ((cf.N : Int) + 1) = (sz : Int) by rw [show Int.tmod (u : Int) ((cf.N : Int) + 1) = ((u % (cf.N + 1) : Nat) : Int) from rfl, hsz])
          have EU := As.mk (show IntKind.i64.wrap (u : Int) = (u : Int) by rw [IntKind.wrap_i64]; omega)
          have E3 := As.mk (show IntKind.i64.wrap ((cf.N : Int) + 1) = (cf.N : Int) + 1 by rw [IntKind.wrap_i64]; omega)
          have HSZ := As.mk (show sz ≤ cf.N by rw [hsz]; have := Nat.mod_lt u (show 0 < cf.N + 1 by omega); omega)
          have HAL := As.mk hal
          have n0 : ((cf.N : Int) + 1 == 0) = false := beqF (by omega)
          have n1 : ((cf.N : Int) + 1 = 0) = False := eq_false (by omega)
          clear hm hal hsz
          refine rgn [(0, 1), (1, 1), (2, 1), (3, 1), (4, 1), (5, 1), (6, 2), (7, 1), (8, 1), (9, 1), (10, 1), (11, 1)] [] (fun W => True) (by kernel_rfl) (by kernel_rfl) (fun _ _ _ d _ h => by cases d <;> exact h) trivial ?_
          have HHD := As.mk HH.out.drew
          obtain ⟨wd, hwd⟩ : ∃ x, x = wr.drew := ⟨_, rfl⟩
          rw [← hwd] at HHD ⊢
          clear hwd HH
          refine Run.pu (v := ?_) (a' := ?_) rfl rfl (Or.inl ⟨by rfl, ?_⟩) ?_ ?_; rotate_left 2; (focus (intro W; go_simp; with_reducible rfl)); (focus (simp only [List.getElem_toArray, List.getElem_cons_succ, List.getElem_cons_zero, Act.put, List.setIfInBounds_toArray, List.set_cons_zero, List.set_cons_succ]; rfl))
          refine Run.pu (v := ?_) (a' := ?_) rfl rfl (Or.inl ⟨by rfl, ?_⟩) ?_ ?_
          rotate_left 2
          · intro W; go_simp; simp only [E1.out]; with_reducible rfl
          · simp only [List.getElem_toArray, List.getElem_cons_succ, List.getElem_cons_zero, Act.put, List.setIfInBounds_toArray, List.set_cons_zero, List.set_cons_succ]; rfl
          refine Run.pu (v := ?_) (a' := ?_) rfl rfl (Or.inl ⟨by rfl, ?_⟩) ?_ ?_
          rotate_left 2
          · intro W; go_simp; simp only [SH.out]; with_reducible rfl
          · simp only [List.getElem_toArray, List.getElem_cons_succ, List.getElem_cons_zero, Act.put, List.setIfInBounds_toArray, List.set_cons_zero, List.set_cons_succ]; rfl
          iterate 3 (refine Run.pu (v := ?_) (a' := ?_) rfl rfl (Or.inl ⟨by rfl, ?_⟩) ?_ ?_; rotate_left 2; (focus (intro W; go_simp; with_reducible rfl)); (focus (simp only [List.getElem_toArray, List.getElem_cons_succ, List.getElem_cons_zero, Act.put, List.setIfInBounds_toArray, List.set_cons_zero, List.set_cons_succ]; rfl)))
          refine Run.ef rfl (fun K hK => ?_)
          simp only [List.getElem_toArray, List.getElem_cons_succ, List.getElem_cons_zero]
          try simp only [List.setIfInBounds_toArray, List.set_cons_zero, List.set_cons_succ]
          go_wp2_with fail
          refine (heap_Conf h cf wd HHD.out.conf).mono ?_
          rintro e w12 ⟨rfl, hb⟩
          have HH12 := As.mk (HHD.out.below hb)
          clear hb HHD
          rw [show cf.v = .agg #[.int .i64 cf.G, .int .i64 cf.N, .int .i64 cf.M, .int .i64 cf.L, .int .i64 cf.Page, .int .i64 cf.P, .int .i64 cf.H, .int .i64 cf.Seed] from rfl]
          go_wp2_with fail
          refine hK.out _ _ trivial ?_
          clear hK K
          refine Run.pu (v := ?_) (a' := ?_) rfl rfl (Or.inl ⟨by rfl, ?_⟩) ?_ ?_
          rotate_left 2
          · intro W; go_simp; simp only [fld34, Result.andThen_ok]; with_reducible rfl
          · simp only [List.getElem_toArray, List.getElem_cons_succ, List.getElem_cons_zero, Act.put, List.setIfInBounds_toArray, List.set_cons_zero, List.set_cons_succ]; rfl
          refine Run.pu (v := ?_) (a' := ?_) rfl rfl (Or.inl ⟨by rfl, ?_⟩) ?_ ?_
          rotate_left 2
          · intro W; go_simp; simp only [E3.out]; with_reducible rfl
          · simp only [List.getElem_toArray, List.getElem_cons_succ, List.getElem_cons_zero, Act.put, List.setIfInBounds_toArray, List.set_cons_zero, List.set_cons_succ]; rfl
          refine Run.pu (v := ?_) (a' := ?_) rfl rfl (Or.inl ⟨by rfl, ?_⟩) ?_ ?_
          rotate_left 2
          · intro W; go_simp; simp only [EU.out, E2.out]; with_reducible rfl
          · simp only [List.getElem_toArray, List.getElem_cons_succ, List.getElem_cons_zero, Act.put, List.setIfInBounds_toArray, List.set_cons_zero, List.set_cons_succ]; rfl
          iterate 2 (refine Run.pu (v := ?_) (a' := ?_) rfl rfl (Or.inl ⟨by rfl, ?_⟩) ?_ ?_; rotate_left 2; (focus (intro W; go_simp; with_reducible rfl)); (focus (simp only [List.getElem_toArray, List.getElem_cons_succ, List.getElem_cons_zero, Act.put, List.setIfInBounds_toArray, List.set_cons_zero, List.set_cons_succ]; rfl)))
          refine Run.nil ?_
          try simp only [List.getElem_toArray, List.getElem_cons_succ, List.getElem_cons_zero]
          try simp only [List.setIfInBounds_toArray, List.set_cons_zero, List.set_cons_succ]
          go_wp2_with fail
          refine (heap_Copy HH12.out IV.out.1).mono ?_
          rintro e w13 ⟨x, rfl, H2⟩
          have HC := As.mk H2
          clear H2 HH12
          go_wp2_with fail
          have hPP : cf.H / cf.Page ≤ cf.P := by rw [HPP.out]; have := Nat.div_le_self cf.H cf.Page; have := HCF.out.2.2.1; omega
          have HALL := al_all IV.out.1 IV.out.2 hPP HSZ.out HM7.out HAL.out mem
          obtain ⟨al2, hal2⟩ : ∃ y, y = 2 ^ (m - 1) := ⟨_, rfl⟩
          have hdy2 := max_half HM7.out HAL.out hal2
          rw [← hal2] at HALL
          have hgx : GoodA (al : Int) := by rw [HAL.out]; exact Or.inr (Or.inr ⟨m, by have := HM7.out; omega, rfl⟩)
          have hgy : GoodA (al2 : Int) := by rw [hal2]; exact Or.inr (Or.inr ⟨m - 1, by have := HM7.out; omega, rfl⟩)
          obtain ⟨s1, ax, s2, ay, hdx, hdy, hall⟩ := HALL
          obtain ⟨xe, xa, xn, xb, xl, xp, xm, xg⟩ := ax
          obtain ⟨ye, ya, yn, yb, yl, yp, ym, yg⟩ := ay
          have hs30 : (sz : Int) ≤ 2 ^ 30 := by have := HSZ.out; omega
          have hx := HC.out.do_ IV.out.1 ⟨3, 0, sz, al, 0, 0⟩ (ok_al hs30 hgx)
          rw [hdx] at hx
          have HX := As.mk hx
          have HY := As.mk (fun (W : World) (L : List (Nat × (Obj → Prop))) (R : World → Prop) (s1 : Hs) (mem1 : List Nat) (H : HW2 x h cf s mem s1 mem1 L R w W) => H.do_ IV.out.1 ⟨3, 0, sz, al2, 0, 0⟩ (ok_al hs30 hgy))
          rw [hdy] at HY
          have HLL := As.mk hall
          clear hdx hdy hall hx hgx hgy hal2 HC
          go_wp2_with fail
          refine HX.out.mono ?_
          rintro e w14 ⟨rfl, mem1, H1, -⟩
          have hb := H1.swap.box #[.int .i64 xe, .int .i64 xa, .int .i64 xn, .int .u8 xb, .int .i64 xl, .int .i64 xp, .int .i64 xm, .int .i64 xg] 39
          obtain ⟨g17, hg17⟩ : ∃ g, g = w14.heap.size := ⟨_, rfl⟩
          obtain ⟨w15, hw15⟩ : ∃ y, y = w14.alloc (.cells #[.int .i64 xe, .int .i64 xa, .int .i64 xn, .int .u8 xb, .int .i64 xl, .int .i64 xp, .int .i64 xm, .int .i64 xg] 39) := ⟨_, rfl⟩
          rw [← hg17, ← hw15] at hb
          have HB15 := As.mk hb
          clear hb H1 HX
          rw [show (⟨xe, xa, xn, xb, xl, xp, xm, xg⟩ : An).v = .agg #[.int .i64 xe, .int .i64 xa, .int .i64 xn, .int .u8 xb, .int .i64 xl, .int .i64 xp, .int .i64 xm, .int .i64 xg] from rfl]
          go_wp2_with fail
          simp only [← hg17, ← hw15]
          clear hg17 hw15
          obtain ⟨q, hq⟩ : ∃ q, q = al / 2 := ⟨_, rfl⟩
          have e5 : (al : Int) / 2 = (q : Int) := by rw [hq]; rfl
          have e5' : Int.tdiv (al : Int) 2 = (q : Int) := by rw [hq]; rfl
          have hal1 : 1 ≤ al := by rw [HAL.out]; exact Nat.two_pow_pos m
          have e6 : max (q : Int) 1 = (al2 : Int) := by omega
          have hal128 : al ≤ 128 := by rw [HAL.out]; exact Nat.le_trans (Nat.pow_le_pow_right (by decide) HM7.out) (by decide)
          have hq64 : q ≤ 64 := by omega
          have e7 : max (wrap64 ((al : Int) / 2)) 1 = (al2 : Int) := by
            have e8 : wrap64 ((al : Int) / 2) = (q : Int) := by rw [e5]; unfold wrap64; omega
            rw [e8]; exact e6
          clear hq hdy2 e5 e5' e6
          have HYY := As.mk (HY.out w15 _ _ s1 mem1 HB15.out)
          clear HY HB15
          go_wp2_with fail
          simp only [e7]
          refine HYY.out.mono ?_
          rintro e w16 ⟨rfl, mem2, H2, -⟩
          have hb := H2.swap.box #[.int .i64 ye, .int .i64 ya, .int .i64 yn, .int .u8 yb, .int .i64 yl, .int .i64 yp, .int .i64 ym, .int .i64 yg] 39
          obtain ⟨g18, hg18⟩ : ∃ g, g = w16.heap.size := ⟨_, rfl⟩
          obtain ⟨w17, hw17⟩ : ∃ y, y = w16.alloc (.cells #[.int .i64 ye, .int .i64 ya, .int .i64 yn, .int .u8 yb, .int .i64 yl, .int .i64 yp, .int .i64 ym, .int .i64 yg] 39) := ⟨_, rfl⟩
          rw [← hg18, ← hw17] at hb
          have HB17 := As.mk hb
          clear hb H2 HYY
          rw [show (⟨ye, ya, yn, yb, yl, yp, ym, yg⟩ : An).v = .agg #[.int .i64 ye, .int .i64 ya, .int .i64 yn, .int .u8 yb, .int .i64 yl, .int .i64 yp, .int .i64 ym, .int .i64 yg] from rfl]
          have z0' := HB17.out.rd me1 0 (by simp)
          have z1' := HB17.out.rd me1 1 (by simp)
          simp only [List.getElem?_cons_zero, List.getElem?_cons_succ] at z0' z1'
          rw [hg18, hw17] at HB17
          have z0 := HB17.out.rd me1 0 (by simp)
          have z1 := HB17.out.rd me1 1 (by simp)
          simp only [List.getElem?_cons_zero, List.getElem?_cons_succ] at z0 z1
          rw [← hg18, ← hw17] at HB17
          have HXE := HLL.out
          rcases (show ((xe = 3 ∨ xe = 5) ∨ _) from HXE) with (hxe | hxe) | ⟨a, ch, a2, hxe, hxa, hye, hya, h1, h2, h3, h4, h5, h6, hiv, hus⟩
          · subst hxe
            clear HLL
            go_wp2_with fail
            go_ret
            exact ⟨rfl, by rw [← hw17]; exact HB17.out.toBelow⟩
          · subst hxe
            clear HLL
            go_wp2_with fail
            go_ret
            exact ⟨rfl, by rw [← hw17]; exact HB17.out.toBelow⟩
          · subst hxe hxa hye hya
            clear HLL
            have hu := HB17.out.do_ hiv ⟨6, a, 0, 0, 0, 0⟩ (ok_usable _)
            rw [hus] at hu
            have HU := As.mk hu
            clear hu hus
            go_wp2_with fail
            simp only [← hg18, ← hw17]
            clear hg18 hw17 z0 z1 z0' z1'
            refine HU.out.mono ?_
            rintro e w18 ⟨rfl, mem3, H3, -⟩
            have hb := H3.box #[.int .i64 0, .int .i64 0, .int .i64 (ch : Int), .int .u8 0, .int .i64 0, .int .i64 0, .int .i64 0, .int .i64 0] 39
            have u1 := hb.rd me0 2 (by simp)
            have u2 := hb.rd me1 0 (by simp)
            have u3 := hb.rd me1 1 (by simp)
            have u4 := hb.rd me2 1 (by simp)
            simp only [List.getElem?_cons_zero, List.getElem?_cons_succ] at u1 u2 u3 u4
            have HB19 := As.mk hb
            have m1 : Int.tmod (a : Int) (al : Int) = 0 := by rw [show Int.tmod (a : Int) (al : Int) = ((a % al : Nat) : Int) from rfl, h2]; rfl
            have m2 : (a : Int) % (al : Int) = 0 := by rw [show (a : Int) % (al : Int) = ((a % al : Nat) : Int) from rfl, h2]; rfl
            have n2 : ((al : Int) == 0) = false := beqF (by omega)
            have n3 : ((al : Int) = 0) = False := eq_false (by omega)
            have n4 : (al = 0) = False := eq_false (by omega)
            clear hb H3 HU h2
            rw [show (⟨0, 0, (ch : Int), 0, 0, 0, 0, 0⟩ : An).v = .agg #[.int .i64 0, .int .i64 0, .int .i64 (ch : Int), .int .u8 0, .int .i64 0, .int .i64 0, .int .i64 0, .int .i64 0] from rfl]
            go_wp2_with fail
            go_ret
            exact ⟨rfl, HB19.out.toBelow⟩
    · go_enter Tryz.func6, Tryz.ntmps6
      go_wp2_with fail
      refine (top_begun w).mono ?_
      rintro e w1 ⟨rfl, hb⟩
      have HO1 := As.mk ((Own.start (X := []) w).below hb)
      clear hb
      go_wp2_with fail
      go_ret
      exact ⟨rfl, HO1.out.toBelow⟩
  · go_enter Tryz.func6, Tryz.ntmps6
    go_wp2_with fail
    refine (top_begun w).mono ?_
    rintro e w1 ⟨rfl, hb⟩
    have HO1 := As.mk ((Own.start (X := []) w).below hb)
    clear hb
    go_wp2_with fail
    go_ret
    exact ⟨rfl, HO1.out.toBelow⟩
end Go.Proofs.YtmookafmdonopaaGreat.Top
