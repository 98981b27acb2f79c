/- pin.Met walked. -/
import Derived.Test.YtmookafmdonopaaGreatCT49
namespace Go.Proofs.YtmookafmdonopaaGreat.Top
open Go Go.RowKit
set_option linter.unusedVariables false
set_option linter.unusedSimpArgs false
attribute [local go_sem] max2_int min2_int max_two min_two max_three

set_option maxHeartbeats 4000000 in
set_option maxRecDepth 100000 in
theorem pin_Met (c : Cf) (hg : Good c) (A : Option Addr) (cp ln : Nat) (l : List MB) (w : World) (hln : ln = l.length) (hr : Row w (.slice A ln cp) ln (mbV l)) (hf : ∀ b ∈ l, 1 ≤ b.2.1 ∧ b.1 + b.2.1 ≤ c.H) (hl : ln ≤ 100000) (h4 : c.H ≤ 4096) :
 Calls Tryz.prog 23 #[.int .i64 c.Page, .int .i64 c.H, .slice A ln cp] w fun e w' => (∃ v, e = .returned v ∧ Fr w.heap.size w' 4 v (c.H / c.Page) ((metL c l).map Value.bool)) ∧ Below w.heap.size w w' := by
 obtain ⟨b1, b2, b3, b4, b5, b6, b7⟩ := hg.bounds
 have HR := As.mk hr
 have HF := As.mk hf
 have HLN := As.mk hln
 have hp1 := hg.p1
 have HS := As.mk (Own.start (X := []) w)
 have d1 : (c.H : Int) / (c.Page : Int) = ((c.H / c.Page : Nat) : Int) := rfl
 have hlen0 := metL_len c
 have HG := As.mk hg
 obtain ⟨np, hnp⟩ : ∃ n, n = c.H / c.Page := ⟨_, rfl⟩
 have n0 : 1 ≤ np := by rw [hnp]; exact (Nat.le_div_iff_mul_le hp1).2 (by omega)
 have n1 : np ≤ 4096 := by rw [hnp]; exact Nat.le_trans (Nat.div_le_self _ _) h4
 have HNP := As.mk hnp
 rw [← hnp] at d1 hlen0 ⊢
 have HLEN := As.mk hlen0
 have p5 : ((c.Page : Int) = 0) = False := eq_false (by omega)
 have p6 : ((np : Int) == 0) = false := beqF (by omega)
 have p7 : ((np : Int) = 0) = False := eq_false (by omega)
 clear hr hf hln hnp hg hlen0
 go_enter Tryz.func23, Tryz.ntmps23
 go_wp2_with (first | (at_make; refine go_make rfl _ _ 56 4 (.bool false) 1 rfl Tryz.underlying56 info4 rfl _ _ _ _ np rfl rfl (by first | rfl | omega) (by first | rfl | omega) (by omega) (by simp only [maxLen]; omega) HS.out ?_; intro w1 ho hb; have HO := As.mk ho; clear ho hb))
 obtain ⟨gb, hgb⟩ : ∃ g, g = w.heap.size := ⟨_, rfl⟩
 have ho0 : Own [] [(gb, EC 4 ((metL c (l.take 0)).map Value.bool))] (fun _ => True) w w1 := by
  have e : (metL c (l.take 0)).map Value.bool = List.replicate np (.bool false) := by
   rw [metL, HNP.out]
   refine List.eq_replicate_iff.2 ⟨by simp, ?_⟩
   intro b hb
   obtain ⟨x, hx, rfl⟩ := List.mem_map.1 hb
   obtain ⟨i, _, rfl⟩ := List.mem_map.1 hx
   rw [List.take_zero]
   rfl
  rw [e, hgb]
  exact HO.out
 have HO1 := As.mk ho0
 simp only [← hgb]
 clear ho0 hgb HO HS
 go_loopw [35] (fun i wr => ∃ q : Nat, q ≤ ln ∧ i = .int .i64 (q : Int) ∧ Own [] [(gb, EC 4 ((metL c (l.take q)).map Value.bool))] (fun _ => True) w wr) (fun i _ => ln - (intOf i).toNat)
 case atStart => exact ⟨0, Nat.zero_le _, rfl, HO1.out⟩
 case round =>
  clear HO1
  obtain ⟨q, hq, rfl, ho⟩ := hrel
  have HO := As.mk ho
  clear ho
  by_cases hqn : q < ln
  · obtain ⟨mb, hm⟩ : ∃ m, l[q]? = some m := ⟨l[q]'(by have := HLN.out; omega), List.getElem?_eq_getElem _⟩
    obtain ⟨bb, oo, rfl, -, hcell⟩ := HR.out.cell' (by rw [mbV_len]; have := HLN.out; omega)
    obtain ⟨m1, m2, m3⟩ := mbV_at l q mb hm
    have y0 := cell_below HO.out.toBelow (hcell _ _ m1)
    have y1 := cell_below HO.out.toBelow (hcell _ _ m2)
    have y2 := cell_below HO.out.toBelow (hcell _ _ m3)
    rw [← Nat.add_assoc] at y1 y2
    obtain ⟨f1, f2⟩ := HF.out mb (List.mem_of_getElem? hm)
    have HSN := As.mk (metL_snoc (c := c) hm)
    obtain ⟨at_, hat⟩ : ∃ x, x = mb.1 := ⟨_, rfl⟩
    obtain ⟨ch, hch⟩ : ∃ x, x = mb.2.1 := ⟨_, rfl⟩
    obtain ⟨as_, has⟩ : ∃ x, x = mb.2.2 := ⟨_, rfl⟩
    rw [← hat] at y0 f2
    rw [← hch] at y1 f1 f2
    rw [← has] at y2
    rw [← hat, ← hch] at HSN
    have hbx := HO.out.box #[.int .i64 (at_ : Int), .int .i64 (ch : Int), .int .i64 as_] 48
    obtain ⟨g9, hg9⟩ : ∃ g, g = wr.heap.size := ⟨_, rfl⟩
    obtain ⟨w2, hw2⟩ : ∃ x, x = wr.alloc (.cells #[.int .i64 (at_ : Int), .int .i64 (ch : Int), .int .i64 as_] 48) := ⟨_, rfl⟩
    have u0 := hbx.get me0 0 (by simp)
    have u1 := hbx.get me0 1 (by simp)
    simp only [List.getElem?_cons_zero, List.getElem?_cons_succ] at u0 u1
    have HB := As.mk hbx
    clear hcell m1 m2 m3 hm hat hch has hbx
    have e1 : max (at_ : Int) 0 = (at_ : Int) := by omega
    have e4 : (at_ : Int) + (ch : Int) = ((at_ + ch : Nat) : Int) := by omega
    by_cases hc1 : at_ + ch < c.H
    · have g0 : ((ch : Int) < (c.H : Int) - (at_ : Int)) = True := eq_true (by omega)
      obtain ⟨en, hen⟩ : ∃ x, x = at_ + ch := ⟨_, rfl⟩
      rw [← hen] at e4 hc1
      have e3 : min (en : Int) (c.H : Int) = (en : Int) := by omega
      have Hen := As.mk hen
      have g1 : ((en : Int) ≤ (at_ : Int)) = False := eq_false (by omega)
      have g2 : ((ch : Int) < 1) = False := eq_false (by omega)
      obtain ⟨en1, hen1⟩ : ∃ x : Nat, x = en - 1 := ⟨_, rfl⟩
      have e5 : (en : Int) - 1 = (en1 : Int) := by omega
      obtain ⟨f, hfq⟩ : ∃ x, x = at_ / c.Page := ⟨_, rfl⟩
      obtain ⟨e, heq⟩ : ∃ x, x = en1 / c.Page := ⟨_, rfl⟩
      have hfe : f ≤ e := by rw [hfq, heq]; exact Nat.div_le_div_right (by omega)
      have hel : e < np := by
       rw [heq, HNP.out]
       refine (Nat.div_lt_iff_lt_mul hp1).2 ?_
       have := page_dvd HG.out
       rw [Nat.div_mul_cancel this]
       omega
      have D1 := As.mk (show wrap64 ((at_ : Int) / (c.Page : Int)) = (f : Int) by rw [show (at_ : Int) / (c.Page : Int) = (f : Int) by rw [hfq]; rfl]; unfold wrap64; omega)
      have D2 := As.mk (show wrap64 ((en1 : Int) / (c.Page : Int)) = (e : Int) by rw [show (en1 : Int) / (c.Page : Int) = (e : Int) by rw [heq]; rfl]; unfold wrap64; omega)
      have HSN2 : As (metL c (l.take (q + 1)) = onTo (metL c (l.take q)) f (e + 1 - f)) := ⟨by rw [HSN.out, hfq, heq, hen1, Hen.out]⟩
      clear hen hen1 hfq heq HSN d1
      go_wp2_with (first | (simp only [D1.out]) | (simp only [D2.out]))
      simp only [← hw2, ← hg9]
      rw [← hw2, ← hg9] at HB
      have HB2 : As (Own [] [(g9, EC 48 [.int .i64 (at_ : Int), .int .i64 (ch : Int), .int .i64 as_]), (gb, EC 4 ((onTo (metL c (l.take q)) f 0).map Value.bool))] (fun _ => True) w w2) := ⟨HB.out⟩
      clear HB hw2 hg9 u0 u1 HO
      go_loopw [12] (fun i wr => ∃ j : Nat, j ≤ e + 1 - f ∧ i = .int .i64 ((f + j : Nat) : Int) ∧ Own [] [(g9, EC 48 [.int .i64 (at_ : Int), .int .i64 (ch : Int), .int .i64 as_]), (gb, EC 4 ((onTo (metL c (l.take q)) f j).map Value.bool))] (fun _ => True) w wr) (fun i _ => e + 1 - (intOf i).toNat)
      case atStart => exact ⟨0, Nat.zero_le _, rfl, HB2.out⟩
      case round =>
       clear HB2
       obtain ⟨j, hj, rfl, ho⟩ := hrel
       have HO := As.mk ho
       clear ho
       obtain ⟨k, hk⟩ : ∃ k, k = f + j := ⟨_, rfl⟩
       rw [← hk]
       by_cases hkn : k ≤ e
       · have hlen : ((onTo (metL c (l.take q)) f j).map Value.bool).length = np := by rw [List.length_map, onTo_len]; exact HLEN.out _
         have z1 := HO.out.get me1 k (by omega)
         rw [List.getElem?_eq_getElem (by omega)] at z1
         have z2 := HO.out.frozen me1 k
         have hset := HO.out.set 1 (g := gb) (e := 4) (cs := (onTo (metL c (l.take q)) f j).map Value.bool) rfl k (.bool true) (by omega)
         have hon : (((onTo (metL c (l.take q)) f j).map Value.bool).set k (.bool true)) = (onTo (metL c (l.take q)) f (j + 1)).map Value.bool := by rw [onTo, List.map_set, hk]
         rw [hon] at hset
         have HSET := As.mk hset
         have HK := As.mk hk
         clear hset HO hk hon
         go_wp2_with (first | (simp only [D2.out]))
         go_roundw
         case rel => exact ⟨j + 1, by have := HK.out; omega, by have := HK.out; go_num, HSET.out⟩
         case measure => simp [intOf]; omega
       · have hj2 : j = e + 1 - f := by omega
         rw [hj2] at HO
         have HE := As.mk (show Own [] [(gb, EC 4 ((metL c (l.take (q + 1))).map Value.bool))] (fun _ => True) w wr by rw [HSN2.out]; exact HO.out.drop)
         clear HO hj2 hk
         go_wp2_with (first | (simp only [D2.out]))
         go_roundw
         case rel => exact ⟨q + 1, by omega, by go_num, HE.out⟩
         case measure => simp [intOf]; omega
    · have g0 : ((ch : Int) < (c.H : Int) - (at_ : Int)) = False := eq_false (by omega)
      have hen : c.H = at_ + ch := by omega
      have g00 : ((at_ : Int) < 0) = False := eq_false (by omega)
      have HcH := As.mk hen
      have g1 : ((c.H : Int) ≤ (at_ : Int)) = False := eq_false (by omega)
      have g2 : ((ch : Int) < 1) = False := eq_false (by omega)
      obtain ⟨en1, hen1⟩ : ∃ x : Nat, x = c.H - 1 := ⟨_, rfl⟩
      have e5 : (c.H : Int) - 1 = (en1 : Int) := by omega
      obtain ⟨f, hfq⟩ : ∃ x, x = at_ / c.Page := ⟨_, rfl⟩
      obtain ⟨e, heq⟩ : ∃ x, x = en1 / c.Page := ⟨_, rfl⟩
      have hfe : f ≤ e := by rw [hfq, heq]; exact Nat.div_le_div_right (by omega)
      have hel : e < np := by
       rw [heq, HNP.out]
       refine (Nat.div_lt_iff_lt_mul hp1).2 ?_
       have := page_dvd HG.out
       rw [Nat.div_mul_cancel this]
       omega
      have D1 := As.mk (show wrap64 ((at_ : Int) / (c.Page : Int)) = (f : Int) by rw [show (at_ : Int) / (c.Page : Int) = (f : Int) by rw [hfq]; rfl]; unfold wrap64; omega)
      have D2 := As.mk (show wrap64 ((en1 : Int) / (c.Page : Int)) = (e : Int) by rw [show (en1 : Int) / (c.Page : Int) = (e : Int) by rw [heq]; rfl]; unfold wrap64; omega)
      have HSN2 : As (metL c (l.take (q + 1)) = onTo (metL c (l.take q)) f (e + 1 - f)) := ⟨by rw [HSN.out, hfq, heq, hen1, HcH.out]⟩
      clear hen hen1 hfq heq HSN d1
      go_wp2_with (first | (simp only [D1.out]) | (simp only [D2.out]))
      simp only [← hw2, ← hg9]
      rw [← hw2, ← hg9] at HB
      have HB2 : As (Own [] [(g9, EC 48 [.int .i64 (at_ : Int), .int .i64 (ch : Int), .int .i64 as_]), (gb, EC 4 ((onTo (metL c (l.take q)) f 0).map Value.bool))] (fun _ => True) w w2) := ⟨HB.out⟩
      clear HB hw2 hg9 u0 u1 HO
      go_loopw [12] (fun i wr => ∃ j : Nat, j ≤ e + 1 - f ∧ i = .int .i64 ((f + j : Nat) : Int) ∧ Own [] [(g9, EC 48 [.int .i64 (at_ : Int), .int .i64 (ch : Int), .int .i64 as_]), (gb, EC 4 ((onTo (metL c (l.take q)) f j).map Value.bool))] (fun _ => True) w wr) (fun i _ => e + 1 - (intOf i).toNat)
      case atStart => exact ⟨0, Nat.zero_le _, rfl, HB2.out⟩
      case round =>
       clear HB2
       obtain ⟨j, hj, rfl, ho⟩ := hrel
       have HO := As.mk ho
       clear ho
       obtain ⟨k, hk⟩ : ∃ k, k = f + j := ⟨_, rfl⟩
       rw [← hk]
       by_cases hkn : k ≤ e
       · have hlen : ((onTo (metL c (l.take q)) f j).map Value.bool).length = np := by rw [List.length_map, onTo_len]; exact HLEN.out _
         have z1 := HO.out.get me1 k (by omega)
         rw [List.getElem?_eq_getElem (by omega)] at z1
         have z2 := HO.out.frozen me1 k
         have hset := HO.out.set 1 (g := gb) (e := 4) (cs := (onTo (metL c (l.take q)) f j).map Value.bool) rfl k (.bool true) (by omega)
         have hon : (((onTo (metL c (l.take q)) f j).map Value.bool).set k (.bool true)) = (onTo (metL c (l.take q)) f (j + 1)).map Value.bool := by rw [onTo, List.map_set, hk]
         rw [hon] at hset
         have HSET := As.mk hset
         have HK := As.mk hk
         clear hset HO hk hon
         go_wp2_with (first | (simp only [D2.out]))
         go_roundw
         case rel => exact ⟨j + 1, by have := HK.out; omega, by have := HK.out; go_num, HSET.out⟩
         case measure => simp [intOf]; omega
       · have hj2 : j = e + 1 - f := by omega
         rw [hj2] at HO
         have HE := As.mk (show Own [] [(gb, EC 4 ((metL c (l.take (q + 1))).map Value.bool))] (fun _ => True) w wr by rw [HSN2.out]; exact HO.out.drop)
         clear HO hj2 hk
         go_wp2_with (first | (simp only [D2.out]))
         go_roundw
         case rel => exact ⟨q + 1, by omega, by go_num, HE.out⟩
         case measure => simp [intOf]; omega
  · have e : q = ln := by omega
    rw [e] at HO
    rw [e]
    have e2 : l.take ln = l := List.take_of_length_le (by have := HLN.out; omega)
    rw [e2] at HO
    clear e e2 hqn hq
    go_wp2_with fail
    go_ret
    exact ⟨⟨_, rfl, HO.out.fr List.mem_cons_self (Nat.le_refl _)⟩, HO.out.toBelow⟩
end Go.Proofs.YtmookafmdonopaaGreat.Top
