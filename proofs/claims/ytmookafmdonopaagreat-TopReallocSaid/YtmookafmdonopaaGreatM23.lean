/- hodmanref8: Zero, Fill walked (weak). -/
import Derived.Test.YtmookafmdonopaaGreatM22
import Derived.Test.YtmookafmdonopaaGreatM18
/- hodmanref8: Zero, Fill walked (weak). -/
namespace Go.Proofs.YtmookafmdonopaaGreat.Top
open Go Go.RowKit
set_option linter.unusedVariables false
set_option linter.unusedSimpArgs false
attribute [local go_sem] max2_int min2_int max_two min_two max_three

def uV (l : List Int) : List Value := l.map fun x => .int .u8 x
theorem uV_len (l : List Int) : (uV l).length = l.length := by simp [uV]
theorem uV_one (l : List Int) : ∀ u ∈ uV l, u.oneCell' = true := by
 intro u hu
 obtain ⟨b, _, rfl⟩ := List.mem_map.1 hu
 rfl
/-- a row of n bytes in W -/
def ByteRow (W : World) (v : Value) (n : Nat) : Prop := ∃ us : List Int, us.length = n ∧ Row W v n (uV us)
/-- W has the blocks that were made between w and w' -/
def Agr (w w' W : World) : Prop := ∀ k, w.heap.size ≤ k → k < w'.heap.size → W.heap[k]? = w'.heap[k]?
theorem uV_row {W : World} {A : Option Addr} {n c : Nat} {us : List Int} (h : Row W (.slice A n c) n (uV us)) (hl : us.length = n) (h0 : 1 ≤ n) : ∃ b o, A = some ⟨b, o, none⟩ ∧ n ≤ c ∧ ∀ j u, (uV us)[j]? = some u → W.cell? ((⟨b, o, none⟩ : Addr).add j) = some u := by
 obtain ⟨b, o, rfl, hc, hcell⟩ := h.cell' (by rw [uV_len]; omega)
 exact ⟨b, o, rfl, hc, fun j u hu => by rw [show (⟨b, o, none⟩ : Addr).add j = ⟨b, o + j, none⟩ by unfold Addr.add; split <;> simp_all]; exact hcell j u hu⟩
set_option maxHeartbeats 2000000 in
theorem ref_Zero (v : Value) (n : Nat) (at_ q : Int) (w : World) (hr : ByteRow w v n) (h0 : 1 ≤ n) (hn : n ≤ 65536) :
 Calls Tryz.prog 82 #[v, .int .i64 at_, .int .i64 q] w fun e w' => (∃ (v' : Value) (b : Bool), e = .returned (.tuple #[v', .bool b]) ∧ ∀ W, Agr w w' W → ByteRow W v n → ByteRow W v' n) ∧ Below w.heap.size w w' := by
 obtain ⟨us, hl, hr⟩ := hr
 obtain ⟨A, c, rfl⟩ := hr.form
 obtain ⟨b0, o0, rfl, hc, hcell⟩ := uV_row hr hl h0
 have HT := As.mk (ref_there (some ⟨b0, o0, none⟩) n c at_ q w (by omega))
 have HR := As.mk hr
 have HL := As.mk hl
 have HC := As.mk (fun j u (hu : (uV us)[j]? = some u) => cell_below ((Below.refl w.heap.size w).alloc (Nat.le_refl _) (.cells #[] 5)) (hcell j u hu))
 have HO : OwnS [] [] (fun _ => True) w (w.alloc (.cells #[] 5)) 5 1 (.slice (some ⟨w.heap.size, 0, none⟩) 0 0) 0 [] := OwnS.made (Own.start w) (Nat.le_refl _) (by simp [maxLen]) rfl rfl
 have HOO := As.mk HO
 clear hr hl hcell HO
 go_enter Tryz.func82, Tryz.ntmps82
 go_wp2_with fail
 refine HT.out.mono ?_
 rintro e w' ⟨b, rfl, rfl, hb⟩
 cases b
 · go_wp2_with fail
   go_ret2
   exact ⟨⟨_, _, rfl, fun _ _ h => h⟩, Below.refl _ _⟩
 · obtain ⟨p1, p2, p3⟩ := hb rfl
   obtain ⟨a, rfl⟩ := Int.eq_ofNat_of_zero_le p1
   obtain ⟨q, rfl⟩ := Int.eq_ofNat_of_zero_le p2
   clear hb p1 p2 HT
   go_wp2_with (at_builtin; refine go_app w' rfl _ _ 22 5 _ 1 1 rfl Tryz.underlying22 info5 rfl (by decide) (.slice (some ⟨w'.heap.size, 0, none⟩) 0 0) 0 [] rfl ⟨b0, o0, none⟩ n c (uV us) rfl HOO.out (by rw [uV_len, HL.out, Nat.mul_one]) HC.out (uV_one us) (by simp [maxLen]; omega) (by omega) ?_; intro v1 w1 hw1; have hfr := hw1.fr; simp only [Nat.zero_add, List.nil_append] at hfr; obtain ⟨g, cap, x, rfl, hcx, hg, hx, hp⟩ := hfr.form (by omega); have HO := As.mk ((Own.start (X := []) w').add hw1.rest.toBelow hg hx hp); clear hw1 hfr hx hp)
   go_loopw [9] (fun i wr => ∃ (k : Nat) (us : List Int), k ≤ q ∧ us.length = n ∧ i = .int .i64 (k : Int) ∧ Own [] [(g, EC 5 (uV us))] (fun _ => True) w' wr) (fun i _ => q - (intOf i).toNat)
   case atStart => exact ⟨0, us, Nat.zero_le _, HL.out, rfl, HO.out⟩
   case round =>
    clear HO HL HR HC us
    obtain ⟨k, us, hk, hus, rfl, ho⟩ := hrel
    have HO := As.mk ho
    clear ho
    by_cases hkn : k < q
    · obtain ⟨m, hm⟩ : ∃ m, m = a + k := ⟨_, rfl⟩
      have hmn : m < n := by omega
      have e1 : (a : Int) + (k : Int) = (m : Int) := by omega
      have z1 := HO.out.get List.mem_cons_self m (by rw [uV_len]; omega)
      rw [List.getElem?_eq_getElem (by rw [uV_len]; omega)] at z1
      have z2 := HO.out.frozen (g := g) (e := 5) (cs := uV us) List.mem_cons_self m
      have hset := HO.out.set 0 (g := g) (e := 5) (cs := uV us) rfl m (.int .u8 0) (by rw [uV_len]; omega)
      have HSET := As.mk hset
      clear hset HO hm
      go_wp2_with fail
      go_roundw
      case rel => exact ⟨k + 1, us.set m 0, by omega, by simp [hus], by go_num, by rw [show uV (us.set m 0) = (uV us).set m (.int .u8 0) by rw [uV, List.map_set]; rfl]; exact HSET.out⟩
      case measure => simp [intOf]; omega
    · have e : k = q := by omega
      subst e
      go_wp2
      go_ret2
      exact ⟨⟨_, _, rfl, fun W hW _ => ⟨us, hus, (HO.out.fr List.mem_cons_self hcx).row hW⟩⟩, HO.out.toBelow⟩
set_option maxHeartbeats 2000000 in
theorem ref_Fill (v : Value) (n pg : Nat) (seed page : Int) (w : World) (hr : ByteRow w v n) (h0 : 1 ≤ n) (hn : n ≤ 65536) (h1 : 1 ≤ pg) (h2 : pg ≤ 65536) :
 Calls Tryz.prog 99 #[v, .int .i64 seed, .int .i64 page, .int .i64 (pg : Int)] w fun e w' => (∃ v' : Value, e = .returned v' ∧ ∀ W, Agr w w' W → ByteRow W v' n) ∧ Below w.heap.size w w' := by
 obtain ⟨us, hl, hr⟩ := hr
 obtain ⟨A, c, rfl⟩ := hr.form
 obtain ⟨b0, o0, rfl, hc, hcell⟩ := uV_row hr hl h0
 have HL := As.mk hl
 have HC := As.mk (fun j u (hu : (uV us)[j]? = some u) => cell_below ((Below.refl w.heap.size w).alloc (Nat.le_refl _) (.cells #[] 5)) (hcell j u hu))
 have HO : OwnS [] [] (fun _ => True) w (w.alloc (.cells #[] 5)) 5 1 (.slice (some ⟨w.heap.size, 0, none⟩) 0 0) 0 [] := OwnS.made (Own.start w) (Nat.le_refl _) (by simp [maxLen]) rfl rfl
 have HOO := As.mk HO
 clear hr hl hcell HO
 by_cases hp : page < 0
 · go_enter Tryz.func99, Tryz.ntmps99
   go_wp2_with (at_builtin; refine go_app w rfl _ _ 22 5 _ 1 1 rfl Tryz.underlying22 info5 rfl (by decide) (.slice (some ⟨w.heap.size, 0, none⟩) 0 0) 0 [] rfl ⟨b0, o0, none⟩ n c (uV us) rfl HOO.out (by rw [uV_len, HL.out, Nat.mul_one]) HC.out (uV_one us) (by simp [maxLen]; omega) (by omega) ?_; intro v1 w1 hw1; have hfr := hw1.fr; simp only [Nat.zero_add, List.nil_append] at hfr; obtain ⟨g, cap, x, rfl, hcx, hg, hx, hp⟩ := hfr.form (by omega); have HO := As.mk ((Own.start (X := []) w).add hw1.rest.toBelow hg hx hp); clear hw1 hfr hx hp)
   go_ret
   exact ⟨⟨_, rfl, fun W hW => ⟨us, HL.out, (HO.out.fr List.mem_cons_self hcx).row hW⟩⟩, HO.out.toBelow⟩
 · go_enter Tryz.func99, Tryz.ntmps99
   go_wp2_with (at_builtin; refine go_app w rfl _ _ 22 5 _ 1 1 rfl Tryz.underlying22 info5 rfl (by decide) (.slice (some ⟨w.heap.size, 0, none⟩) 0 0) 0 [] rfl ⟨b0, o0, none⟩ n c (uV us) rfl HOO.out (by rw [uV_len, HL.out, Nat.mul_one]) HC.out (uV_one us) (by simp [maxLen]; omega) (by omega) ?_; intro v1 w1 hw1; have hfr := hw1.fr; simp only [Nat.zero_add, List.nil_append] at hfr; obtain ⟨g, cap, x, rfl, hcx, hg, hx, hp⟩ := hfr.form (by omega); have HO := As.mk ((Own.start (X := []) w).add hw1.rest.toBelow hg hx hp); clear hw1 hfr hx hp)
   go_loopw [10] (fun i wr => ∃ (k : Nat) (us : List Int), k ≤ n ∧ us.length = n ∧ i = .int .i64 (k : Int) ∧ Own [] [(g, EC 5 (uV us))] (fun _ => True) w wr) (fun i _ => n - (intOf i).toNat)
   case atStart => exact ⟨0, us, Nat.zero_le _, HL.out, rfl, HO.out⟩
   case round =>
    clear HO HL HC us
    obtain ⟨k, us, hk, hus, rfl, ho⟩ := hrel
    have HO := As.mk ho
    clear ho
    have p0 : ((0 : Int) < (pg : Int)) = True := eq_true (by omega)
    by_cases hkn : k < n
    · have d1 : (k : Int) / (pg : Int) = ((k / pg : Nat) : Int) := rfl
      have l1 : k / pg ≤ k := Nat.div_le_self _ _
      obtain ⟨m, hm⟩ : ∃ m, m = k / pg := ⟨_, rfl⟩
      rw [← hm] at d1 l1
      have hm2 : m ≤ 65536 := by omega
      clear hm l1
      by_cases hmp : (m : Int) = page
      · have d2 : (k : Int) % (pg : Int) = ((k % pg : Nat) : Int) := rfl
        have l2 : k % pg ≤ k := Nat.mod_le _ _
        obtain ⟨r, hr⟩ : ∃ r, r = k % pg := ⟨_, rfl⟩
        rw [← hr] at d2 l2
        have hr2 : r ≤ 65536 := by omega
        clear hr l2
        have z2 := HO.out.frozen (g := g) (e := 5) (cs := uV us) List.mem_cons_self k
        have z1 := HO.out.get List.mem_cons_self k (by rw [uV_len]; omega)
        rw [List.getElem?_eq_getElem (by rw [uV_len]; omega)] at z1
        have hset := fun x : Int => HO.out.set 0 (g := g) (e := 5) (cs := uV us) rfl k (.int .u8 x) (by rw [uV_len]; omega)
        have HSET := As.mk hset
        clear hset HO
        subst hmp
        go_wp2_with fail
        refine (ref_Byte _ _ _ _).mono ?_
        rintro e w3 ⟨⟨x, rfl⟩, rfl⟩
        go_wp2_with fail
        go_roundw
        case rel => exact ⟨k + 1, us.set k x, by omega, by simp [hus], by go_num, by rw [show uV (us.set k x) = (uV us).set k (.int .u8 x) by rw [uV, List.map_set]; rfl]; exact HSET.out x⟩
        case measure => simp [intOf]; omega
      · have hmp' := beqF hmp
        go_wp2_with fail
        go_roundw
        case rel => exact ⟨k + 1, us, by omega, hus, by go_num, HO.out⟩
        case measure => simp [intOf]; omega
    · have e : k = n := by omega
      subst e
      go_wp2
      go_ret
      exact ⟨⟨_, rfl, fun W hW => ⟨us, hus, (HO.out.fr List.mem_cons_self hcx).row hW⟩⟩, HO.out.toBelow⟩
end Go.Proofs.YtmookafmdonopaaGreat.Top
/- hodmanref17: Lowest walked (weak). -/
namespace Go.Proofs.YtmookafmdonopaaGreat.Top
open Go Go.RowKit
set_option linter.unusedVariables false
set_option linter.unusedSimpArgs false
attribute [local go_sem] max2_int min2_int max_two min_two max_three

set_option maxHeartbeats 4000000 in
theorem ref_Lowest (cf : Cf) (hH : cf.H ≤ 65536) (A : Option Addr) (c : Nat) (l : List MB) (q : Nat) (w : World) (hr : Row w (.slice A l.length c) l.length (mbV l)) (hl : l.length ≤ 100000) (hq : 1 ≤ q) (hq2 : q ≤ 65536) :
 Calls Tryz.prog 22 #[cf.v, .slice A l.length c, .int .i64 (q : Int)] w fun e w' => (∃ (a : Nat) (b : Bool), e = .returned (.tuple #[.int .i64 (a : Int), .bool b]) ∧ (b = true → a + q ≤ cf.H)) ∧ Below w.heap.size w w' := by
 have HR := As.mk hr
 obtain ⟨ln, hln⟩ : ∃ n, n = l.length := ⟨_, rfl⟩
 rw [← hln] at hl HR ⊢
 have HLN := As.mk hln
 rw [Cf.v]
 have HO := As.mk ((Own.start (X := []) w).box #[.int .i64 cf.G, .int .i64 cf.N, .int .i64 cf.M, .int .i64 cf.L, .int .i64 cf.Page, .int .i64 cf.P, .int .i64 cf.H, .int .i64 cf.Seed] 34)
 clear hr hln
 go_enter Tryz.func22, Tryz.ntmps22
 go_wp2
 go_loopw [8] (fun i wr => ∃ a : Nat, a ≤ cf.H ∧ i = .int .i64 (a : Int) ∧ Own [] [(w.heap.size, EC 34 [.int .i64 cf.G, .int .i64 cf.N, .int .i64 cf.M, .int .i64 cf.L, .int .i64 cf.Page, .int .i64 cf.P, .int .i64 cf.H, .int .i64 cf.Seed])] (fun _ => True) w wr) (fun i _ => cf.H + 1 - (intOf i).toNat)
 case atStart => exact ⟨0, Nat.zero_le _, rfl, HO.out⟩
 case round =>
  clear HO
  obtain ⟨a, ha, rfl, ho⟩ := hrel
  have HO := As.mk ho
  have z6 := ho.get (g := w.heap.size) (e := 34) List.mem_cons_self 6 (by simp)
  obtain ⟨m, hm⟩ : ∃ m, m = a + q := ⟨_, rfl⟩
  have e1 : (a : Int) + (q : Int) = (m : Int) := by omega
  have HM := As.mk hm
  have hm2 : m ≤ 131072 := by omega
  clear ho hm
  by_cases hmH : m ≤ cf.H
  · go_wp2
    go_loopw [9, 10] (fun f i wr => ∃ (b : Bool) (j : Nat), j ≤ ln ∧ f = .bool b ∧ i = .int .i64 (j : Int) ∧ Own [] [(w.heap.size, EC 34 [.int .i64 cf.G, .int .i64 cf.N, .int .i64 cf.M, .int .i64 cf.L, .int .i64 cf.Page, .int .i64 cf.P, .int .i64 cf.H, .int .i64 cf.Seed])] (fun _ => True) w wr) (fun _ i _ => ln - (intOf i).toNat)
    case atStart => exact ⟨true, 0, Nat.zero_le _, rfl, rfl, HO.out⟩
    case round =>
     clear HO z6
     obtain ⟨b, j, hj, rfl, rfl, ho⟩ := hrel
     have HO := As.mk ho
     clear ho
     by_cases hjl : j < ln
     · cases b
       · go_wp2
         go_roundw
         case rel => exact ⟨m, hmH, by go_num, HO.out⟩
         case measure => simp [intOf]; have := HM.out; omega
       · obtain ⟨mb, hm⟩ : ∃ mb, l[j]? = some mb := ⟨l[j]'(by have := HLN.out; omega), List.getElem?_eq_getElem _⟩
         obtain ⟨b, o, rfl, hnc, hcell⟩ := HR.out.cell' (by rw [mbV_len]; have := HLN.out; omega)
         obtain ⟨m1, m2, _⟩ := mbV_at l j mb hm
         have y1 := As.mk (hcell _ _ m1)
         have y2 := As.mk (hcell _ _ m2)
         have HSS := As.mk (fun (W : World) (hW : Own [] [(w.heap.size, EC 34 [.int .i64 cf.G, .int .i64 cf.N, .int .i64 cf.M, .int .i64 cf.L, .int .i64 cf.Page, .int .i64 cf.P, .int .i64 cf.H, .int .i64 cf.Seed])] (fun _ => True) w W) => show W.cell? ⟨b, o + j * 3, none⟩ = some (.int .i64 (mb.1 : Int)) ∧ W.cell? ⟨b, o + j * 3 + 1, none⟩ = some (.int .i64 (mb.2.1 : Int)) from ⟨cell_below hW.toBelow y1.out, cell_below hW.toBelow (by rw [Nat.add_assoc]; exact y2.out)⟩)
         clear hcell m1 m2 y1 y2 hm
         go_wp2_with fail
         refine rgn [(0, 1), (1, 1), (2, 1), (3, 1), (4, 1), (5, 1), (6, 1), (7, 0), (8, 1), (9, 1), (10, 1), (11, 1), (12, 0), (13, 1), (14, 2), (15, 1), (16, 1)] [] (fun W => W.cell? ⟨b, o + j * 3, none⟩ = some (.int .i64 (mb.1 : Int)) ∧ W.cell? ⟨b, o + j * 3 + 1, none⟩ = some (.int .i64 (mb.2.1 : Int))) (by kernel_rfl) (by kernel_rfl) (fun _ _ _ d _ h => by cases d <;> exact h) (HSS.out _ HO.out.drew) ?_
         have HOd := As.mk HO.out.drew
         clear HO
         iterate 7 (refine Run.pu (v := ?_) (a' := ?_) rfl rfl (Or.inl ⟨by rfl, ?_⟩) ?_ ?_; rotate_left 2; (focus (intro W; go_simp; with_reducible rfl)); (focus (simp only [zq1, zq2, zq3, Act.put, zq4, zq5, zq6]; rfl)))
         refine Run.rd (v := ?_) (a' := ?_) rfl rfl (Or.inl ⟨by rfl, ?_⟩) ?_ ?_; rotate_left 2; (focus (rintro W ⟨hW1, hW2⟩; go_simp; with_reducible rfl)); (focus (simp only [zq1, zq2, zq3, Act.put, zq4, zq5, zq6]; rfl))
         iterate 4 (refine Run.pu (v := ?_) (a' := ?_) rfl rfl (Or.inl ⟨by rfl, ?_⟩) ?_ ?_; rotate_left 2; (focus (intro W; go_simp; with_reducible rfl)); (focus (simp only [zq1, zq2, zq3, Act.put, zq4, zq5, zq6]; rfl)))
         refine Run.rd (v := ?_) (a' := ?_) rfl rfl (Or.inl ⟨by rfl, ?_⟩) ?_ ?_; rotate_left 2; (focus (rintro W ⟨hW1, hW2⟩; go_simp; with_reducible rfl)); (focus (simp only [zq1, zq2, zq3, Act.put, zq4, zq5, zq6]; rfl))
         refine Run.pu (v := ?_) (a' := ?_) rfl rfl (Or.inl ⟨by rfl, ?_⟩) ?_ ?_; rotate_left 2; (focus (intro W; go_simp; with_reducible rfl)); (focus (simp only [zq1, zq2, zq3, Act.put, zq4, zq5, zq6]; rfl))
         refine Run.ef rfl (fun K hK => ?_)
         simp only [zq1, zq2, zq3]
         try simp only [zq4, zq5, zq6]
         go_wp2_with fail
         refine (ref_Over _ _ _ _ _).mono ?_
         rintro e w3 ⟨⟨z, rfl⟩, hb⟩
         have HO3 := As.mk (HOd.out.below hb)
         clear hb HOd
         go_wp2
         refine hK.out _ _ (HSS.out _ HO3.out) ?_
         clear hK K
         iterate 2 (refine Run.pu (v := ?_) (a' := ?_) rfl rfl (Or.inl ⟨by rfl, ?_⟩) ?_ ?_; rotate_left 2; (focus (intro W; go_simp; with_reducible rfl)); (focus (simp only [zq1, zq2, zq3, Act.put, zq4, zq5, zq6]; rfl)))
         refine Run.nil ?_
         try simp only [zq1, zq2, zq3]
         go_wp2_with fail
         go_roundw
         case rel => exact ⟨!z, j + 1, by omega, rfl, by go_num, HO3.out⟩
         case measure => simp [intOf]; omega
     · have e : j = ln := by omega
       subst e
       cases b
       · go_wp2
         go_roundw
         case rel => exact ⟨m, hmH, by go_num, HO.out⟩
         case measure => simp [intOf]; have := HM.out; omega
       · go_wp2
         go_ret2
         exact ⟨⟨a, true, rfl, fun _ => by rw [← HM.out]; exact hmH⟩, HO.out.toBelow⟩
  · go_wp2
    go_ret2
    exact ⟨⟨0, false, rfl, fun h => by simp at h⟩, HO.out.toBelow⟩
end Go.Proofs.YtmookafmdonopaaGreat.Top
/- Regions that draw their order: reads by a plan, then one of several operations, each with a plan of its own for the rest. -/
namespace Go.Proofs.YtmookafmdonopaaGreat.Top
open Go Go.RowKit Go.Proofs.YtmookafmdonopaaGreatW.PrintLast
set_option linter.unusedVariables false
set_option linter.unusedSimpArgs false

section
variable {P : Program} {ops : Array Oper} {Q : Exit → Act → World → Prop} {md : Region.Mode} {S : World → Prop} {ds : List Nat}
theorem rgnT (p1 : List (Nat × Nat)) (T : List (Nat × List (Nat × Nat))) (ds : List Nat) (S : World → Prop) {id : Nat} {a : Act} {w : World} (hm : P.follows .mixedOrders = true)
 (hok : (decide (p1.length + 1 ≤ ops.size) && readsOk .any ops ds (marks_ (Array.replicate ops.size false) (p1.map Prod.fst)) p1 (Array.replicate ops.size false) &&
  (Region.ready .any ops (marks_ (Array.replicate ops.size false) (p1.map Prod.fst)) == T.map Prod.fst && T.map Prod.fst != []) &&
  T.all fun b => decide (p1.length + (1 + b.2.length) ≤ ops.size) && planOk .any ops ds true b.2 ((marks_ (Array.replicate ops.size false) (p1.map Prod.fst)).setIfInBounds b.1 true)) = true)
 (hQ : ∀ c a w d v, Q (.panic c) (Act.put a d v) w → Q (.panic c) a w) (hS : S w.drew)
 (h : Run P ops (Qn Q fun a' w' => ∀ b ∈ T, wpOp P ops Q b.1 (fun a'' w'' => S w'' ∧ Run P ops Q S b.2 a'' w'') a' w') S p1 a w.drew) : (Code.region id ops true).wp P Q a w := by
 rw [Bool.and_eq_true, Bool.and_eq_true, Bool.and_eq_true] at hok
 obtain ⟨⟨⟨h1, h2⟩, h3⟩, h4⟩ := hok
 have h1 := of_decide_eq_true h1
 rw [Bool.and_eq_true, beq_iff_eq, bne_iff_ne] at h3
 refine wp_region_last (S := S) (ds := ds) hm ?_
 refine reads_sound (f := ops.size - p1.length) hQ hS (fun a fuel hf hk => ?_) p1 _ a _ (by omega) h2 h
 match fuel, hf with
 | 0, hf => omega
 | fuel + 1, hf =>
  refine wpAnyLast_all h3.1 h3.2 fun i hi => ?_
  obtain ⟨b, hb, rfl⟩ := List.mem_map.1 hi
  have h5 := List.all_eq_true.1 h4 b hb
  rw [Bool.and_eq_true] at h5
  have h6 := of_decide_eq_true h5.1
  refine wpOp_mono (fun a' w' hh => ?_) (hk b hb)
  exact ⟨fun _ _ => hh.1, run_sound hQ b.2 true _ a' w' fuel (by omega) h5.2 (fun _ => hh.1) hh.2⟩
end
end Go.Proofs.YtmookafmdonopaaGreat.Top
