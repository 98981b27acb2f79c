/- hodmanref8: Trim walked (weak). -/
import Derived.Test.YtmookafmdonopaaGreatM24
import Derived.Test.YtmookafmdonopaaGreatM23
import Derived.Test.YtmookafmdonopaaGreatM01
import Derived.Deep.MidRow
/- hodmanref8: Trim walked (weak). -/
namespace Go.Proofs.YtmookafmdonopaaGreat.Top
open Go Go.RowKit
set_option linter.unusedVariables false
set_option linter.unusedSimpArgs false
attribute [local go_sem] max2_int min2_int max_two min_two max_three

def RetTrim (w w' : World) (n : Nat) (e : Ending) : Prop := ∃ (v : Value) (x : Int), e = .returned (.tuple #[v, .int .i64 x]) ∧ ∀ W, Agr w w' W → BoolRow W v n
set_option maxHeartbeats 4000000 in
theorem ref_Trim (n : Nat) (A A2 : Option Addr) (c c2 : Nat) (on met : List Bool) (w : World) (h1 : Row w (.slice A n c) n (on.map Value.bool)) (l1 : on.length = n) (h2 : Row w (.slice A2 n c2) n (met.map Value.bool)) (l2 : met.length = n) (h0 : 1 ≤ n) (hn : n ≤ 65536) :
 Calls Tryz.prog 62 #[.slice A n c, .slice A2 n c2] w fun e w' => RetTrim w w' n e ∧ Below w.heap.size w w' := by
 obtain ⟨bo, oo, rfl, hnc1, hcell1⟩ := h1.cell' (by rw [List.length_map]; omega)
 obtain ⟨bm, om, rfl, hnc2, hcell2⟩ := h2.cell' (by rw [List.length_map]; omega)
 have HC1 := As.mk hcell1
 have HC2 := As.mk hcell2
 have L1 := As.mk l1
 have L2 := As.mk l2
 have HS := As.mk (Own.start (X := []) w)
 clear h1 h2 l1 l2 hcell1 hcell2
 go_enter Tryz.func62, Tryz.ntmps62
 go_wp2_with (first | (at_make; refine go_make rfl _ _ 56 4 (.bool false) 1 rfl Tryz.underlying56 info4 rfl _ _ _ _ n rfl rfl (by first | rfl | omega) (by first | rfl | omega) (by omega) (by simp only [maxLen]; omega) HS.out ?_; intro w1 ho hb; have HO := As.mk ho; clear ho hb))
 go_loopw [7, 8] (fun s i wr => ∃ (k : Nat) (bs : List Bool) (x : Int), k ≤ n ∧ bs.length = n ∧ s = .int .i64 x ∧ i = .int .i64 (k : Int) ∧ Own [] [(w.heap.size, EC 4 (bs.map Value.bool))] (fun _ => True) w wr) (fun _ i _ => n - (intOf i).toNat)
 case atStart => exact ⟨0, List.replicate n false, 0, Nat.zero_le _, by simp, rfl, rfl, by rw [List.map_replicate]; exact HO.out⟩
 case round =>
  clear HO
  obtain ⟨k, bs, x, hk, hbs, rfl, rfl, ho⟩ := hrel
  have HO := As.mk ho
  clear ho
  by_cases hkn : k < n
  · obtain ⟨ym, hm⟩ : ∃ y, met[k]? = some y := ⟨met[k]'(by have := L2.out; omega), List.getElem?_eq_getElem _⟩
    obtain ⟨yo, ho_⟩ : ∃ y, on[k]? = some y := ⟨on[k]'(by have := L1.out; omega), List.getElem?_eq_getElem _⟩
    have ZO := As.mk (HC1.out k (.bool yo) (by rw [List.getElem?_map, ho_]; rfl))
    have ZM := As.mk (HC2.out k (.bool ym) (by rw [List.getElem?_map, hm]; rfl))
    have zo := cell_below HO.out.toBelow ZO.out
    have zm := cell_below HO.out.toBelow ZM.out
    have hlb : k < (bs.map Value.bool).length := by simp; omega
    have z1 := HO.out.get List.mem_cons_self k hlb
    rw [List.getElem?_eq_getElem hlb] at z1
    have z2 := HO.out.frozen (o := k) List.mem_cons_self
    clear ho_ hm
    cases yo
    · skip
      have HSET := As.mk (HO.out.set 0 rfl k (.bool false) hlb)
      simp only [zq5] at HSET
      have zo2 := cell_below HSET.out.toBelow ZO.out
      have z4 := HSET.out.get List.mem_cons_self k (by simp; omega)
      rw [List.getElem?_set_self hlb] at z4
      clear HO
      go_wp2_with fail
      go_roundw
      case rel => exact ⟨k + 1, bs.set k false, _, by omega, by simp [hbs], rfl, by go_num, by rw [List.map_set]; exact HSET.out⟩
      case measure => simp [intOf]; omega
    · cases ym
      · skip
        have HSET := As.mk (HO.out.set 0 rfl k (.bool false) hlb)
        simp only [zq5] at HSET
        have zo2 := cell_below HSET.out.toBelow ZO.out
        have z4 := HSET.out.get List.mem_cons_self k (by simp; omega)
        rw [List.getElem?_set_self hlb] at z4
        clear HO
        go_wp2_with fail
        go_roundw
        case rel => exact ⟨k + 1, bs.set k false, _, by omega, by simp [hbs], rfl, by go_num, by rw [List.map_set]; exact HSET.out⟩
        case measure => simp [intOf]; omega
      · skip
        have HSET := As.mk (HO.out.set 0 rfl k (.bool true) hlb)
        simp only [zq5] at HSET
        have zo2 := cell_below HSET.out.toBelow ZO.out
        have z4 := HSET.out.get List.mem_cons_self k (by simp; omega)
        rw [List.getElem?_set_self hlb] at z4
        clear HO
        go_wp2_with fail
        go_roundw
        case rel => exact ⟨k + 1, bs.set k true, _, by omega, by simp [hbs], rfl, by go_num, by rw [List.map_set]; exact HSET.out⟩
        case measure => simp [intOf]; omega
  · have e : k = n := by omega
    rw [e]
    clear e hkn hk
    go_wp2_with fail
    go_ret2
    exact ⟨⟨_, _, rfl, fun W hW => ⟨bs, hbs, (HO.out.fr List.mem_cons_self (Nat.le_refl _)).row hW⟩⟩, HO.out.toBelow⟩
end Go.Proofs.YtmookafmdonopaaGreat.Top
/- hodmanref17: put walked (weak). -/
namespace Go.Proofs.YtmookafmdonopaaGreat.Top
open Go Go.RowKit
set_option linter.unusedVariables false
set_option linter.unusedSimpArgs false
attribute [local go_sem] max2_int min2_int max_two min_two max_three

/-- a row of blocks: those of l and nb -/
def RetBlocks (w w' : World) (l : List MB) (nb : MB) (e : Ending) : Prop := ∃ (v : Value) (l' : List MB), e = .returned v ∧ l'.length = l.length + 1 ∧ (∀ b ∈ l', b = nb ∨ b ∈ l) ∧ ∀ W, Agr w w' W → Row W v l'.length (mbV l')
theorem mbV_snoc (l : List MB) (b : MB) : mbV (l ++ [b]) = mbV l ++ [.int .i64 (b.1 : Int), .int .i64 (b.2.1 : Int), .int .i64 b.2.2] := by simp [mbV]
set_option maxHeartbeats 4000000 in
theorem ref_put (A : Option Addr) (c : Nat) (l : List MB) (nb : MB) (w : World) (hr : Row w (.slice A l.length c) l.length (mbV l)) (hl : l.length ≤ 1000) :
 Calls Tryz.prog 100 #[.slice A l.length c, .agg #[.int .i64 (nb.1 : Int), .int .i64 (nb.2.1 : Int), .int .i64 nb.2.2]] w fun e w' => RetBlocks w w' l nb e ∧ Below w.heap.size w w' := by
 have HR := As.mk hr
 obtain ⟨ln, hln⟩ : ∃ n, n = l.length := ⟨_, rfl⟩
 rw [← hln] at hl HR ⊢
 have HLN := As.mk hln
 have HO := As.mk ((Own.start (X := []) w).box #[.int .i64 (nb.1 : Int), .int .i64 (nb.2.1 : Int), .int .i64 nb.2.2] 48)
 clear hr hln
 go_enter Tryz.func100, Tryz.ntmps100
 go_wp2
 go_loopw [5, 6, 7] (fun s f i wr => ∃ (k : Nat) (b : Bool) (l' : List MB), k ≤ ln ∧ l'.length = k + b.toNat ∧ As (∀ x ∈ l', x = nb ∨ x ∈ l) ∧ f = .bool b ∧ i = .int .i64 (k : Int) ∧ OwnS [] [(w.heap.size, EC 48 [.int .i64 (nb.1 : Int), .int .i64 (nb.2.1 : Int), .int .i64 nb.2.2])] (fun _ => True) w wr 48 3 s l'.length (mbV l')) (fun _ _ i _ => ln - (intOf i).toNat)
 case atStart => exact ⟨0, false, [], Nat.zero_le _, rfl, ⟨by simp⟩, rfl, rfl, OwnS.nil HO.out 48 3⟩
 case round =>
  clear HO
  obtain ⟨k, b, l', hk, hl', HM, rfl, rfl, ho⟩ := hrel
  have HO := As.mk ho
  clear ho
  by_cases hkn : k < ln
  · have hll : l'.length ≤ 1001 := by have := Bool.toNat_le b; omega
    obtain ⟨mb, hm⟩ : ∃ m, l[k]? = some m := ⟨l[k]'(by have := HLN.out; omega), List.getElem?_eq_getElem _⟩
    have HMB := As.mk (List.mem_of_getElem? hm)
    obtain ⟨bb, oo, rfl, hnc, hcell⟩ := HR.out.cell' (by rw [mbV_len]; have := HLN.out; omega)
    obtain ⟨m1, m2, m3⟩ := mbV_at l k mb hm
    have Y : As (w.cell? ⟨bb, oo + k * 3, none⟩ = some (.int .i64 (mb.1 : Int)) ∧ w.cell? ⟨bb, oo + k * 3 + 1, none⟩ = some (.int .i64 (mb.2.1 : Int)) ∧ w.cell? ⟨bb, oo + k * 3 + 2, none⟩ = some (.int .i64 mb.2.2)) := As.mk ⟨hcell _ _ m1, hcell _ _ m2, hcell _ _ m3⟩
    clear hcell m1 m2 m3 hm
    have y0 := cell_below HO.out.rest.toBelow Y.out.1
    have y1 := cell_below HO.out.rest.toBelow Y.out.2.1
    have y2 := cell_below HO.out.rest.toBelow Y.out.2.2
    have z0 := HO.out.rest.get (g := w.heap.size) (e := 48) List.mem_cons_self 0 (by simp)
    have z1 := HO.out.rest.get (g := w.heap.size) (e := 48) List.mem_cons_self 1 (by simp)
    have z2 := HO.out.rest.get (g := w.heap.size) (e := 48) List.mem_cons_self 2 (by simp)
    cases b
    · skip
      go_wp2_with fail
      refine rgn [(0, 1), (1, 1), (2, 1), (3, 1), (4, 1), (5, 1), (6, 1), (7, 0), (8, 1), (9, 0), (10, 1), (11, 1)] [] (fun W => W.cell? ⟨bb, oo + k * 3, none⟩ = some (.int .i64 (mb.1 : Int)) ∧ W.cell? ⟨w.heap.size, 0, none⟩ = some (.int .i64 (nb.1 : Int))) (by kernel_rfl) (by kernel_rfl) (fun _ _ _ d _ h => by cases d <;> exact h) ⟨y0, z0⟩ ?_
      obtain ⟨w3, hw3⟩ : ∃ x, x = wr.drew := ⟨_, rfl⟩
      have HO3 : As (OwnS [] [(w.heap.size, EC 48 [.int .i64 (nb.1 : Int), .int .i64 (nb.2.1 : Int), .int .i64 nb.2.2])] (fun _ => True) w w3 48 3 u5 l'.length (mbV l')) := by rw [hw3]; exact As.mk (HO.out.drewN 1)
      rw [← hw3]
      clear hw3 HO y0 y1 y2 z0 z1 z2
      iterate 7 (refine Run.pu (v := ?_) (a' := ?_) rfl rfl (Or.inl ⟨by rfl, ?_⟩) ?_ ?_; rotate_left 2; (focus (intro W; go_simp; with_reducible rfl)); (focus (simp only [zq1, zq2, zq3, Act.put, zq4, zq5, zq6]; rfl)))
      refine Run.rd (v := ?_) (a' := ?_) rfl rfl (Or.inl ⟨by rfl, ?_⟩) ?_ ?_; rotate_left 2; (focus (rintro W ⟨hW1, hW2⟩; go_simp; with_reducible rfl)); (focus (simp only [zq1, zq2, zq3, Act.put, zq4, zq5, zq6]; rfl))
      refine Run.pu (v := ?_) (a' := ?_) rfl rfl (Or.inl ⟨by rfl, ?_⟩) ?_ ?_; rotate_left 2; (focus (intro W; go_simp; with_reducible rfl)); (focus (simp only [zq1, zq2, zq3, Act.put, zq4, zq5, zq6]; rfl))
      refine Run.rd (v := ?_) (a' := ?_) rfl rfl (Or.inl ⟨by rfl, ?_⟩) ?_ ?_; rotate_left 2; (focus (rintro W ⟨hW1, hW2⟩; go_simp; with_reducible rfl)); (focus (simp only [zq1, zq2, zq3, Act.put, zq4, zq5, zq6]; rfl))
      iterate 2 (refine Run.pu (v := ?_) (a' := ?_) rfl rfl (Or.inl ⟨by rfl, ?_⟩) ?_ ?_; rotate_left 2; (focus (intro W; go_simp; with_reducible rfl)); (focus (simp only [zq1, zq2, zq3, Act.put, zq4, zq5, zq6]; rfl)))
      refine Run.nil ?_
      have y0 := cell_below HO3.out.rest.toBelow Y.out.1
      have y1 := cell_below HO3.out.rest.toBelow Y.out.2.1
      have y2 := cell_below HO3.out.rest.toBelow Y.out.2.2
      have z0 := HO3.out.rest.get (g := w.heap.size) (e := 48) List.mem_cons_self 0 (by simp)
      have z1 := HO3.out.rest.get (g := w.heap.size) (e := 48) List.mem_cons_self 1 (by simp)
      have z2 := HO3.out.rest.get (g := w.heap.size) (e := 48) List.mem_cons_self 2 (by simp)
      by_cases c1 : nb.1 < mb.1
      · go_wp2_with (first | (at_builtin; refine go_app w rfl _ _ 43 48 _ 3 24 rfl Tryz.underlying43 info48 rfl (by decide) _ l'.length (mbV l') rfl ⟨w3.heap.size, 0, none⟩ 1 1 [.int .i64 (nb.1 : Int), .int .i64 (nb.2.1 : Int), .int .i64 nb.2.2] rfl (HO3.out.alloc _) rfl (news _) (by intro u hu; simp at hu; rcases hu with rfl | rfl | rfl <;> rfl) (by simp [maxLen]; omega) (by omega) ?_; intro v1 w1 hw1; have HWa : As (OwnS [] [(w.heap.size, EC 48 [.int .i64 (nb.1 : Int), .int .i64 (nb.2.1 : Int), .int .i64 nb.2.2])] (fun _ => True) w w1 48 3 v1 (l' ++ [nb]).length (mbV (l' ++ [nb]))) := As.mk (by rw [mbV_snoc, List.length_append]; exact hw1); have hlq : (l' ++ [nb]).length ≤ 1002 := (by simp; omega); have y0 := cell_below hw1.rest.toBelow Y.out.1; have y1 := cell_below hw1.rest.toBelow Y.out.2.1; have y2 := cell_below hw1.rest.toBelow Y.out.2.2; clear hw1 HO3) | (at_builtin; refine go_app w rfl _ _ 43 48 _ 3 24 rfl Tryz.underlying43 info48 rfl (by decide) _ (l' ++ [nb]).length (mbV (l' ++ [nb])) rfl ⟨w1.heap.size, 0, none⟩ 1 1 [.int .i64 (mb.1 : Int), .int .i64 (mb.2.1 : Int), .int .i64 mb.2.2] rfl (HWa.out.alloc _) rfl (news _) (by intro u hu; simp at hu; rcases hu with rfl | rfl | rfl <;> rfl) (by simp only [maxLen]; omega) (by omega) ?_; intro v2 w6 hw2; have HW2 := As.mk hw2; clear hw2))
        go_roundw
        case rel => exact ⟨k + 1, true, (l' ++ [nb]) ++ [mb], by omega, by simp at hl' ⊢; omega, ⟨by intro x hx; rcases List.mem_append.1 hx with h | h; rcases List.mem_append.1 h with h | h; exact HM.out x h; exact Or.inl (by simpa using h); exact Or.inr (by rw [List.mem_singleton.1 h]; exact HMB.out)⟩, rfl, by go_num, by rw [mbV_snoc, List.length_append]; exact HW2.out⟩
        case measure => simp [intOf]; omega
      · go_wp2_with (at_builtin; refine go_app w rfl _ _ 43 48 _ 3 24 rfl Tryz.underlying43 info48 rfl (by decide) _ l'.length (mbV l') rfl ⟨w3.heap.size, 0, none⟩ 1 1 [.int .i64 (mb.1 : Int), .int .i64 (mb.2.1 : Int), .int .i64 mb.2.2] rfl (HO3.out.alloc _) rfl (news _) (by intro u hu; simp at hu; rcases hu with rfl | rfl | rfl <;> rfl) (by simp [maxLen]; omega) (by omega) ?_; intro v1 w1 hw1; have HW := As.mk hw1; clear hw1 HO3)
        go_roundw
        case rel => exact ⟨k + 1, false, l' ++ [mb], by omega, by simp at hl' ⊢; omega, ⟨by intro x hx; rcases List.mem_append.1 hx with h | h; exact HM.out x h; exact Or.inr (by rw [List.mem_singleton.1 h]; exact HMB.out)⟩, rfl, by go_num, by rw [mbV_snoc, List.length_append]; exact HW.out⟩
        case measure => simp [intOf]; omega
    · skip
      go_wp2_with fail
      refine rgn [(0, 1), (1, 1), (2, 1), (3, 1), (4, 1), (5, 1), (6, 1), (7, 0), (8, 1), (9, 0), (10, 1), (11, 1)] [] (fun W => W.cell? ⟨bb, oo + k * 3, none⟩ = some (.int .i64 (mb.1 : Int)) ∧ W.cell? ⟨w.heap.size, 0, none⟩ = some (.int .i64 (nb.1 : Int))) (by kernel_rfl) (by kernel_rfl) (fun _ _ _ d _ h => by cases d <;> exact h) ⟨y0, z0⟩ ?_
      obtain ⟨w3, hw3⟩ : ∃ x, x = wr.drew := ⟨_, rfl⟩
      have HO3 : As (OwnS [] [(w.heap.size, EC 48 [.int .i64 (nb.1 : Int), .int .i64 (nb.2.1 : Int), .int .i64 nb.2.2])] (fun _ => True) w w3 48 3 u5 l'.length (mbV l')) := by rw [hw3]; exact As.mk (HO.out.drewN 1)
      rw [← hw3]
      clear hw3 HO y0 y1 y2 z0 z1 z2
      iterate 3 (refine Run.pu (v := ?_) (a' := ?_) rfl rfl (Or.inl ⟨by rfl, ?_⟩) ?_ ?_; rotate_left 2; (focus (intro W; go_simp; with_reducible rfl)); (focus (simp only [zq1, zq2, zq3, Act.put, zq4, zq5, zq6]; rfl)))
      iterate 4 (refine Run.pu (v := undef) (a' := ?_) rfl rfl (Or.inr ⟨by rfl, rfl⟩) ?_ ?_; rotate_left 1; (focus (simp only [zq1, zq2, zq3, Act.put, zq4, zq5, zq6]; rfl)))
      refine Run.rd (v := undef) (a' := ?_) rfl rfl (Or.inr ⟨by rfl, rfl⟩) ?_ ?_; rotate_left 1; (focus (simp only [zq1, zq2, zq3, Act.put, zq4, zq5, zq6]; rfl))
      refine Run.pu (v := undef) (a' := ?_) rfl rfl (Or.inr ⟨by rfl, rfl⟩) ?_ ?_; rotate_left 1; (focus (simp only [zq1, zq2, zq3, Act.put, zq4, zq5, zq6]; rfl))
      refine Run.rd (v := undef) (a' := ?_) rfl rfl (Or.inr ⟨by rfl, rfl⟩) ?_ ?_; rotate_left 1; (focus (simp only [zq1, zq2, zq3, Act.put, zq4, zq5, zq6]; rfl))
      refine Run.pu (v := undef) (a' := ?_) rfl rfl (Or.inr ⟨by rfl, rfl⟩) ?_ ?_; rotate_left 1; (focus (simp only [zq1, zq2, zq3, Act.put, zq4, zq5, zq6]; rfl))
      refine Run.pu (v := ?_) (a' := ?_) rfl rfl (Or.inl ⟨by rfl, ?_⟩) ?_ ?_; rotate_left 2; (focus (intro W; go_simp; with_reducible rfl)); (focus (simp only [zq1, zq2, zq3, Act.put, zq4, zq5, zq6]; rfl))
      refine Run.nil ?_
      have y0 := cell_below HO3.out.rest.toBelow Y.out.1
      have y1 := cell_below HO3.out.rest.toBelow Y.out.2.1
      have y2 := cell_below HO3.out.rest.toBelow Y.out.2.2
      have z0 := HO3.out.rest.get (g := w.heap.size) (e := 48) List.mem_cons_self 0 (by simp)
      have z1 := HO3.out.rest.get (g := w.heap.size) (e := 48) List.mem_cons_self 1 (by simp)
      have z2 := HO3.out.rest.get (g := w.heap.size) (e := 48) List.mem_cons_self 2 (by simp)
      go_wp2_with (at_builtin; refine go_app w rfl _ _ 43 48 _ 3 24 rfl Tryz.underlying43 info48 rfl (by decide) _ l'.length (mbV l') rfl ⟨w3.heap.size, 0, none⟩ 1 1 [.int .i64 (mb.1 : Int), .int .i64 (mb.2.1 : Int), .int .i64 mb.2.2] rfl (HO3.out.alloc _) rfl (news _) (by intro u hu; simp at hu; rcases hu with rfl | rfl | rfl <;> rfl) (by simp [maxLen]; omega) (by omega) ?_; intro v1 w1 hw1; have HW := As.mk hw1; clear hw1 HO3)
      go_roundw
      case rel => exact ⟨k + 1, true, l' ++ [mb], by omega, by simp at hl' ⊢; omega, ⟨by intro x hx; rcases List.mem_append.1 hx with h | h; exact HM.out x h; exact Or.inr (by rw [List.mem_singleton.1 h]; exact HMB.out)⟩, rfl, by go_num, by rw [mbV_snoc, List.length_append]; exact HW.out⟩
      case measure => simp [intOf]; omega
  · have e : k = ln := by omega
    rw [e] at hl'
    rw [e]
    clear e hkn hk
    cases b
    · have z0 := HO.out.rest.get (g := w.heap.size) (e := 48) List.mem_cons_self 0 (by simp)
      have z1 := HO.out.rest.get (g := w.heap.size) (e := 48) List.mem_cons_self 1 (by simp)
      have z2 := HO.out.rest.get (g := w.heap.size) (e := 48) List.mem_cons_self 2 (by simp)
      have hl2 : l'.length = ln := by simpa using hl'
      clear hl'
      go_wp2_with (at_builtin; refine go_app w rfl _ _ 43 48 _ 3 24 rfl Tryz.underlying43 info48 rfl (by decide) _ l'.length (mbV l') rfl ⟨wr.heap.size, 0, none⟩ 1 1 [.int .i64 (nb.1 : Int), .int .i64 (nb.2.1 : Int), .int .i64 nb.2.2] rfl (HO.out.alloc _) rfl (news _) (by intro u hu; simp at hu; rcases hu with rfl | rfl | rfl <;> rfl) (by simp [maxLen]; omega) (by omega) ?_; intro v1 w1 hw1; have HW := As.mk hw1; clear hw1)
      go_ret
      have h7 := HW.out
      rw [← mbV_snoc] at h7
      exact ⟨⟨_, l' ++ [nb], rfl, by have := HLN.out; simp; omega, by intro x hx; rcases List.mem_append.1 hx with h | h; exact HM.out x h; exact Or.inl (by simpa using h), by intro W hW; have h8 := h7.fr.row hW; rwa [List.length_append]⟩, h7.rest.toBelow⟩
    · go_wp2_with fail
      go_ret
      exact ⟨⟨_, l', rfl, by have := HLN.out; simp at hl'; omega, HM.out, fun W hW => HO.out.fr.row hW⟩, HO.out.rest.toBelow⟩
end Go.Proofs.YtmookafmdonopaaGreat.Top
/- Whole structs in and out of a walk's own blocks, without a look at their cells. -/
namespace Go.Proofs.YtmookafmdonopaaGreat.Top
open Go Go.RowKit
set_option linter.unusedVariables false
set_option linter.unusedSimpArgs false

section
variable {P : Program} {ops : Array Oper} {rest : List Oper} {op : Oper} {a : Act} {w w0 : World} {Q : Exit → Act → World → Prop} {X : List Nat} {L : List (Nat × (Obj → Prop))} {R : World → Prop}
theorem Own.range {g e : Nat} {cs : List Value} (h : Own X L R w0 w) (hm : (g, EC e cs) ∈ L) : w.rangeAt g 0 cs := fun j v hj => by
 have h1 := (List.getElem?_eq_some_iff.1 hj).1
 rw [Nat.zero_add, h.get hm j h1]
 exact hj
theorem Own.there {g e : Nat} {cs : List Value} (h : Own X L R w0 w) (hm : (g, EC e cs) ∈ L) {n : Nat} (hn : n ≤ cs.length) : w.there g 0 n := fun j hj => by
 rw [Nat.zero_add]
 refine ⟨?_, h.frozen hm j⟩
 rw [h.get hm j (by omega), List.getElem?_eq_getElem (by omega)]
 rfl
/-- a struct is read whole -/
theorem go_ld (HO : Own X L R w0 w) {g e : Nat} {cs : List Value} (hm : (g, EC e cs) ∈ L) (hgd : op.guard = none) (ty : TypeId) (x : Operand) (ho : op.op = .load ty x) (hx : a.eval x = .pointer (some ⟨g, 0, none⟩))
 (d : TypeDesc) (hu : P.underlying ty = some d) (hd : d.isRow = true) (hi : (P.info? ty).map (·.size) = some cs.length)
 (h : wpList P ops Q rest (a.put op.dst (.agg cs.toArray)) w) : wpList P ops Q (op :: rest) a w :=
 wpList_load_mid hgd ty x ho g 0 hx cs d (HO.range hm) hu hd hi h
/-- a struct is laid whole -/
theorem go_st (HO : Own X L R w0 w) (i : Nat) {g e : Nat} {cs : List Value} (hL : L[i]? = some (g, EC e cs)) (hgd : op.guard = none) (ty : TypeId) (x y : Operand) (ho : op.op = .store ty x y) (hx : a.eval x = .pointer (some ⟨g, 0, none⟩))
 (cells : List Value) (hy : a.eval y = .agg cells.toArray) (hl : cells.length = cs.length) (hi : (P.info? ty).map (·.size) = some cells.length) (h1 : ∀ v ∈ cells, v.oneCell' = true)
 (h : ∀ w1, Own X (L.set i (g, EC e cells)) R w0 w1 → wpList P ops Q rest (a.put op.dst undef) w1) : wpList P ops Q (op :: rest) a w := by
 have hm : (g, EC e cs) ∈ L := List.mem_of_getElem? hL
 refine wpList_store_mid hgd ty x y ho g 0 cells.toArray hx hy (by rw [List.size_toArray]; exact HO.there hm (by omega)) (by rw [List.size_toArray]; exact hi) (all_oneCell_toArray h1) ?_
 refine h _ ?_
 obtain ⟨o, hox, cur, sp, rfl, hc⟩ := HO.at_ _ _ hm
 have key : ∀ (vs : List Value) (k : Nat) (W : World) (pre : List Value) (post : List Value), W.heap[g]? = some (.cells (pre ++ post).toArray e (0, 0)) → k = pre.length → vs.length ≤ post.length →
  (W.setCells g k vs).os = W.os ∧ (W.setCells g k vs).tape = W.tape ∧ (W.setCells g k vs).output = W.output ∧ (W.setCells g k vs).heap.size = W.heap.size ∧ (∀ j, j ≠ g → (W.setCells g k vs).heap[j]? = W.heap[j]?) ∧ (W.setCells g k vs).heap[g]? = some (.cells (pre ++ vs ++ post.drop vs.length).toArray e (0, 0)) := by
  intro vs
  induction vs with
  | nil => intro k W pre post hW hk hle; exact ⟨rfl, rfl, rfl, rfl, fun _ _ => rfl, by simpa [World.setCells] using hW⟩
  | cons v vs ih =>
   intro k W pre post hW hk hle
   obtain ⟨p, post, rfl⟩ : ∃ p q, post = p :: q := by
    cases post with
    | nil => simp at hle
    | cons p q => exact ⟨p, q, rfl⟩
   have hW1 : (W.setCell ⟨g, k, none⟩ v).heap[g]? = some (.cells ((pre ++ [v]) ++ post).toArray e (0, 0)) := by
    simp only [World.setCell, Array.getElem?_modify, if_true, hW, Option.map_some]
    congr 2
    subst hk
    apply Array.ext'
    simp
   obtain ⟨a1, a2, a3, a4, a5, a6⟩ := ih (k + 1) (W.setCell ⟨g, k, none⟩ v) (pre ++ [v]) post hW1 (by simp [hk]) (by simpa using hle)
   refine ⟨a1, a2, a3, a4.trans (by simp [World.setCell]), fun j hj => (a5 j hj).trans (Below.heap_setCell W ⟨g, k, none⟩ v j hj), ?_⟩
   show (World.setCells (W.setCell ⟨g, k, none⟩ v) g (k + 1) vs).heap[g]? = _
   rw [a6]
   simp
 obtain ⟨a1, a2, a3, a4, a5, a6⟩ := key cells 0 w [] cur.toList (by simpa using hox) rfl (by rw [hc, List.length_append]; omega)
 refine HO.put i hL a1 a2 a3 (Nat.le_of_eq a4.symm) (fun k _ hne => a5 k hne) a6 ⟨_, (cur.toList).drop cells.length, rfl, ?_⟩
 simp
theorem run_storeAt_one (w : World) (b o : Nat) (ty : TypeId) (v : Value) (ht : w.there b o 1) (hi : (P.info? ty).map (·.size) = some 1) (h1 : v.oneCell' = true) :
 (Instr.storeAt ty (.pointer (some ⟨b, o, none⟩)) v).run P w = .ok () (w.setCells b o [v]) := by
 have := run_storeCells_cells (P := P) b o [v] 0 w (fun j hj => by simpa using (ht j (by simpa using hj)).1) (fun j hj => by simpa using (ht j (by simpa using hj)).2) (fun x hx => by simp at hx; subst hx; exact h1)
 have hc : v.cells = #[v] := by cases v <;> first | rfl | cases h1
 cases hq : P.info? ty with
 | none => simp [hq] at hi
 | some i =>
  have hs : i.size = 1 := by simpa [hq] using hi
  simp only [Nat.add_zero] at this
  simp only [Instr.storeAt, Instr.sureAddr, Sem.run_bind, Sem.run_pure, Result.andThen_ok]
  simp [storeVar, sizeOf, typeInfo, hq, hc, hs, this]
/-- one cell of a struct is laid -/
theorem go_st1 (HO : Own X L R w0 w) (i : Nat) {g e : Nat} {cs : List Value} (hL : L[i]? = some (g, EC e cs)) (hgd : op.guard = none) (ty : TypeId) (x y : Operand) (ho : op.op = .store ty x y) (o : Nat) (hx : a.eval x = .pointer (some ⟨g, o, none⟩))
 (v : Value) (hy : a.eval y = v) (h1 : v.oneCell' = true) (hlt : o < cs.length) (hi : (P.info? ty).map (·.size) = some 1)
 (h : ∀ w1, Own X (L.set i (g, EC e (cs.set o v))) R w0 w1 → wpList P ops Q rest (a.put op.dst undef) w1) : wpList P ops Q (op :: rest) a w := by
 have hm : (g, EC e cs) ∈ L := List.mem_of_getElem? hL
 have ht : w.there g o 1 := fun j hj => by
  have e0 : j = 0 := by omega
  subst e0
  refine ⟨?_, HO.frozen hm _⟩
  rw [Nat.add_zero, HO.get hm o hlt, List.getElem?_eq_getElem hlt]
  rfl
 refine wpList_plain hgd fun _ hK => ?_
 unfold Oper.wp execOp
 simp only [ho, hx, hy]
 simp only [Sem.run_bind, run_storeAt_one w g o ty v ht hi h1, Sem.run_pure, Result.andThen_ok]
 exact hK _ _ (h _ (HO.set i hL o v hlt))
/-- the head of a struct is read -/
theorem go_ldp (HO : Own X L R w0 w) {g e : Nat} {cs vs tl : List Value} (hm : (g, EC e cs) ∈ L) (hcs : cs = vs ++ tl) (hgd : op.guard = none) (ty : TypeId) (x : Operand) (ho : op.op = .load ty x) (hx : a.eval x = .pointer (some ⟨g, 0, none⟩))
 (d : TypeDesc) (hu : P.underlying ty = some d) (hd : d.isRow = true) (hi : (P.info? ty).map (·.size) = some vs.length)
 (h : wpList P ops Q rest (a.put op.dst (.agg vs.toArray)) w) : wpList P ops Q (op :: rest) a w := by
 subst hcs
 refine wpList_load_mid hgd ty x ho g 0 hx vs d (fun j v hj => HO.range hm j v ?_) hu hd hi h
 rw [List.getElem?_append_left (List.getElem?_eq_some_iff.1 hj).1]
 exact hj
theorem results_c2 {fn : Func} {t u : Tmp} {ty ty2 : TypeId} (h : fn.results = #[.cell t ty, .cell u ty2]) (tmps : Array Value) {g g2 : Nat} {cs cs2 : List Value} {d d2 : TypeDesc} (h1 : tmps.getD t undef = .pointer (some ⟨g, 0, none⟩)) (h2 : tmps.getD u undef = .pointer (some ⟨g2, 0, none⟩))
 (r1 : w.rangeAt g 0 cs) (r2 : w.rangeAt g2 0 cs2) (hu : P.underlying ty = some d) (hd : d.isRow = true) (hi : (P.info? ty).map (·.size) = some cs.length) (hu2 : P.underlying ty2 = some d2) (hd2 : d2.isRow = true) (hi2 : (P.info? ty2).map (·.size) = some cs2.length) :
 (results fn tmps).run P w = .ok (.tuple #[.agg cs.toArray, .agg cs2.toArray]) w := by
 have l1 := run_loadVar_mid w g 0 ty cs d r1 hu hd hi
 have l2 := run_loadVar_mid w g2 0 ty2 cs2 d2 r2 hu2 hd2 hi2
 simp only [Array.getD_eq_getD_getElem?] at h1 h2
 simp [results, h, h1, h2, asAddr, l1, l2]
theorem results_ct {fn : Func} {t u : Tmp} {ty : TypeId} (h : fn.results = #[.cell t ty, .tmp u]) (tmps : Array Value) {g : Nat} {cs : List Value} {d : TypeDesc} (h1 : tmps.getD t undef = .pointer (some ⟨g, 0, none⟩))
 (r1 : w.rangeAt g 0 cs) (hu : P.underlying ty = some d) (hd : d.isRow = true) (hi : (P.info? ty).map (·.size) = some cs.length) :
 (results fn tmps).run P w = .ok (.tuple #[.agg cs.toArray, tmps.getD u undef]) w := by
 have l1 := run_loadVar_mid w g 0 ty cs d r1 hu hd hi
 simp only [Array.getD_eq_getD_getElem?] at h1
 simp [results, h, h1, asAddr, l1]
theorem results_ctt {fn : Func} {t u v : Tmp} {ty : TypeId} (h : fn.results = #[.cell t ty, .tmp u, .tmp v]) (tmps : Array Value) {g : Nat} {cs : List Value} {d : TypeDesc} (h1 : tmps.getD t undef = .pointer (some ⟨g, 0, none⟩))
 (r1 : w.rangeAt g 0 cs) (hu : P.underlying ty = some d) (hd : d.isRow = true) (hi : (P.info? ty).map (·.size) = some cs.length) :
 (results fn tmps).run P w = .ok (.tuple #[.agg cs.toArray, tmps.getD u undef, tmps.getD v undef]) w := by
 have l1 := run_loadVar_mid w g 0 ty cs d r1 hu hd hi
 simp only [Array.getD_eq_getD_getElem?] at h1
 simp [results, h, h1, asAddr, l1]
end
end Go.Proofs.YtmookafmdonopaaGreat.Top
/- hodmanref17: the plain model; wrong, Find, New walked (weak). -/
namespace Go.Proofs.YtmookafmdonopaaGreat.Top
open Go Go.RowKit
set_option linter.unusedVariables false
set_option linter.unusedSimpArgs false
attribute [local go_sem] max2_int min2_int max_two min_two max_three

/-- the plain model -/
structure Md where
 (A Ao Am : Option Addr)
 (cap co cm : Nat)
 (live peak mark : Int)
 (l : List MB)
def Md.cs (c : Cf) (m : Md) : List Value := [.int .i64 c.G, .int .i64 c.N, .int .i64 c.M, .int .i64 c.L, .int .i64 c.Page, .int .i64 c.P, .int .i64 c.H, .int .i64 c.Seed, .slice m.A m.l.length m.cap, .int .i64 m.live, .int .i64 m.peak, .int .i64 m.mark, .slice m.Ao (c.H / c.Page) m.co, .slice m.Am c.H m.cm]
def Md.v (c : Cf) (m : Md) : Value := .agg (m.cs c).toArray
def Md.zs : List Value := [.int .i64 0, .int .i64 0, .int .i64 0, .int .i64 0, .int .i64 0, .int .i64 0, .int .i64 0, .int .i64 0, .slice none 0 0, .int .i64 0, .int .i64 0, .int .i64 0, .slice none 0 0, .slice none 0 0]
theorem Md.one (c : Cf) (m : Md) : ∀ v ∈ m.cs c, v.oneCell' = true := by
 intro v hv
 simp only [Md.cs, List.mem_cons, List.not_mem_nil, or_false] at hv
 rcases hv with rfl | rfl | rfl | rfl | rfl | rfl | rfl | rfl | rfl | rfl | rfl | rfl | rfl | rfl <;> rfl
def An.cs (a : An) : List Value := [.int .i64 a.err, .int .i64 a.at_, .int .i64 a.n, .int .u8 a.byte, .int .i64 a.live, .int .i64 a.peak, .int .i64 a.mark, .int .i64 a.pages]
theorem An.one (a : An) : ∀ v ∈ a.cs, v.oneCell' = true := by
 intro v hv
 simp only [An.cs, List.mem_cons, List.not_mem_nil, or_false] at hv
 rcases hv with rfl | rfl | rfl | rfl | rfl | rfl | rfl | rfl <;> rfl
theorem size89 : (Tryz.prog.info? 89).map (·.size) = some 14 := by kernel_rfl
theorem size39 : (Tryz.prog.info? 39).map (·.size) = some 8 := by kernel_rfl
/-- its rows lie in W -/
structure MdR (W : World) (c : Cf) (m : Md) : Prop where
 bl : Row W (.slice m.A m.l.length m.cap) m.l.length (mbV m.l)
 on : BoolRow W (.slice m.Ao (c.H / c.Page) m.co) (c.H / c.Page)
 mem : ByteRow W (.slice m.Am c.H m.cm) c.H
def MdF (c : Cf) (m : Md) : Prop := ∀ b ∈ m.l, b.1 + b.2.1 ≤ c.H
theorem MdR.below {w w1 : World} {c : Cf} {m : Md} (h : MdR w c m) (hb : Below w.heap.size w w1) : MdR w1 c m :=
 ⟨h.bl.below hb, h.on.imp fun bs hbs => ⟨hbs.1, hbs.2.below hb⟩, h.mem.imp fun bs hbs => ⟨hbs.1, hbs.2.below hb⟩⟩
/-- a model and an answer come back -/
def RetM (c : Cf) (m : Md) (N : Nat) (w w' : World) (e : Ending) : Prop := ∃ (m' : Md) (a : An), e = .returned (.tuple #[m'.v c, .agg a.cs.toArray]) ∧ MdF c m' ∧ m'.l.length ≤ N ∧ ∀ W, Agr w w' W → MdR W c m → MdR W c m'

/-- the boxes of a function that answers with a model and an answer -/
theorem ref_wrong (c : Cf) (m : Md) (er : Int) (w : World) :
 Calls Tryz.prog 66 #[m.v c, .int .i64 er] w fun e w' => e = .returned (.tuple #[m.v c, .agg (An.no er).cs.toArray]) ∧ Below w.heap.size w w' := by
 have ho := (((Own.start (X := []) w).box (m.cs c).toArray 89).box Md.zs.toArray 89).box An.z.toArray 39
 simp only [World.size_alloc, Md.zs, An.z, List.toList_toArray] at ho
 have HO := As.mk ho
 clear ho
 unfold Md.v
 go_enter Tryz.func66, Tryz.ntmps66
 go_wp2_with (first | (refine go_ld HO.out me2 rfl 89 (.tmp 2) rfl rfl _ Tryz.underlying89 rfl size89 ?_) | (refine go_st HO.out 1 rfl rfl 89 (.tmp 4) (.tmp 6) rfl rfl (m.cs c) rfl rfl size89 (Md.one c m) ?_; intro w1 ho1; have HO1 := As.mk ho1; clear ho1) | (refine go_st HO1.out 0 rfl rfl 39 (.tmp 5) (.tmp 8) rfl rfl (An.no er).cs rfl rfl size39 (An.one _) ?_; intro w2 ho2; have HO2 := As.mk ho2; clear ho2))
 exact bodyPost_ret (results_c2 rfl _ rfl rfl (HO2.out.range me1) (HO2.out.range me0) Tryz.underlying89 rfl size89 Tryz.underlying39 rfl size39) rfl ⟨rfl, HO2.out.toBelow⟩
end Go.Proofs.YtmookafmdonopaaGreat.Top
