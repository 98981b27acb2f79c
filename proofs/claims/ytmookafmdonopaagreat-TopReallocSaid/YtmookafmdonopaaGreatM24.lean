/- hodmanref8: Commit walked (weak). -/
import Derived.Test.YtmookafmdonopaaGreatM23
/- hodmanref8: Commit walked (weak). -/
namespace Go.Proofs.YtmookafmdonopaaGreat.Top
open Go Go.RowKit
set_option linter.unusedVariables false
set_option linter.unusedSimpArgs false
attribute [local go_sem] max2_int min2_int max_two min_two max_three

def iV (l : List Int) : List Value := l.map fun x => .int .i64 x
/-- a row of n truths in W -/
def BoolRow (W : World) (v : Value) (n : Nat) : Prop := ∃ bs : List Bool, bs.length = n ∧ Row W v n (bs.map Value.bool)
def IntRow (W : World) (v : Value) : Prop := ∃ is : List Int, is.length ≤ 65536 ∧ Row W v is.length (iV is)
def RetCommit (w w' : World) (n : Nat) (e : Ending) : Prop := ∃ (v1 v2 : Value) (b : Bool), e = .returned (.tuple #[v1, v2, .bool b]) ∧ (b = true → ∀ W, Agr w w' W → BoolRow W v1 n ∧ IntRow W v2)
theorem ref_Count_n (g n : Nat) (l : List Bool) (w : World) (hl : l.length = n) (h : Row w (.slice (some ⟨g, 0, none⟩) n n) n (l.map Value.bool)) (hn : n ≤ 65536) :
 Calls Tryz.prog 64 #[.slice (some ⟨g, 0, none⟩) n n] w fun e w' => RetI e ∧ w' = w := by
 subst hl
 exact ref_Count _ _ l w h (by omega)
set_option maxHeartbeats 8000000 in
theorem ref_Commit (n : Nat) (A A2 : Option Addr) (c c2 : Nat) (on met : List Bool) (a : Nat) (b most : Int) (w : World) (h1 : Row w (.slice A n c) n (on.map Value.bool)) (l1 : on.length = n) (h2 : Row w (.slice A2 n c2) n (met.map Value.bool)) (l2 : met.length = n) (h0 : 1 ≤ n) (hn : n ≤ 65536) (ha : a ≤ 2 ^ 20) :
 Calls Tryz.prog 98 #[.slice A n c, .slice A2 n c2, .int .i64 (a : Int), .int .i64 b, .int .i64 most] w fun e w' => RetCommit w w' n e ∧ Below w.heap.size w w' := by
 have H1 := As.mk h1
 have H2 := As.mk h2
 have L1 := As.mk l1
 have L2 := As.mk l2
 have HS := As.mk (Own.start (X := []) w)
 clear h1 h2 l1 l2
 by_cases q1 : b < a
 · go_enter Tryz.func98, Tryz.ntmps98
   go_wp2
   refine bodyPost_ret (v := .tuple #[.slice none 0 0, .slice none 0 0, .bool false]) (by simp [results, Tryz.results98, go_sem]) rfl ⟨⟨_, _, false, rfl, fun h => by simp at h⟩, Below.refl _ _⟩
 · by_cases q2 : (n : Int) < b
   · go_enter Tryz.func98, Tryz.ntmps98
     go_wp2
     refine bodyPost_ret (v := .tuple #[.slice none 0 0, .slice none 0 0, .bool false]) (by simp [results, Tryz.results98, go_sem]) rfl ⟨⟨_, _, false, rfl, fun h => by simp at h⟩, Below.refl _ _⟩
   · obtain ⟨b, rfl⟩ := Int.eq_ofNat_of_zero_le (show 0 ≤ b by omega)
     go_enter Tryz.func98, Tryz.ntmps98
     go_wp2_with fail
     refine rgnT [(0, 1), (1, 1), (3, 1), (4, 1)] [(2, [(6, 1), (5, 2), (7, 1)]), (5, [(2, 2), (6, 1), (7, 1)])] [] (fun _ => True) (by kernel_rfl) (by kernel_rfl) (fun _ _ _ d _ h => by cases d <;> exact h) trivial ?_
     have HOD := As.mk HS.out.drew
     iterate 4 (refine Run.pu (v := ?_) (a' := ?_) rfl rfl (Or.inl ⟨by rfl, ?_⟩) ?_ ?_; rotate_left 2; (focus (intro W; go_simp; with_reducible rfl)); (focus (simp only [zq1, zq2, zq3, Act.put, zq4, zq5, zq6]; rfl)))
     refine Run.nilG ?_
     intro b_ hb_
     simp only [List.mem_cons, List.not_mem_nil, or_false] at hb_
     rcases hb_ with rfl | rfl
     · refine Run.wpOp_of_list rfl fun K hK => ?_
       refine go_make rfl _ _ 56 4 (.bool false) 1 rfl Tryz.underlying56 info4 rfl .i64 .i64 _ _ n rfl rfl (by rfl) (by rfl) (by omega) (by simp only [maxLen]; omega) HOD.out ?_
       intro w1 ho hb
       have HO := As.mk ho
       clear ho hb HOD
       go_wp2
       refine hK.out _ _ ⟨trivial, ?_⟩
       clear hK K
       refine Run.pu (v := ?_) (a' := ?_) rfl rfl (Or.inl ⟨by rfl, ?_⟩) ?_ ?_; rotate_left 2; (focus (intro W; go_simp; with_reducible rfl)); (focus (simp only [zq1, zq2, zq3, Act.put, zq4, zq5, zq6]; rfl))
       refine Run.ef rfl (fun K hK => ?_)
       simp only [zq1, zq2, zq3]
       try simp only [zq4, zq5, zq6]
       refine go_make rfl _ _ 56 4 (.bool false) 1 rfl Tryz.underlying56 info4 rfl .i64 .i64 _ _ n rfl rfl (by rfl) (by rfl) (by omega) (by simp only [maxLen]; omega) HO.out ?_
       intro w2 ho hb
       have HO2 : As (Own [] [(w.heap.size, EC 4 (List.replicate n (.bool false))), (w1.heap.size, EC 4 (List.replicate n (.bool false)))] (fun _ => True) w w2) := As.mk ho.swap
       clear ho hb HO
       go_wp2
       refine hK.out _ _ trivial ?_
       clear hK K
       refine Run.pu (v := ?_) (a' := ?_) rfl rfl (Or.inl ⟨by rfl, ?_⟩) ?_ ?_; rotate_left 2; (focus (intro W; go_simp; with_reducible rfl)); (focus (simp only [zq1, zq2, zq3, Act.put, zq4, zq5, zq6]; rfl))
       refine Run.nil ?_
       try simp only [zq1, zq2, zq3]
       go_wp2_with fail
       go_loopw [15, 16] (fun s i wr => ∃ (k : Nat) (b13 b14 : List Bool) (is : List Int), k ≤ n ∧ b13.length = n ∧ b14.length = n ∧ is.length ≤ k ∧ i = .int .i64 (k : Int) ∧ OwnS [] [(w.heap.size, EC 4 (b13.map Value.bool)), (w1.heap.size, EC 4 (b14.map Value.bool))] (fun _ => True) w wr 3 1 s is.length (iV is)) (fun _ i _ => n - (intOf i).toNat)
       case atStart => exact ⟨0, List.replicate n false, List.replicate n false, [], Nat.zero_le _, by simp, by simp, by simp, rfl, by rw [List.map_replicate]; exact OwnS.nil HO2.out 3 1⟩
       case round =>
        clear HO2
        obtain ⟨k, b13, b14, is, hk, h13, h14, his, rfl, ho⟩ := hrel
        have HO := As.mk ho
        clear ho
        by_cases hkn : k < n
        · obtain ⟨ym, hm⟩ : ∃ y, met[k]? = some y := ⟨met[k]'(by have := L2.out; omega), List.getElem?_eq_getElem _⟩
          obtain ⟨yo, ho_⟩ : ∃ y, on[k]? = some y := ⟨on[k]'(by have := L1.out; omega), List.getElem?_eq_getElem _⟩
          obtain ⟨bo, oo, rfl, hnc1, hcell1⟩ := H1.out.cell' (by rw [List.length_map]; have := L1.out; omega)
          obtain ⟨bm, om, rfl, hnc2, hcell2⟩ := H2.out.cell' (by rw [List.length_map]; have := L2.out; omega)
          have zm := cell_below HO.out.rest.toBelow (hcell2 k (.bool ym) (by rw [List.getElem?_map, hm]; rfl))
          have zo := cell_below HO.out.rest.toBelow (hcell1 k (.bool yo) (by rw [List.getElem?_map, ho_]; rfl))
          have ZO := As.mk (hcell1 k (.bool yo) (by rw [List.getElem?_map, ho_]; rfl))
          clear hcell1 hcell2 hm ho_
          by_cases c1 : a ≤ k
          · by_cases c2 : k < b
            · skip
              cases ym
              · cases yo
                · skip
                  go_wp2_with fail
                  refine rgn [(0, 1), (1, 1), (2, 1), (3, 1), (4, 1), (5, 1), (6, 1), (7, 0), (8, 1), (9, 1), (10, 1), (11, 1), (12, 1), (13, 1), (14, 0), (15, 1), (16, 1), (17, 1), (18, 1), (19, 3), (20, 1), (21, 3)] [19, 21] (fun W => W.cell? ⟨bm, om + k, none⟩ = some (.bool false) ∧ W.cell? ⟨bo, oo + k, none⟩ = some (.bool false)) (by kernel_rfl) (by kernel_rfl) (fun _ _ _ d _ h => by cases d <;> exact h) ⟨zm, zo⟩ ?_
                  obtain ⟨w3, hw3⟩ : ∃ x, x = wr.drew := ⟨_, rfl⟩
                  have HOD : As (OwnS [] [(w.heap.size, EC 4 (b13.map Value.bool)), (w1.heap.size, EC 4 (b14.map Value.bool))] (fun _ => True) w w3 3 1 u15 is.length (iV is)) := by rw [hw3]; exact As.mk (HO.out.drewN 1)
                  rw [← hw3]
                  clear hw3 HO
                  iterate 7 (refine Run.pu (v := ?_) (a' := ?_) rfl rfl (Or.inl ⟨by rfl, ?_⟩) ?_ ?_; rotate_left 2; (focus (intro W; go_simp; with_reducible rfl)); (focus (simp only [zq1, zq2, zq3, Act.put, zq4, zq5, zq6]; rfl)))
                  refine Run.rd (v := ?_) (a' := ?_) rfl rfl (Or.inl ⟨by rfl, ?_⟩) ?_ ?_; rotate_left 2; (focus (rintro W ⟨hW1, hW2⟩; go_simp; with_reducible rfl)); (focus (simp only [zq1, zq2, zq3, Act.put, zq4, zq5, zq6]; rfl))
                  iterate 6 (refine Run.pu (v := ?_) (a' := ?_) rfl rfl (Or.inl ⟨by rfl, ?_⟩) ?_ ?_; rotate_left 2; (focus (intro W; go_simp; with_reducible rfl)); (focus (simp only [zq1, zq2, zq3, Act.put, zq4, zq5, zq6]; rfl)))
                  refine Run.rd (v := ?_) (a' := ?_) rfl rfl (Or.inl ⟨by rfl, ?_⟩) ?_ ?_; rotate_left 2; (focus (rintro W ⟨hW1, hW2⟩; go_simp; with_reducible rfl)); (focus (simp only [zq1, zq2, zq3, Act.put, zq4, zq5, zq6]; rfl))
                  iterate 4 (refine Run.pu (v := ?_) (a' := ?_) rfl rfl (Or.inl ⟨by rfl, ?_⟩) ?_ ?_; rotate_left 2; (focus (intro W; go_simp; with_reducible rfl)); (focus (simp only [zq1, zq2, zq3, Act.put, zq4, zq5, zq6]; rfl)))
                  refine Run.la rfl (fun K hK => ?_)
                  simp only [zq1, zq2, zq3]
                  try simp only [zq4, zq5, zq6]
                  have hlb : k < (b13.map Value.bool).length := by simp; omega
                  have hlb2 : k < (b14.map Value.bool).length := by simp; omega
                  have z1 := HOD.out.rest.get List.mem_cons_self k hlb
                  rw [List.getElem?_eq_getElem hlb] at z1
                  have z2 := HOD.out.rest.frozen (o := k) List.mem_cons_self
                  have HO2 := As.mk (HOD.out.set 0 rfl k (.bool true) hlb)
                  simp only [zq5] at HO2
                  go_wp2
                  refine hK.out _ _ ?_
                  clear hK K HOD z1 z2
                  refine Run.pu (v := ?_) (a' := ?_) rfl rfl (Or.inl ⟨by rfl, ?_⟩) ?_ ?_; rotate_left 2; (focus (intro W; go_simp; with_reducible rfl)); (focus (simp only [zq1, zq2, zq3, Act.put, zq4, zq5, zq6]; rfl))
                  refine Run.la rfl (fun K hK => ?_)
                  simp only [zq1, zq2, zq3]
                  try simp only [zq4, zq5, zq6]
                  have z1 := HO2.out.rest.get (List.mem_cons_of_mem _ List.mem_cons_self) k hlb2
                  rw [List.getElem?_eq_getElem hlb2] at z1
                  have z2 := HO2.out.rest.frozen (o := k) (List.mem_cons_of_mem _ List.mem_cons_self)
                  have HO3 := As.mk (HO2.out.set 1 rfl k (.bool true) hlb2)
                  simp only [zq6, zq5] at HO3
                  go_wp2
                  refine hK.out _ _ ?_
                  clear hK K HO2 z1 z2 hlb hlb2
                  refine Run.nil ?_
                  have zo3 := cell_below HO3.out.rest.toBelow ZO.out
                  obtain ⟨w5, hw5⟩ : ∃ x, x = (w3.setCell ⟨w.heap.size, k, none⟩ (.bool true)).setCell ⟨w1.heap.size, k, none⟩ (.bool true) := ⟨_, rfl⟩
                  rw [← hw5] at HO3 zo3 ⊢
                  clear hw5
                  go_wp2_with (at_builtin; refine go_app w rfl _ _ 63 3 _ 1 8 rfl Tryz.underlying63 info3 rfl (by decide) _ is.length (iV is) rfl ⟨w5.heap.size, 0, none⟩ 1 1 [.int .i64 (k : Int)] rfl (HO3.out.alloc _) rfl (news _) (by intro u hu; rw [List.mem_singleton.1 hu]; rfl) (by simp [maxLen]; omega) (by omega) ?_; intro v1 w4 hw1; have HW := As.mk hw1; clear hw1)
                  go_roundw
                  case rel => exact ⟨k + 1, b13.set k true, b14.set k true, is ++ [(k : Int)], by omega, by simp [h13], by simp [h14], by simp; omega, by go_num, by rw [List.map_set, List.map_set, List.length_append]; have h7 := HW.out; simpa [iV] using h7⟩
                  case measure => simp [intOf]; omega
                · skip
                  go_wp2_with fail
                  refine rgn [(0, 1), (1, 1), (2, 1), (3, 1), (4, 1), (5, 1), (6, 1), (7, 0), (8, 1), (9, 1), (10, 1), (11, 1), (12, 1), (13, 1), (14, 0), (15, 1), (16, 1), (17, 1), (18, 1), (19, 3), (20, 1), (21, 3)] [19, 21] (fun W => W.cell? ⟨bm, om + k, none⟩ = some (.bool false) ∧ W.cell? ⟨bo, oo + k, none⟩ = some (.bool true)) (by kernel_rfl) (by kernel_rfl) (fun _ _ _ d _ h => by cases d <;> exact h) ⟨zm, zo⟩ ?_
                  obtain ⟨w3, hw3⟩ : ∃ x, x = wr.drew := ⟨_, rfl⟩
                  have HOD : As (OwnS [] [(w.heap.size, EC 4 (b13.map Value.bool)), (w1.heap.size, EC 4 (b14.map Value.bool))] (fun _ => True) w w3 3 1 u15 is.length (iV is)) := by rw [hw3]; exact As.mk (HO.out.drewN 1)
                  rw [← hw3]
                  clear hw3 HO
                  iterate 7 (refine Run.pu (v := ?_) (a' := ?_) rfl rfl (Or.inl ⟨by rfl, ?_⟩) ?_ ?_; rotate_left 2; (focus (intro W; go_simp; with_reducible rfl)); (focus (simp only [zq1, zq2, zq3, Act.put, zq4, zq5, zq6]; rfl)))
                  refine Run.rd (v := ?_) (a' := ?_) rfl rfl (Or.inl ⟨by rfl, ?_⟩) ?_ ?_; rotate_left 2; (focus (rintro W ⟨hW1, hW2⟩; go_simp; with_reducible rfl)); (focus (simp only [zq1, zq2, zq3, Act.put, zq4, zq5, zq6]; rfl))
                  iterate 6 (refine Run.pu (v := ?_) (a' := ?_) rfl rfl (Or.inl ⟨by rfl, ?_⟩) ?_ ?_; rotate_left 2; (focus (intro W; go_simp; with_reducible rfl)); (focus (simp only [zq1, zq2, zq3, Act.put, zq4, zq5, zq6]; rfl)))
                  refine Run.rd (v := ?_) (a' := ?_) rfl rfl (Or.inl ⟨by rfl, ?_⟩) ?_ ?_; rotate_left 2; (focus (rintro W ⟨hW1, hW2⟩; go_simp; with_reducible rfl)); (focus (simp only [zq1, zq2, zq3, Act.put, zq4, zq5, zq6]; rfl))
                  refine Run.pu (v := ?_) (a' := ?_) rfl rfl (Or.inl ⟨by rfl, ?_⟩) ?_ ?_; rotate_left 2; (focus (intro W; go_simp; with_reducible rfl)); (focus (simp only [zq1, zq2, zq3, Act.put, zq4, zq5, zq6]; rfl))
                  refine Run.pu (v := undef) (a' := ?_) rfl rfl (Or.inr ⟨by rfl, rfl⟩) ?_ ?_; rotate_left 1; (focus (simp only [zq1, zq2, zq3, Act.put, zq4, zq5, zq6]; rfl))
                  iterate 2 (refine Run.pu (v := ?_) (a' := ?_) rfl rfl (Or.inl ⟨by rfl, ?_⟩) ?_ ?_; rotate_left 2; (focus (intro W; go_simp; with_reducible rfl)); (focus (simp only [zq1, zq2, zq3, Act.put, zq4, zq5, zq6]; rfl)))
                  refine Run.la rfl (fun K hK => ?_)
                  simp only [zq1, zq2, zq3]
                  try simp only [zq4, zq5, zq6]
                  have hlb : k < (b13.map Value.bool).length := by simp; omega
                  have hlb2 : k < (b14.map Value.bool).length := by simp; omega
                  have z1 := HOD.out.rest.get List.mem_cons_self k hlb
                  rw [List.getElem?_eq_getElem hlb] at z1
                  have z2 := HOD.out.rest.frozen (o := k) List.mem_cons_self
                  have HO2 := As.mk (HOD.out.set 0 rfl k (.bool true) hlb)
                  simp only [zq5] at HO2
                  go_wp2
                  refine hK.out _ _ ?_
                  clear hK K HOD z1 z2
                  refine Run.pu (v := ?_) (a' := ?_) rfl rfl (Or.inl ⟨by rfl, ?_⟩) ?_ ?_; rotate_left 2; (focus (intro W; go_simp; with_reducible rfl)); (focus (simp only [zq1, zq2, zq3, Act.put, zq4, zq5, zq6]; rfl))
                  refine Run.la rfl (fun K hK => ?_)
                  simp only [zq1, zq2, zq3]
                  try simp only [zq4, zq5, zq6]
                  have z1 := HO2.out.rest.get (List.mem_cons_of_mem _ List.mem_cons_self) k hlb2
                  rw [List.getElem?_eq_getElem hlb2] at z1
                  have z2 := HO2.out.rest.frozen (o := k) (List.mem_cons_of_mem _ List.mem_cons_self)
                  have HO3 := As.mk (HO2.out.set 1 rfl k (.bool true) hlb2)
                  simp only [zq6, zq5] at HO3
                  go_wp2
                  refine hK.out _ _ ?_
                  clear hK K HO2 z1 z2 hlb hlb2
                  refine Run.nil ?_
                  have zo3 := cell_below HO3.out.rest.toBelow ZO.out
                  go_wp2_with fail
                  go_roundw
                  case rel => exact ⟨k + 1, b13.set k true, b14.set k true, is, by omega, by simp [h13], by simp [h14], by omega, by go_num, by rw [List.map_set, List.map_set]; exact HO3.out⟩
                  case measure => simp [intOf]; omega
              · cases yo
                · skip
                  go_wp2_with fail
                  refine rgn [(0, 1), (1, 1), (2, 1), (3, 1), (4, 1), (5, 1), (6, 1), (7, 0), (8, 1), (9, 1), (10, 1), (11, 1), (12, 1), (13, 1), (14, 0), (15, 1), (16, 1), (17, 1), (18, 1), (19, 3), (20, 1), (21, 3)] [19, 21] (fun W => W.cell? ⟨bm, om + k, none⟩ = some (.bool true) ∧ W.cell? ⟨bo, oo + k, none⟩ = some (.bool false)) (by kernel_rfl) (by kernel_rfl) (fun _ _ _ d _ h => by cases d <;> exact h) ⟨zm, zo⟩ ?_
                  obtain ⟨w3, hw3⟩ : ∃ x, x = wr.drew := ⟨_, rfl⟩
                  have HOD : As (OwnS [] [(w.heap.size, EC 4 (b13.map Value.bool)), (w1.heap.size, EC 4 (b14.map Value.bool))] (fun _ => True) w w3 3 1 u15 is.length (iV is)) := by rw [hw3]; exact As.mk (HO.out.drewN 1)
                  rw [← hw3]
                  clear hw3 HO
                  iterate 7 (refine Run.pu (v := ?_) (a' := ?_) rfl rfl (Or.inl ⟨by rfl, ?_⟩) ?_ ?_; rotate_left 2; (focus (intro W; go_simp; with_reducible rfl)); (focus (simp only [zq1, zq2, zq3, Act.put, zq4, zq5, zq6]; rfl)))
                  refine Run.rd (v := ?_) (a' := ?_) rfl rfl (Or.inl ⟨by rfl, ?_⟩) ?_ ?_; rotate_left 2; (focus (rintro W ⟨hW1, hW2⟩; go_simp; with_reducible rfl)); (focus (simp only [zq1, zq2, zq3, Act.put, zq4, zq5, zq6]; rfl))
                  refine Run.pu (v := ?_) (a' := ?_) rfl rfl (Or.inl ⟨by rfl, ?_⟩) ?_ ?_; rotate_left 2; (focus (intro W; go_simp; with_reducible rfl)); (focus (simp only [zq1, zq2, zq3, Act.put, zq4, zq5, zq6]; rfl))
                  refine Run.pu (v := undef) (a' := ?_) rfl rfl (Or.inr ⟨by rfl, rfl⟩) ?_ ?_; rotate_left 1; (focus (simp only [zq1, zq2, zq3, Act.put, zq4, zq5, zq6]; rfl))
                  iterate 4 (refine Run.pu (v := ?_) (a' := ?_) rfl rfl (Or.inl ⟨by rfl, ?_⟩) ?_ ?_; rotate_left 2; (focus (intro W; go_simp; with_reducible rfl)); (focus (simp only [zq1, zq2, zq3, Act.put, zq4, zq5, zq6]; rfl)))
                  refine Run.rd (v := ?_) (a' := ?_) rfl rfl (Or.inl ⟨by rfl, ?_⟩) ?_ ?_; rotate_left 2; (focus (rintro W ⟨hW1, hW2⟩; go_simp; with_reducible rfl)); (focus (simp only [zq1, zq2, zq3, Act.put, zq4, zq5, zq6]; rfl))
                  iterate 4 (refine Run.pu (v := ?_) (a' := ?_) rfl rfl (Or.inl ⟨by rfl, ?_⟩) ?_ ?_; rotate_left 2; (focus (intro W; go_simp; with_reducible rfl)); (focus (simp only [zq1, zq2, zq3, Act.put, zq4, zq5, zq6]; rfl)))
                  refine Run.la rfl (fun K hK => ?_)
                  simp only [zq1, zq2, zq3]
                  try simp only [zq4, zq5, zq6]
                  have hlb : k < (b13.map Value.bool).length := by simp; omega
                  have hlb2 : k < (b14.map Value.bool).length := by simp; omega
                  have z1 := HOD.out.rest.get List.mem_cons_self k hlb
                  rw [List.getElem?_eq_getElem hlb] at z1
                  have z2 := HOD.out.rest.frozen (o := k) List.mem_cons_self
                  have HO2 := As.mk (HOD.out.set 0 rfl k (.bool true) hlb)
                  simp only [zq5] at HO2
                  go_wp2
                  refine hK.out _ _ ?_
                  clear hK K HOD z1 z2
                  refine Run.pu (v := ?_) (a' := ?_) rfl rfl (Or.inl ⟨by rfl, ?_⟩) ?_ ?_; rotate_left 2; (focus (intro W; go_simp; with_reducible rfl)); (focus (simp only [zq1, zq2, zq3, Act.put, zq4, zq5, zq6]; rfl))
                  refine Run.la rfl (fun K hK => ?_)
                  simp only [zq1, zq2, zq3]
                  try simp only [zq4, zq5, zq6]
                  have z1 := HO2.out.rest.get (List.mem_cons_of_mem _ List.mem_cons_self) k hlb2
                  rw [List.getElem?_eq_getElem hlb2] at z1
                  have z2 := HO2.out.rest.frozen (o := k) (List.mem_cons_of_mem _ List.mem_cons_self)
                  have HO3 := As.mk (HO2.out.set 1 rfl k (.bool true) hlb2)
                  simp only [zq6, zq5] at HO3
                  go_wp2
                  refine hK.out _ _ ?_
                  clear hK K HO2 z1 z2 hlb hlb2
                  refine Run.nil ?_
                  have zo3 := cell_below HO3.out.rest.toBelow ZO.out
                  obtain ⟨w5, hw5⟩ : ∃ x, x = (w3.setCell ⟨w.heap.size, k, none⟩ (.bool true)).setCell ⟨w1.heap.size, k, none⟩ (.bool true) := ⟨_, rfl⟩
                  rw [← hw5] at HO3 zo3 ⊢
                  clear hw5
                  go_wp2_with (at_builtin; refine go_app w rfl _ _ 63 3 _ 1 8 rfl Tryz.underlying63 info3 rfl (by decide) _ is.length (iV is) rfl ⟨w5.heap.size, 0, none⟩ 1 1 [.int .i64 (k : Int)] rfl (HO3.out.alloc _) rfl (news _) (by intro u hu; rw [List.mem_singleton.1 hu]; rfl) (by simp [maxLen]; omega) (by omega) ?_; intro v1 w4 hw1; have HW := As.mk hw1; clear hw1)
                  go_roundw
                  case rel => exact ⟨k + 1, b13.set k true, b14.set k true, is ++ [(k : Int)], by omega, by simp [h13], by simp [h14], by simp; omega, by go_num, by rw [List.map_set, List.map_set, List.length_append]; have h7 := HW.out; simpa [iV] using h7⟩
                  case measure => simp [intOf]; omega
                · skip
                  go_wp2_with fail
                  refine rgn [(0, 1), (1, 1), (2, 1), (3, 1), (4, 1), (5, 1), (6, 1), (7, 0), (8, 1), (9, 1), (10, 1), (11, 1), (12, 1), (13, 1), (14, 0), (15, 1), (16, 1), (17, 1), (18, 1), (19, 3), (20, 1), (21, 3)] [19, 21] (fun W => W.cell? ⟨bm, om + k, none⟩ = some (.bool true) ∧ W.cell? ⟨bo, oo + k, none⟩ = some (.bool true)) (by kernel_rfl) (by kernel_rfl) (fun _ _ _ d _ h => by cases d <;> exact h) ⟨zm, zo⟩ ?_
                  obtain ⟨w3, hw3⟩ : ∃ x, x = wr.drew := ⟨_, rfl⟩
                  have HOD : As (OwnS [] [(w.heap.size, EC 4 (b13.map Value.bool)), (w1.heap.size, EC 4 (b14.map Value.bool))] (fun _ => True) w w3 3 1 u15 is.length (iV is)) := by rw [hw3]; exact As.mk (HO.out.drewN 1)
                  rw [← hw3]
                  clear hw3 HO
                  iterate 7 (refine Run.pu (v := ?_) (a' := ?_) rfl rfl (Or.inl ⟨by rfl, ?_⟩) ?_ ?_; rotate_left 2; (focus (intro W; go_simp; with_reducible rfl)); (focus (simp only [zq1, zq2, zq3, Act.put, zq4, zq5, zq6]; rfl)))
                  refine Run.rd (v := ?_) (a' := ?_) rfl rfl (Or.inl ⟨by rfl, ?_⟩) ?_ ?_; rotate_left 2; (focus (rintro W ⟨hW1, hW2⟩; go_simp; with_reducible rfl)); (focus (simp only [zq1, zq2, zq3, Act.put, zq4, zq5, zq6]; rfl))
                  refine Run.pu (v := ?_) (a' := ?_) rfl rfl (Or.inl ⟨by rfl, ?_⟩) ?_ ?_; rotate_left 2; (focus (intro W; go_simp; with_reducible rfl)); (focus (simp only [zq1, zq2, zq3, Act.put, zq4, zq5, zq6]; rfl))
                  refine Run.pu (v := undef) (a' := ?_) rfl rfl (Or.inr ⟨by rfl, rfl⟩) ?_ ?_; rotate_left 1; (focus (simp only [zq1, zq2, zq3, Act.put, zq4, zq5, zq6]; rfl))
                  iterate 4 (refine Run.pu (v := ?_) (a' := ?_) rfl rfl (Or.inl ⟨by rfl, ?_⟩) ?_ ?_; rotate_left 2; (focus (intro W; go_simp; with_reducible rfl)); (focus (simp only [zq1, zq2, zq3, Act.put, zq4, zq5, zq6]; rfl)))
                  refine Run.rd (v := ?_) (a' := ?_) rfl rfl (Or.inl ⟨by rfl, ?_⟩) ?_ ?_; rotate_left 2; (focus (rintro W ⟨hW1, hW2⟩; go_simp; with_reducible rfl)); (focus (simp only [zq1, zq2, zq3, Act.put, zq4, zq5, zq6]; rfl))
                  refine Run.pu (v := ?_) (a' := ?_) rfl rfl (Or.inl ⟨by rfl, ?_⟩) ?_ ?_; rotate_left 2; (focus (intro W; go_simp; with_reducible rfl)); (focus (simp only [zq1, zq2, zq3, Act.put, zq4, zq5, zq6]; rfl))
                  refine Run.pu (v := undef) (a' := ?_) rfl rfl (Or.inr ⟨by rfl, rfl⟩) ?_ ?_; rotate_left 1; (focus (simp only [zq1, zq2, zq3, Act.put, zq4, zq5, zq6]; rfl))
                  iterate 2 (refine Run.pu (v := ?_) (a' := ?_) rfl rfl (Or.inl ⟨by rfl, ?_⟩) ?_ ?_; rotate_left 2; (focus (intro W; go_simp; with_reducible rfl)); (focus (simp only [zq1, zq2, zq3, Act.put, zq4, zq5, zq6]; rfl)))
                  refine Run.la rfl (fun K hK => ?_)
                  simp only [zq1, zq2, zq3]
                  try simp only [zq4, zq5, zq6]
                  have hlb : k < (b13.map Value.bool).length := by simp; omega
                  have hlb2 : k < (b14.map Value.bool).length := by simp; omega
                  have z1 := HOD.out.rest.get List.mem_cons_self k hlb
                  rw [List.getElem?_eq_getElem hlb] at z1
                  have z2 := HOD.out.rest.frozen (o := k) List.mem_cons_self
                  have HO2 := As.mk (HOD.out.set 0 rfl k (.bool true) hlb)
                  simp only [zq5] at HO2
                  go_wp2
                  refine hK.out _ _ ?_
                  clear hK K HOD z1 z2
                  refine Run.pu (v := ?_) (a' := ?_) rfl rfl (Or.inl ⟨by rfl, ?_⟩) ?_ ?_; rotate_left 2; (focus (intro W; go_simp; with_reducible rfl)); (focus (simp only [zq1, zq2, zq3, Act.put, zq4, zq5, zq6]; rfl))
                  refine Run.la rfl (fun K hK => ?_)
                  simp only [zq1, zq2, zq3]
                  try simp only [zq4, zq5, zq6]
                  have z1 := HO2.out.rest.get (List.mem_cons_of_mem _ List.mem_cons_self) k hlb2
                  rw [List.getElem?_eq_getElem hlb2] at z1
                  have z2 := HO2.out.rest.frozen (o := k) (List.mem_cons_of_mem _ List.mem_cons_self)
                  have HO3 := As.mk (HO2.out.set 1 rfl k (.bool true) hlb2)
                  simp only [zq6, zq5] at HO3
                  go_wp2
                  refine hK.out _ _ ?_
                  clear hK K HO2 z1 z2 hlb hlb2
                  refine Run.nil ?_
                  have zo3 := cell_below HO3.out.rest.toBelow ZO.out
                  go_wp2_with fail
                  go_roundw
                  case rel => exact ⟨k + 1, b13.set k true, b14.set k true, is, by omega, by simp [h13], by simp [h14], by omega, by go_num, by rw [List.map_set, List.map_set]; exact HO3.out⟩
                  case measure => simp [intOf]; omega
            · skip
              cases ym
              · cases yo
                · skip
                  go_wp2_with fail
                  refine rgn [(0, 1), (1, 1), (2, 1), (3, 1), (4, 1), (5, 1), (6, 1), (7, 0), (8, 1), (9, 1), (10, 1), (11, 1), (12, 1), (13, 1), (14, 0), (15, 1), (16, 1), (17, 1), (18, 1), (19, 3), (20, 1), (21, 3)] [19, 21] (fun W => W.cell? ⟨bm, om + k, none⟩ = some (.bool false) ∧ W.cell? ⟨bo, oo + k, none⟩ = some (.bool false)) (by kernel_rfl) (by kernel_rfl) (fun _ _ _ d _ h => by cases d <;> exact h) ⟨zm, zo⟩ ?_
                  obtain ⟨w3, hw3⟩ : ∃ x, x = wr.drew := ⟨_, rfl⟩
                  have HOD : As (OwnS [] [(w.heap.size, EC 4 (b13.map Value.bool)), (w1.heap.size, EC 4 (b14.map Value.bool))] (fun _ => True) w w3 3 1 u15 is.length (iV is)) := by rw [hw3]; exact As.mk (HO.out.drewN 1)
                  rw [← hw3]
                  clear hw3 HO
                  iterate 7 (refine Run.pu (v := ?_) (a' := ?_) rfl rfl (Or.inl ⟨by rfl, ?_⟩) ?_ ?_; rotate_left 2; (focus (intro W; go_simp; with_reducible rfl)); (focus (simp only [zq1, zq2, zq3, Act.put, zq4, zq5, zq6]; rfl)))
                  refine Run.rd (v := ?_) (a' := ?_) rfl rfl (Or.inl ⟨by rfl, ?_⟩) ?_ ?_; rotate_left 2; (focus (rintro W ⟨hW1, hW2⟩; go_simp; with_reducible rfl)); (focus (simp only [zq1, zq2, zq3, Act.put, zq4, zq5, zq6]; rfl))
                  iterate 6 (refine Run.pu (v := ?_) (a' := ?_) rfl rfl (Or.inl ⟨by rfl, ?_⟩) ?_ ?_; rotate_left 2; (focus (intro W; go_simp; with_reducible rfl)); (focus (simp only [zq1, zq2, zq3, Act.put, zq4, zq5, zq6]; rfl)))
                  refine Run.rd (v := ?_) (a' := ?_) rfl rfl (Or.inl ⟨by rfl, ?_⟩) ?_ ?_; rotate_left 2; (focus (rintro W ⟨hW1, hW2⟩; go_simp; with_reducible rfl)); (focus (simp only [zq1, zq2, zq3, Act.put, zq4, zq5, zq6]; rfl))
                  iterate 4 (refine Run.pu (v := ?_) (a' := ?_) rfl rfl (Or.inl ⟨by rfl, ?_⟩) ?_ ?_; rotate_left 2; (focus (intro W; go_simp; with_reducible rfl)); (focus (simp only [zq1, zq2, zq3, Act.put, zq4, zq5, zq6]; rfl)))
                  refine Run.la rfl (fun K hK => ?_)
                  simp only [zq1, zq2, zq3]
                  try simp only [zq4, zq5, zq6]
                  have hlb : k < (b13.map Value.bool).length := by simp; omega
                  have hlb2 : k < (b14.map Value.bool).length := by simp; omega
                  have z1 := HOD.out.rest.get List.mem_cons_self k hlb
                  rw [List.getElem?_eq_getElem hlb] at z1
                  have z2 := HOD.out.rest.frozen (o := k) List.mem_cons_self
                  have HO2 := As.mk (HOD.out.set 0 rfl k (.bool false) hlb)
                  simp only [zq5] at HO2
                  go_wp2
                  refine hK.out _ _ ?_
                  clear hK K HOD z1 z2
                  refine Run.pu (v := ?_) (a' := ?_) rfl rfl (Or.inl ⟨by rfl, ?_⟩) ?_ ?_; rotate_left 2; (focus (intro W; go_simp; with_reducible rfl)); (focus (simp only [zq1, zq2, zq3, Act.put, zq4, zq5, zq6]; rfl))
                  refine Run.la rfl (fun K hK => ?_)
                  simp only [zq1, zq2, zq3]
                  try simp only [zq4, zq5, zq6]
                  have z1 := HO2.out.rest.get (List.mem_cons_of_mem _ List.mem_cons_self) k hlb2
                  rw [List.getElem?_eq_getElem hlb2] at z1
                  have z2 := HO2.out.rest.frozen (o := k) (List.mem_cons_of_mem _ List.mem_cons_self)
                  have HO3 := As.mk (HO2.out.set 1 rfl k (.bool false) hlb2)
                  simp only [zq6, zq5] at HO3
                  go_wp2
                  refine hK.out _ _ ?_
                  clear hK K HO2 z1 z2 hlb hlb2
                  refine Run.nil ?_
                  have zo3 := cell_below HO3.out.rest.toBelow ZO.out
                  go_wp2_with fail
                  go_roundw
                  case rel => exact ⟨k + 1, b13.set k false, b14.set k false, is, by omega, by simp [h13], by simp [h14], by omega, by go_num, by rw [List.map_set, List.map_set]; exact HO3.out⟩
                  case measure => simp [intOf]; omega
                · skip
                  go_wp2_with fail
                  refine rgn [(0, 1), (1, 1), (2, 1), (3, 1), (4, 1), (5, 1), (6, 1), (7, 0), (8, 1), (9, 1), (10, 1), (11, 1), (12, 1), (13, 1), (14, 0), (15, 1), (16, 1), (17, 1), (18, 1), (19, 3), (20, 1), (21, 3)] [19, 21] (fun W => W.cell? ⟨bm, om + k, none⟩ = some (.bool false) ∧ W.cell? ⟨bo, oo + k, none⟩ = some (.bool true)) (by kernel_rfl) (by kernel_rfl) (fun _ _ _ d _ h => by cases d <;> exact h) ⟨zm, zo⟩ ?_
                  obtain ⟨w3, hw3⟩ : ∃ x, x = wr.drew := ⟨_, rfl⟩
                  have HOD : As (OwnS [] [(w.heap.size, EC 4 (b13.map Value.bool)), (w1.heap.size, EC 4 (b14.map Value.bool))] (fun _ => True) w w3 3 1 u15 is.length (iV is)) := by rw [hw3]; exact As.mk (HO.out.drewN 1)
                  rw [← hw3]
                  clear hw3 HO
                  iterate 7 (refine Run.pu (v := ?_) (a' := ?_) rfl rfl (Or.inl ⟨by rfl, ?_⟩) ?_ ?_; rotate_left 2; (focus (intro W; go_simp; with_reducible rfl)); (focus (simp only [zq1, zq2, zq3, Act.put, zq4, zq5, zq6]; rfl)))
                  refine Run.rd (v := ?_) (a' := ?_) rfl rfl (Or.inl ⟨by rfl, ?_⟩) ?_ ?_; rotate_left 2; (focus (rintro W ⟨hW1, hW2⟩; go_simp; with_reducible rfl)); (focus (simp only [zq1, zq2, zq3, Act.put, zq4, zq5, zq6]; rfl))
                  iterate 6 (refine Run.pu (v := ?_) (a' := ?_) rfl rfl (Or.inl ⟨by rfl, ?_⟩) ?_ ?_; rotate_left 2; (focus (intro W; go_simp; with_reducible rfl)); (focus (simp only [zq1, zq2, zq3, Act.put, zq4, zq5, zq6]; rfl)))
                  refine Run.rd (v := ?_) (a' := ?_) rfl rfl (Or.inl ⟨by rfl, ?_⟩) ?_ ?_; rotate_left 2; (focus (rintro W ⟨hW1, hW2⟩; go_simp; with_reducible rfl)); (focus (simp only [zq1, zq2, zq3, Act.put, zq4, zq5, zq6]; rfl))
                  refine Run.pu (v := ?_) (a' := ?_) rfl rfl (Or.inl ⟨by rfl, ?_⟩) ?_ ?_; rotate_left 2; (focus (intro W; go_simp; with_reducible rfl)); (focus (simp only [zq1, zq2, zq3, Act.put, zq4, zq5, zq6]; rfl))
                  refine Run.pu (v := undef) (a' := ?_) rfl rfl (Or.inr ⟨by rfl, rfl⟩) ?_ ?_; rotate_left 1; (focus (simp only [zq1, zq2, zq3, Act.put, zq4, zq5, zq6]; rfl))
                  iterate 2 (refine Run.pu (v := ?_) (a' := ?_) rfl rfl (Or.inl ⟨by rfl, ?_⟩) ?_ ?_; rotate_left 2; (focus (intro W; go_simp; with_reducible rfl)); (focus (simp only [zq1, zq2, zq3, Act.put, zq4, zq5, zq6]; rfl)))
                  refine Run.la rfl (fun K hK => ?_)
                  simp only [zq1, zq2, zq3]
                  try simp only [zq4, zq5, zq6]
                  have hlb : k < (b13.map Value.bool).length := by simp; omega
                  have hlb2 : k < (b14.map Value.bool).length := by simp; omega
                  have z1 := HOD.out.rest.get List.mem_cons_self k hlb
                  rw [List.getElem?_eq_getElem hlb] at z1
                  have z2 := HOD.out.rest.frozen (o := k) List.mem_cons_self
                  have HO2 := As.mk (HOD.out.set 0 rfl k (.bool false) hlb)
                  simp only [zq5] at HO2
                  go_wp2
                  refine hK.out _ _ ?_
                  clear hK K HOD z1 z2
                  refine Run.pu (v := ?_) (a' := ?_) rfl rfl (Or.inl ⟨by rfl, ?_⟩) ?_ ?_; rotate_left 2; (focus (intro W; go_simp; with_reducible rfl)); (focus (simp only [zq1, zq2, zq3, Act.put, zq4, zq5, zq6]; rfl))
                  refine Run.la rfl (fun K hK => ?_)
                  simp only [zq1, zq2, zq3]
                  try simp only [zq4, zq5, zq6]
                  have z1 := HO2.out.rest.get (List.mem_cons_of_mem _ List.mem_cons_self) k hlb2
                  rw [List.getElem?_eq_getElem hlb2] at z1
                  have z2 := HO2.out.rest.frozen (o := k) (List.mem_cons_of_mem _ List.mem_cons_self)
                  have HO3 := As.mk (HO2.out.set 1 rfl k (.bool true) hlb2)
                  simp only [zq6, zq5] at HO3
                  go_wp2
                  refine hK.out _ _ ?_
                  clear hK K HO2 z1 z2 hlb hlb2
                  refine Run.nil ?_
                  have zo3 := cell_below HO3.out.rest.toBelow ZO.out
                  go_wp2_with fail
                  go_roundw
                  case rel => exact ⟨k + 1, b13.set k false, b14.set k true, is, by omega, by simp [h13], by simp [h14], by omega, by go_num, by rw [List.map_set, List.map_set]; exact HO3.out⟩
                  case measure => simp [intOf]; omega
              · cases yo
                · skip
                  go_wp2_with fail
                  refine rgn [(0, 1), (1, 1), (2, 1), (3, 1), (4, 1), (5, 1), (6, 1), (7, 0), (8, 1), (9, 1), (10, 1), (11, 1), (12, 1), (13, 1), (14, 0), (15, 1), (16, 1), (17, 1), (18, 1), (19, 3), (20, 1), (21, 3)] [19, 21] (fun W => W.cell? ⟨bm, om + k, none⟩ = some (.bool true) ∧ W.cell? ⟨bo, oo + k, none⟩ = some (.bool false)) (by kernel_rfl) (by kernel_rfl) (fun _ _ _ d _ h => by cases d <;> exact h) ⟨zm, zo⟩ ?_
                  obtain ⟨w3, hw3⟩ : ∃ x, x = wr.drew := ⟨_, rfl⟩
                  have HOD : As (OwnS [] [(w.heap.size, EC 4 (b13.map Value.bool)), (w1.heap.size, EC 4 (b14.map Value.bool))] (fun _ => True) w w3 3 1 u15 is.length (iV is)) := by rw [hw3]; exact As.mk (HO.out.drewN 1)
                  rw [← hw3]
                  clear hw3 HO
                  iterate 7 (refine Run.pu (v := ?_) (a' := ?_) rfl rfl (Or.inl ⟨by rfl, ?_⟩) ?_ ?_; rotate_left 2; (focus (intro W; go_simp; with_reducible rfl)); (focus (simp only [zq1, zq2, zq3, Act.put, zq4, zq5, zq6]; rfl)))
                  refine Run.rd (v := ?_) (a' := ?_) rfl rfl (Or.inl ⟨by rfl, ?_⟩) ?_ ?_; rotate_left 2; (focus (rintro W ⟨hW1, hW2⟩; go_simp; with_reducible rfl)); (focus (simp only [zq1, zq2, zq3, Act.put, zq4, zq5, zq6]; rfl))
                  refine Run.pu (v := ?_) (a' := ?_) rfl rfl (Or.inl ⟨by rfl, ?_⟩) ?_ ?_; rotate_left 2; (focus (intro W; go_simp; with_reducible rfl)); (focus (simp only [zq1, zq2, zq3, Act.put, zq4, zq5, zq6]; rfl))
                  refine Run.pu (v := undef) (a' := ?_) rfl rfl (Or.inr ⟨by rfl, rfl⟩) ?_ ?_; rotate_left 1; (focus (simp only [zq1, zq2, zq3, Act.put, zq4, zq5, zq6]; rfl))
                  iterate 4 (refine Run.pu (v := ?_) (a' := ?_) rfl rfl (Or.inl ⟨by rfl, ?_⟩) ?_ ?_; rotate_left 2; (focus (intro W; go_simp; with_reducible rfl)); (focus (simp only [zq1, zq2, zq3, Act.put, zq4, zq5, zq6]; rfl)))
                  refine Run.rd (v := ?_) (a' := ?_) rfl rfl (Or.inl ⟨by rfl, ?_⟩) ?_ ?_; rotate_left 2; (focus (rintro W ⟨hW1, hW2⟩; go_simp; with_reducible rfl)); (focus (simp only [zq1, zq2, zq3, Act.put, zq4, zq5, zq6]; rfl))
                  iterate 4 (refine Run.pu (v := ?_) (a' := ?_) rfl rfl (Or.inl ⟨by rfl, ?_⟩) ?_ ?_; rotate_left 2; (focus (intro W; go_simp; with_reducible rfl)); (focus (simp only [zq1, zq2, zq3, Act.put, zq4, zq5, zq6]; rfl)))
                  refine Run.la rfl (fun K hK => ?_)
                  simp only [zq1, zq2, zq3]
                  try simp only [zq4, zq5, zq6]
                  have hlb : k < (b13.map Value.bool).length := by simp; omega
                  have hlb2 : k < (b14.map Value.bool).length := by simp; omega
                  have z1 := HOD.out.rest.get List.mem_cons_self k hlb
                  rw [List.getElem?_eq_getElem hlb] at z1
                  have z2 := HOD.out.rest.frozen (o := k) List.mem_cons_self
                  have HO2 := As.mk (HOD.out.set 0 rfl k (.bool true) hlb)
                  simp only [zq5] at HO2
                  go_wp2
                  refine hK.out _ _ ?_
                  clear hK K HOD z1 z2
                  refine Run.pu (v := ?_) (a' := ?_) rfl rfl (Or.inl ⟨by rfl, ?_⟩) ?_ ?_; rotate_left 2; (focus (intro W; go_simp; with_reducible rfl)); (focus (simp only [zq1, zq2, zq3, Act.put, zq4, zq5, zq6]; rfl))
                  refine Run.la rfl (fun K hK => ?_)
                  simp only [zq1, zq2, zq3]
                  try simp only [zq4, zq5, zq6]
                  have z1 := HO2.out.rest.get (List.mem_cons_of_mem _ List.mem_cons_self) k hlb2
                  rw [List.getElem?_eq_getElem hlb2] at z1
                  have z2 := HO2.out.rest.frozen (o := k) (List.mem_cons_of_mem _ List.mem_cons_self)
                  have HO3 := As.mk (HO2.out.set 1 rfl k (.bool false) hlb2)
                  simp only [zq6, zq5] at HO3
                  go_wp2
                  refine hK.out _ _ ?_
                  clear hK K HO2 z1 z2 hlb hlb2
                  refine Run.nil ?_
                  have zo3 := cell_below HO3.out.rest.toBelow ZO.out
                  go_wp2_with fail
                  go_roundw
                  case rel => exact ⟨k + 1, b13.set k true, b14.set k false, is, by omega, by simp [h13], by simp [h14], by omega, by go_num, by rw [List.map_set, List.map_set]; exact HO3.out⟩
                  case measure => simp [intOf]; omega
                · skip
                  go_wp2_with fail
                  refine rgn [(0, 1), (1, 1), (2, 1), (3, 1), (4, 1), (5, 1), (6, 1), (7, 0), (8, 1), (9, 1), (10, 1), (11, 1), (12, 1), (13, 1), (14, 0), (15, 1), (16, 1), (17, 1), (18, 1), (19, 3), (20, 1), (21, 3)] [19, 21] (fun W => W.cell? ⟨bm, om + k, none⟩ = some (.bool true) ∧ W.cell? ⟨bo, oo + k, none⟩ = some (.bool true)) (by kernel_rfl) (by kernel_rfl) (fun _ _ _ d _ h => by cases d <;> exact h) ⟨zm, zo⟩ ?_
                  obtain ⟨w3, hw3⟩ : ∃ x, x = wr.drew := ⟨_, rfl⟩
                  have HOD : As (OwnS [] [(w.heap.size, EC 4 (b13.map Value.bool)), (w1.heap.size, EC 4 (b14.map Value.bool))] (fun _ => True) w w3 3 1 u15 is.length (iV is)) := by rw [hw3]; exact As.mk (HO.out.drewN 1)
                  rw [← hw3]
                  clear hw3 HO
                  iterate 7 (refine Run.pu (v := ?_) (a' := ?_) rfl rfl (Or.inl ⟨by rfl, ?_⟩) ?_ ?_; rotate_left 2; (focus (intro W; go_simp; with_reducible rfl)); (focus (simp only [zq1, zq2, zq3, Act.put, zq4, zq5, zq6]; rfl)))
                  refine Run.rd (v := ?_) (a' := ?_) rfl rfl (Or.inl ⟨by rfl, ?_⟩) ?_ ?_; rotate_left 2; (focus (rintro W ⟨hW1, hW2⟩; go_simp; with_reducible rfl)); (focus (simp only [zq1, zq2, zq3, Act.put, zq4, zq5, zq6]; rfl))
                  refine Run.pu (v := ?_) (a' := ?_) rfl rfl (Or.inl ⟨by rfl, ?_⟩) ?_ ?_; rotate_left 2; (focus (intro W; go_simp; with_reducible rfl)); (focus (simp only [zq1, zq2, zq3, Act.put, zq4, zq5, zq6]; rfl))
                  refine Run.pu (v := undef) (a' := ?_) rfl rfl (Or.inr ⟨by rfl, rfl⟩) ?_ ?_; rotate_left 1; (focus (simp only [zq1, zq2, zq3, Act.put, zq4, zq5, zq6]; rfl))
                  iterate 4 (refine Run.pu (v := ?_) (a' := ?_) rfl rfl (Or.inl ⟨by rfl, ?_⟩) ?_ ?_; rotate_left 2; (focus (intro W; go_simp; with_reducible rfl)); (focus (simp only [zq1, zq2, zq3, Act.put, zq4, zq5, zq6]; rfl)))
                  refine Run.rd (v := ?_) (a' := ?_) rfl rfl (Or.inl ⟨by rfl, ?_⟩) ?_ ?_; rotate_left 2; (focus (rintro W ⟨hW1, hW2⟩; go_simp; with_reducible rfl)); (focus (simp only [zq1, zq2, zq3, Act.put, zq4, zq5, zq6]; rfl))
                  refine Run.pu (v := ?_) (a' := ?_) rfl rfl (Or.inl ⟨by rfl, ?_⟩) ?_ ?_; rotate_left 2; (focus (intro W; go_simp; with_reducible rfl)); (focus (simp only [zq1, zq2, zq3, Act.put, zq4, zq5, zq6]; rfl))
                  refine Run.pu (v := undef) (a' := ?_) rfl rfl (Or.inr ⟨by rfl, rfl⟩) ?_ ?_; rotate_left 1; (focus (simp only [zq1, zq2, zq3, Act.put, zq4, zq5, zq6]; rfl))
                  iterate 2 (refine Run.pu (v := ?_) (a' := ?_) rfl rfl (Or.inl ⟨by rfl, ?_⟩) ?_ ?_; rotate_left 2; (focus (intro W; go_simp; with_reducible rfl)); (focus (simp only [zq1, zq2, zq3, Act.put, zq4, zq5, zq6]; rfl)))
                  refine Run.la rfl (fun K hK => ?_)
                  simp only [zq1, zq2, zq3]
                  try simp only [zq4, zq5, zq6]
                  have hlb : k < (b13.map Value.bool).length := by simp; omega
                  have hlb2 : k < (b14.map Value.bool).length := by simp; omega
                  have z1 := HOD.out.rest.get List.mem_cons_self k hlb
                  rw [List.getElem?_eq_getElem hlb] at z1
                  have z2 := HOD.out.rest.frozen (o := k) List.mem_cons_self
                  have HO2 := As.mk (HOD.out.set 0 rfl k (.bool true) hlb)
                  simp only [zq5] at HO2
                  go_wp2
                  refine hK.out _ _ ?_
                  clear hK K HOD z1 z2
                  refine Run.pu (v := ?_) (a' := ?_) rfl rfl (Or.inl ⟨by rfl, ?_⟩) ?_ ?_; rotate_left 2; (focus (intro W; go_simp; with_reducible rfl)); (focus (simp only [zq1, zq2, zq3, Act.put, zq4, zq5, zq6]; rfl))
                  refine Run.la rfl (fun K hK => ?_)
                  simp only [zq1, zq2, zq3]
                  try simp only [zq4, zq5, zq6]
                  have z1 := HO2.out.rest.get (List.mem_cons_of_mem _ List.mem_cons_self) k hlb2
                  rw [List.getElem?_eq_getElem hlb2] at z1
                  have z2 := HO2.out.rest.frozen (o := k) (List.mem_cons_of_mem _ List.mem_cons_self)
                  have HO3 := As.mk (HO2.out.set 1 rfl k (.bool true) hlb2)
                  simp only [zq6, zq5] at HO3
                  go_wp2
                  refine hK.out _ _ ?_
                  clear hK K HO2 z1 z2 hlb hlb2
                  refine Run.nil ?_
                  have zo3 := cell_below HO3.out.rest.toBelow ZO.out
                  go_wp2_with fail
                  go_roundw
                  case rel => exact ⟨k + 1, b13.set k true, b14.set k true, is, by omega, by simp [h13], by simp [h14], by omega, by go_num, by rw [List.map_set, List.map_set]; exact HO3.out⟩
                  case measure => simp [intOf]; omega
          · skip
            cases ym
            · cases yo
              · skip
                go_wp2_with fail
                refine rgn [(0, 1), (1, 1), (2, 1), (3, 1), (4, 1), (5, 1), (6, 1), (7, 0), (8, 1), (9, 1), (10, 1), (11, 1), (12, 1), (13, 1), (14, 0), (15, 1), (16, 1), (17, 1), (18, 1), (19, 3), (20, 1), (21, 3)] [19, 21] (fun W => W.cell? ⟨bm, om + k, none⟩ = some (.bool false) ∧ W.cell? ⟨bo, oo + k, none⟩ = some (.bool false)) (by kernel_rfl) (by kernel_rfl) (fun _ _ _ d _ h => by cases d <;> exact h) ⟨zm, zo⟩ ?_
                obtain ⟨w3, hw3⟩ : ∃ x, x = wr.drew := ⟨_, rfl⟩
                have HOD : As (OwnS [] [(w.heap.size, EC 4 (b13.map Value.bool)), (w1.heap.size, EC 4 (b14.map Value.bool))] (fun _ => True) w w3 3 1 u15 is.length (iV is)) := by rw [hw3]; exact As.mk (HO.out.drewN 1)
                rw [← hw3]
                clear hw3 HO
                iterate 7 (refine Run.pu (v := ?_) (a' := ?_) rfl rfl (Or.inl ⟨by rfl, ?_⟩) ?_ ?_; rotate_left 2; (focus (intro W; go_simp; with_reducible rfl)); (focus (simp only [zq1, zq2, zq3, Act.put, zq4, zq5, zq6]; rfl)))
                refine Run.rd (v := ?_) (a' := ?_) rfl rfl (Or.inl ⟨by rfl, ?_⟩) ?_ ?_; rotate_left 2; (focus (rintro W ⟨hW1, hW2⟩; go_simp; with_reducible rfl)); (focus (simp only [zq1, zq2, zq3, Act.put, zq4, zq5, zq6]; rfl))
                iterate 6 (refine Run.pu (v := ?_) (a' := ?_) rfl rfl (Or.inl ⟨by rfl, ?_⟩) ?_ ?_; rotate_left 2; (focus (intro W; go_simp; with_reducible rfl)); (focus (simp only [zq1, zq2, zq3, Act.put, zq4, zq5, zq6]; rfl)))
                refine Run.rd (v := ?_) (a' := ?_) rfl rfl (Or.inl ⟨by rfl, ?_⟩) ?_ ?_; rotate_left 2; (focus (rintro W ⟨hW1, hW2⟩; go_simp; with_reducible rfl)); (focus (simp only [zq1, zq2, zq3, Act.put, zq4, zq5, zq6]; rfl))
                iterate 4 (refine Run.pu (v := ?_) (a' := ?_) rfl rfl (Or.inl ⟨by rfl, ?_⟩) ?_ ?_; rotate_left 2; (focus (intro W; go_simp; with_reducible rfl)); (focus (simp only [zq1, zq2, zq3, Act.put, zq4, zq5, zq6]; rfl)))
                refine Run.la rfl (fun K hK => ?_)
                simp only [zq1, zq2, zq3]
                try simp only [zq4, zq5, zq6]
                have hlb : k < (b13.map Value.bool).length := by simp; omega
                have hlb2 : k < (b14.map Value.bool).length := by simp; omega
                have z1 := HOD.out.rest.get List.mem_cons_self k hlb
                rw [List.getElem?_eq_getElem hlb] at z1
                have z2 := HOD.out.rest.frozen (o := k) List.mem_cons_self
                have HO2 := As.mk (HOD.out.set 0 rfl k (.bool false) hlb)
                simp only [zq5] at HO2
                go_wp2
                refine hK.out _ _ ?_
                clear hK K HOD z1 z2
                refine Run.pu (v := ?_) (a' := ?_) rfl rfl (Or.inl ⟨by rfl, ?_⟩) ?_ ?_; rotate_left 2; (focus (intro W; go_simp; with_reducible rfl)); (focus (simp only [zq1, zq2, zq3, Act.put, zq4, zq5, zq6]; rfl))
                refine Run.la rfl (fun K hK => ?_)
                simp only [zq1, zq2, zq3]
                try simp only [zq4, zq5, zq6]
                have z1 := HO2.out.rest.get (List.mem_cons_of_mem _ List.mem_cons_self) k hlb2
                rw [List.getElem?_eq_getElem hlb2] at z1
                have z2 := HO2.out.rest.frozen (o := k) (List.mem_cons_of_mem _ List.mem_cons_self)
                have HO3 := As.mk (HO2.out.set 1 rfl k (.bool false) hlb2)
                simp only [zq6, zq5] at HO3
                go_wp2
                refine hK.out _ _ ?_
                clear hK K HO2 z1 z2 hlb hlb2
                refine Run.nil ?_
                have zo3 := cell_below HO3.out.rest.toBelow ZO.out
                go_wp2_with fail
                go_roundw
                case rel => exact ⟨k + 1, b13.set k false, b14.set k false, is, by omega, by simp [h13], by simp [h14], by omega, by go_num, by rw [List.map_set, List.map_set]; exact HO3.out⟩
                case measure => simp [intOf]; omega
              · skip
                go_wp2_with fail
                refine rgn [(0, 1), (1, 1), (2, 1), (3, 1), (4, 1), (5, 1), (6, 1), (7, 0), (8, 1), (9, 1), (10, 1), (11, 1), (12, 1), (13, 1), (14, 0), (15, 1), (16, 1), (17, 1), (18, 1), (19, 3), (20, 1), (21, 3)] [19, 21] (fun W => W.cell? ⟨bm, om + k, none⟩ = some (.bool false) ∧ W.cell? ⟨bo, oo + k, none⟩ = some (.bool true)) (by kernel_rfl) (by kernel_rfl) (fun _ _ _ d _ h => by cases d <;> exact h) ⟨zm, zo⟩ ?_
                obtain ⟨w3, hw3⟩ : ∃ x, x = wr.drew := ⟨_, rfl⟩
                have HOD : As (OwnS [] [(w.heap.size, EC 4 (b13.map Value.bool)), (w1.heap.size, EC 4 (b14.map Value.bool))] (fun _ => True) w w3 3 1 u15 is.length (iV is)) := by rw [hw3]; exact As.mk (HO.out.drewN 1)
                rw [← hw3]
                clear hw3 HO
                iterate 7 (refine Run.pu (v := ?_) (a' := ?_) rfl rfl (Or.inl ⟨by rfl, ?_⟩) ?_ ?_; rotate_left 2; (focus (intro W; go_simp; with_reducible rfl)); (focus (simp only [zq1, zq2, zq3, Act.put, zq4, zq5, zq6]; rfl)))
                refine Run.rd (v := ?_) (a' := ?_) rfl rfl (Or.inl ⟨by rfl, ?_⟩) ?_ ?_; rotate_left 2; (focus (rintro W ⟨hW1, hW2⟩; go_simp; with_reducible rfl)); (focus (simp only [zq1, zq2, zq3, Act.put, zq4, zq5, zq6]; rfl))
                iterate 6 (refine Run.pu (v := ?_) (a' := ?_) rfl rfl (Or.inl ⟨by rfl, ?_⟩) ?_ ?_; rotate_left 2; (focus (intro W; go_simp; with_reducible rfl)); (focus (simp only [zq1, zq2, zq3, Act.put, zq4, zq5, zq6]; rfl)))
                refine Run.rd (v := ?_) (a' := ?_) rfl rfl (Or.inl ⟨by rfl, ?_⟩) ?_ ?_; rotate_left 2; (focus (rintro W ⟨hW1, hW2⟩; go_simp; with_reducible rfl)); (focus (simp only [zq1, zq2, zq3, Act.put, zq4, zq5, zq6]; rfl))
                refine Run.pu (v := ?_) (a' := ?_) rfl rfl (Or.inl ⟨by rfl, ?_⟩) ?_ ?_; rotate_left 2; (focus (intro W; go_simp; with_reducible rfl)); (focus (simp only [zq1, zq2, zq3, Act.put, zq4, zq5, zq6]; rfl))
                refine Run.pu (v := undef) (a' := ?_) rfl rfl (Or.inr ⟨by rfl, rfl⟩) ?_ ?_; rotate_left 1; (focus (simp only [zq1, zq2, zq3, Act.put, zq4, zq5, zq6]; rfl))
                iterate 2 (refine Run.pu (v := ?_) (a' := ?_) rfl rfl (Or.inl ⟨by rfl, ?_⟩) ?_ ?_; rotate_left 2; (focus (intro W; go_simp; with_reducible rfl)); (focus (simp only [zq1, zq2, zq3, Act.put, zq4, zq5, zq6]; rfl)))
                refine Run.la rfl (fun K hK => ?_)
                simp only [zq1, zq2, zq3]
                try simp only [zq4, zq5, zq6]
                have hlb : k < (b13.map Value.bool).length := by simp; omega
                have hlb2 : k < (b14.map Value.bool).length := by simp; omega
                have z1 := HOD.out.rest.get List.mem_cons_self k hlb
                rw [List.getElem?_eq_getElem hlb] at z1
                have z2 := HOD.out.rest.frozen (o := k) List.mem_cons_self
                have HO2 := As.mk (HOD.out.set 0 rfl k (.bool false) hlb)
                simp only [zq5] at HO2
                go_wp2
                refine hK.out _ _ ?_
                clear hK K HOD z1 z2
                refine Run.pu (v := ?_) (a' := ?_) rfl rfl (Or.inl ⟨by rfl, ?_⟩) ?_ ?_; rotate_left 2; (focus (intro W; go_simp; with_reducible rfl)); (focus (simp only [zq1, zq2, zq3, Act.put, zq4, zq5, zq6]; rfl))
                refine Run.la rfl (fun K hK => ?_)
                simp only [zq1, zq2, zq3]
                try simp only [zq4, zq5, zq6]
                have z1 := HO2.out.rest.get (List.mem_cons_of_mem _ List.mem_cons_self) k hlb2
                rw [List.getElem?_eq_getElem hlb2] at z1
                have z2 := HO2.out.rest.frozen (o := k) (List.mem_cons_of_mem _ List.mem_cons_self)
                have HO3 := As.mk (HO2.out.set 1 rfl k (.bool true) hlb2)
                simp only [zq6, zq5] at HO3
                go_wp2
                refine hK.out _ _ ?_
                clear hK K HO2 z1 z2 hlb hlb2
                refine Run.nil ?_
                have zo3 := cell_below HO3.out.rest.toBelow ZO.out
                go_wp2_with fail
                go_roundw
                case rel => exact ⟨k + 1, b13.set k false, b14.set k true, is, by omega, by simp [h13], by simp [h14], by omega, by go_num, by rw [List.map_set, List.map_set]; exact HO3.out⟩
                case measure => simp [intOf]; omega
            · cases yo
              · skip
                go_wp2_with fail
                refine rgn [(0, 1), (1, 1), (2, 1), (3, 1), (4, 1), (5, 1), (6, 1), (7, 0), (8, 1), (9, 1), (10, 1), (11, 1), (12, 1), (13, 1), (14, 0), (15, 1), (16, 1), (17, 1), (18, 1), (19, 3), (20, 1), (21, 3)] [19, 21] (fun W => W.cell? ⟨bm, om + k, none⟩ = some (.bool true) ∧ W.cell? ⟨bo, oo + k, none⟩ = some (.bool false)) (by kernel_rfl) (by kernel_rfl) (fun _ _ _ d _ h => by cases d <;> exact h) ⟨zm, zo⟩ ?_
                obtain ⟨w3, hw3⟩ : ∃ x, x = wr.drew := ⟨_, rfl⟩
                have HOD : As (OwnS [] [(w.heap.size, EC 4 (b13.map Value.bool)), (w1.heap.size, EC 4 (b14.map Value.bool))] (fun _ => True) w w3 3 1 u15 is.length (iV is)) := by rw [hw3]; exact As.mk (HO.out.drewN 1)
                rw [← hw3]
                clear hw3 HO
                iterate 7 (refine Run.pu (v := ?_) (a' := ?_) rfl rfl (Or.inl ⟨by rfl, ?_⟩) ?_ ?_; rotate_left 2; (focus (intro W; go_simp; with_reducible rfl)); (focus (simp only [zq1, zq2, zq3, Act.put, zq4, zq5, zq6]; rfl)))
                refine Run.rd (v := ?_) (a' := ?_) rfl rfl (Or.inl ⟨by rfl, ?_⟩) ?_ ?_; rotate_left 2; (focus (rintro W ⟨hW1, hW2⟩; go_simp; with_reducible rfl)); (focus (simp only [zq1, zq2, zq3, Act.put, zq4, zq5, zq6]; rfl))
                refine Run.pu (v := ?_) (a' := ?_) rfl rfl (Or.inl ⟨by rfl, ?_⟩) ?_ ?_; rotate_left 2; (focus (intro W; go_simp; with_reducible rfl)); (focus (simp only [zq1, zq2, zq3, Act.put, zq4, zq5, zq6]; rfl))
                refine Run.pu (v := undef) (a' := ?_) rfl rfl (Or.inr ⟨by rfl, rfl⟩) ?_ ?_; rotate_left 1; (focus (simp only [zq1, zq2, zq3, Act.put, zq4, zq5, zq6]; rfl))
                iterate 4 (refine Run.pu (v := ?_) (a' := ?_) rfl rfl (Or.inl ⟨by rfl, ?_⟩) ?_ ?_; rotate_left 2; (focus (intro W; go_simp; with_reducible rfl)); (focus (simp only [zq1, zq2, zq3, Act.put, zq4, zq5, zq6]; rfl)))
                refine Run.rd (v := ?_) (a' := ?_) rfl rfl (Or.inl ⟨by rfl, ?_⟩) ?_ ?_; rotate_left 2; (focus (rintro W ⟨hW1, hW2⟩; go_simp; with_reducible rfl)); (focus (simp only [zq1, zq2, zq3, Act.put, zq4, zq5, zq6]; rfl))
                iterate 4 (refine Run.pu (v := ?_) (a' := ?_) rfl rfl (Or.inl ⟨by rfl, ?_⟩) ?_ ?_; rotate_left 2; (focus (intro W; go_simp; with_reducible rfl)); (focus (simp only [zq1, zq2, zq3, Act.put, zq4, zq5, zq6]; rfl)))
                refine Run.la rfl (fun K hK => ?_)
                simp only [zq1, zq2, zq3]
                try simp only [zq4, zq5, zq6]
                have hlb : k < (b13.map Value.bool).length := by simp; omega
                have hlb2 : k < (b14.map Value.bool).length := by simp; omega
                have z1 := HOD.out.rest.get List.mem_cons_self k hlb
                rw [List.getElem?_eq_getElem hlb] at z1
                have z2 := HOD.out.rest.frozen (o := k) List.mem_cons_self
                have HO2 := As.mk (HOD.out.set 0 rfl k (.bool true) hlb)
                simp only [zq5] at HO2
                go_wp2
                refine hK.out _ _ ?_
                clear hK K HOD z1 z2
                refine Run.pu (v := ?_) (a' := ?_) rfl rfl (Or.inl ⟨by rfl, ?_⟩) ?_ ?_; rotate_left 2; (focus (intro W; go_simp; with_reducible rfl)); (focus (simp only [zq1, zq2, zq3, Act.put, zq4, zq5, zq6]; rfl))
                refine Run.la rfl (fun K hK => ?_)
                simp only [zq1, zq2, zq3]
                try simp only [zq4, zq5, zq6]
                have z1 := HO2.out.rest.get (List.mem_cons_of_mem _ List.mem_cons_self) k hlb2
                rw [List.getElem?_eq_getElem hlb2] at z1
                have z2 := HO2.out.rest.frozen (o := k) (List.mem_cons_of_mem _ List.mem_cons_self)
                have HO3 := As.mk (HO2.out.set 1 rfl k (.bool false) hlb2)
                simp only [zq6, zq5] at HO3
                go_wp2
                refine hK.out _ _ ?_
                clear hK K HO2 z1 z2 hlb hlb2
                refine Run.nil ?_
                have zo3 := cell_below HO3.out.rest.toBelow ZO.out
                go_wp2_with fail
                go_roundw
                case rel => exact ⟨k + 1, b13.set k true, b14.set k false, is, by omega, by simp [h13], by simp [h14], by omega, by go_num, by rw [List.map_set, List.map_set]; exact HO3.out⟩
                case measure => simp [intOf]; omega
              · skip
                go_wp2_with fail
                refine rgn [(0, 1), (1, 1), (2, 1), (3, 1), (4, 1), (5, 1), (6, 1), (7, 0), (8, 1), (9, 1), (10, 1), (11, 1), (12, 1), (13, 1), (14, 0), (15, 1), (16, 1), (17, 1), (18, 1), (19, 3), (20, 1), (21, 3)] [19, 21] (fun W => W.cell? ⟨bm, om + k, none⟩ = some (.bool true) ∧ W.cell? ⟨bo, oo + k, none⟩ = some (.bool true)) (by kernel_rfl) (by kernel_rfl) (fun _ _ _ d _ h => by cases d <;> exact h) ⟨zm, zo⟩ ?_
                obtain ⟨w3, hw3⟩ : ∃ x, x = wr.drew := ⟨_, rfl⟩
                have HOD : As (OwnS [] [(w.heap.size, EC 4 (b13.map Value.bool)), (w1.heap.size, EC 4 (b14.map Value.bool))] (fun _ => True) w w3 3 1 u15 is.length (iV is)) := by rw [hw3]; exact As.mk (HO.out.drewN 1)
                rw [← hw3]
                clear hw3 HO
                iterate 7 (refine Run.pu (v := ?_) (a' := ?_) rfl rfl (Or.inl ⟨by rfl, ?_⟩) ?_ ?_; rotate_left 2; (focus (intro W; go_simp; with_reducible rfl)); (focus (simp only [zq1, zq2, zq3, Act.put, zq4, zq5, zq6]; rfl)))
                refine Run.rd (v := ?_) (a' := ?_) rfl rfl (Or.inl ⟨by rfl, ?_⟩) ?_ ?_; rotate_left 2; (focus (rintro W ⟨hW1, hW2⟩; go_simp; with_reducible rfl)); (focus (simp only [zq1, zq2, zq3, Act.put, zq4, zq5, zq6]; rfl))
                refine Run.pu (v := ?_) (a' := ?_) rfl rfl (Or.inl ⟨by rfl, ?_⟩) ?_ ?_; rotate_left 2; (focus (intro W; go_simp; with_reducible rfl)); (focus (simp only [zq1, zq2, zq3, Act.put, zq4, zq5, zq6]; rfl))
                refine Run.pu (v := undef) (a' := ?_) rfl rfl (Or.inr ⟨by rfl, rfl⟩) ?_ ?_; rotate_left 1; (focus (simp only [zq1, zq2, zq3, Act.put, zq4, zq5, zq6]; rfl))
                iterate 4 (refine Run.pu (v := ?_) (a' := ?_) rfl rfl (Or.inl ⟨by rfl, ?_⟩) ?_ ?_; rotate_left 2; (focus (intro W; go_simp; with_reducible rfl)); (focus (simp only [zq1, zq2, zq3, Act.put, zq4, zq5, zq6]; rfl)))
                refine Run.rd (v := ?_) (a' := ?_) rfl rfl (Or.inl ⟨by rfl, ?_⟩) ?_ ?_; rotate_left 2; (focus (rintro W ⟨hW1, hW2⟩; go_simp; with_reducible rfl)); (focus (simp only [zq1, zq2, zq3, Act.put, zq4, zq5, zq6]; rfl))
                refine Run.pu (v := ?_) (a' := ?_) rfl rfl (Or.inl ⟨by rfl, ?_⟩) ?_ ?_; rotate_left 2; (focus (intro W; go_simp; with_reducible rfl)); (focus (simp only [zq1, zq2, zq3, Act.put, zq4, zq5, zq6]; rfl))
                refine Run.pu (v := undef) (a' := ?_) rfl rfl (Or.inr ⟨by rfl, rfl⟩) ?_ ?_; rotate_left 1; (focus (simp only [zq1, zq2, zq3, Act.put, zq4, zq5, zq6]; rfl))
                iterate 2 (refine Run.pu (v := ?_) (a' := ?_) rfl rfl (Or.inl ⟨by rfl, ?_⟩) ?_ ?_; rotate_left 2; (focus (intro W; go_simp; with_reducible rfl)); (focus (simp only [zq1, zq2, zq3, Act.put, zq4, zq5, zq6]; rfl)))
                refine Run.la rfl (fun K hK => ?_)
                simp only [zq1, zq2, zq3]
                try simp only [zq4, zq5, zq6]
                have hlb : k < (b13.map Value.bool).length := by simp; omega
                have hlb2 : k < (b14.map Value.bool).length := by simp; omega
                have z1 := HOD.out.rest.get List.mem_cons_self k hlb
                rw [List.getElem?_eq_getElem hlb] at z1
                have z2 := HOD.out.rest.frozen (o := k) List.mem_cons_self
                have HO2 := As.mk (HOD.out.set 0 rfl k (.bool true) hlb)
                simp only [zq5] at HO2
                go_wp2
                refine hK.out _ _ ?_
                clear hK K HOD z1 z2
                refine Run.pu (v := ?_) (a' := ?_) rfl rfl (Or.inl ⟨by rfl, ?_⟩) ?_ ?_; rotate_left 2; (focus (intro W; go_simp; with_reducible rfl)); (focus (simp only [zq1, zq2, zq3, Act.put, zq4, zq5, zq6]; rfl))
                refine Run.la rfl (fun K hK => ?_)
                simp only [zq1, zq2, zq3]
                try simp only [zq4, zq5, zq6]
                have z1 := HO2.out.rest.get (List.mem_cons_of_mem _ List.mem_cons_self) k hlb2
                rw [List.getElem?_eq_getElem hlb2] at z1
                have z2 := HO2.out.rest.frozen (o := k) (List.mem_cons_of_mem _ List.mem_cons_self)
                have HO3 := As.mk (HO2.out.set 1 rfl k (.bool true) hlb2)
                simp only [zq6, zq5] at HO3
                go_wp2
                refine hK.out _ _ ?_
                clear hK K HO2 z1 z2 hlb hlb2
                refine Run.nil ?_
                have zo3 := cell_below HO3.out.rest.toBelow ZO.out
                go_wp2_with fail
                go_roundw
                case rel => exact ⟨k + 1, b13.set k true, b14.set k true, is, by omega, by simp [h13], by simp [h14], by omega, by go_num, by rw [List.map_set, List.map_set]; exact HO3.out⟩
                case measure => simp [intOf]; omega
        · have e : k = n := by omega
          have e1 : (k : Int) = (n : Int) := by omega
          have hnn : ¬ ((n : Int) < (n : Int)) := by omega
          rw [e] at his
          rw [e]
          clear e e1 hkn hk
          go_wp2_with fail
          refine (ref_Count_n w.heap.size n b13 _ h13 (HO.out.rest.row List.mem_cons_self (Nat.le_refl _)) hn).mono ?_
          rintro e_ w3 ⟨⟨x1, rfl⟩, rfl⟩
          by_cases t1 : most < x1
          · go_wp2_with fail
            refine bodyPost_ret (v := .tuple #[.slice none 0 0, .slice none 0 0, .bool false]) (by simp [results, Tryz.results98, go_sem]) rfl ⟨⟨_, _, false, rfl, fun h => by simp at h⟩, HO.out.rest.toBelow⟩
          · go_wp2_with fail
            refine (ref_Count_n w1.heap.size n b14 _ h14 (HO.out.rest.row (List.mem_cons_of_mem _ List.mem_cons_self) (Nat.le_refl _)) hn).mono ?_
            rintro e_ w4 ⟨⟨x2, rfl⟩, rfl⟩
            by_cases t2 : most < x2
            · go_wp2_with fail
              go_loopw [18] (fun i wr => ∃ (j : Nat) (b14 : List Bool), j ≤ n ∧ b14.length = n ∧ i = .int .i64 (j : Int) ∧ OwnS [] [(w.heap.size, EC 4 (b13.map Value.bool)), (w1.heap.size, EC 4 (b14.map Value.bool))] (fun _ => True) w wr 3 1 u15 is.length (iV is)) (fun i _ => n - (intOf i).toNat)
              case atStart => exact ⟨0, b14, Nat.zero_le _, h14, rfl, HO.out⟩
              case round =>
               clear HO h14 b14
               obtain ⟨j, b14, hj, h14, rfl, ho⟩ := hrel
               have HO := As.mk ho
               clear ho
               by_cases hjn : j < n
               · obtain ⟨y, hy⟩ : ∃ y, b14[j]? = some y := ⟨b14[j]'(by omega), List.getElem?_eq_getElem _⟩
                 obtain ⟨x, hx⟩ : ∃ y, b13[j]? = some y := ⟨b13[j]'(by omega), List.getElem?_eq_getElem _⟩
                 have z1 := HO.out.rest.get (g := w1.heap.size) (e := 4) (cs := b14.map Value.bool) (List.mem_cons_of_mem _ List.mem_cons_self) j (by simp; omega)
                 have z2 := HO.out.rest.get (g := w.heap.size) (e := 4) (cs := b13.map Value.bool) List.mem_cons_self j (by simp; omega)
                 have z3 := HO.out.rest.frozen (g := w1.heap.size) (e := 4) (cs := b14.map Value.bool) (List.mem_cons_of_mem _ List.mem_cons_self) j
                 rw [List.getElem?_map, hy] at z1
                 rw [List.getElem?_map, hx] at z2
                 have hlb : j < (b14.map Value.bool).length := by simp; omega
                 have ho := HO.out
                 have HSET := As.mk (fun v : Bool => ho.set 1 rfl j (.bool v) hlb)
                 clear ho hlb
                 clear hy hx HO
                 cases y
                 · go_wp2_with fail
                   go_roundw
                   case rel => exact ⟨j + 1, b14.set j false, by omega, by simp [h14], by go_num, by rw [List.map_set]; exact HSET.out false⟩
                   case measure => simp [intOf]; omega
                 · go_wp2_with fail
                   go_roundw
                   case rel => exact ⟨j + 1, b14.set j x, by omega, by simp [h14], by go_num, by rw [List.map_set]; exact HSET.out x⟩
                   case measure => simp [intOf]; omega
               · have e : j = n := by omega
                 rw [e]
                 clear e hjn hj
                 go_wp2_with fail
                 refine bodyPost_ret (v := .tuple #[.slice (some ⟨w1.heap.size, 0, none⟩) n n, u15, .bool true]) (by simp [results, Tryz.results98, go_sem]) rfl ⟨⟨_, _, true, rfl, fun _ W hW => ⟨⟨b14, h14, (HO.out.rest.fr (List.mem_cons_of_mem _ List.mem_cons_self) (Nat.le_refl _)).row hW⟩, is, by omega, HO.out.fr.row hW⟩⟩, HO.out.rest.toBelow⟩
            · go_wp2_with fail
              refine bodyPost_ret (v := .tuple #[.slice (some ⟨w1.heap.size, 0, none⟩) n n, u15, .bool true]) (by simp [results, Tryz.results98, go_sem]) rfl ⟨⟨_, _, true, rfl, fun _ W hW => ⟨⟨b14, h14, (HO.out.rest.fr (List.mem_cons_of_mem _ List.mem_cons_self) (Nat.le_refl _)).row hW⟩, is, by omega, HO.out.fr.row hW⟩⟩, HO.out.rest.toBelow⟩
     · refine Run.wpOp_of_list rfl fun K hK => ?_
       refine go_make rfl _ _ 56 4 (.bool false) 1 rfl Tryz.underlying56 info4 rfl .i64 .i64 _ _ n rfl rfl (by rfl) (by rfl) (by omega) (by simp only [maxLen]; omega) HOD.out ?_
       intro w1 ho hb
       have HO := As.mk ho
       clear ho hb HOD
       go_wp2
       refine hK.out _ _ ⟨trivial, ?_⟩
       clear hK K
       refine Run.ef rfl (fun K hK => ?_)
       simp only [zq1, zq2, zq3]
       try simp only [zq4, zq5, zq6]
       refine go_make rfl _ _ 56 4 (.bool false) 1 rfl Tryz.underlying56 info4 rfl .i64 .i64 _ _ n rfl rfl (by rfl) (by rfl) (by omega) (by simp only [maxLen]; omega) HO.out ?_
       intro w2 ho hb
       have HO2 : As (Own [] [(w1.heap.size, EC 4 (List.replicate n (.bool false))), (w.heap.size, EC 4 (List.replicate n (.bool false)))] (fun _ => True) w w2) := As.mk ho
       clear ho hb HO
       go_wp2
       refine hK.out _ _ trivial ?_
       clear hK K
       iterate 2 (refine Run.pu (v := ?_) (a' := ?_) rfl rfl (Or.inl ⟨by rfl, ?_⟩) ?_ ?_; rotate_left 2; (focus (intro W; go_simp; with_reducible rfl)); (focus (simp only [zq1, zq2, zq3, Act.put, zq4, zq5, zq6]; rfl)))
       refine Run.nil ?_
       try simp only [zq1, zq2, zq3]
       go_wp2_with fail
       go_loopw [15, 16] (fun s i wr => ∃ (k : Nat) (b13 b14 : List Bool) (is : List Int), k ≤ n ∧ b13.length = n ∧ b14.length = n ∧ is.length ≤ k ∧ i = .int .i64 (k : Int) ∧ OwnS [] [(w1.heap.size, EC 4 (b13.map Value.bool)), (w.heap.size, EC 4 (b14.map Value.bool))] (fun _ => True) w wr 3 1 s is.length (iV is)) (fun _ i _ => n - (intOf i).toNat)
       case atStart => exact ⟨0, List.replicate n false, List.replicate n false, [], Nat.zero_le _, by simp, by simp, by simp, rfl, by rw [List.map_replicate]; exact OwnS.nil HO2.out 3 1⟩
       case round =>
        clear HO2
        obtain ⟨k, b13, b14, is, hk, h13, h14, his, rfl, ho⟩ := hrel
        have HO := As.mk ho
        clear ho
        by_cases hkn : k < n
        · obtain ⟨ym, hm⟩ : ∃ y, met[k]? = some y := ⟨met[k]'(by have := L2.out; omega), List.getElem?_eq_getElem _⟩
          obtain ⟨yo, ho_⟩ : ∃ y, on[k]? = some y := ⟨on[k]'(by have := L1.out; omega), List.getElem?_eq_getElem _⟩
          obtain ⟨bo, oo, rfl, hnc1, hcell1⟩ := H1.out.cell' (by rw [List.length_map]; have := L1.out; omega)
          obtain ⟨bm, om, rfl, hnc2, hcell2⟩ := H2.out.cell' (by rw [List.length_map]; have := L2.out; omega)
          have zm := cell_below HO.out.rest.toBelow (hcell2 k (.bool ym) (by rw [List.getElem?_map, hm]; rfl))
          have zo := cell_below HO.out.rest.toBelow (hcell1 k (.bool yo) (by rw [List.getElem?_map, ho_]; rfl))
          have ZO := As.mk (hcell1 k (.bool yo) (by rw [List.getElem?_map, ho_]; rfl))
          clear hcell1 hcell2 hm ho_
          by_cases c1 : a ≤ k
          · by_cases c2 : k < b
            · skip
              cases ym
              · cases yo
                · skip
                  go_wp2_with fail
                  refine rgn [(0, 1), (1, 1), (2, 1), (3, 1), (4, 1), (5, 1), (6, 1), (7, 0), (8, 1), (9, 1), (10, 1), (11, 1), (12, 1), (13, 1), (14, 0), (15, 1), (16, 1), (17, 1), (18, 1), (19, 3), (20, 1), (21, 3)] [19, 21] (fun W => W.cell? ⟨bm, om + k, none⟩ = some (.bool false) ∧ W.cell? ⟨bo, oo + k, none⟩ = some (.bool false)) (by kernel_rfl) (by kernel_rfl) (fun _ _ _ d _ h => by cases d <;> exact h) ⟨zm, zo⟩ ?_
                  obtain ⟨w3, hw3⟩ : ∃ x, x = wr.drew := ⟨_, rfl⟩
                  have HOD : As (OwnS [] [(w1.heap.size, EC 4 (b13.map Value.bool)), (w.heap.size, EC 4 (b14.map Value.bool))] (fun _ => True) w w3 3 1 u15 is.length (iV is)) := by rw [hw3]; exact As.mk (HO.out.drewN 1)
                  rw [← hw3]
                  clear hw3 HO
                  iterate 7 (refine Run.pu (v := ?_) (a' := ?_) rfl rfl (Or.inl ⟨by rfl, ?_⟩) ?_ ?_; rotate_left 2; (focus (intro W; go_simp; with_reducible rfl)); (focus (simp only [zq1, zq2, zq3, Act.put, zq4, zq5, zq6]; rfl)))
                  refine Run.rd (v := ?_) (a' := ?_) rfl rfl (Or.inl ⟨by rfl, ?_⟩) ?_ ?_; rotate_left 2; (focus (rintro W ⟨hW1, hW2⟩; go_simp; with_reducible rfl)); (focus (simp only [zq1, zq2, zq3, Act.put, zq4, zq5, zq6]; rfl))
                  iterate 6 (refine Run.pu (v := ?_) (a' := ?_) rfl rfl (Or.inl ⟨by rfl, ?_⟩) ?_ ?_; rotate_left 2; (focus (intro W; go_simp; with_reducible rfl)); (focus (simp only [zq1, zq2, zq3, Act.put, zq4, zq5, zq6]; rfl)))
                  refine Run.rd (v := ?_) (a' := ?_) rfl rfl (Or.inl ⟨by rfl, ?_⟩) ?_ ?_; rotate_left 2; (focus (rintro W ⟨hW1, hW2⟩; go_simp; with_reducible rfl)); (focus (simp only [zq1, zq2, zq3, Act.put, zq4, zq5, zq6]; rfl))
                  iterate 4 (refine Run.pu (v := ?_) (a' := ?_) rfl rfl (Or.inl ⟨by rfl, ?_⟩) ?_ ?_; rotate_left 2; (focus (intro W; go_simp; with_reducible rfl)); (focus (simp only [zq1, zq2, zq3, Act.put, zq4, zq5, zq6]; rfl)))
                  refine Run.la rfl (fun K hK => ?_)
                  simp only [zq1, zq2, zq3]
                  try simp only [zq4, zq5, zq6]
                  have hlb : k < (b13.map Value.bool).length := by simp; omega
                  have hlb2 : k < (b14.map Value.bool).length := by simp; omega
                  have z1 := HOD.out.rest.get List.mem_cons_self k hlb
                  rw [List.getElem?_eq_getElem hlb] at z1
                  have z2 := HOD.out.rest.frozen (o := k) List.mem_cons_self
                  have HO2 := As.mk (HOD.out.set 0 rfl k (.bool true) hlb)
                  simp only [zq5] at HO2
                  go_wp2
                  refine hK.out _ _ ?_
                  clear hK K HOD z1 z2
                  refine Run.pu (v := ?_) (a' := ?_) rfl rfl (Or.inl ⟨by rfl, ?_⟩) ?_ ?_; rotate_left 2; (focus (intro W; go_simp; with_reducible rfl)); (focus (simp only [zq1, zq2, zq3, Act.put, zq4, zq5, zq6]; rfl))
                  refine Run.la rfl (fun K hK => ?_)
                  simp only [zq1, zq2, zq3]
                  try simp only [zq4, zq5, zq6]
                  have z1 := HO2.out.rest.get (List.mem_cons_of_mem _ List.mem_cons_self) k hlb2
                  rw [List.getElem?_eq_getElem hlb2] at z1
                  have z2 := HO2.out.rest.frozen (o := k) (List.mem_cons_of_mem _ List.mem_cons_self)
                  have HO3 := As.mk (HO2.out.set 1 rfl k (.bool true) hlb2)
                  simp only [zq6, zq5] at HO3
                  go_wp2
                  refine hK.out _ _ ?_
                  clear hK K HO2 z1 z2 hlb hlb2
                  refine Run.nil ?_
                  have zo3 := cell_below HO3.out.rest.toBelow ZO.out
                  obtain ⟨w5, hw5⟩ : ∃ x, x = (w3.setCell ⟨w1.heap.size, k, none⟩ (.bool true)).setCell ⟨w.heap.size, k, none⟩ (.bool true) := ⟨_, rfl⟩
                  rw [← hw5] at HO3 zo3 ⊢
                  clear hw5
                  go_wp2_with (at_builtin; refine go_app w rfl _ _ 63 3 _ 1 8 rfl Tryz.underlying63 info3 rfl (by decide) _ is.length (iV is) rfl ⟨w5.heap.size, 0, none⟩ 1 1 [.int .i64 (k : Int)] rfl (HO3.out.alloc _) rfl (news _) (by intro u hu; rw [List.mem_singleton.1 hu]; rfl) (by simp [maxLen]; omega) (by omega) ?_; intro v1 w4 hw1; have HW := As.mk hw1; clear hw1)
                  go_roundw
                  case rel => exact ⟨k + 1, b13.set k true, b14.set k true, is ++ [(k : Int)], by omega, by simp [h13], by simp [h14], by simp; omega, by go_num, by rw [List.map_set, List.map_set, List.length_append]; have h7 := HW.out; simpa [iV] using h7⟩
                  case measure => simp [intOf]; omega
                · skip
                  go_wp2_with fail
                  refine rgn [(0, 1), (1, 1), (2, 1), (3, 1), (4, 1), (5, 1), (6, 1), (7, 0), (8, 1), (9, 1), (10, 1), (11, 1), (12, 1), (13, 1), (14, 0), (15, 1), (16, 1), (17, 1), (18, 1), (19, 3), (20, 1), (21, 3)] [19, 21] (fun W => W.cell? ⟨bm, om + k, none⟩ = some (.bool false) ∧ W.cell? ⟨bo, oo + k, none⟩ = some (.bool true)) (by kernel_rfl) (by kernel_rfl) (fun _ _ _ d _ h => by cases d <;> exact h) ⟨zm, zo⟩ ?_
                  obtain ⟨w3, hw3⟩ : ∃ x, x = wr.drew := ⟨_, rfl⟩
                  have HOD : As (OwnS [] [(w1.heap.size, EC 4 (b13.map Value.bool)), (w.heap.size, EC 4 (b14.map Value.bool))] (fun _ => True) w w3 3 1 u15 is.length (iV is)) := by rw [hw3]; exact As.mk (HO.out.drewN 1)
                  rw [← hw3]
                  clear hw3 HO
                  iterate 7 (refine Run.pu (v := ?_) (a' := ?_) rfl rfl (Or.inl ⟨by rfl, ?_⟩) ?_ ?_; rotate_left 2; (focus (intro W; go_simp; with_reducible rfl)); (focus (simp only [zq1, zq2, zq3, Act.put, zq4, zq5, zq6]; rfl)))
                  refine Run.rd (v := ?_) (a' := ?_) rfl rfl (Or.inl ⟨by rfl, ?_⟩) ?_ ?_; rotate_left 2; (focus (rintro W ⟨hW1, hW2⟩; go_simp; with_reducible rfl)); (focus (simp only [zq1, zq2, zq3, Act.put, zq4, zq5, zq6]; rfl))
                  iterate 6 (refine Run.pu (v := ?_) (a' := ?_) rfl rfl (Or.inl ⟨by rfl, ?_⟩) ?_ ?_; rotate_left 2; (focus (intro W; go_simp; with_reducible rfl)); (focus (simp only [zq1, zq2, zq3, Act.put, zq4, zq5, zq6]; rfl)))
                  refine Run.rd (v := ?_) (a' := ?_) rfl rfl (Or.inl ⟨by rfl, ?_⟩) ?_ ?_; rotate_left 2; (focus (rintro W ⟨hW1, hW2⟩; go_simp; with_reducible rfl)); (focus (simp only [zq1, zq2, zq3, Act.put, zq4, zq5, zq6]; rfl))
                  refine Run.pu (v := ?_) (a' := ?_) rfl rfl (Or.inl ⟨by rfl, ?_⟩) ?_ ?_; rotate_left 2; (focus (intro W; go_simp; with_reducible rfl)); (focus (simp only [zq1, zq2, zq3, Act.put, zq4, zq5, zq6]; rfl))
                  refine Run.pu (v := undef) (a' := ?_) rfl rfl (Or.inr ⟨by rfl, rfl⟩) ?_ ?_; rotate_left 1; (focus (simp only [zq1, zq2, zq3, Act.put, zq4, zq5, zq6]; rfl))
                  iterate 2 (refine Run.pu (v := ?_) (a' := ?_) rfl rfl (Or.inl ⟨by rfl, ?_⟩) ?_ ?_; rotate_left 2; (focus (intro W; go_simp; with_reducible rfl)); (focus (simp only [zq1, zq2, zq3, Act.put, zq4, zq5, zq6]; rfl)))
                  refine Run.la rfl (fun K hK => ?_)
                  simp only [zq1, zq2, zq3]
                  try simp only [zq4, zq5, zq6]
                  have hlb : k < (b13.map Value.bool).length := by simp; omega
                  have hlb2 : k < (b14.map Value.bool).length := by simp; omega
                  have z1 := HOD.out.rest.get List.mem_cons_self k hlb
                  rw [List.getElem?_eq_getElem hlb] at z1
                  have z2 := HOD.out.rest.frozen (o := k) List.mem_cons_self
                  have HO2 := As.mk (HOD.out.set 0 rfl k (.bool true) hlb)
                  simp only [zq5] at HO2
                  go_wp2
                  refine hK.out _ _ ?_
                  clear hK K HOD z1 z2
                  refine Run.pu (v := ?_) (a' := ?_) rfl rfl (Or.inl ⟨by rfl, ?_⟩) ?_ ?_; rotate_left 2; (focus (intro W; go_simp; with_reducible rfl)); (focus (simp only [zq1, zq2, zq3, Act.put, zq4, zq5, zq6]; rfl))
                  refine Run.la rfl (fun K hK => ?_)
                  simp only [zq1, zq2, zq3]
                  try simp only [zq4, zq5, zq6]
                  have z1 := HO2.out.rest.get (List.mem_cons_of_mem _ List.mem_cons_self) k hlb2
                  rw [List.getElem?_eq_getElem hlb2] at z1
                  have z2 := HO2.out.rest.frozen (o := k) (List.mem_cons_of_mem _ List.mem_cons_self)
                  have HO3 := As.mk (HO2.out.set 1 rfl k (.bool true) hlb2)
                  simp only [zq6, zq5] at HO3
                  go_wp2
                  refine hK.out _ _ ?_
                  clear hK K HO2 z1 z2 hlb hlb2
                  refine Run.nil ?_
                  have zo3 := cell_below HO3.out.rest.toBelow ZO.out
                  go_wp2_with fail
                  go_roundw
                  case rel => exact ⟨k + 1, b13.set k true, b14.set k true, is, by omega, by simp [h13], by simp [h14], by omega, by go_num, by rw [List.map_set, List.map_set]; exact HO3.out⟩
                  case measure => simp [intOf]; omega
              · cases yo
                · skip
                  go_wp2_with fail
                  refine rgn [(0, 1), (1, 1), (2, 1), (3, 1), (4, 1), (5, 1), (6, 1), (7, 0), (8, 1), (9, 1), (10, 1), (11, 1), (12, 1), (13, 1), (14, 0), (15, 1), (16, 1), (17, 1), (18, 1), (19, 3), (20, 1), (21, 3)] [19, 21] (fun W => W.cell? ⟨bm, om + k, none⟩ = some (.bool true) ∧ W.cell? ⟨bo, oo + k, none⟩ = some (.bool false)) (by kernel_rfl) (by kernel_rfl) (fun _ _ _ d _ h => by cases d <;> exact h) ⟨zm, zo⟩ ?_
                  obtain ⟨w3, hw3⟩ : ∃ x, x = wr.drew := ⟨_, rfl⟩
                  have HOD : As (OwnS [] [(w1.heap.size, EC 4 (b13.map Value.bool)), (w.heap.size, EC 4 (b14.map Value.bool))] (fun _ => True) w w3 3 1 u15 is.length (iV is)) := by rw [hw3]; exact As.mk (HO.out.drewN 1)
                  rw [← hw3]
                  clear hw3 HO
                  iterate 7 (refine Run.pu (v := ?_) (a' := ?_) rfl rfl (Or.inl ⟨by rfl, ?_⟩) ?_ ?_; rotate_left 2; (focus (intro W; go_simp; with_reducible rfl)); (focus (simp only [zq1, zq2, zq3, Act.put, zq4, zq5, zq6]; rfl)))
                  refine Run.rd (v := ?_) (a' := ?_) rfl rfl (Or.inl ⟨by rfl, ?_⟩) ?_ ?_; rotate_left 2; (focus (rintro W ⟨hW1, hW2⟩; go_simp; with_reducible rfl)); (focus (simp only [zq1, zq2, zq3, Act.put, zq4, zq5, zq6]; rfl))
                  refine Run.pu (v := ?_) (a' := ?_) rfl rfl (Or.inl ⟨by rfl, ?_⟩) ?_ ?_; rotate_left 2; (focus (intro W; go_simp; with_reducible rfl)); (focus (simp only [zq1, zq2, zq3, Act.put, zq4, zq5, zq6]; rfl))
                  refine Run.pu (v := undef) (a' := ?_) rfl rfl (Or.inr ⟨by rfl, rfl⟩) ?_ ?_; rotate_left 1; (focus (simp only [zq1, zq2, zq3, Act.put, zq4, zq5, zq6]; rfl))
                  iterate 4 (refine Run.pu (v := ?_) (a' := ?_) rfl rfl (Or.inl ⟨by rfl, ?_⟩) ?_ ?_; rotate_left 2; (focus (intro W; go_simp; with_reducible rfl)); (focus (simp only [zq1, zq2, zq3, Act.put, zq4, zq5, zq6]; rfl)))
                  refine Run.rd (v := ?_) (a' := ?_) rfl rfl (Or.inl ⟨by rfl, ?_⟩) ?_ ?_; rotate_left 2; (focus (rintro W ⟨hW1, hW2⟩; go_simp; with_reducible rfl)); (focus (simp only [zq1, zq2, zq3, Act.put, zq4, zq5, zq6]; rfl))
                  iterate 4 (refine Run.pu (v := ?_) (a' := ?_) rfl rfl (Or.inl ⟨by rfl, ?_⟩) ?_ ?_; rotate_left 2; (focus (intro W; go_simp; with_reducible rfl)); (focus (simp only [zq1, zq2, zq3, Act.put, zq4, zq5, zq6]; rfl)))
                  refine Run.la rfl (fun K hK => ?_)
                  simp only [zq1, zq2, zq3]
                  try simp only [zq4, zq5, zq6]
                  have hlb : k < (b13.map Value.bool).length := by simp; omega
                  have hlb2 : k < (b14.map Value.bool).length := by simp; omega
                  have z1 := HOD.out.rest.get List.mem_cons_self k hlb
                  rw [List.getElem?_eq_getElem hlb] at z1
                  have z2 := HOD.out.rest.frozen (o := k) List.mem_cons_self
                  have HO2 := As.mk (HOD.out.set 0 rfl k (.bool true) hlb)
                  simp only [zq5] at HO2
                  go_wp2
                  refine hK.out _ _ ?_
                  clear hK K HOD z1 z2
                  refine Run.pu (v := ?_) (a' := ?_) rfl rfl (Or.inl ⟨by rfl, ?_⟩) ?_ ?_; rotate_left 2; (focus (intro W; go_simp; with_reducible rfl)); (focus (simp only [zq1, zq2, zq3, Act.put, zq4, zq5, zq6]; rfl))
                  refine Run.la rfl (fun K hK => ?_)
                  simp only [zq1, zq2, zq3]
                  try simp only [zq4, zq5, zq6]
                  have z1 := HO2.out.rest.get (List.mem_cons_of_mem _ List.mem_cons_self) k hlb2
                  rw [List.getElem?_eq_getElem hlb2] at z1
                  have z2 := HO2.out.rest.frozen (o := k) (List.mem_cons_of_mem _ List.mem_cons_self)
                  have HO3 := As.mk (HO2.out.set 1 rfl k (.bool true) hlb2)
                  simp only [zq6, zq5] at HO3
                  go_wp2
                  refine hK.out _ _ ?_
                  clear hK K HO2 z1 z2 hlb hlb2
                  refine Run.nil ?_
                  have zo3 := cell_below HO3.out.rest.toBelow ZO.out
                  obtain ⟨w5, hw5⟩ : ∃ x, x = (w3.setCell ⟨w1.heap.size, k, none⟩ (.bool true)).setCell ⟨w.heap.size, k, none⟩ (.bool true) := ⟨_, rfl⟩
                  rw [← hw5] at HO3 zo3 ⊢
                  clear hw5
                  go_wp2_with (at_builtin; refine go_app w rfl _ _ 63 3 _ 1 8 rfl Tryz.underlying63 info3 rfl (by decide) _ is.length (iV is) rfl ⟨w5.heap.size, 0, none⟩ 1 1 [.int .i64 (k : Int)] rfl (HO3.out.alloc _) rfl (news _) (by intro u hu; rw [List.mem_singleton.1 hu]; rfl) (by simp [maxLen]; omega) (by omega) ?_; intro v1 w4 hw1; have HW := As.mk hw1; clear hw1)
                  go_roundw
                  case rel => exact ⟨k + 1, b13.set k true, b14.set k true, is ++ [(k : Int)], by omega, by simp [h13], by simp [h14], by simp; omega, by go_num, by rw [List.map_set, List.map_set, List.length_append]; have h7 := HW.out; simpa [iV] using h7⟩
                  case measure => simp [intOf]; omega
                · skip
                  go_wp2_with fail
                  refine rgn [(0, 1), (1, 1), (2, 1), (3, 1), (4, 1), (5, 1), (6, 1), (7, 0), (8, 1), (9, 1), (10, 1), (11, 1), (12, 1), (13, 1), (14, 0), (15, 1), (16, 1), (17, 1), (18, 1), (19, 3), (20, 1), (21, 3)] [19, 21] (fun W => W.cell? ⟨bm, om + k, none⟩ = some (.bool true) ∧ W.cell? ⟨bo, oo + k, none⟩ = some (.bool true)) (by kernel_rfl) (by kernel_rfl) (fun _ _ _ d _ h => by cases d <;> exact h) ⟨zm, zo⟩ ?_
                  obtain ⟨w3, hw3⟩ : ∃ x, x = wr.drew := ⟨_, rfl⟩
                  have HOD : As (OwnS [] [(w1.heap.size, EC 4 (b13.map Value.bool)), (w.heap.size, EC 4 (b14.map Value.bool))] (fun _ => True) w w3 3 1 u15 is.length (iV is)) := by rw [hw3]; exact As.mk (HO.out.drewN 1)
                  rw [← hw3]
                  clear hw3 HO
                  iterate 7 (refine Run.pu (v := ?_) (a' := ?_) rfl rfl (Or.inl ⟨by rfl, ?_⟩) ?_ ?_; rotate_left 2; (focus (intro W; go_simp; with_reducible rfl)); (focus (simp only [zq1, zq2, zq3, Act.put, zq4, zq5, zq6]; rfl)))
                  refine Run.rd (v := ?_) (a' := ?_) rfl rfl (Or.inl ⟨by rfl, ?_⟩) ?_ ?_; rotate_left 2; (focus (rintro W ⟨hW1, hW2⟩; go_simp; with_reducible rfl)); (focus (simp only [zq1, zq2, zq3, Act.put, zq4, zq5, zq6]; rfl))
                  refine Run.pu (v := ?_) (a' := ?_) rfl rfl (Or.inl ⟨by rfl, ?_⟩) ?_ ?_; rotate_left 2; (focus (intro W; go_simp; with_reducible rfl)); (focus (simp only [zq1, zq2, zq3, Act.put, zq4, zq5, zq6]; rfl))
                  refine Run.pu (v := undef) (a' := ?_) rfl rfl (Or.inr ⟨by rfl, rfl⟩) ?_ ?_; rotate_left 1; (focus (simp only [zq1, zq2, zq3, Act.put, zq4, zq5, zq6]; rfl))
                  iterate 4 (refine Run.pu (v := ?_) (a' := ?_) rfl rfl (Or.inl ⟨by rfl, ?_⟩) ?_ ?_; rotate_left 2; (focus (intro W; go_simp; with_reducible rfl)); (focus (simp only [zq1, zq2, zq3, Act.put, zq4, zq5, zq6]; rfl)))
                  refine Run.rd (v := ?_) (a' := ?_) rfl rfl (Or.inl ⟨by rfl, ?_⟩) ?_ ?_; rotate_left 2; (focus (rintro W ⟨hW1, hW2⟩; go_simp; with_reducible rfl)); (focus (simp only [zq1, zq2, zq3, Act.put, zq4, zq5, zq6]; rfl))
                  refine Run.pu (v := ?_) (a' := ?_) rfl rfl (Or.inl ⟨by rfl, ?_⟩) ?_ ?_; rotate_left 2; (focus (intro W; go_simp; with_reducible rfl)); (focus (simp only [zq1, zq2, zq3, Act.put, zq4, zq5, zq6]; rfl))
                  refine Run.pu (v := undef) (a' := ?_) rfl rfl (Or.inr ⟨by rfl, rfl⟩) ?_ ?_; rotate_left 1; (focus (simp only [zq1, zq2, zq3, Act.put, zq4, zq5, zq6]; rfl))
                  iterate 2 (refine Run.pu (v := ?_) (a' := ?_) rfl rfl (Or.inl ⟨by rfl, ?_⟩) ?_ ?_; rotate_left 2; (focus (intro W; go_simp; with_reducible rfl)); (focus (simp only [zq1, zq2, zq3, Act.put, zq4, zq5, zq6]; rfl)))
                  refine Run.la rfl (fun K hK => ?_)
                  simp only [zq1, zq2, zq3]
                  try simp only [zq4, zq5, zq6]
                  have hlb : k < (b13.map Value.bool).length := by simp; omega
                  have hlb2 : k < (b14.map Value.bool).length := by simp; omega
                  have z1 := HOD.out.rest.get List.mem_cons_self k hlb
                  rw [List.getElem?_eq_getElem hlb] at z1
                  have z2 := HOD.out.rest.frozen (o := k) List.mem_cons_self
                  have HO2 := As.mk (HOD.out.set 0 rfl k (.bool true) hlb)
                  simp only [zq5] at HO2
                  go_wp2
                  refine hK.out _ _ ?_
                  clear hK K HOD z1 z2
                  refine Run.pu (v := ?_) (a' := ?_) rfl rfl (Or.inl ⟨by rfl, ?_⟩) ?_ ?_; rotate_left 2; (focus (intro W; go_simp; with_reducible rfl)); (focus (simp only [zq1, zq2, zq3, Act.put, zq4, zq5, zq6]; rfl))
                  refine Run.la rfl (fun K hK => ?_)
                  simp only [zq1, zq2, zq3]
                  try simp only [zq4, zq5, zq6]
                  have z1 := HO2.out.rest.get (List.mem_cons_of_mem _ List.mem_cons_self) k hlb2
                  rw [List.getElem?_eq_getElem hlb2] at z1
                  have z2 := HO2.out.rest.frozen (o := k) (List.mem_cons_of_mem _ List.mem_cons_self)
                  have HO3 := As.mk (HO2.out.set 1 rfl k (.bool true) hlb2)
                  simp only [zq6, zq5] at HO3
                  go_wp2
                  refine hK.out _ _ ?_
                  clear hK K HO2 z1 z2 hlb hlb2
                  refine Run.nil ?_
                  have zo3 := cell_below HO3.out.rest.toBelow ZO.out
                  go_wp2_with fail
                  go_roundw
                  case rel => exact ⟨k + 1, b13.set k true, b14.set k true, is, by omega, by simp [h13], by simp [h14], by omega, by go_num, by rw [List.map_set, List.map_set]; exact HO3.out⟩
                  case measure => simp [intOf]; omega
            · skip
              cases ym
              · cases yo
                · skip
                  go_wp2_with fail
                  refine rgn [(0, 1), (1, 1), (2, 1), (3, 1), (4, 1), (5, 1), (6, 1), (7, 0), (8, 1), (9, 1), (10, 1), (11, 1), (12, 1), (13, 1), (14, 0), (15, 1), (16, 1), (17, 1), (18, 1), (19, 3), (20, 1), (21, 3)] [19, 21] (fun W => W.cell? ⟨bm, om + k, none⟩ = some (.bool false) ∧ W.cell? ⟨bo, oo + k, none⟩ = some (.bool false)) (by kernel_rfl) (by kernel_rfl) (fun _ _ _ d _ h => by cases d <;> exact h) ⟨zm, zo⟩ ?_
                  obtain ⟨w3, hw3⟩ : ∃ x, x = wr.drew := ⟨_, rfl⟩
                  have HOD : As (OwnS [] [(w1.heap.size, EC 4 (b13.map Value.bool)), (w.heap.size, EC 4 (b14.map Value.bool))] (fun _ => True) w w3 3 1 u15 is.length (iV is)) := by rw [hw3]; exact As.mk (HO.out.drewN 1)
                  rw [← hw3]
                  clear hw3 HO
                  iterate 7 (refine Run.pu (v := ?_) (a' := ?_) rfl rfl (Or.inl ⟨by rfl, ?_⟩) ?_ ?_; rotate_left 2; (focus (intro W; go_simp; with_reducible rfl)); (focus (simp only [zq1, zq2, zq3, Act.put, zq4, zq5, zq6]; rfl)))
                  refine Run.rd (v := ?_) (a' := ?_) rfl rfl (Or.inl ⟨by rfl, ?_⟩) ?_ ?_; rotate_left 2; (focus (rintro W ⟨hW1, hW2⟩; go_simp; with_reducible rfl)); (focus (simp only [zq1, zq2, zq3, Act.put, zq4, zq5, zq6]; rfl))
                  iterate 6 (refine Run.pu (v := ?_) (a' := ?_) rfl rfl (Or.inl ⟨by rfl, ?_⟩) ?_ ?_; rotate_left 2; (focus (intro W; go_simp; with_reducible rfl)); (focus (simp only [zq1, zq2, zq3, Act.put, zq4, zq5, zq6]; rfl)))
                  refine Run.rd (v := ?_) (a' := ?_) rfl rfl (Or.inl ⟨by rfl, ?_⟩) ?_ ?_; rotate_left 2; (focus (rintro W ⟨hW1, hW2⟩; go_simp; with_reducible rfl)); (focus (simp only [zq1, zq2, zq3, Act.put, zq4, zq5, zq6]; rfl))
                  iterate 4 (refine Run.pu (v := ?_) (a' := ?_) rfl rfl (Or.inl ⟨by rfl, ?_⟩) ?_ ?_; rotate_left 2; (focus (intro W; go_simp; with_reducible rfl)); (focus (simp only [zq1, zq2, zq3, Act.put, zq4, zq5, zq6]; rfl)))
                  refine Run.la rfl (fun K hK => ?_)
                  simp only [zq1, zq2, zq3]
                  try simp only [zq4, zq5, zq6]
                  have hlb : k < (b13.map Value.bool).length := by simp; omega
                  have hlb2 : k < (b14.map Value.bool).length := by simp; omega
                  have z1 := HOD.out.rest.get List.mem_cons_self k hlb
                  rw [List.getElem?_eq_getElem hlb] at z1
                  have z2 := HOD.out.rest.frozen (o := k) List.mem_cons_self
                  have HO2 := As.mk (HOD.out.set 0 rfl k (.bool false) hlb)
                  simp only [zq5] at HO2
                  go_wp2
                  refine hK.out _ _ ?_
                  clear hK K HOD z1 z2
                  refine Run.pu (v := ?_) (a' := ?_) rfl rfl (Or.inl ⟨by rfl, ?_⟩) ?_ ?_; rotate_left 2; (focus (intro W; go_simp; with_reducible rfl)); (focus (simp only [zq1, zq2, zq3, Act.put, zq4, zq5, zq6]; rfl))
                  refine Run.la rfl (fun K hK => ?_)
                  simp only [zq1, zq2, zq3]
                  try simp only [zq4, zq5, zq6]
                  have z1 := HO2.out.rest.get (List.mem_cons_of_mem _ List.mem_cons_self) k hlb2
                  rw [List.getElem?_eq_getElem hlb2] at z1
                  have z2 := HO2.out.rest.frozen (o := k) (List.mem_cons_of_mem _ List.mem_cons_self)
                  have HO3 := As.mk (HO2.out.set 1 rfl k (.bool false) hlb2)
                  simp only [zq6, zq5] at HO3
                  go_wp2
                  refine hK.out _ _ ?_
                  clear hK K HO2 z1 z2 hlb hlb2
                  refine Run.nil ?_
                  have zo3 := cell_below HO3.out.rest.toBelow ZO.out
                  go_wp2_with fail
                  go_roundw
                  case rel => exact ⟨k + 1, b13.set k false, b14.set k false, is, by omega, by simp [h13], by simp [h14], by omega, by go_num, by rw [List.map_set, List.map_set]; exact HO3.out⟩
                  case measure => simp [intOf]; omega
                · skip
                  go_wp2_with fail
                  refine rgn [(0, 1), (1, 1), (2, 1), (3, 1), (4, 1), (5, 1), (6, 1), (7, 0), (8, 1), (9, 1), (10, 1), (11, 1), (12, 1), (13, 1), (14, 0), (15, 1), (16, 1), (17, 1), (18, 1), (19, 3), (20, 1), (21, 3)] [19, 21] (fun W => W.cell? ⟨bm, om + k, none⟩ = some (.bool false) ∧ W.cell? ⟨bo, oo + k, none⟩ = some (.bool true)) (by kernel_rfl) (by kernel_rfl) (fun _ _ _ d _ h => by cases d <;> exact h) ⟨zm, zo⟩ ?_
                  obtain ⟨w3, hw3⟩ : ∃ x, x = wr.drew := ⟨_, rfl⟩
                  have HOD : As (OwnS [] [(w1.heap.size, EC 4 (b13.map Value.bool)), (w.heap.size, EC 4 (b14.map Value.bool))] (fun _ => True) w w3 3 1 u15 is.length (iV is)) := by rw [hw3]; exact As.mk (HO.out.drewN 1)
                  rw [← hw3]
                  clear hw3 HO
                  iterate 7 (refine Run.pu (v := ?_) (a' := ?_) rfl rfl (Or.inl ⟨by rfl, ?_⟩) ?_ ?_; rotate_left 2; (focus (intro W; go_simp; with_reducible rfl)); (focus (simp only [zq1, zq2, zq3, Act.put, zq4, zq5, zq6]; rfl)))
                  refine Run.rd (v := ?_) (a' := ?_) rfl rfl (Or.inl ⟨by rfl, ?_⟩) ?_ ?_; rotate_left 2; (focus (rintro W ⟨hW1, hW2⟩; go_simp; with_reducible rfl)); (focus (simp only [zq1, zq2, zq3, Act.put, zq4, zq5, zq6]; rfl))
                  iterate 6 (refine Run.pu (v := ?_) (a' := ?_) rfl rfl (Or.inl ⟨by rfl, ?_⟩) ?_ ?_; rotate_left 2; (focus (intro W; go_simp; with_reducible rfl)); (focus (simp only [zq1, zq2, zq3, Act.put, zq4, zq5, zq6]; rfl)))
                  refine Run.rd (v := ?_) (a' := ?_) rfl rfl (Or.inl ⟨by rfl, ?_⟩) ?_ ?_; rotate_left 2; (focus (rintro W ⟨hW1, hW2⟩; go_simp; with_reducible rfl)); (focus (simp only [zq1, zq2, zq3, Act.put, zq4, zq5, zq6]; rfl))
                  refine Run.pu (v := ?_) (a' := ?_) rfl rfl (Or.inl ⟨by rfl, ?_⟩) ?_ ?_; rotate_left 2; (focus (intro W; go_simp; with_reducible rfl)); (focus (simp only [zq1, zq2, zq3, Act.put, zq4, zq5, zq6]; rfl))
                  refine Run.pu (v := undef) (a' := ?_) rfl rfl (Or.inr ⟨by rfl, rfl⟩) ?_ ?_; rotate_left 1; (focus (simp only [zq1, zq2, zq3, Act.put, zq4, zq5, zq6]; rfl))
                  iterate 2 (refine Run.pu (v := ?_) (a' := ?_) rfl rfl (Or.inl ⟨by rfl, ?_⟩) ?_ ?_; rotate_left 2; (focus (intro W; go_simp; with_reducible rfl)); (focus (simp only [zq1, zq2, zq3, Act.put, zq4, zq5, zq6]; rfl)))
                  refine Run.la rfl (fun K hK => ?_)
                  simp only [zq1, zq2, zq3]
                  try simp only [zq4, zq5, zq6]
                  have hlb : k < (b13.map Value.bool).length := by simp; omega
                  have hlb2 : k < (b14.map Value.bool).length := by simp; omega
                  have z1 := HOD.out.rest.get List.mem_cons_self k hlb
                  rw [List.getElem?_eq_getElem hlb] at z1
                  have z2 := HOD.out.rest.frozen (o := k) List.mem_cons_self
                  have HO2 := As.mk (HOD.out.set 0 rfl k (.bool false) hlb)
                  simp only [zq5] at HO2
                  go_wp2
                  refine hK.out _ _ ?_
                  clear hK K HOD z1 z2
                  refine Run.pu (v := ?_) (a' := ?_) rfl rfl (Or.inl ⟨by rfl, ?_⟩) ?_ ?_; rotate_left 2; (focus (intro W; go_simp; with_reducible rfl)); (focus (simp only [zq1, zq2, zq3, Act.put, zq4, zq5, zq6]; rfl))
                  refine Run.la rfl (fun K hK => ?_)
                  simp only [zq1, zq2, zq3]
                  try simp only [zq4, zq5, zq6]
                  have z1 := HO2.out.rest.get (List.mem_cons_of_mem _ List.mem_cons_self) k hlb2
                  rw [List.getElem?_eq_getElem hlb2] at z1
                  have z2 := HO2.out.rest.frozen (o := k) (List.mem_cons_of_mem _ List.mem_cons_self)
                  have HO3 := As.mk (HO2.out.set 1 rfl k (.bool true) hlb2)
                  simp only [zq6, zq5] at HO3
                  go_wp2
                  refine hK.out _ _ ?_
                  clear hK K HO2 z1 z2 hlb hlb2
                  refine Run.nil ?_
                  have zo3 := cell_below HO3.out.rest.toBelow ZO.out
                  go_wp2_with fail
                  go_roundw
                  case rel => exact ⟨k + 1, b13.set k false, b14.set k true, is, by omega, by simp [h13], by simp [h14], by omega, by go_num, by rw [List.map_set, List.map_set]; exact HO3.out⟩
                  case measure => simp [intOf]; omega
              · cases yo
                · skip
                  go_wp2_with fail
                  refine rgn [(0, 1), (1, 1), (2, 1), (3, 1), (4, 1), (5, 1), (6, 1), (7, 0), (8, 1), (9, 1), (10, 1), (11, 1), (12, 1), (13, 1), (14, 0), (15, 1), (16, 1), (17, 1), (18, 1), (19, 3), (20, 1), (21, 3)] [19, 21] (fun W => W.cell? ⟨bm, om + k, none⟩ = some (.bool true) ∧ W.cell? ⟨bo, oo + k, none⟩ = some (.bool false)) (by kernel_rfl) (by kernel_rfl) (fun _ _ _ d _ h => by cases d <;> exact h) ⟨zm, zo⟩ ?_
                  obtain ⟨w3, hw3⟩ : ∃ x, x = wr.drew := ⟨_, rfl⟩
                  have HOD : As (OwnS [] [(w1.heap.size, EC 4 (b13.map Value.bool)), (w.heap.size, EC 4 (b14.map Value.bool))] (fun _ => True) w w3 3 1 u15 is.length (iV is)) := by rw [hw3]; exact As.mk (HO.out.drewN 1)
                  rw [← hw3]
                  clear hw3 HO
                  iterate 7 (refine Run.pu (v := ?_) (a' := ?_) rfl rfl (Or.inl ⟨by rfl, ?_⟩) ?_ ?_; rotate_left 2; (focus (intro W; go_simp; with_reducible rfl)); (focus (simp only [zq1, zq2, zq3, Act.put, zq4, zq5, zq6]; rfl)))
                  refine Run.rd (v := ?_) (a' := ?_) rfl rfl (Or.inl ⟨by rfl, ?_⟩) ?_ ?_; rotate_left 2; (focus (rintro W ⟨hW1, hW2⟩; go_simp; with_reducible rfl)); (focus (simp only [zq1, zq2, zq3, Act.put, zq4, zq5, zq6]; rfl))
                  refine Run.pu (v := ?_) (a' := ?_) rfl rfl (Or.inl ⟨by rfl, ?_⟩) ?_ ?_; rotate_left 2; (focus (intro W; go_simp; with_reducible rfl)); (focus (simp only [zq1, zq2, zq3, Act.put, zq4, zq5, zq6]; rfl))
                  refine Run.pu (v := undef) (a' := ?_) rfl rfl (Or.inr ⟨by rfl, rfl⟩) ?_ ?_; rotate_left 1; (focus (simp only [zq1, zq2, zq3, Act.put, zq4, zq5, zq6]; rfl))
                  iterate 4 (refine Run.pu (v := ?_) (a' := ?_) rfl rfl (Or.inl ⟨by rfl, ?_⟩) ?_ ?_; rotate_left 2; (focus (intro W; go_simp; with_reducible rfl)); (focus (simp only [zq1, zq2, zq3, Act.put, zq4, zq5, zq6]; rfl)))
                  refine Run.rd (v := ?_) (a' := ?_) rfl rfl (Or.inl ⟨by rfl, ?_⟩) ?_ ?_; rotate_left 2; (focus (rintro W ⟨hW1, hW2⟩; go_simp; with_reducible rfl)); (focus (simp only [zq1, zq2, zq3, Act.put, zq4, zq5, zq6]; rfl))
                  iterate 4 (refine Run.pu (v := ?_) (a' := ?_) rfl rfl (Or.inl ⟨by rfl, ?_⟩) ?_ ?_; rotate_left 2; (focus (intro W; go_simp; with_reducible rfl)); (focus (simp only [zq1, zq2, zq3, Act.put, zq4, zq5, zq6]; rfl)))
                  refine Run.la rfl (fun K hK => ?_)
                  simp only [zq1, zq2, zq3]
                  try simp only [zq4, zq5, zq6]
                  have hlb : k < (b13.map Value.bool).length := by simp; omega
                  have hlb2 : k < (b14.map Value.bool).length := by simp; omega
                  have z1 := HOD.out.rest.get List.mem_cons_self k hlb
                  rw [List.getElem?_eq_getElem hlb] at z1
                  have z2 := HOD.out.rest.frozen (o := k) List.mem_cons_self
                  have HO2 := As.mk (HOD.out.set 0 rfl k (.bool true) hlb)
                  simp only [zq5] at HO2
                  go_wp2
                  refine hK.out _ _ ?_
                  clear hK K HOD z1 z2
                  refine Run.pu (v := ?_) (a' := ?_) rfl rfl (Or.inl ⟨by rfl, ?_⟩) ?_ ?_; rotate_left 2; (focus (intro W; go_simp; with_reducible rfl)); (focus (simp only [zq1, zq2, zq3, Act.put, zq4, zq5, zq6]; rfl))
                  refine Run.la rfl (fun K hK => ?_)
                  simp only [zq1, zq2, zq3]
                  try simp only [zq4, zq5, zq6]
                  have z1 := HO2.out.rest.get (List.mem_cons_of_mem _ List.mem_cons_self) k hlb2
                  rw [List.getElem?_eq_getElem hlb2] at z1
                  have z2 := HO2.out.rest.frozen (o := k) (List.mem_cons_of_mem _ List.mem_cons_self)
                  have HO3 := As.mk (HO2.out.set 1 rfl k (.bool false) hlb2)
                  simp only [zq6, zq5] at HO3
                  go_wp2
                  refine hK.out _ _ ?_
                  clear hK K HO2 z1 z2 hlb hlb2
                  refine Run.nil ?_
                  have zo3 := cell_below HO3.out.rest.toBelow ZO.out
                  go_wp2_with fail
                  go_roundw
                  case rel => exact ⟨k + 1, b13.set k true, b14.set k false, is, by omega, by simp [h13], by simp [h14], by omega, by go_num, by rw [List.map_set, List.map_set]; exact HO3.out⟩
                  case measure => simp [intOf]; omega
                · skip
                  go_wp2_with fail
                  refine rgn [(0, 1), (1, 1), (2, 1), (3, 1), (4, 1), (5, 1), (6, 1), (7, 0), (8, 1), (9, 1), (10, 1), (11, 1), (12, 1), (13, 1), (14, 0), (15, 1), (16, 1), (17, 1), (18, 1), (19, 3), (20, 1), (21, 3)] [19, 21] (fun W => W.cell? ⟨bm, om + k, none⟩ = some (.bool true) ∧ W.cell? ⟨bo, oo + k, none⟩ = some (.bool true)) (by kernel_rfl) (by kernel_rfl) (fun _ _ _ d _ h => by cases d <;> exact h) ⟨zm, zo⟩ ?_
                  obtain ⟨w3, hw3⟩ : ∃ x, x = wr.drew := ⟨_, rfl⟩
                  have HOD : As (OwnS [] [(w1.heap.size, EC 4 (b13.map Value.bool)), (w.heap.size, EC 4 (b14.map Value.bool))] (fun _ => True) w w3 3 1 u15 is.length (iV is)) := by rw [hw3]; exact As.mk (HO.out.drewN 1)
                  rw [← hw3]
                  clear hw3 HO
                  iterate 7 (refine Run.pu (v := ?_) (a' := ?_) rfl rfl (Or.inl ⟨by rfl, ?_⟩) ?_ ?_; rotate_left 2; (focus (intro W; go_simp; with_reducible rfl)); (focus (simp only [zq1, zq2, zq3, Act.put, zq4, zq5, zq6]; rfl)))
                  refine Run.rd (v := ?_) (a' := ?_) rfl rfl (Or.inl ⟨by rfl, ?_⟩) ?_ ?_; rotate_left 2; (focus (rintro W ⟨hW1, hW2⟩; go_simp; with_reducible rfl)); (focus (simp only [zq1, zq2, zq3, Act.put, zq4, zq5, zq6]; rfl))
                  refine Run.pu (v := ?_) (a' := ?_) rfl rfl (Or.inl ⟨by rfl, ?_⟩) ?_ ?_; rotate_left 2; (focus (intro W; go_simp; with_reducible rfl)); (focus (simp only [zq1, zq2, zq3, Act.put, zq4, zq5, zq6]; rfl))
                  refine Run.pu (v := undef) (a' := ?_) rfl rfl (Or.inr ⟨by rfl, rfl⟩) ?_ ?_; rotate_left 1; (focus (simp only [zq1, zq2, zq3, Act.put, zq4, zq5, zq6]; rfl))
                  iterate 4 (refine Run.pu (v := ?_) (a' := ?_) rfl rfl (Or.inl ⟨by rfl, ?_⟩) ?_ ?_; rotate_left 2; (focus (intro W; go_simp; with_reducible rfl)); (focus (simp only [zq1, zq2, zq3, Act.put, zq4, zq5, zq6]; rfl)))
                  refine Run.rd (v := ?_) (a' := ?_) rfl rfl (Or.inl ⟨by rfl, ?_⟩) ?_ ?_; rotate_left 2; (focus (rintro W ⟨hW1, hW2⟩; go_simp; with_reducible rfl)); (focus (simp only [zq1, zq2, zq3, Act.put, zq4, zq5, zq6]; rfl))
                  refine Run.pu (v := ?_) (a' := ?_) rfl rfl (Or.inl ⟨by rfl, ?_⟩) ?_ ?_; rotate_left 2; (focus (intro W; go_simp; with_reducible rfl)); (focus (simp only [zq1, zq2, zq3, Act.put, zq4, zq5, zq6]; rfl))
                  refine Run.pu (v := undef) (a' := ?_) rfl rfl (Or.inr ⟨by rfl, rfl⟩) ?_ ?_; rotate_left 1; (focus (simp only [zq1, zq2, zq3, Act.put, zq4, zq5, zq6]; rfl))
                  iterate 2 (refine Run.pu (v := ?_) (a' := ?_) rfl rfl (Or.inl ⟨by rfl, ?_⟩) ?_ ?_; rotate_left 2; (focus (intro W; go_simp; with_reducible rfl)); (focus (simp only [zq1, zq2, zq3, Act.put, zq4, zq5, zq6]; rfl)))
                  refine Run.la rfl (fun K hK => ?_)
                  simp only [zq1, zq2, zq3]
                  try simp only [zq4, zq5, zq6]
                  have hlb : k < (b13.map Value.bool).length := by simp; omega
                  have hlb2 : k < (b14.map Value.bool).length := by simp; omega
                  have z1 := HOD.out.rest.get List.mem_cons_self k hlb
                  rw [List.getElem?_eq_getElem hlb] at z1
                  have z2 := HOD.out.rest.frozen (o := k) List.mem_cons_self
                  have HO2 := As.mk (HOD.out.set 0 rfl k (.bool true) hlb)
                  simp only [zq5] at HO2
                  go_wp2
                  refine hK.out _ _ ?_
                  clear hK K HOD z1 z2
                  refine Run.pu (v := ?_) (a' := ?_) rfl rfl (Or.inl ⟨by rfl, ?_⟩) ?_ ?_; rotate_left 2; (focus (intro W; go_simp; with_reducible rfl)); (focus (simp only [zq1, zq2, zq3, Act.put, zq4, zq5, zq6]; rfl))
                  refine Run.la rfl (fun K hK => ?_)
                  simp only [zq1, zq2, zq3]
                  try simp only [zq4, zq5, zq6]
                  have z1 := HO2.out.rest.get (List.mem_cons_of_mem _ List.mem_cons_self) k hlb2
                  rw [List.getElem?_eq_getElem hlb2] at z1
                  have z2 := HO2.out.rest.frozen (o := k) (List.mem_cons_of_mem _ List.mem_cons_self)
                  have HO3 := As.mk (HO2.out.set 1 rfl k (.bool true) hlb2)
                  simp only [zq6, zq5] at HO3
                  go_wp2
                  refine hK.out _ _ ?_
                  clear hK K HO2 z1 z2 hlb hlb2
                  refine Run.nil ?_
                  have zo3 := cell_below HO3.out.rest.toBelow ZO.out
                  go_wp2_with fail
                  go_roundw
                  case rel => exact ⟨k + 1, b13.set k true, b14.set k true, is, by omega, by simp [h13], by simp [h14], by omega, by go_num, by rw [List.map_set, List.map_set]; exact HO3.out⟩
                  case measure => simp [intOf]; omega
          · skip
            cases ym
            · cases yo
              · skip
                go_wp2_with fail
                refine rgn [(0, 1), (1, 1), (2, 1), (3, 1), (4, 1), (5, 1), (6, 1), (7, 0), (8, 1), (9, 1), (10, 1), (11, 1), (12, 1), (13, 1), (14, 0), (15, 1), (16, 1), (17, 1), (18, 1), (19, 3), (20, 1), (21, 3)] [19, 21] (fun W => W.cell? ⟨bm, om + k, none⟩ = some (.bool false) ∧ W.cell? ⟨bo, oo + k, none⟩ = some (.bool false)) (by kernel_rfl) (by kernel_rfl) (fun _ _ _ d _ h => by cases d <;> exact h) ⟨zm, zo⟩ ?_
                obtain ⟨w3, hw3⟩ : ∃ x, x = wr.drew := ⟨_, rfl⟩
                have HOD : As (OwnS [] [(w1.heap.size, EC 4 (b13.map Value.bool)), (w.heap.size, EC 4 (b14.map Value.bool))] (fun _ => True) w w3 3 1 u15 is.length (iV is)) := by rw [hw3]; exact As.mk (HO.out.drewN 1)
                rw [← hw3]
                clear hw3 HO
                iterate 7 (refine Run.pu (v := ?_) (a' := ?_) rfl rfl (Or.inl ⟨by rfl, ?_⟩) ?_ ?_; rotate_left 2; (focus (intro W; go_simp; with_reducible rfl)); (focus (simp only [zq1, zq2, zq3, Act.put, zq4, zq5, zq6]; rfl)))
                refine Run.rd (v := ?_) (a' := ?_) rfl rfl (Or.inl ⟨by rfl, ?_⟩) ?_ ?_; rotate_left 2; (focus (rintro W ⟨hW1, hW2⟩; go_simp; with_reducible rfl)); (focus (simp only [zq1, zq2, zq3, Act.put, zq4, zq5, zq6]; rfl))
                iterate 6 (refine Run.pu (v := ?_) (a' := ?_) rfl rfl (Or.inl ⟨by rfl, ?_⟩) ?_ ?_; rotate_left 2; (focus (intro W; go_simp; with_reducible rfl)); (focus (simp only [zq1, zq2, zq3, Act.put, zq4, zq5, zq6]; rfl)))
                refine Run.rd (v := ?_) (a' := ?_) rfl rfl (Or.inl ⟨by rfl, ?_⟩) ?_ ?_; rotate_left 2; (focus (rintro W ⟨hW1, hW2⟩; go_simp; with_reducible rfl)); (focus (simp only [zq1, zq2, zq3, Act.put, zq4, zq5, zq6]; rfl))
                iterate 4 (refine Run.pu (v := ?_) (a' := ?_) rfl rfl (Or.inl ⟨by rfl, ?_⟩) ?_ ?_; rotate_left 2; (focus (intro W; go_simp; with_reducible rfl)); (focus (simp only [zq1, zq2, zq3, Act.put, zq4, zq5, zq6]; rfl)))
                refine Run.la rfl (fun K hK => ?_)
                simp only [zq1, zq2, zq3]
                try simp only [zq4, zq5, zq6]
                have hlb : k < (b13.map Value.bool).length := by simp; omega
                have hlb2 : k < (b14.map Value.bool).length := by simp; omega
                have z1 := HOD.out.rest.get List.mem_cons_self k hlb
                rw [List.getElem?_eq_getElem hlb] at z1
                have z2 := HOD.out.rest.frozen (o := k) List.mem_cons_self
                have HO2 := As.mk (HOD.out.set 0 rfl k (.bool false) hlb)
                simp only [zq5] at HO2
                go_wp2
                refine hK.out _ _ ?_
                clear hK K HOD z1 z2
                refine Run.pu (v := ?_) (a' := ?_) rfl rfl (Or.inl ⟨by rfl, ?_⟩) ?_ ?_; rotate_left 2; (focus (intro W; go_simp; with_reducible rfl)); (focus (simp only [zq1, zq2, zq3, Act.put, zq4, zq5, zq6]; rfl))
                refine Run.la rfl (fun K hK => ?_)
                simp only [zq1, zq2, zq3]
                try simp only [zq4, zq5, zq6]
                have z1 := HO2.out.rest.get (List.mem_cons_of_mem _ List.mem_cons_self) k hlb2
                rw [List.getElem?_eq_getElem hlb2] at z1
                have z2 := HO2.out.rest.frozen (o := k) (List.mem_cons_of_mem _ List.mem_cons_self)
                have HO3 := As.mk (HO2.out.set 1 rfl k (.bool false) hlb2)
                simp only [zq6, zq5] at HO3
                go_wp2
                refine hK.out _ _ ?_
                clear hK K HO2 z1 z2 hlb hlb2
                refine Run.nil ?_
                have zo3 := cell_below HO3.out.rest.toBelow ZO.out
                go_wp2_with fail
                go_roundw
                case rel => exact ⟨k + 1, b13.set k false, b14.set k false, is, by omega, by simp [h13], by simp [h14], by omega, by go_num, by rw [List.map_set, List.map_set]; exact HO3.out⟩
                case measure => simp [intOf]; omega
              · skip
                go_wp2_with fail
                refine rgn [(0, 1), (1, 1), (2, 1), (3, 1), (4, 1), (5, 1), (6, 1), (7, 0), (8, 1), (9, 1), (10, 1), (11, 1), (12, 1), (13, 1), (14, 0), (15, 1), (16, 1), (17, 1), (18, 1), (19, 3), (20, 1), (21, 3)] [19, 21] (fun W => W.cell? ⟨bm, om + k, none⟩ = some (.bool false) ∧ W.cell? ⟨bo, oo + k, none⟩ = some (.bool true)) (by kernel_rfl) (by kernel_rfl) (fun _ _ _ d _ h => by cases d <;> exact h) ⟨zm, zo⟩ ?_
                obtain ⟨w3, hw3⟩ : ∃ x, x = wr.drew := ⟨_, rfl⟩
                have HOD : As (OwnS [] [(w1.heap.size, EC 4 (b13.map Value.bool)), (w.heap.size, EC 4 (b14.map Value.bool))] (fun _ => True) w w3 3 1 u15 is.length (iV is)) := by rw [hw3]; exact As.mk (HO.out.drewN 1)
                rw [← hw3]
                clear hw3 HO
                iterate 7 (refine Run.pu (v := ?_) (a' := ?_) rfl rfl (Or.inl ⟨by rfl, ?_⟩) ?_ ?_; rotate_left 2; (focus (intro W; go_simp; with_reducible rfl)); (focus (simp only [zq1, zq2, zq3, Act.put, zq4, zq5, zq6]; rfl)))
                refine Run.rd (v := ?_) (a' := ?_) rfl rfl (Or.inl ⟨by rfl, ?_⟩) ?_ ?_; rotate_left 2; (focus (rintro W ⟨hW1, hW2⟩; go_simp; with_reducible rfl)); (focus (simp only [zq1, zq2, zq3, Act.put, zq4, zq5, zq6]; rfl))
                iterate 6 (refine Run.pu (v := ?_) (a' := ?_) rfl rfl (Or.inl ⟨by rfl, ?_⟩) ?_ ?_; rotate_left 2; (focus (intro W; go_simp; with_reducible rfl)); (focus (simp only [zq1, zq2, zq3, Act.put, zq4, zq5, zq6]; rfl)))
                refine Run.rd (v := ?_) (a' := ?_) rfl rfl (Or.inl ⟨by rfl, ?_⟩) ?_ ?_; rotate_left 2; (focus (rintro W ⟨hW1, hW2⟩; go_simp; with_reducible rfl)); (focus (simp only [zq1, zq2, zq3, Act.put, zq4, zq5, zq6]; rfl))
                refine Run.pu (v := ?_) (a' := ?_) rfl rfl (Or.inl ⟨by rfl, ?_⟩) ?_ ?_; rotate_left 2; (focus (intro W; go_simp; with_reducible rfl)); (focus (simp only [zq1, zq2, zq3, Act.put, zq4, zq5, zq6]; rfl))
                refine Run.pu (v := undef) (a' := ?_) rfl rfl (Or.inr ⟨by rfl, rfl⟩) ?_ ?_; rotate_left 1; (focus (simp only [zq1, zq2, zq3, Act.put, zq4, zq5, zq6]; rfl))
                iterate 2 (refine Run.pu (v := ?_) (a' := ?_) rfl rfl (Or.inl ⟨by rfl, ?_⟩) ?_ ?_; rotate_left 2; (focus (intro W; go_simp; with_reducible rfl)); (focus (simp only [zq1, zq2, zq3, Act.put, zq4, zq5, zq6]; rfl)))
                refine Run.la rfl (fun K hK => ?_)
                simp only [zq1, zq2, zq3]
                try simp only [zq4, zq5, zq6]
                have hlb : k < (b13.map Value.bool).length := by simp; omega
                have hlb2 : k < (b14.map Value.bool).length := by simp; omega
                have z1 := HOD.out.rest.get List.mem_cons_self k hlb
                rw [List.getElem?_eq_getElem hlb] at z1
                have z2 := HOD.out.rest.frozen (o := k) List.mem_cons_self
                have HO2 := As.mk (HOD.out.set 0 rfl k (.bool false) hlb)
                simp only [zq5] at HO2
                go_wp2
                refine hK.out _ _ ?_
                clear hK K HOD z1 z2
                refine Run.pu (v := ?_) (a' := ?_) rfl rfl (Or.inl ⟨by rfl, ?_⟩) ?_ ?_; rotate_left 2; (focus (intro W; go_simp; with_reducible rfl)); (focus (simp only [zq1, zq2, zq3, Act.put, zq4, zq5, zq6]; rfl))
                refine Run.la rfl (fun K hK => ?_)
                simp only [zq1, zq2, zq3]
                try simp only [zq4, zq5, zq6]
                have z1 := HO2.out.rest.get (List.mem_cons_of_mem _ List.mem_cons_self) k hlb2
                rw [List.getElem?_eq_getElem hlb2] at z1
                have z2 := HO2.out.rest.frozen (o := k) (List.mem_cons_of_mem _ List.mem_cons_self)
                have HO3 := As.mk (HO2.out.set 1 rfl k (.bool true) hlb2)
                simp only [zq6, zq5] at HO3
                go_wp2
                refine hK.out _ _ ?_
                clear hK K HO2 z1 z2 hlb hlb2
                refine Run.nil ?_
                have zo3 := cell_below HO3.out.rest.toBelow ZO.out
                go_wp2_with fail
                go_roundw
                case rel => exact ⟨k + 1, b13.set k false, b14.set k true, is, by omega, by simp [h13], by simp [h14], by omega, by go_num, by rw [List.map_set, List.map_set]; exact HO3.out⟩
                case measure => simp [intOf]; omega
            · cases yo
              · skip
                go_wp2_with fail
                refine rgn [(0, 1), (1, 1), (2, 1), (3, 1), (4, 1), (5, 1), (6, 1), (7, 0), (8, 1), (9, 1), (10, 1), (11, 1), (12, 1), (13, 1), (14, 0), (15, 1), (16, 1), (17, 1), (18, 1), (19, 3), (20, 1), (21, 3)] [19, 21] (fun W => W.cell? ⟨bm, om + k, none⟩ = some (.bool true) ∧ W.cell? ⟨bo, oo + k, none⟩ = some (.bool false)) (by kernel_rfl) (by kernel_rfl) (fun _ _ _ d _ h => by cases d <;> exact h) ⟨zm, zo⟩ ?_
                obtain ⟨w3, hw3⟩ : ∃ x, x = wr.drew := ⟨_, rfl⟩
                have HOD : As (OwnS [] [(w1.heap.size, EC 4 (b13.map Value.bool)), (w.heap.size, EC 4 (b14.map Value.bool))] (fun _ => True) w w3 3 1 u15 is.length (iV is)) := by rw [hw3]; exact As.mk (HO.out.drewN 1)
                rw [← hw3]
                clear hw3 HO
                iterate 7 (refine Run.pu (v := ?_) (a' := ?_) rfl rfl (Or.inl ⟨by rfl, ?_⟩) ?_ ?_; rotate_left 2; (focus (intro W; go_simp; with_reducible rfl)); (focus (simp only [zq1, zq2, zq3, Act.put, zq4, zq5, zq6]; rfl)))
                refine Run.rd (v := ?_) (a' := ?_) rfl rfl (Or.inl ⟨by rfl, ?_⟩) ?_ ?_; rotate_left 2; (focus (rintro W ⟨hW1, hW2⟩; go_simp; with_reducible rfl)); (focus (simp only [zq1, zq2, zq3, Act.put, zq4, zq5, zq6]; rfl))
                refine Run.pu (v := ?_) (a' := ?_) rfl rfl (Or.inl ⟨by rfl, ?_⟩) ?_ ?_; rotate_left 2; (focus (intro W; go_simp; with_reducible rfl)); (focus (simp only [zq1, zq2, zq3, Act.put, zq4, zq5, zq6]; rfl))
                refine Run.pu (v := undef) (a' := ?_) rfl rfl (Or.inr ⟨by rfl, rfl⟩) ?_ ?_; rotate_left 1; (focus (simp only [zq1, zq2, zq3, Act.put, zq4, zq5, zq6]; rfl))
                iterate 4 (refine Run.pu (v := ?_) (a' := ?_) rfl rfl (Or.inl ⟨by rfl, ?_⟩) ?_ ?_; rotate_left 2; (focus (intro W; go_simp; with_reducible rfl)); (focus (simp only [zq1, zq2, zq3, Act.put, zq4, zq5, zq6]; rfl)))
                refine Run.rd (v := ?_) (a' := ?_) rfl rfl (Or.inl ⟨by rfl, ?_⟩) ?_ ?_; rotate_left 2; (focus (rintro W ⟨hW1, hW2⟩; go_simp; with_reducible rfl)); (focus (simp only [zq1, zq2, zq3, Act.put, zq4, zq5, zq6]; rfl))
                iterate 4 (refine Run.pu (v := ?_) (a' := ?_) rfl rfl (Or.inl ⟨by rfl, ?_⟩) ?_ ?_; rotate_left 2; (focus (intro W; go_simp; with_reducible rfl)); (focus (simp only [zq1, zq2, zq3, Act.put, zq4, zq5, zq6]; rfl)))
                refine Run.la rfl (fun K hK => ?_)
                simp only [zq1, zq2, zq3]
                try simp only [zq4, zq5, zq6]
                have hlb : k < (b13.map Value.bool).length := by simp; omega
                have hlb2 : k < (b14.map Value.bool).length := by simp; omega
                have z1 := HOD.out.rest.get List.mem_cons_self k hlb
                rw [List.getElem?_eq_getElem hlb] at z1
                have z2 := HOD.out.rest.frozen (o := k) List.mem_cons_self
                have HO2 := As.mk (HOD.out.set 0 rfl k (.bool true) hlb)
                simp only [zq5] at HO2
                go_wp2
                refine hK.out _ _ ?_
                clear hK K HOD z1 z2
                refine Run.pu (v := ?_) (a' := ?_) rfl rfl (Or.inl ⟨by rfl, ?_⟩) ?_ ?_; rotate_left 2; (focus (intro W; go_simp; with_reducible rfl)); (focus (simp only [zq1, zq2, zq3, Act.put, zq4, zq5, zq6]; rfl))
                refine Run.la rfl (fun K hK => ?_)
                simp only [zq1, zq2, zq3]
                try simp only [zq4, zq5, zq6]
                have z1 := HO2.out.rest.get (List.mem_cons_of_mem _ List.mem_cons_self) k hlb2
                rw [List.getElem?_eq_getElem hlb2] at z1
                have z2 := HO2.out.rest.frozen (o := k) (List.mem_cons_of_mem _ List.mem_cons_self)
                have HO3 := As.mk (HO2.out.set 1 rfl k (.bool false) hlb2)
                simp only [zq6, zq5] at HO3
                go_wp2
                refine hK.out _ _ ?_
                clear hK K HO2 z1 z2 hlb hlb2
                refine Run.nil ?_
                have zo3 := cell_below HO3.out.rest.toBelow ZO.out
                go_wp2_with fail
                go_roundw
                case rel => exact ⟨k + 1, b13.set k true, b14.set k false, is, by omega, by simp [h13], by simp [h14], by omega, by go_num, by rw [List.map_set, List.map_set]; exact HO3.out⟩
                case measure => simp [intOf]; omega
              · skip
                go_wp2_with fail
                refine rgn [(0, 1), (1, 1), (2, 1), (3, 1), (4, 1), (5, 1), (6, 1), (7, 0), (8, 1), (9, 1), (10, 1), (11, 1), (12, 1), (13, 1), (14, 0), (15, 1), (16, 1), (17, 1), (18, 1), (19, 3), (20, 1), (21, 3)] [19, 21] (fun W => W.cell? ⟨bm, om + k, none⟩ = some (.bool true) ∧ W.cell? ⟨bo, oo + k, none⟩ = some (.bool true)) (by kernel_rfl) (by kernel_rfl) (fun _ _ _ d _ h => by cases d <;> exact h) ⟨zm, zo⟩ ?_
                obtain ⟨w3, hw3⟩ : ∃ x, x = wr.drew := ⟨_, rfl⟩
                have HOD : As (OwnS [] [(w1.heap.size, EC 4 (b13.map Value.bool)), (w.heap.size, EC 4 (b14.map Value.bool))] (fun _ => True) w w3 3 1 u15 is.length (iV is)) := by rw [hw3]; exact As.mk (HO.out.drewN 1)
                rw [← hw3]
                clear hw3 HO
                iterate 7 (refine Run.pu (v := ?_) (a' := ?_) rfl rfl (Or.inl ⟨by rfl, ?_⟩) ?_ ?_; rotate_left 2; (focus (intro W; go_simp; with_reducible rfl)); (focus (simp only [zq1, zq2, zq3, Act.put, zq4, zq5, zq6]; rfl)))
                refine Run.rd (v := ?_) (a' := ?_) rfl rfl (Or.inl ⟨by rfl, ?_⟩) ?_ ?_; rotate_left 2; (focus (rintro W ⟨hW1, hW2⟩; go_simp; with_reducible rfl)); (focus (simp only [zq1, zq2, zq3, Act.put, zq4, zq5, zq6]; rfl))
                refine Run.pu (v := ?_) (a' := ?_) rfl rfl (Or.inl ⟨by rfl, ?_⟩) ?_ ?_; rotate_left 2; (focus (intro W; go_simp; with_reducible rfl)); (focus (simp only [zq1, zq2, zq3, Act.put, zq4, zq5, zq6]; rfl))
                refine Run.pu (v := undef) (a' := ?_) rfl rfl (Or.inr ⟨by rfl, rfl⟩) ?_ ?_; rotate_left 1; (focus (simp only [zq1, zq2, zq3, Act.put, zq4, zq5, zq6]; rfl))
                iterate 4 (refine Run.pu (v := ?_) (a' := ?_) rfl rfl (Or.inl ⟨by rfl, ?_⟩) ?_ ?_; rotate_left 2; (focus (intro W; go_simp; with_reducible rfl)); (focus (simp only [zq1, zq2, zq3, Act.put, zq4, zq5, zq6]; rfl)))
                refine Run.rd (v := ?_) (a' := ?_) rfl rfl (Or.inl ⟨by rfl, ?_⟩) ?_ ?_; rotate_left 2; (focus (rintro W ⟨hW1, hW2⟩; go_simp; with_reducible rfl)); (focus (simp only [zq1, zq2, zq3, Act.put, zq4, zq5, zq6]; rfl))
                refine Run.pu (v := ?_) (a' := ?_) rfl rfl (Or.inl ⟨by rfl, ?_⟩) ?_ ?_; rotate_left 2; (focus (intro W; go_simp; with_reducible rfl)); (focus (simp only [zq1, zq2, zq3, Act.put, zq4, zq5, zq6]; rfl))
                refine Run.pu (v := undef) (a' := ?_) rfl rfl (Or.inr ⟨by rfl, rfl⟩) ?_ ?_; rotate_left 1; (focus (simp only [zq1, zq2, zq3, Act.put, zq4, zq5, zq6]; rfl))
                iterate 2 (refine Run.pu (v := ?_) (a' := ?_) rfl rfl (Or.inl ⟨by rfl, ?_⟩) ?_ ?_; rotate_left 2; (focus (intro W; go_simp; with_reducible rfl)); (focus (simp only [zq1, zq2, zq3, Act.put, zq4, zq5, zq6]; rfl)))
                refine Run.la rfl (fun K hK => ?_)
                simp only [zq1, zq2, zq3]
                try simp only [zq4, zq5, zq6]
                have hlb : k < (b13.map Value.bool).length := by simp; omega
                have hlb2 : k < (b14.map Value.bool).length := by simp; omega
                have z1 := HOD.out.rest.get List.mem_cons_self k hlb
                rw [List.getElem?_eq_getElem hlb] at z1
                have z2 := HOD.out.rest.frozen (o := k) List.mem_cons_self
                have HO2 := As.mk (HOD.out.set 0 rfl k (.bool true) hlb)
                simp only [zq5] at HO2
                go_wp2
                refine hK.out _ _ ?_
                clear hK K HOD z1 z2
                refine Run.pu (v := ?_) (a' := ?_) rfl rfl (Or.inl ⟨by rfl, ?_⟩) ?_ ?_; rotate_left 2; (focus (intro W; go_simp; with_reducible rfl)); (focus (simp only [zq1, zq2, zq3, Act.put, zq4, zq5, zq6]; rfl))
                refine Run.la rfl (fun K hK => ?_)
                simp only [zq1, zq2, zq3]
                try simp only [zq4, zq5, zq6]
                have z1 := HO2.out.rest.get (List.mem_cons_of_mem _ List.mem_cons_self) k hlb2
                rw [List.getElem?_eq_getElem hlb2] at z1
                have z2 := HO2.out.rest.frozen (o := k) (List.mem_cons_of_mem _ List.mem_cons_self)
                have HO3 := As.mk (HO2.out.set 1 rfl k (.bool true) hlb2)
                simp only [zq6, zq5] at HO3
                go_wp2
                refine hK.out _ _ ?_
                clear hK K HO2 z1 z2 hlb hlb2
                refine Run.nil ?_
                have zo3 := cell_below HO3.out.rest.toBelow ZO.out
                go_wp2_with fail
                go_roundw
                case rel => exact ⟨k + 1, b13.set k true, b14.set k true, is, by omega, by simp [h13], by simp [h14], by omega, by go_num, by rw [List.map_set, List.map_set]; exact HO3.out⟩
                case measure => simp [intOf]; omega
        · have e : k = n := by omega
          have e1 : (k : Int) = (n : Int) := by omega
          have hnn : ¬ ((n : Int) < (n : Int)) := by omega
          rw [e] at his
          rw [e]
          clear e e1 hkn hk
          go_wp2_with fail
          refine (ref_Count_n w1.heap.size n b13 _ h13 (HO.out.rest.row List.mem_cons_self (Nat.le_refl _)) hn).mono ?_
          rintro e_ w3 ⟨⟨x1, rfl⟩, rfl⟩
          by_cases t1 : most < x1
          · go_wp2_with fail
            refine bodyPost_ret (v := .tuple #[.slice none 0 0, .slice none 0 0, .bool false]) (by simp [results, Tryz.results98, go_sem]) rfl ⟨⟨_, _, false, rfl, fun h => by simp at h⟩, HO.out.rest.toBelow⟩
          · go_wp2_with fail
            refine (ref_Count_n w.heap.size n b14 _ h14 (HO.out.rest.row (List.mem_cons_of_mem _ List.mem_cons_self) (Nat.le_refl _)) hn).mono ?_
            rintro e_ w4 ⟨⟨x2, rfl⟩, rfl⟩
            by_cases t2 : most < x2
            · go_wp2_with fail
              go_loopw [18] (fun i wr => ∃ (j : Nat) (b14 : List Bool), j ≤ n ∧ b14.length = n ∧ i = .int .i64 (j : Int) ∧ OwnS [] [(w1.heap.size, EC 4 (b13.map Value.bool)), (w.heap.size, EC 4 (b14.map Value.bool))] (fun _ => True) w wr 3 1 u15 is.length (iV is)) (fun i _ => n - (intOf i).toNat)
              case atStart => exact ⟨0, b14, Nat.zero_le _, h14, rfl, HO.out⟩
              case round =>
               clear HO h14 b14
               obtain ⟨j, b14, hj, h14, rfl, ho⟩ := hrel
               have HO := As.mk ho
               clear ho
               by_cases hjn : j < n
               · obtain ⟨y, hy⟩ : ∃ y, b14[j]? = some y := ⟨b14[j]'(by omega), List.getElem?_eq_getElem _⟩
                 obtain ⟨x, hx⟩ : ∃ y, b13[j]? = some y := ⟨b13[j]'(by omega), List.getElem?_eq_getElem _⟩
                 have z1 := HO.out.rest.get (g := w.heap.size) (e := 4) (cs := b14.map Value.bool) (List.mem_cons_of_mem _ List.mem_cons_self) j (by simp; omega)
                 have z2 := HO.out.rest.get (g := w1.heap.size) (e := 4) (cs := b13.map Value.bool) List.mem_cons_self j (by simp; omega)
                 have z3 := HO.out.rest.frozen (g := w.heap.size) (e := 4) (cs := b14.map Value.bool) (List.mem_cons_of_mem _ List.mem_cons_self) j
                 rw [List.getElem?_map, hy] at z1
                 rw [List.getElem?_map, hx] at z2
                 have hlb : j < (b14.map Value.bool).length := by simp; omega
                 have ho := HO.out
                 have HSET := As.mk (fun v : Bool => ho.set 1 rfl j (.bool v) hlb)
                 clear ho hlb
                 clear hy hx HO
                 cases y
                 · go_wp2_with fail
                   go_roundw
                   case rel => exact ⟨j + 1, b14.set j false, by omega, by simp [h14], by go_num, by rw [List.map_set]; exact HSET.out false⟩
                   case measure => simp [intOf]; omega
                 · go_wp2_with fail
                   go_roundw
                   case rel => exact ⟨j + 1, b14.set j x, by omega, by simp [h14], by go_num, by rw [List.map_set]; exact HSET.out x⟩
                   case measure => simp [intOf]; omega
               · have e : j = n := by omega
                 rw [e]
                 clear e hjn hj
                 go_wp2_with fail
                 refine bodyPost_ret (v := .tuple #[.slice (some ⟨w.heap.size, 0, none⟩) n n, u15, .bool true]) (by simp [results, Tryz.results98, go_sem]) rfl ⟨⟨_, _, true, rfl, fun _ W hW => ⟨⟨b14, h14, (HO.out.rest.fr (List.mem_cons_of_mem _ List.mem_cons_self) (Nat.le_refl _)).row hW⟩, is, by omega, HO.out.fr.row hW⟩⟩, HO.out.rest.toBelow⟩
            · go_wp2_with fail
              refine bodyPost_ret (v := .tuple #[.slice (some ⟨w.heap.size, 0, none⟩) n n, u15, .bool true]) (by simp [results, Tryz.results98, go_sem]) rfl ⟨⟨_, _, true, rfl, fun _ W hW => ⟨⟨b14, h14, (HO.out.rest.fr (List.mem_cons_of_mem _ List.mem_cons_self) (Nat.le_refl _)).row hW⟩, is, by omega, HO.out.fr.row hW⟩⟩, HO.out.rest.toBelow⟩
end Go.Proofs.YtmookafmdonopaaGreat.Top
