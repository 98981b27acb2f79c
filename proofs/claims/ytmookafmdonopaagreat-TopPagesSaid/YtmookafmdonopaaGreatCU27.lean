/- hodmanref8.Over and hodmanref17.Lowest, exactly. -/
import Derived.Test.YtmookafmdonopaaGreatM23
import Derived.Test.YtmookafmdonopaaGreatM35
namespace Go.Proofs.YtmookafmdonopaaGreat.Top
open Go Go.RowKit
set_option linter.unusedVariables false
set_option linter.unusedSimpArgs false
attribute [local go_sem] max2_int min2_int max_two min_two max_three

theorem ref_OverS (a n b m : Nat) (w : World) (h1 : a + n ≤ 2 ^ 40) (h2 : b + m ≤ 2 ^ 40) : Calls Tryz.prog 50 #[.agg #[.int .i64 (a : Int), .int .i64 (n : Int)], .agg #[.int .i64 (b : Int), .int .i64 (m : Int)]] w fun e w' => e = .returned (.bool (decide (a < b + m ∧ b < a + n))) ∧ Below w.heap.size w w' := by
 by_cases h3 : a < b + m
 · by_cases h4 : b < a + n
   · have h5 : decide (a < b + m ∧ b < a + n) = true := by exact decide_eq_true ⟨h3, h4⟩
     rw [h5]
     clear h5
     go_enter Tryz.func50, Tryz.ntmps50
     go_wp2
     go_ret
     exact ⟨by simp; omega, (box_below _ _).alloc (by simp) _⟩
   · have h5 : decide (a < b + m ∧ b < a + n) = false := by exact decide_eq_false (fun h => h4 h.2)
     rw [h5]
     clear h5
     go_enter Tryz.func50, Tryz.ntmps50
     go_wp2
     go_ret
     exact ⟨by simp; omega, (box_below _ _).alloc (by simp) _⟩
 · have h5 : decide (a < b + m ∧ b < a + n) = false := by exact decide_eq_false (fun h => h3 h.1)
   rw [h5]
   clear h5
   go_enter Tryz.func50, Tryz.ntmps50
   go_wp2
   go_ret
   exact ⟨by simp, (box_below _ _).alloc (by simp) _⟩
/-- a block lies over q bytes from a on -/
def ovL (l : List MB) (a q : Nat) : Bool := l.any fun b => decide (a < b.1 + b.2.1 ∧ b.1 < a + q)
theorem ovL_take {l : List MB} {j a q : Nat} {b : MB} (h : l[j]? = some b) : ovL (l.take (j + 1)) a q = (ovL (l.take j) a q || decide (a < b.1 + b.2.1 ∧ b.1 < a + q)) := by
 unfold ovL
 rw [List.take_add_one, h, Option.toList_some, List.any_append]
 simp
theorem ovL_sub {l : List MB} {j a q : Nat} (h : ovL (l.take j) a q = true) : ovL l a q = true := by
 unfold ovL at h ⊢
 rw [List.any_eq_true] at h ⊢
 obtain ⟨x, h1, h2⟩ := h
 exact ⟨x, List.mem_of_mem_take h1, h2⟩
/-- what is answered where the first of the multiples is looked for -/
def LowOf (H : Nat) (l : List MB) (q : Nat) (e : Ending) : Prop :=
 (∃ i, e = .returned (.tuple #[.int .i64 ((i * q : Nat) : Int), .bool true]) ∧ i * q + q ≤ H ∧ ovL l (i * q) q = false ∧ ∀ i', i' < i → ovL l (i' * q) q = true) ∨
 (e = .returned (.tuple #[.int .i64 0, .bool false]) ∧ ∀ i, i * q + q ≤ H → ovL l (i * q) q = true)
theorem lo_step {l : List MB} {q a m H i : Nat} (h : a = i * q) (hm : m = a + q) (ho : ovL l a q = true) (hi : ∀ i', i' < i → ovL l (i' * q) q = true) : ∃ i2, m = i2 * q ∧ ∀ i', i' < i2 → ovL l (i' * q) q = true := by
 refine ⟨i + 1, by rw [Nat.succ_mul, ← h, hm], fun i' h1 => ?_⟩
 rcases Nat.lt_or_ge i' i with h2 | h2
 · exact hi i' h2
 · have e : i' = i := by omega
   rw [e, ← h]; exact ho
theorem lo_none {l : List MB} {q a m H : Nat} (hq : 1 ≤ q) (h : ∃ i, a = i * q ∧ ∀ i', i' < i → ovL l (i' * q) q = true) (hm : m = a + q) (hH : ¬ m ≤ H) : ∀ i, i * q + q ≤ H → ovL l (i * q) q = true := by
 obtain ⟨i, h1, h2⟩ := h
 intro j hj
 refine h2 j (Nat.lt_of_not_le fun h3 => ?_)
 have := Nat.mul_le_mul_right q h3
 omega
set_option maxHeartbeats 4000000 in
theorem ref_LowestS (cf : Cf) (hH : cf.H ≤ 65536) (A : Option Addr) (c : Nat) (l : List MB) (q : Nat) (w : World) (hr : Row w (.slice A l.length c) l.length (mbV l)) (hl : l.length ≤ 100000) (hf : ∀ b ∈ l, b.1 + b.2.1 ≤ 65536) (hq : 1 ≤ q) (hq2 : q ≤ 65536) :
 Calls Tryz.prog 22 #[cf.v, .slice A l.length c, .int .i64 (q : Int)] w fun e w' => LowOf cf.H l q e ∧ Below w.heap.size w w' := by
 have HR := As.mk hr
 have HF := As.mk hf
 obtain ⟨ln, hln⟩ : ∃ n, n = l.length := ⟨_, rfl⟩
 rw [← hln] at hl HR ⊢
 have HLN := As.mk hln
 rw [Cf.v]
 have HO := As.mk ((Own.start (X := []) w).box #[.int .i64 cf.G, .int .i64 cf.N, .int .i64 cf.M, .int .i64 cf.L, .int .i64 cf.Page, .int .i64 cf.P, .int .i64 cf.H, .int .i64 cf.Seed] 34)
 clear hr hln hf
 go_enter Tryz.func22, Tryz.ntmps22
 go_wp2
 go_loopw [8] (fun i wr => ∃ a : Nat, a ≤ cf.H ∧ i = .int .i64 (a : Int) ∧ As (∃ i, a = i * q ∧ ∀ i', i' < i → ovL l (i' * q) q = true) ∧ Own [] [(w.heap.size, EC 34 [.int .i64 cf.G, .int .i64 cf.N, .int .i64 cf.M, .int .i64 cf.L, .int .i64 cf.Page, .int .i64 cf.P, .int .i64 cf.H, .int .i64 cf.Seed])] (fun _ => True) w wr) (fun i _ => cf.H + 1 - (intOf i).toNat)
 case atStart => exact ⟨0, Nat.zero_le _, rfl, ⟨0, by simp, fun i' h => by omega⟩, HO.out⟩
 case round =>
  clear HO
  obtain ⟨a, ha, rfl, HI, ho⟩ := hrel
  have HO := As.mk ho
  have z6 := ho.get (g := w.heap.size) (e := 34) List.mem_cons_self 6 (by simp)
  obtain ⟨m, hm⟩ : ∃ m, m = a + q := ⟨_, rfl⟩
  have e1 : (a : Int) + (q : Int) = (m : Int) := by omega
  have HM := As.mk hm
  have hm2 : m ≤ 131072 := by omega
  clear ho hm
  by_cases hmH : m ≤ cf.H
  · go_wp2
    go_loopw [9, 10] (fun f i wr => ∃ (b : Bool) (j : Nat), j ≤ ln ∧ f = .bool b ∧ i = .int .i64 (j : Int) ∧ As (b = !ovL (l.take j) a q) ∧ Own [] [(w.heap.size, EC 34 [.int .i64 cf.G, .int .i64 cf.N, .int .i64 cf.M, .int .i64 cf.L, .int .i64 cf.Page, .int .i64 cf.P, .int .i64 cf.H, .int .i64 cf.Seed])] (fun _ => True) w wr) (fun _ i _ => ln - (intOf i).toNat)
    case atStart => exact ⟨true, 0, Nat.zero_le _, rfl, rfl, ⟨by simp [ovL]⟩, HO.out⟩
    case round =>
     clear HO z6
     obtain ⟨b, j, hj, rfl, rfl, HB, ho⟩ := hrel
     have HO := As.mk ho
     clear ho
     by_cases hjl : j < ln
     · cases b
       · go_wp2
         go_roundw
         case rel =>
          obtain ⟨i, h1, h2⟩ := HI.out
          exact ⟨m, hmH, by go_num, ⟨lo_step (H := cf.H) h1 HM.out (ovL_sub (j := j) (by have := HB.out; simpa using this.symm)) h2⟩, HO.out⟩
         case measure => simp [intOf]; have := HM.out; omega
       · obtain ⟨mb, hm⟩ : ∃ mb, l[j]? = some mb := ⟨l[j]'(by have := HLN.out; omega), List.getElem?_eq_getElem _⟩
         have HMB := As.mk hm
         have hfm := HF.out mb (List.mem_of_getElem? hm)
         obtain ⟨b, o, rfl, hnc, hcell⟩ := HR.out.cell' (by rw [mbV_len]; have := HLN.out; omega)
         obtain ⟨m1, m2, _⟩ := mbV_at l j mb hm
         have y1 := As.mk (hcell _ _ m1)
         have y2 := As.mk (hcell _ _ m2)
         have HSS := As.mk (fun (W : World) (hW : Own [] [(w.heap.size, EC 34 [.int .i64 cf.G, .int .i64 cf.N, .int .i64 cf.M, .int .i64 cf.L, .int .i64 cf.Page, .int .i64 cf.P, .int .i64 cf.H, .int .i64 cf.Seed])] (fun _ => True) w W) => show W.cell? ⟨b, o + j * 3, none⟩ = some (.int .i64 (mb.1 : Int)) ∧ W.cell? ⟨b, o + j * 3 + 1, none⟩ = some (.int .i64 (mb.2.1 : Int)) from ⟨cell_below hW.toBelow y1.out, cell_below hW.toBelow (by rw [Nat.add_assoc]; exact y2.out)⟩)
         have HOV := As.mk (fun W => ref_OverS a q mb.1 mb.2.1 W (by have := HM.out; omega) (by omega))
         clear hcell m1 m2 y1 y2 hm hfm
         go_wp2_with fail
         refine rgn [(0, 1), (1, 1), (2, 1), (3, 1), (4, 1), (5, 1), (6, 1), (7, 0), (8, 1), (9, 1), (10, 1), (11, 1), (12, 0), (13, 1), (14, 2), (15, 1), (16, 1)] [] (fun W => W.cell? ⟨b, o + j * 3, none⟩ = some (.int .i64 (mb.1 : Int)) ∧ W.cell? ⟨b, o + j * 3 + 1, none⟩ = some (.int .i64 (mb.2.1 : Int))) (by kernel_rfl) (by kernel_rfl) (fun _ _ _ d _ h => by cases d <;> exact h) (HSS.out _ HO.out.drew) ?_
         have HOd := As.mk HO.out.drew
         clear HO
         iterate 7 (refine Run.pu (v := ?_) (a' := ?_) rfl rfl (Or.inl ⟨by rfl, ?_⟩) ?_ ?_; rotate_left 2; (focus (intro W; go_simp; with_reducible rfl)); (focus (simp only [zq1, zq2, zq3, Act.put, zq4, zq5, zq6]; rfl)))
         refine Run.rd (v := ?_) (a' := ?_) rfl rfl (Or.inl ⟨by rfl, ?_⟩) ?_ ?_; rotate_left 2; (focus (rintro W ⟨hW1, hW2⟩; go_simp; with_reducible rfl)); (focus (simp only [zq1, zq2, zq3, Act.put, zq4, zq5, zq6]; rfl))
         iterate 4 (refine Run.pu (v := ?_) (a' := ?_) rfl rfl (Or.inl ⟨by rfl, ?_⟩) ?_ ?_; rotate_left 2; (focus (intro W; go_simp; with_reducible rfl)); (focus (simp only [zq1, zq2, zq3, Act.put, zq4, zq5, zq6]; rfl)))
         refine Run.rd (v := ?_) (a' := ?_) rfl rfl (Or.inl ⟨by rfl, ?_⟩) ?_ ?_; rotate_left 2; (focus (rintro W ⟨hW1, hW2⟩; go_simp; with_reducible rfl)); (focus (simp only [zq1, zq2, zq3, Act.put, zq4, zq5, zq6]; rfl))
         refine Run.pu (v := ?_) (a' := ?_) rfl rfl (Or.inl ⟨by rfl, ?_⟩) ?_ ?_; rotate_left 2; (focus (intro W; go_simp; with_reducible rfl)); (focus (simp only [zq1, zq2, zq3, Act.put, zq4, zq5, zq6]; rfl))
         refine Run.ef rfl (fun K hK => ?_)
         simp only [zq1, zq2, zq3]
         try simp only [zq4, zq5, zq6]
         go_wp2_with fail
         refine (HOV.out _).mono ?_
         rintro e w3 ⟨rfl, hb⟩
         have HO3 := As.mk (HOd.out.below hb)
         obtain ⟨z, hz⟩ : ∃ z, z = decide (a < mb.1 + mb.2.1 ∧ mb.1 < a + q) := ⟨_, rfl⟩
         rw [← hz]
         have HZ := As.mk hz
         clear hb HOd hz HOV
         go_wp2
         refine hK.out _ _ (HSS.out _ HO3.out) ?_
         clear hK K
         iterate 2 (refine Run.pu (v := ?_) (a' := ?_) rfl rfl (Or.inl ⟨by rfl, ?_⟩) ?_ ?_; rotate_left 2; (focus (intro W; go_simp; with_reducible rfl)); (focus (simp only [zq1, zq2, zq3, Act.put, zq4, zq5, zq6]; rfl)))
         refine Run.nil ?_
         try simp only [zq1, zq2, zq3]
         go_wp2_with fail
         go_roundw
         case rel => exact ⟨!z, j + 1, by omega, rfl, by go_num, ⟨by
          have h1 := HB.out
          have h2 : ovL (l.take j) a q = false := by simpa using h1.symm
          rw [ovL_take HMB.out, h2, Bool.false_or, HZ.out]⟩, HO3.out⟩
         case measure => simp [intOf]; omega
     · have e : j = ln := by omega
       subst e
       have hov : b = !ovL l a q := by
        have h1 := HB.out
        rwa [HLN.out, List.take_length] at h1
       have HOV := As.mk hov
       clear hov
       cases b
       · go_wp2
         go_roundw
         case rel =>
          obtain ⟨i, h1, h2⟩ := HI.out
          exact ⟨m, hmH, by go_num, ⟨lo_step (H := cf.H) h1 HM.out (by have := HOV.out; simpa using this.symm) h2⟩, HO.out⟩
         case measure => simp [intOf]; have := HM.out; omega
       · go_wp2
         go_ret2
         refine ⟨Or.inl ?_, HO.out.toBelow⟩
         obtain ⟨i, h1, h2⟩ := HI.out
         refine ⟨i, (show _ = Ending.returned (.tuple #[.int .i64 (a : Int), .bool true]) from rfl).trans (by rw [h1]), by rw [← h1, ← HM.out]; exact hmH, ?_, h2⟩
         rw [← h1]
         have := HOV.out
         simpa using this.symm
  · go_wp2
    go_ret2
    exact ⟨Or.inr ⟨rfl, lo_none hq HI.out HM.out hmH⟩, HO.out.toBelow⟩
/-- plainly: the first multiple that is free -/
theorem ov_bk {c : Cf} (hg : Good c) {bl : List Bk} (hi : InvB c bl) (k i : Nat) : ovL (bl.map (Bk.mb c)) (i * (c.G * 2 ^ k)) (c.G * 2 ^ k) = bk (bitsB c bl) k i := by
 have hG := hg.g1
 rw [Bool.eq_iff_iff, bk_iff]
 unfold ovL
 rw [List.any_map, List.any_eq_true]
 have e0 : i * (c.G * 2 ^ k) = (i * 2 ^ k) * c.G := by rw [Nat.mul_comm c.G, Nat.mul_assoc]
 have e0' : i * (c.G * 2 ^ k) + c.G * 2 ^ k = (i * 2 ^ k + 2 ^ k) * c.G := by rw [e0, Nat.add_mul, Nat.mul_comm c.G]
 constructor
 · rintro ⟨b, hb, h⟩
   have h : i * (c.G * 2 ^ k) < b.at_ + b.ch c ∧ b.at_ < i * (c.G * 2 ^ k) + c.G * 2 ^ k := of_decide_eq_true h
   obtain ⟨q0, hq⟩ := at_gran (hi.mul b hb)
   generalize q0 * 2 ^ b.k = q at hq
   have e1 : b.at_ + b.ch c = (q + 2 ^ b.k) * c.G := by rw [hq, Nat.add_mul]; unfold Bk.ch; rw [Nat.mul_comm c.G]
   rw [e0', e1, e0, hq] at h
   have h1 := Nat.lt_of_mul_lt_mul_right h.1
   have h2 := Nat.lt_of_mul_lt_mul_right h.2
   refine ⟨max (i * 2 ^ k) q, by omega, ?_, ?_⟩
   · rw [Nat.add_mul]; have := Nat.two_pow_pos k; omega
   · unfold bitsB
     rw [List.any_eq_true]
     exact ⟨b, hb, (onG_iff hg q hq _).2 (by have := Nat.two_pow_pos b.k; omega)⟩
 · rintro ⟨j, h1, h2, h3⟩
   unfold bitsB at h3
   rw [List.any_eq_true] at h3
   obtain ⟨b, hb, h⟩ := h3
   refine ⟨b, hb, ?_⟩
   refine decide_eq_true (p := i * (c.G * 2 ^ k) < b.at_ + b.ch c ∧ b.at_ < i * (c.G * 2 ^ k) + c.G * 2 ^ k) ?_
   obtain ⟨q0, hq⟩ := at_gran (hi.mul b hb)
   generalize q0 * 2 ^ b.k = q at hq
   have h4 := (onG_iff hg q hq j).1 h
   have e1 : b.at_ + b.ch c = (q + 2 ^ b.k) * c.G := by rw [hq, Nat.add_mul]; unfold Bk.ch; rw [Nat.mul_comm c.G]
   rw [e0', e1, e0, hq]
   rw [Nat.add_mul, Nat.one_mul] at h2
   exact ⟨Nat.mul_lt_mul_of_pos_right (by omega) hG, Nat.mul_lt_mul_of_pos_right (by omega) hG⟩
theorem low_lim {c : Cf} (hg : Good c) (k i : Nat) : i * (c.G * 2 ^ k) + c.G * 2 ^ k ≤ c.H ↔ i < c.H / c.G / 2 ^ k := by
 rw [Nat.div_div_eq_div_mul, ← Nat.succ_mul, Nat.lt_iff_add_one_le, Nat.le_div_iff_mul_le (Nat.mul_pos hg.g1 (Nat.two_pow_pos _))]
theorem low_of {c : Cf} (hg : Good c) {bl : List Bk} (hi : InvB c bl) {k : Nat} {e : Ending} (h : LowOf c.H (bl.map (Bk.mb c)) (c.G * 2 ^ k) e) :
 (∃ i, lowB c bl k = some i ∧ e = .returned (.tuple #[.int .i64 ((i * 2 ^ k * c.G : Nat) : Int), .bool true])) ∨ (lowB c bl k = none ∧ e = .returned (.tuple #[.int .i64 0, .bool false])) := by
 rcases h with ⟨i, h1, h2, h3, h4⟩ | ⟨h1, h2⟩
 · refine Or.inl ⟨i, lowB_some ((low_lim hg k i).1 h2) (by rw [← ov_bk hg hi]; exact h3) fun j hj => by rw [← ov_bk hg hi]; exact h4 j hj, ?_⟩
   rw [h1, show i * (c.G * 2 ^ k) = i * 2 ^ k * c.G by rw [Nat.mul_comm c.G, Nat.mul_assoc]]
 · exact Or.inr ⟨lowB_none fun j hj => by rw [← ov_bk hg hi]; exact h2 j ((low_lim hg k j).2 hj), h1⟩
end Go.Proofs.YtmookafmdonopaaGreat.Top
