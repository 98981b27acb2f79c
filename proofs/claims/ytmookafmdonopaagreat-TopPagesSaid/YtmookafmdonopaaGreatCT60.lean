/- (*heap.Heap).Blocks, that is one's own; a heap and a slice of one's own beside it. -/
import Derived.Test.YtmookafmdonopaaGreatCT59
namespace Go.Proofs.YtmookafmdonopaaGreat.Top
open Go Go.RowKit
set_option linter.unusedVariables false
set_option linter.unusedSimpArgs false
attribute [local go_sem] max2_int min2_int max_two min_two max_three

set_option maxHeartbeats 4000000 in
set_option maxRecDepth 100000 in
theorem heap_BlocksO (h : Nat) (c : Cf) (s : Hs) (mem : List Nat) (L : List (Nat × (Obj → Prop))) (R : World → Prop) (w0 w : World) (H : HW h c s mem L R w0 w) (iv : Iv c s) :
 Calls Tryz.prog 17 #[.pointer (some ⟨h, 0, none⟩)] w fun e w' => ∃ v, e = .returned v ∧ OwnS [] [] (fun _ => True) w w' 48 3 v s.bl.length (mbV (s.bl.map (Bk.mb c))) := by
 have hlen := iv.inv.len iv.good
 have hsd := iv.inv.sortedB iv.good
 obtain ⟨d, dz, -, -, -, -, -, -, deng⟩ := H.hc
 have hml : (marksB s.bl).length = s.bl.length := by simp [marksB]
 obtain ⟨A, cc, hsl⟩ := deng.2.slice_
 have z10 := dz.c10
 have hrow := deng.2
 rw [hsl] at z10 hrow
 rw [hml] at z10 hrow
 have z11 := dz.c11
 have HLK := As.mk (fun (W : World) (hb : Below w.heap.size w W) (b : Bk) (hbm : b ∈ s.bl) => show (Instr.lookup 77 (.map (some d.gm)) (.agg #[.int .i64 (b.at_ : Int)]) false).run Tryz.prog W = .ok (.agg #[.int .i64 (b.at_ : Int), .int .i64 (b.ch c : Int), .int .i64 (b.asked : Int)]) W from by
  obtain ⟨a, d', b1, b2, b3⟩ := H.below hb
  have e := (b3.hc me1).c11
  rw [cell_below hb z11] at e
  simp only [Option.some.injEq, Value.map.injEq] at e
  obtain ⟨x, hx, hxp⟩ := b3.at_ _ _ me2
  have h1 := lookup_run 77 48 Tryz.underlying77 _ W (zero48 W) d.gm b.at_ false x (by rw [e]; exact hx) _ hxp
  unfold keyV at h1
  rw [h1, mapB_at hsd hbm]
  rfl)
 obtain ⟨n, hn⟩ : ∃ n, n = s.bl.length := ⟨_, rfl⟩
 have HN := As.mk hn
 rw [← hn] at z10 hrow hlen ⊢
 have HROW := As.mk hrow
 have Z11 := As.mk z11
 clear H iv dz deng hsl hml hsd hn hrow z11
 go_enter Tryz.func17, Tryz.ntmps17
 go_wp2_with fail
 go_loopw [2, 13] (fun v i wr => ∃ q : Nat, q ≤ n ∧ i = .int .i64 (q : Int) ∧ OwnS [] [] (fun _ => True) w wr 48 3 v q (mbV ((s.bl.take q).map (Bk.mb c)))) (fun _ i _ => n - (intOf i).toNat)
 case atStart => exact ⟨0, Nat.zero_le _, rfl, OwnS.nil (Own.start w) 48 3⟩
 case round =>
  clear z10
  obtain ⟨q, hq, rfl, ho⟩ := hrel
  have HO := As.mk ho
  by_cases hqn : q < n
  · obtain ⟨b, hb⟩ : ∃ b, s.bl[q]? = some b := ⟨s.bl[q]'(by rw [← HN.out]; exact hqn), List.getElem?_eq_getElem _⟩
    have hbm := List.mem_of_getElem? hb
    have hmq : (marksB s.bl)[q]? = some (b.at_, b.k) := by simp [marksB, hb]
    obtain ⟨b9, o9, rfl, hnc9, hcell9⟩ := (HROW.out.below ho.rest.toBelow).cell (by rw [marksV_len]; simp [marksB, ← HN.out]; omega)
    have y0 := hcell9 _ _ (marksV_at _ q _ hmq).1
    have y1 := hcell9 _ _ (marksV_at _ q _ hmq).2
    rw [← Nat.add_assoc] at y1
    have z11 := cell_below ho.rest.toBelow Z11.out
    have HB := As.mk (And.intro hb hbm)
    clear hcell9 hmq hb hbm ho
    go_wp2_with fail
    have hO1 := HO.out.alloc (.cells #[.int .i64 (b.at_ : Int), .int .i64 (b.k : Int)] 99)
    have m0 : (wr.alloc (.cells #[.int .i64 (b.at_ : Int), .int .i64 (b.k : Int)] 99)).cell? ⟨wr.heap.size, 0, none⟩ = some (.int .i64 (b.at_ : Int)) := by simp
    have z11' := cell_below (box_below wr (.cells #[.int .i64 (b.at_ : Int), .int .i64 (b.k : Int)] 99)) z11
    obtain ⟨w1, hw1⟩ : ∃ x, x = wr.alloc (.cells #[.int .i64 (b.at_ : Int), .int .i64 (b.k : Int)] 99) := ⟨_, rfl⟩
    obtain ⟨q1, hq1⟩ : ∃ x, x = wr.heap.size := ⟨_, rfl⟩
    rw [← hw1] at hO1 z11'
    rw [← hw1, ← hq1] at m0
    simp only [← hw1, ← hq1]
    clear hw1 hq1 y0 y1 z11 HO
    have lk1 := HLK.out w1.drew ((hO1.drewN 1).rest.toBelow) b HB.out.2
    refine rgn [(0, 1), (1, 1), (2, 1), (3, 1), (4, 0), (5, 1), (6, 0), (7, 1), (8, 0), (9, 3), (10, 3), (11, 1)] [9, 10] (fun W => W.cell? ⟨h, 11, none⟩ = some (.map (some d.gm)) ∧ W.cell? ⟨q1, 0, none⟩ = some (.int .i64 (b.at_ : Int)) ∧ (Instr.lookup 77 (.map (some d.gm)) (.agg #[.int .i64 (b.at_ : Int)]) false).run Tryz.prog W = .ok (.agg #[.int .i64 (b.at_ : Int), .int .i64 (b.ch c : Int), .int .i64 (b.asked : Int)]) W) (by kernel_rfl) (by kernel_rfl) (fun _ _ _ d _ h => by cases d <;> exact h) ⟨z11', m0, lk1⟩ ?_
    obtain ⟨w2, hw2⟩ : ∃ x, x = w1.drew := ⟨_, rfl⟩
    have hO2 := hO1.drewN 1
    rw [show w1.drewN 1 = w1.drew from rfl] at hO2
    rw [show w1.cell? ⟨h, 11, none⟩ = w1.drew.cell? ⟨h, 11, none⟩ from rfl] at z11'
    rw [show w1.cell? ⟨q1, 0, none⟩ = w1.drew.cell? ⟨q1, 0, none⟩ from rfl] at m0
    rw [← hw2] at hO2 z11' m0 ⊢
    clear hw2 lk1 hO1
    iterate 4 (refine Run.pu (v := ?_) (a' := ?_) rfl rfl (Or.inl ⟨by rfl, ?_⟩) ?_ ?_; rotate_left 2; (focus (intro W; go_simp; with_reducible rfl)); (focus (simp only [Act.put, zq4, zq5, zq6]; rfl)))
    refine Run.rd (v := ?_) (a' := ?_) rfl rfl (Or.inl ⟨by rfl, ?_⟩) ?_ ?_; rotate_left 2; (focus (rintro W ⟨hW1, hW2, hW3⟩; go_simp; with_reducible rfl)); (focus (simp only [Act.put, zq4, zq5, zq6]; rfl))
    refine Run.pu (v := ?_) (a' := ?_) rfl rfl (Or.inl ⟨by rfl, ?_⟩) ?_ ?_; rotate_left 2; (focus (intro W; go_simp; with_reducible rfl)); (focus (simp only [Act.put, zq4, zq5, zq6]; rfl))
    refine Run.rd (v := ?_) (a' := ?_) rfl rfl (Or.inl ⟨by rfl, ?_⟩) ?_ ?_; rotate_left 2; (focus (rintro W ⟨hW1, hW2, hW3⟩; go_simp; with_reducible rfl)); (focus (simp only [Act.put, zq4, zq5, zq6]; rfl))
    refine Run.pu (v := ?_) (a' := ?_) rfl rfl (Or.inl ⟨by rfl, ?_⟩) ?_ ?_; rotate_left 2; (focus (intro W; go_simp; with_reducible rfl)); (focus (simp only [Act.put, zq4, zq5, zq6]; rfl))
    refine Run.rd (v := ?_) (a' := ?_) rfl rfl (Or.inl ⟨by rfl, ?_⟩) ?_ ?_; rotate_left 2; (focus (rintro W ⟨hW1, hW2, hW3⟩; go_simp; with_reducible rfl)); (focus (simp only [Act.put, zq4, zq5, zq6]; rfl))
    refine Run.la rfl (fun K hK => ?_)
    simp only [zq1, zq2, zq3]
    have hO3 := hO2.alloc (.cells #[.int .i64 (b.at_ : Int), .int .i64 (b.ch c : Int), .int .i64 (b.asked : Int)] 48)
    have HO3 := As.mk hO3
    clear z11' m0 hO2 hO3
    go_wp2
    refine hK.out _ _ ?_
    clear hK K
    refine Run.la rfl (fun K hK => ?_)
    simp only [zq1, zq2, zq3]
    refine go_app w rfl _ _ 43 48 _ 3 24 rfl Tryz.underlying43 info48 rfl (by decide) u2 q _ (by simp [Act.eval]) ⟨w2.heap.size, 0, none⟩ 1 1 [.int .i64 (b.at_ : Int), .int .i64 (b.ch c : Int), .int .i64 (b.asked : Int)] (by simp [Act.eval]) HO3.out rfl (news _) (by
     intro u hu
     simp at hu
     rcases hu with rfl | rfl | rfl <;> rfl) (by simp only [maxLen]; omega) (by omega) ?_
    intro v1 w3 hw3
    have HO4 := As.mk hw3
    clear hw3 HO3
    go_wp2
    refine hK.out _ _ ?_
    clear hK K
    refine Run.pu (v := ?_) (a' := ?_) rfl rfl (Or.inl ⟨by rfl, ?_⟩) ?_ ?_; rotate_left 2; (focus (intro W; go_simp; with_reducible rfl)); (focus (simp only [Act.put, zq4, zq5, zq6]; rfl))
    refine Run.nil ?_
    simp only [zq1, zq2, zq3]
    go_wp2
    go_roundw
    case rel => exact ⟨q + 1, by omega, by go_num, by rw [mbV_take c s.bl q b HB.out.1]; exact HO4.out⟩
    case measure => simp [intOf]; omega
  · have e1 : q = n := by omega
    subst e1
    have HF := As.mk (show OwnS [] [] (fun _ => True) w wr 48 3 u2 q (mbV (s.bl.map (Bk.mb c))) by have h9 := HO.out; rw [HN.out, List.take_length, ← HN.out] at h9; exact h9)
    clear ho HO
    go_wp2
    go_ret
    exact ⟨_, rfl, HF.out⟩
section
variable {h : Nat} {c : Cf} {s : Hs} {mem : List Nat} {L L' G : List (Nat × (Obj → Prop))} {R Rn : World → Prop} {w0 w w1 : World} {e sz n : Nat} {v : Value} {xs : List Value}
theorem HW.opn2 (H : HW h c s mem L R w0 w) :
 ∃ (Q : List (Nat × (Obj → Prop))) (R' : World → Prop), Own [] (Q ++ L) (fun W => R W ∧ R' W) w0 w ∧ ∀ (L' : List (Nat × (Obj → Prop))) (Rn : World → Prop) (w' : World), Own [] (Q ++ L') (fun W => Rn W ∧ R' W) w0 w' → HW h c s mem L' Rn w0 w' := by
 obtain ⟨a, d, b1, b2', b3⟩ := H.opn
 exact ⟨hO h c s mem d, fun W => hR c s d W, b3, fun L' Rn w' ho => HW.mk a b1 b2' ho⟩
/-- a callee's slice is the walk's own from here on -/
theorem HW.takeS (H : HW h c s mem L R w0 w) (ho : OwnS [] [] (fun _ => True) w w1 e sz v n xs) : ∃ G, SG w0 e sz v n xs G ∧ HW h c s mem (G ++ L) R w0 w1 := by
 obtain ⟨Q, R', h1, h2⟩ := H.opn2
 have hb : Below w.heap.size w w1 := ho.rest.toBelow
 rcases ho.2 with ⟨a1, a2, a3⟩ | ⟨g, cap, a1, a2, a3⟩
 · exact ⟨[], ⟨ho.1, Or.inl ⟨a1, a2, rfl⟩⟩, H.below hb⟩
 · obtain ⟨x, hx, hp⟩ := a3.at_ _ _ me0
   refine ⟨[(g, ES e sz n cap xs)], ⟨ho.1, Or.inr ⟨g, cap, a1, Nat.le_trans h1.size a2, rfl⟩⟩, h2 _ _ _ ((h1.add hb a2 hx hp).permL ?_)⟩
   exact List.perm_middle
theorem HW.join (hs : SG w0 e sz v n xs G) (H : HW h c s mem (G ++ L) R w0 w) :
 ∃ (Q : List (Nat × (Obj → Prop))) (R' : World → Prop), OwnS [] (Q ++ L) R' w0 w e sz v n xs ∧ ∀ (n' : Nat) (v' : Value) (xs' : List Value) (w' : World), OwnS [] (Q ++ L) R' w0 w' e sz v' n' xs' → ∃ G', SG w0 e sz v' n' xs' G' ∧ HW h c s mem (G' ++ L) R w0 w' := by
 obtain ⟨Q, R', h1, h2⟩ := H.opn2
 refine ⟨Q, _, hs.join (h1.permL ?_), fun n' v' xs' w' k => ?_⟩
 · rw [← List.append_assoc, ← List.append_assoc]
   exact List.perm_append_comm.append_right _
 · obtain ⟨G', g1, g2⟩ := k.split
   refine ⟨G', g1, h2 _ _ _ (g2.permL ?_)⟩
   rw [← List.append_assoc, ← List.append_assoc]
   exact List.perm_append_comm.append_right _
theorem HW.keep (hs : SG w0 e sz v n xs G) (H : HW h c s mem (G ++ L) R w0 w) : HW h c s mem L (fun W => R W ∧ Row W v n xs) w0 w := by
 obtain ⟨Q, R', h1, h2⟩ := H.opn2
 have h3 : OwnS [] (Q ++ L) (fun W => R W ∧ R' W) w0 w e sz v n xs := by
  refine hs.join (h1.permL ?_)
  rw [← List.append_assoc, ← List.append_assoc]
  exact List.perm_append_comm.append_right _
 exact h2 _ _ _ (h3.freeze.imp fun W hW => ⟨⟨hW.1.1, hW.2⟩, hW.1.2⟩)
end
end Go.Proofs.YtmookafmdonopaaGreat.Top
