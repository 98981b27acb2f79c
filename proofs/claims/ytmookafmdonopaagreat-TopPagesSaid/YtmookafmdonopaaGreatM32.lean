/- wire: Take walked (for the calls that begun asks). -/
import Derived.Test.YtmookafmdonopaaGreatM31
/- wire: Take walked (for the calls that begun asks). -/
namespace Go.Proofs.YtmookafmdonopaaGreat.Top
open Go Go.RowKit
set_option linter.unusedVariables false
set_option linter.unusedSimpArgs false
attribute [local go_sem] max2_int min2_int max_two min_two max_three

def slN : Value → Nat
 | .slice _ n _ => n
 | _ => 0
theorem World.rangeAt_alloc {w : World} {g o : Nat} {cs : List Value} (h : w.rangeAt g o cs) (x : Obj) : (w.alloc x).rangeAt g o cs := fun j v hj => cell_below ((Below.refl w.heap.size w).alloc (Nat.le_refl _) x) (h j v hj)
set_option maxHeartbeats 4000000 in
set_option maxRecDepth 100000 in
theorem wire_Take (ss : List Int) (hss : ∀ s ∈ ss, s = 1 ∨ s = 3) (hl : ss.length ≤ 20) (bb oo cp : Nat) (w : World) (hcp : 4 * ss.length ≤ cp) (h : ∀ i u, (uV (ss.flatMap b4))[i]? = some u → w.cell? ⟨bb, oo + i, none⟩ = some u) :
 Calls Tryz.prog 74 #[.slice (some ⟨bb, oo, none⟩) (4 * ss.length) cp] w fun e w' => (∃ v, e = .returned v ∧ Fr w.heap.size w' 42 v ss.length (opV (ss.map mo))) ∧ Below w.heap.size w w' := by
 have HSS := As.mk hss
 have HC := As.mk h
 obtain ⟨n, hn⟩ : ∃ n, n = ss.length := ⟨_, rfl⟩
 rw [← hn] at hl hcp ⊢
 have HN := As.mk hn
 clear hss h hn
 go_enter Tryz.func74, Tryz.ntmps74
 go_wp2_with fail
 go_loopw [0, 2] (fun b l wr => ∃ (k ln o c : Nat), k ≤ n ∧ ln = 4 * (n - k) ∧ b = .slice (some ⟨bb, o, none⟩) ln c ∧ ln ≤ c ∧ As (∀ i u, (uV ((ss.drop k).flatMap b4))[i]? = some u → w.cell? ⟨bb, o + i, none⟩ = some u) ∧ OwnS [] [] (fun _ => True) w wr 42 6 l k (opV ((ss.take k).map mo))) (fun b _ _ => slN b)
 case atStart => exact ⟨0, 4 * n, oo, cp, Nat.zero_le _, by omega, rfl, hcp, ⟨HC.out⟩, OwnS.nil (Own.start w) 42 6⟩
 case round =>
  obtain ⟨k, ln, o, c, hk, hln, rfl, hlc, HD, ho⟩ := hrel
  have HO := As.mk ho
  have HLN := As.mk hln
  clear ho
  by_cases hkn : k < n
  · obtain ⟨s, hs⟩ : ∃ s, ss[k]? = some s := ⟨ss[k]'(by have := HN.out; omega), List.getElem?_eq_getElem _⟩
    have hs13 := HSS.out s (List.mem_of_getElem? hs)
    have hdr : ss.drop k = s :: ss.drop (k + 1) := by
     rw [List.drop_eq_getElem_cons (by have := HN.out; omega)]
     congr 1
     rw [List.getElem?_eq_getElem (by have := HN.out; omega)] at hs
     exact Option.some.inj hs
    have htk : (ss.take (k + 1)).map mo = (ss.take k).map mo ++ [mo s] := by
     rw [List.take_add_one, hs]
     simp
    have hcell : ∀ i u, (uV ((s :: ss.drop (k + 1)).flatMap b4))[i]? = some u → w.cell? ⟨bb, o + i, none⟩ = some u := hdr ▸ HD.out
    have y0 := cell_below HO.out.rest.toBelow (hcell 0 (.int .u8 1) (by simp [uV, b4]))
    have Y1 := As.mk (And.intro (hcell 1 (.int .u8 0) (by simp [uV, b4])) (And.intro (hcell 2 (.int .u8 0) (by simp [uV, b4])) (hcell 3 (.int .u8 s) (by simp [uV, b4]))))
    have HNX := As.mk (fun i u (hu : (uV ((ss.drop (k + 1)).flatMap b4))[i]? = some u) => show w.cell? ⟨bb, o + 4 + i, none⟩ = some u from by
     have := hcell (4 + i) u (by
      simp only [List.flatMap_cons, uV, List.map_append]
      rw [List.getElem?_append_right (by simp [b4]), show 4 + i - ((b4 s).map fun x => Value.int .u8 x).length = i by simp [b4]]
      exact hu)
     rw [Nat.add_assoc]
     exact this)
    have HTK := As.mk htk
    rw [Nat.add_zero] at y0
    clear hcell hdr htk hs
    have hln4 : 4 ≤ ln ∧ ln ≤ 80 := by omega
    have q0 : (0 < ln) = True := eq_true (by omega)
    have q1 : (0 < (ln : Int)) = True := eq_true (by omega)
    have q2 : (c = 1) = False := eq_false (by omega)
    have q3 : ((1 : Int) ≤ (ln : Int)) = True := eq_true (by omega)
    have q4 : (1 ≤ ln) = True := eq_true (by omega)
    clear hln
    go_wp2_with fail
    obtain ⟨l1, hl1⟩ : ∃ x, x = ln - 1 := ⟨_, rfl⟩
    obtain ⟨c1, hc1⟩ : ∃ x, x = c - 1 := ⟨_, rfl⟩
    obtain ⟨o1, ho1⟩ : ∃ x, x = o + 1 := ⟨_, rfl⟩
    rw [← hl1, ← hc1, ← ho1]
    have hb1 : 3 ≤ l1 ∧ l1 ≤ c1 ∧ l1 ≤ 79 := by omega
    have z := Y1.out
    rw [← ho1, show o + 2 = o1 + 1 by omega, show o + 3 = o1 + 2 by omega] at z
    have HL1 := As.mk (And.intro hl1 (And.intro hc1 ho1))
    clear hl1 hc1 ho1 q0 q1 q2 q3 q4 Y1 y0
    refine (wire_one s hs13 bb o1 l1 c1 wr hb1.1 hb1.2.1 (by omega) (cell_below HO.out.rest.toBelow z.1) (cell_below HO.out.rest.toBelow z.2.1) (cell_below HO.out.rest.toBelow z.2.2)).mono ?_
    rintro e w5 ⟨rfl, hb⟩
    have hmo : (mo s).cs.toArray = #[.int .i64 1, .int .i64 0, .int .i64 s, .int .i64 0, .int .i64 0, .int .u8 0] := rfl
    simp only [hmo]
    have hos := HO.out.below hb
    have hbx : OwnS [] [] (fun _ => True) w (w5.alloc (.cells #[.int .i64 1, .int .i64 0, .int .i64 s, .int .i64 0, .int .i64 0, .int .u8 0] 42)) 42 6 u2 k (opV ((ss.take k).map mo)) := hos.alloc _
    have hg : (w5.alloc (.cells #[.int .i64 1, .int .i64 0, .int .i64 s, .int .i64 0, .int .i64 0, .int .u8 0] 42)).rangeAt w5.heap.size 0 [.int .i64 1, .int .i64 0, .int .i64 s, .int .i64 0, .int .i64 0, .int .u8 0] := fun j v hj => by simpa using hj
    obtain ⟨w6, hw6⟩ : ∃ x, x = w5.alloc (.cells #[.int .i64 1, .int .i64 0, .int .i64 s, .int .i64 0, .int .i64 0, .int .u8 0] 42) := ⟨_, rfl⟩
    rw [← hw6] at hbx hg
    obtain ⟨g4, hg4⟩ : ∃ x, x = w5.heap.size := ⟨_, rfl⟩
    rw [← hg4] at hg
    have HO6 := As.mk hbx
    have HG := As.mk hg
    have hone : ∀ u ∈ ([.int .i64 1, .int .i64 0, .int .i64 s, .int .i64 0, .int .i64 0, .int .u8 0] : List Value), u.oneCell' = true := (mo s).one
    clear hmo hos hbx hg hb z HO
    obtain ⟨o2, ho2, ho2'⟩ : ∃ o2 : Nat, (if c1 = 3 then some (⟨bb, o1, none⟩ : Addr) else some ⟨bb, o1 + 3, none⟩) = some ⟨bb, o2, none⟩ ∧ (c1 ≠ 3 → o2 = o1 + 3) := by
     by_cases hc : c1 = 3
     · exact ⟨o1, if_pos hc, fun h => absurd hc h⟩
     · exact ⟨o1 + 3, if_neg hc, fun _ => rfl⟩
    have HAD := As.mk ho2
    have HO2 := As.mk ho2'
    clear ho2 ho2'
    go_wp2_with fail
    rw [← hw6, ← hg4]
    clear hw6 hg4
    have q3 : ((3 : Int) ≤ (l1 : Int)) = True := eq_true (by omega)
    have q4 : (3 ≤ l1) = True := eq_true (by omega)
    refine rgn [(0, 1), (1, 0), (4, 1), (5, 1), (6, 1), (2, 2), (3, 3), (7, 1), (8, 1)] [3] (fun W => W.rangeAt g4 0 [.int .i64 1, .int .i64 0, .int .i64 s, .int .i64 0, .int .i64 0, .int .u8 0]) (by kernel_rfl) (by kernel_rfl) (fun _ _ _ d _ h => by cases d <;> exact h) HG.out ?_
    have HOD := As.mk (HO6.out.drewN 1)
    have HG7 : As ((w6.drewN 1).rangeAt g4 0 [.int .i64 1, .int .i64 0, .int .i64 s, .int .i64 0, .int .i64 0, .int .u8 0]) := HG
    obtain ⟨w7, hw7⟩ : ∃ x, x = w6.drewN 1 := ⟨_, rfl⟩
    rw [← hw7] at HOD HG7
    rw [show w6.drew = w7 from hw7.symm]
    clear HO6 hw7
    refine Run.pu (v := ?_) (a' := ?_) rfl rfl (Or.inl ⟨by rfl, ?_⟩) ?_ ?_; rotate_left 2; (focus (intro W; go_simp; with_reducible rfl)); (focus (simp only [Act.put, zq4, zq5, zq6]; rfl))
    refine Run.rd (v := .agg #[.int .i64 1, .int .i64 0, .int .i64 s, .int .i64 0, .int .i64 0, .int .u8 0]) (a' := ?_) rfl rfl (yieldsIf_load_mid rfl 42 (.tmp 4) rfl g4 0 rfl [.int .i64 1, .int .i64 0, .int .i64 s, .int .i64 0, .int .i64 0, .int .u8 0] _ (fun W hW => hW) Tryz.underlying42 rfl size42) ?_ ?_
    rotate_left 1
    · simp only [zq1, zq2, zq3, Act.put, zq4, zq5, zq6]; rfl
    iterate 2 (refine Run.pu (v := ?_) (a' := ?_) rfl rfl (Or.inl ⟨by rfl, ?_⟩) ?_ ?_; rotate_left 2; (focus (intro W; go_simp; with_reducible rfl)); (focus (simp only [zq1, zq2, zq3, Act.put, zq4, zq5, zq6]; rfl)))
    refine Run.pu (v := ?_) (a' := ?_) rfl rfl (Or.inl ⟨by rfl, ?_⟩) ?_ ?_
    rotate_left 2
    · intro W; go_simp; simp only [HAD.out]; with_reducible rfl
    · simp only [zq1, zq2, zq3, Act.put, zq4, zq5, zq6]; rfl
    refine Run.ef rfl (fun K hK => ?_)
    simp only [zq1, zq2, zq3]
    try simp only [zq4, zq5, zq6]
    have HGD : As (w7.rangeAt g4 0 [.int .i64 1, .int .i64 0, .int .i64 s, .int .i64 0, .int .i64 0, .int .u8 0]) := HG7
    have HOA := As.mk (HOD.out.alloc (.cells #[.int .i64 1, .int .i64 0, .int .i64 s, .int .i64 0, .int .i64 0, .int .u8 0] 42))
    have HGA := As.mk (World.rangeAt_alloc HGD.out (.cells #[.int .i64 1, .int .i64 0, .int .i64 s, .int .i64 0, .int .i64 0, .int .u8 0] 42))
    go_wp2_with fail
    refine hK.out _ _ HGA.out ?_
    clear hK K
    refine Run.la rfl (fun K hK => ?_)
    simp only [zq1, zq2, zq3]
    try simp only [zq4, zq5, zq6]
    refine go_app w rfl _ _ 36 42 _ 6 48 rfl Tryz.underlying36 info42 rfl (by decide) u2 k (opV ((ss.take k).map mo)) rfl ⟨w7.heap.size, 0, none⟩ 1 1 [.int .i64 1, .int .i64 0, .int .i64 s, .int .i64 0, .int .i64 0, .int .u8 0] rfl HOA.out rfl (news _) hone (by simp only [maxLen]; omega) (by omega) ?_
    intro v1 w8 hw
    have hw2 : OwnS [] [] (fun _ => True) w w8 42 6 v1 (k + 1) (opV ((ss.take (k + 1)).map mo)) := by rw [HTK.out, opV_snoc]; exact hw
    have HW := As.mk hw2
    clear hw hw2 HOA HGA HGD HOD
    go_wp2
    refine hK.out _ _ ?_
    clear hK K
    iterate 2 (refine Run.pu (v := ?_) (a' := ?_) rfl rfl (Or.inl ⟨by rfl, ?_⟩) ?_ ?_; rotate_left 2; (focus (intro W; go_simp; with_reducible rfl)); (focus (simp only [zq1, zq2, zq3, Act.put, zq4, zq5, zq6]; rfl)))
    refine Run.nil ?_
    try simp only [zq1, zq2, zq3]
    try simp only [zq4, zq5, zq6]
    go_wp2_with fail
    go_roundw
    case rel =>
     obtain ⟨e1, e2, e3⟩ := HL1.out
     have e4 := HLN.out
     refine ⟨k + 1, l1 - 3, o2, c1 - 3, by omega, by omega, rfl, by omega, ⟨fun i u hu => ?_⟩, HW.out⟩
     by_cases hc : c1 = 3
     · have e5 : ss.drop (k + 1) = [] := List.drop_eq_nil_of_le (by have := HN.out; omega)
       rw [e5] at hu
       simp [uV] at hu
     · have e6 := HO2.out hc
       have := HNX.out i u hu
       rw [show o2 + i = o + 4 + i by omega]
       exact this
    case measure => simp only [slN]; have := HL1.out.1; omega
  · have e : k = n := by omega
    have e0 : ln = 0 := by omega
    subst e0
    rw [e] at HO
    have e7 : ss.take n = ss := List.take_of_length_le (by have := HN.out; omega)
    rw [e7] at HO
    clear hln HLN HD
    go_wp2_with fail
    go_ret
    exact ⟨⟨_, rfl, HO.out.fr⟩, HO.out.rest.toBelow⟩
end Go.Proofs.YtmookafmdonopaaGreat.Top
/- wire: Put walked (for the calls that begun asks). -/
namespace Go.Proofs.YtmookafmdonopaaGreat.Top
open Go Go.RowKit
set_option linter.unusedVariables false
set_option linter.unusedSimpArgs false
attribute [local go_sem] max2_int min2_int max_two min_two max_three

set_option maxHeartbeats 4000000 in
set_option maxRecDepth 100000 in
theorem wire_Put (ss : List Int) (hss : ∀ s ∈ ss, s = 1 ∨ s = 3) (hl : ss.length ≤ 20) (bb oo cp : Nat) (w : World) (hcp : ss.length ≤ cp) (h : ∀ i u, (opV (ss.map mo))[i]? = some u → w.cell? ⟨bb, oo + i, none⟩ = some u) :
 Calls Tryz.prog 53 #[.slice (some ⟨bb, oo, none⟩) ss.length cp] w fun e w' => (∃ v, e = .returned v ∧ Fr w.heap.size w' 5 v (4 * ss.length) (uV (ss.flatMap b4))) ∧ Below w.heap.size w w' := by
 have HSS := As.mk hss
 have HC := As.mk h
 obtain ⟨n, hn⟩ : ∃ n, n = ss.length := ⟨_, rfl⟩
 rw [← hn] at hl hcp ⊢
 have HN := As.mk hn
 clear hss h hn
 go_enter Tryz.func53, Tryz.ntmps53
 go_wp2_with fail
 go_loopw [2, 9] (fun v i wr => ∃ (k k4 : Nat), k ≤ n ∧ k4 = 4 * k ∧ i = .int .i64 (k : Int) ∧ OwnS [] [] (fun _ => True) w wr 5 1 v k4 (uV ((ss.take k).flatMap b4))) (fun _ i _ => n - (intOf i).toNat)
 case atStart => exact ⟨0, 0, Nat.zero_le _, rfl, rfl, OwnS.nil (Own.start w) 5 1⟩
 case round =>
  obtain ⟨k, k4, hk, hk4, rfl, ho⟩ := hrel
  have HO := As.mk ho
  by_cases hkn : k < n
  · obtain ⟨s, hs⟩ : ∃ s, ss[k]? = some s := ⟨ss[k]'(by have := HN.out; omega), List.getElem?_eq_getElem _⟩
    have hs13 := HSS.out s (List.mem_of_getElem? hs)
    have htk : (ss.take (k + 1)).flatMap b4 = (ss.take k).flatMap b4 ++ b4 s := by
     rw [List.take_add_one, hs]
     simp
    have HTK := As.mk htk
    have HRG : As (wr.rangeAt bb (oo + k * 6) [.int .i64 1, .int .i64 0, .int .i64 s, .int .i64 0, .int .i64 0, .int .u8 0]) := ⟨fun j v hj => by
     rw [Nat.add_assoc]
     exact cell_below ho.rest.toBelow (HC.out _ v (opV_at (ss.map mo) k (mo s) (by simp [hs]) j v hj))⟩
    have hbx : OwnS [] [] (fun _ => True) w (wr.alloc (.cells #[.int .i64 1, .int .i64 0, .int .i64 s, .int .i64 0, .int .i64 0, .int .u8 0] 42)) 5 1 u2 k4 (uV ((ss.take k).flatMap b4)) := ho.alloc _
    have hg : (wr.alloc (.cells #[.int .i64 1, .int .i64 0, .int .i64 s, .int .i64 0, .int .i64 0, .int .u8 0] 42)).rangeAt wr.heap.size 0 [.int .i64 1, .int .i64 0, .int .i64 s, .int .i64 0, .int .i64 0, .int .u8 0] := fun j v hj => by simpa using hj
    obtain ⟨w6, hw6⟩ : ∃ x, x = wr.alloc (.cells #[.int .i64 1, .int .i64 0, .int .i64 s, .int .i64 0, .int .i64 0, .int .u8 0] 42) := ⟨_, rfl⟩
    obtain ⟨g4, hg4⟩ : ∃ x, x = wr.heap.size := ⟨_, rfl⟩
    have hgl : g4 < w6.heap.size := by rw [hg4, hw6, World.size_alloc]; omega
    rw [← hw6] at hbx hg
    rw [← hg4] at hg
    have HO6 := As.mk hbx
    have HG := As.mk hg
    clear hs htk ho hbx hg HO
    go_wp2_with (refine wpList_load_mid rfl 42 (.tmp 11) rfl bb (oo + k * 6) rfl [.int .i64 1, .int .i64 0, .int .i64 s, .int .i64 0, .int .i64 0, .int .u8 0] _ HRG.out Tryz.underlying42 rfl size42 ?_)
    rw [← hw6, ← hg4]
    clear hw6 hg4 HRG
    refine (wire_put s hs13 w6).mono ?_
    rintro e w7 ⟨⟨v, rfl, hfr⟩, hb⟩
    obtain ⟨gc, capc, xc, rfl, hcc, -⟩ := hfr.form (by omega)
    obtain ⟨bc, oc, hA, -, hcell⟩ := hfr.now.cell' (by simp [uV, b4])
    simp only [Option.some.injEq, Addr.mk.injEq, and_true] at hA
    obtain ⟨rfl, rfl⟩ := hA
    have HO7 := As.mk (HO6.out.below hb)
    have HG7 : As (w7.rangeAt g4 0 [.int .i64 1, .int .i64 0, .int .i64 s, .int .i64 0, .int .i64 0, .int .u8 0]) := ⟨fun j v hj => cell_below (hb.mono (Nat.le_refl _)) (HG.out j v hj)⟩
    have HCC := As.mk hcell
    have HTA := As.mk (show Calls Tryz.prog 74 #[.slice (some ⟨gc, 0, none⟩) 4 capc] w7 fun e w' => (∃ v, e = .returned v ∧ Fr w7.heap.size w' 42 v 1 (opV [mo s])) ∧ Below w7.heap.size w7 w' from wire_Take [s] (by intro x hx; rw [List.mem_singleton.1 hx]; exact hs13) (by simp) gc 0 capc w7 (by simpa using hcc) (by intro i u hu; exact hcell i u (by simpa using hu)))
    clear hb hfr hcell HO6 HG
    go_wp2_with fail
    refine HTA.out.mono ?_
    rintro e w8 ⟨⟨v, rfl, hfx⟩, hb⟩
    obtain ⟨gx, capx, xx, rfl, hcx, -⟩ := hfx.form (by decide)
    obtain ⟨bx, ox, hA, -, hcell⟩ := hfx.now.cell' (by simp [opV, mo, Opp.cs])
    simp only [Option.some.injEq, Addr.mk.injEq, and_true] at hA
    obtain ⟨rfl, rfl⟩ := hA
    have HO8 := As.mk (HO7.out.below hb)
    have HG8 : As (w8.rangeAt g4 0 [.int .i64 1, .int .i64 0, .int .i64 s, .int .i64 0, .int .i64 0, .int .u8 0]) := ⟨fun j v hj => cell_below hb (HG7.out j v hj)⟩
    have HX8 : As (w8.rangeAt gx 0 [.int .i64 1, .int .i64 0, .int .i64 s, .int .i64 0, .int .i64 0, .int .u8 0]) := ⟨fun j v hj => hcell j v (by simpa [opV, mo, Opp.cs] using hj)⟩
    have HC8 := As.mk (fun i u hu => cell_below hb (HCC.out i u hu))
    clear hb hfx hcell HO7 HG7 HCC HTA
    go_wp2_with fail
    refine rgn [(0, 1), (1, 1), (2, 1), (3, 1), (4, 1), (5, 1), (6, 0), (7, 0), (8, 1), (9, 1)] [] (fun W => W.rangeAt gx 0 [.int .i64 1, .int .i64 0, .int .i64 s, .int .i64 0, .int .i64 0, .int .u8 0] ∧ W.rangeAt g4 0 [.int .i64 1, .int .i64 0, .int .i64 s, .int .i64 0, .int .i64 0, .int .u8 0]) (by kernel_rfl) (by kernel_rfl) (fun _ _ _ d _ h => by cases d <;> exact h) ⟨HX8.out, HG8.out⟩ ?_
    iterate 6 (refine Run.pu (v := ?_) (a' := ?_) rfl rfl (Or.inl ⟨by rfl, ?_⟩) ?_ ?_; rotate_left 2; (focus (intro W; go_simp; with_reducible rfl)); (focus (simp only [zq1, zq2, zq3, Act.put, zq4, zq5, zq6]; rfl)))
    refine Run.rd (v := .agg #[.int .i64 1, .int .i64 0, .int .i64 s, .int .i64 0, .int .i64 0, .int .u8 0]) (a' := ?_) rfl rfl (yieldsIf_load_mid rfl 42 (.tmp 22) rfl gx 0 rfl [.int .i64 1, .int .i64 0, .int .i64 s, .int .i64 0, .int .i64 0, .int .u8 0] _ (fun W hW => hW.1) Tryz.underlying42 rfl size42) ?_ ?_
    rotate_left 1
    · simp only [zq1, zq2, zq3, Act.put, zq4, zq5, zq6]; rfl
    refine Run.rd (v := .agg #[.int .i64 1, .int .i64 0, .int .i64 s, .int .i64 0, .int .i64 0, .int .u8 0]) (a' := ?_) rfl rfl (yieldsIf_load_mid rfl 42 (.tmp 4) rfl g4 0 rfl [.int .i64 1, .int .i64 0, .int .i64 s, .int .i64 0, .int .i64 0, .int .u8 0] _ (fun W hW => hW.2) Tryz.underlying42 rfl size42) ?_ ?_
    rotate_left 1
    · simp only [zq1, zq2, zq3, Act.put, zq4, zq5, zq6]; rfl
    iterate 2 (refine Run.pu (v := ?_) (a' := ?_) rfl rfl (Or.inl ⟨by rfl, ?_⟩) ?_ ?_; rotate_left 2; (focus (intro W; go_simp; with_reducible rfl)); (focus (simp only [zq1, zq2, zq3, Act.put, zq4, zq5, zq6]; rfl)))
    refine Run.nil ?_
    try simp only [zq1, zq2, zq3]
    try simp only [zq4, zq5, zq6]
    have HO9 := As.mk (HO8.out.drewN 1)
    have HC9 : As (∀ i u, (uV (b4 s))[i]? = some u → (w8.drewN 1).cell? ⟨gc, 0 + i, none⟩ = some u) := HC8
    obtain ⟨w9, hw9⟩ : ∃ x, x = w8.drewN 1 := ⟨_, rfl⟩
    rw [← hw9] at HO9 HC9
    rw [show w8.drew = w9 from hw9.symm]
    clear hw9 HO8 HC8 HG8 HX8
    go_wp2_with (at_builtin; refine go_app w rfl _ _ 22 5 _ 1 1 rfl Tryz.underlying22 info5 rfl (by decide) u2 k4 (uV ((ss.take k).flatMap b4)) rfl ⟨gc, 0, none⟩ 4 capc (uV (b4 s)) rfl HO9.out (by simp [uV, b4]) (fun i u hu => by rw [Addr.add_mid]; exact HC9.out i u hu) (uV_one _) (by simp only [maxLen]; omega) (by omega) ?_; intro v1 w10 hw; have HW : As (OwnS [] [] (fun _ => True) w w10 5 1 v1 (k4 + 4) (uV ((ss.take (k + 1)).flatMap b4))) := As.mk (by rw [HTK.out, uV, List.map_append]; exact hw); clear hw)
    go_roundw
    case rel => exact ⟨k + 1, k4 + 4, by omega, by omega, by go_num, HW.out⟩
    case measure => simp [intOf]; omega
  · have e : k = n := by omega
    clear hkn hk
    rw [e]
    rw [e] at hk4
    rw [e] at ho
    have e7 : ss.take n = ss := List.take_of_length_le (by have := HN.out; omega)
    rw [e7, hk4] at ho
    have HO := As.mk ho
    clear ho e e7
    go_wp2_with fail
    go_ret
    exact ⟨⟨_, rfl, HO.out.fr⟩, HO.out.rest.toBelow⟩
end Go.Proofs.YtmookafmdonopaaGreat.Top
/- play: Encode walked (for what begun asks). -/
namespace Go.Proofs.YtmookafmdonopaaGreat.Top
open Go Go.RowKit
set_option linter.unusedVariables false
set_option linter.unusedSimpArgs false
attribute [local go_sem] max2_int min2_int max_two min_two max_three

def rs5 : List Int := [1, 4, 8, 4, 6]
def h3 (x : Int) : List Int := [0, 0, x]
def raw0 : Rw := ⟨1, 4, 8, 4, 6, 0⟩
def by24 : List Int := rs5.flatMap h3 ++ [0] ++ [3, 1].flatMap b4
set_option maxHeartbeats 4000000 in
set_option maxRecDepth 100000 in
theorem play_Encode (bb oo cp : Nat) (w : World) (hcp : 2 ≤ cp) (h : ∀ i u, (opV [mo 3, mo 1])[i]? = some u → w.cell? ⟨bb, oo + i, none⟩ = some u) :
 Calls Tryz.prog 31 #[.agg raw0.cs.toArray, .slice (some ⟨bb, oo, none⟩) 2 cp] w fun e w' => (∃ v, e = .returned v ∧ Fr w.heap.size w' 5 v 24 (uV by24)) ∧ Below w.heap.size w w' := by
 have HC := As.mk h
 have ho := (Own.start (X := []) w).box #[.int .i64 1, .int .i64 4, .int .i64 8, .int .i64 4, .int .i64 6, .int .i64 0] 25
 have HO := As.mk ho
 have z0 : (w.alloc (.cells #[.int .i64 1, .int .i64 4, .int .i64 8, .int .i64 4, .int .i64 6, .int .i64 0] 25)).cell? ⟨w.heap.size, 0, none⟩ = some (.int .i64 1) := ho.get me0 0 (by simp)
 have z1 : (w.alloc (.cells #[.int .i64 1, .int .i64 4, .int .i64 8, .int .i64 4, .int .i64 6, .int .i64 0] 25)).cell? ⟨w.heap.size, 1, none⟩ = some (.int .i64 4) := ho.get me0 1 (by simp)
 have z2 : (w.alloc (.cells #[.int .i64 1, .int .i64 4, .int .i64 8, .int .i64 4, .int .i64 6, .int .i64 0] 25)).cell? ⟨w.heap.size, 2, none⟩ = some (.int .i64 8) := ho.get me0 2 (by simp)
 have z3 : (w.alloc (.cells #[.int .i64 1, .int .i64 4, .int .i64 8, .int .i64 4, .int .i64 6, .int .i64 0] 25)).cell? ⟨w.heap.size, 3, none⟩ = some (.int .i64 4) := ho.get me0 3 (by simp)
 have z4 : (w.alloc (.cells #[.int .i64 1, .int .i64 4, .int .i64 8, .int .i64 4, .int .i64 6, .int .i64 0] 25)).cell? ⟨w.heap.size, 4, none⟩ = some (.int .i64 6) := ho.get me0 4 (by simp)
 have hraw : raw0.cs.toArray = #[.int .i64 1, .int .i64 4, .int .i64 8, .int .i64 4, .int .i64 6, .int .i64 0] := rfl
 rw [hraw]
 have hbx := ho.box #[.int .i64 1, .int .i64 4, .int .i64 8, .int .i64 4, .int .i64 6] 3
 rw [World.size_alloc] at hbx
 clear ho h hraw
 go_enter Tryz.func31, Tryz.ntmps31
 go_wp2_with fail
 obtain ⟨gl, hgl⟩ : ∃ g, g = w.heap.size + 1 := ⟨_, rfl⟩
 obtain ⟨w1, hw1⟩ : ∃ x, x = (w.alloc (.cells #[.int .i64 1, .int .i64 4, .int .i64 8, .int .i64 4, .int .i64 6, .int .i64 0] 25)).alloc (.cells #[.int .i64 1, .int .i64 4, .int .i64 8, .int .i64 4, .int .i64 6] 3) := ⟨_, rfl⟩
 rw [← hgl, ← hw1] at hbx ⊢
 have HO1 : As (Own [] [(gl, EC 3 [.int .i64 1, .int .i64 4, .int .i64 8, .int .i64 4, .int .i64 6]), (w.heap.size, EC 25 [.int .i64 1, .int .i64 4, .int .i64 8, .int .i64 4, .int .i64 6, .int .i64 0])] (fun _ => True) w w1) := As.mk hbx
 clear hbx HO z0 z1 z2 z3 z4 hw1 hgl
 go_loopw [4, 19] (fun v i wr => ∃ k : Nat, k ≤ 5 ∧ i = .int .i64 (k : Int) ∧ OwnS [] [(gl, EC 3 [.int .i64 1, .int .i64 4, .int .i64 8, .int .i64 4, .int .i64 6]), (w.heap.size, EC 25 [.int .i64 1, .int .i64 4, .int .i64 8, .int .i64 4, .int .i64 6, .int .i64 0])] (fun _ => True) w wr 5 1 v (3 * k) (uV ((rs5.take k).flatMap h3))) (fun _ i _ => 5 - (intOf i).toNat)
 case atStart => exact ⟨0, by omega, rfl, OwnS.nil HO1.out 5 1⟩
 case round =>
  obtain ⟨k, hk, rfl, ho⟩ := hrel
  have HO := As.mk ho
  have y0 : wr.cell? ⟨gl, 0, none⟩ = some (.int .i64 1) := ho.rest.get me0 0 (by simp)
  have y1 : wr.cell? ⟨gl, 1, none⟩ = some (.int .i64 4) := ho.rest.get me0 1 (by simp)
  have y2 : wr.cell? ⟨gl, 2, none⟩ = some (.int .i64 8) := ho.rest.get me0 2 (by simp)
  have y3 : wr.cell? ⟨gl, 3, none⟩ = some (.int .i64 4) := ho.rest.get me0 3 (by simp)
  have y4 : wr.cell? ⟨gl, 4, none⟩ = some (.int .i64 6) := ho.rest.get me0 4 (by simp)
  have s5 : wr.cell? ⟨w.heap.size, 5, none⟩ = some (.int .i64 0) := ho.rest.get me1 5 (by simp)
  clear ho HO1
  have hkk : k = 0 ∨ k = 1 ∨ k = 2 ∨ k = 3 ∨ k = 4 ∨ k = 5 := by omega
  clear hk
  rcases hkk with rfl | rfl | rfl | rfl | rfl | rfl
  · go_wp2_with (at_builtin; refine go_app w rfl _ _ 22 5 _ 1 1 rfl Tryz.underlying22 info5 rfl (by decide) u4 (3 * 0) (uV ((rs5.take 0).flatMap h3)) rfl ⟨wr.heap.size, 0, none⟩ 3 3 [.int .u8 0, .int .u8 0, .int .u8 1] rfl (HO.out.alloc _) rfl (news _) (by intro u hu; simp at hu; rcases hu with rfl | rfl | rfl <;> rfl) (by simp [maxLen]) (by omega) ?_; intro v1 w4 hw; have HW := As.mk hw; clear hw)
    go_roundw
    case rel => exact ⟨1, by omega, by go_num, HW.out⟩
    case measure => simp [intOf]
  · go_wp2_with (at_builtin; refine go_app w rfl _ _ 22 5 _ 1 1 rfl Tryz.underlying22 info5 rfl (by decide) u4 (3 * 1) (uV ((rs5.take 1).flatMap h3)) rfl ⟨wr.heap.size, 0, none⟩ 3 3 [.int .u8 0, .int .u8 0, .int .u8 4] rfl (HO.out.alloc _) rfl (news _) (by intro u hu; simp at hu; rcases hu with rfl | rfl | rfl <;> rfl) (by simp [maxLen]) (by omega) ?_; intro v1 w4 hw; have HW := As.mk hw; clear hw)
    go_roundw
    case rel => exact ⟨2, by omega, by go_num, HW.out⟩
    case measure => simp [intOf]
  · go_wp2_with (at_builtin; refine go_app w rfl _ _ 22 5 _ 1 1 rfl Tryz.underlying22 info5 rfl (by decide) u4 (3 * 2) (uV ((rs5.take 2).flatMap h3)) rfl ⟨wr.heap.size, 0, none⟩ 3 3 [.int .u8 0, .int .u8 0, .int .u8 8] rfl (HO.out.alloc _) rfl (news _) (by intro u hu; simp at hu; rcases hu with rfl | rfl | rfl <;> rfl) (by simp [maxLen]) (by omega) ?_; intro v1 w4 hw; have HW := As.mk hw; clear hw)
    go_roundw
    case rel => exact ⟨3, by omega, by go_num, HW.out⟩
    case measure => simp [intOf]
  · go_wp2_with (at_builtin; refine go_app w rfl _ _ 22 5 _ 1 1 rfl Tryz.underlying22 info5 rfl (by decide) u4 (3 * 3) (uV ((rs5.take 3).flatMap h3)) rfl ⟨wr.heap.size, 0, none⟩ 3 3 [.int .u8 0, .int .u8 0, .int .u8 4] rfl (HO.out.alloc _) rfl (news _) (by intro u hu; simp at hu; rcases hu with rfl | rfl | rfl <;> rfl) (by simp [maxLen]) (by omega) ?_; intro v1 w4 hw; have HW := As.mk hw; clear hw)
    go_roundw
    case rel => exact ⟨4, by omega, by go_num, HW.out⟩
    case measure => simp [intOf]
  · go_wp2_with (at_builtin; refine go_app w rfl _ _ 22 5 _ 1 1 rfl Tryz.underlying22 info5 rfl (by decide) u4 (3 * 4) (uV ((rs5.take 4).flatMap h3)) rfl ⟨wr.heap.size, 0, none⟩ 3 3 [.int .u8 0, .int .u8 0, .int .u8 6] rfl (HO.out.alloc _) rfl (news _) (by intro u hu; simp at hu; rcases hu with rfl | rfl | rfl <;> rfl) (by simp [maxLen]) (by omega) ?_; intro v1 w4 hw; have HW := As.mk hw; clear hw)
    go_roundw
    case rel => exact ⟨5, by omega, by go_num, HW.out⟩
    case measure => simp [intOf]
  · have HPUT := As.mk (fun (W : World) (hb : Below w.heap.size w W) => show Calls Tryz.prog 53 #[.slice (some ⟨bb, oo, none⟩) 2 cp] W fun e w' => (∃ v, e = .returned v ∧ Fr W.heap.size w' 5 v 8 (uV ([3, 1].flatMap b4))) ∧ Below W.heap.size W w' from wire_Put [3, 1] (by intro s hs; simp at hs; omega) (by decide) bb oo cp W hcp (fun i u hu => cell_below hb (HC.out i u hu)))
    go_wp2_with (at_builtin; refine go_app w rfl _ _ 22 5 _ 1 1 rfl Tryz.underlying22 info5 rfl (by decide) u4 (3 * 5) (uV ((rs5.take 5).flatMap h3)) rfl ⟨wr.heap.size, 0, none⟩ 1 1 [.int .u8 0] rfl (HO.out.alloc _) rfl (news _) (by intro u hu; simp at hu; rcases hu with rfl; rfl) (by simp [maxLen]) (by omega) ?_; intro v1 w4 hw; have HW := As.mk hw; clear hw y0 y1 y2 y3 y4 s5)
    refine (HPUT.out _ HW.out.rest.toBelow).mono ?_
    rintro e w5 ⟨⟨v, rfl, hfr⟩, hb⟩
    obtain ⟨gc, capc, xc, rfl, hcc, -⟩ := hfr.form (by omega)
    obtain ⟨bc, oc, hA, -, hcell⟩ := hfr.now.cell' (by simp [uV, b4])
    simp only [Option.some.injEq, Addr.mk.injEq, and_true] at hA
    obtain ⟨rfl, rfl⟩ := hA
    have HO5 := As.mk (HW.out.below hb)
    have HCC := As.mk hcell
    clear hb hfr hcell HO HW
    go_wp2_with (at_builtin; refine go_app w rfl _ _ 22 5 _ 1 1 rfl Tryz.underlying22 info5 rfl (by decide) v1 (3 * 5 + 1) (uV ((rs5.take 5).flatMap h3) ++ [.int .u8 0]) rfl ⟨gc, 0, none⟩ 8 capc (uV ([3, 1].flatMap b4)) rfl HO5.out (by simp [uV, b4]) (fun i u hu => by rw [Addr.add_mid]; exact HCC.out i u hu) (uV_one _) (by simp [maxLen]) (by omega) ?_; intro v2 w6 hw; have HW := As.mk hw; clear hw)
    go_ret
    exact ⟨⟨_, rfl, HW.out.fr⟩, HW.out.rest.toBelow⟩
end Go.Proofs.YtmookafmdonopaaGreat.Top
