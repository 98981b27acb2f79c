/- run: Heap walked (for what begun asks). -/
import Derived.Test.YtmookafmdonopaaGreatM33
import Derived.Test.YtmookafmdonopaaGreatM34
import Derived.Test.YtmookafmdonopaaGreatM20
import Derived.Test.YtmookafmdonopaaGreatM05
/- run: Heap walked (for what begun asks). -/
namespace Go.Proofs.YtmookafmdonopaaGreat.Top
open Go Go.RowKit Go.Instr Go.ChangeMaps
set_option linter.unusedVariables false
set_option linter.unusedSimpArgs false
attribute [local go_sem] max2_int min2_int max_two min_two max_three

def c0 : Cf := ⟨1, 4, 8, 2, 4, 6, 16, 0⟩
theorem conf0 : confOf raw0 = (c0, 0) := by kernel_rfl
theorem good0 : Good c0 := by
 rcases confOf_good raw0 with h | h
 · rw [conf0] at h
   exact h.2
 · rw [conf0] at h
   exact absurd h (by decide)
/-- begun's heap, call by call -/
def stk : Nat → Hs
 | 0 => Hs.new c0
 | 1 => ⟨[⟨0, 2, 3⟩], 4, 4, [true, false, false, false]⟩
 | _ => ⟨[⟨0, 2, 3⟩, ⟨4, 0, 1⟩], 5, 5, [true, true, false, false]⟩
def opk : Nat → Opp
 | 0 => mo 3
 | _ => mo 1
def ank : Nat → An
 | 0 => ⟨0, 0, 0, 0, 0, 0, 0, 0⟩
 | _ => ⟨0, 4, 0, 0, 0, 0, 0, 0⟩
theorem step0 : alignedP c0 (Hs.new c0) 3 1 = (stk 1, ank 0) := by kernel_rfl
theorem step1 : alignedP c0 (stk 1) 1 1 = (stk 2, ank 1) := by kernel_rfl
theorem stepk (k : Nat) (hk : k < 2) (mem : List Nat) : doP c0 (stk k) mem (opk k) = (stk (k + 1), ank k) := by
 have h : k = 0 ∨ k = 1 := by omega
 rcases h with rfl | rfl
 · exact step0
 · exact step1
theorem okk (k : Nat) : OpOk (opk k) := by
 rcases k with _ | k
 · exact ⟨by decide, Or.inl rfl, by decide, by decide, by decide⟩
 · show OpOk (mo 1)
   exact ⟨by decide, Or.inl rfl, by decide, by decide, by decide⟩
theorem ivk : ∀ k, k ≤ 2 → Iv c0 (stk k) ∧ Ci c0 (stk k).bl
 | 0, _ => new_iv good0 (by decide)
 | k + 1, h => by
  have ih := ivk k (by omega)
  have h1 := do_ok ih.1 ih.2 [] (okk k)
  rw [stepk k (by omega)] at h1
  exact h1
def anV (k : Nat) : List Value := (List.range k).flatMap fun i => (ank i).cs
theorem anV_succ (k : Nat) : anV (k + 1) = anV k ++ (ank k).cs := by simp [anV, List.range_succ]
section
variable {h : Nat} {c : Cf} {s : Hs} {mem : List Nat} {L G : List (Nat × (Obj → Prop))} {R : World → Prop} {w0 w w1 : World} {e sz n n1 : Nat} {v v1 : Value} {xs xs1 : List Value}
/-- a heap's blocks -/
def B4 (h : Nat) (c : Cf) (s : Hs) (mem : List Nat) (d : Hd) : List (Nat × (Obj → Prop)) := [(d.g, EC 3 (natsV (metN c s.bl))), (h, EC 85 (hC c d.t d.sd d.gm (sumB c s.bl) s.peak s.mark (d.met c) (d.on c) (d.mem c))), (d.gm, MapP (mapB c s.bl)), (d.gy, EC 5 (bytesV mem))]
/-- what it reads -/
def R4 (R : World → Prop) (c : Cf) (s : Hs) (d : Hd) : World → Prop := fun W => R W ∧ EngR W d.t d.sd (c.L + 1) (c.H / c.G) (bitsB c s.bl) (marksB s.bl) ∧ Row W (d.on c) (c.H / c.Page) (s.on.map Value.bool)
theorem HW.toB (H : HW h c s mem L R w0 w) : mem.length = c.H ∧ ∃ d : Hd, c.H / c.Page ≤ d.cap ∧ c.H ≤ d.capy ∧ Own [] (B4 h c s mem d ++ L) (R4 R c s d) w0 w := H
theorem HW.ofB (d : Hd) (h1 : mem.length = c.H) (h2 : c.H / c.Page ≤ d.cap) (h3 : c.H ≤ d.capy) (ho : Own [] (B4 h c s mem d ++ L) (R4 R c s d) w0 w) : HW h c s mem L R w0 w := ⟨h1, d, h2, h3, ho⟩
theorem HW.toS (H : HW h c s mem (G ++ L) R w0 w) (hg : SG w0 e sz v n xs G) : mem.length = c.H ∧ ∃ d : Hd, c.H / c.Page ≤ d.cap ∧ c.H ≤ d.capy ∧ OwnS [] (B4 h c s mem d ++ L) (R4 R c s d) w0 w e sz v n xs := by
 obtain ⟨h1, d, h2, h3, ho⟩ := H.toB
 exact ⟨h1, d, h2, h3, hg.join (ho.permL (List.perm_append_comm_assoc G (B4 h c s mem d) L))⟩
theorem HW.ofS (d : Hd) (h1 : mem.length = c.H) (h2 : c.H / c.Page ≤ d.cap) (h3 : c.H ≤ d.capy) (ho : OwnS [] (B4 h c s mem d ++ L) (R4 R c s d) w0 w e sz v n xs) : ∃ G, SG w0 e sz v n xs G ∧ HW h c s mem (G ++ L) R w0 w := by
 obtain ⟨G, hg, ho⟩ := ho.split
 exact ⟨G, hg, HW.ofB d h1 h2 h3 (ho.permL (List.perm_append_comm_assoc (B4 h c s mem d) G L))⟩
theorem HW.toBelow (H : HW h c s mem L R w0 w) : Below w0.heap.size w0 w := by
 obtain ⟨h1, d, h2, h3, ho⟩ := H.toB
 exact ho.toBelow
theorem HW.sub {L' : List (Nat × (Obj → Prop))} (H : HW h c s mem L R w0 w) (hl : L'.Sublist L) : HW h c s mem L' R w0 w := by
 obtain ⟨h1, d, h2, h3, ho⟩ := H.toB
 have hs := hl.append_left (B4 h c s mem d)
 exact HW.ofB d h1 h2 h3 (ho.sub ((hs.map Prod.fst).nodup ho.nd) (fun x hx => hs.subset hx))
end
set_option maxHeartbeats 4000000 in
set_option maxRecDepth 100000 in
theorem run_Heap (A : Option Addr) (cp : Nat) (w : World) (hr : Row w (.slice A 2 cp) 2 (opV [mo 3, mo 1])) :
 Calls Tryz.prog 52 #[.agg raw0.cs.toArray, .slice A 2 cp] w fun e w' => (∃ v, e = .returned (.tuple #[v, .int .i64 0]) ∧ Fr w.heap.size w' 39 v 2 (anV 2)) ∧ Below w.heap.size w w' := by
 obtain ⟨bb, oo, rfl, hcp, hcell⟩ := hr.cell' (by simp [opV, mo, Opp.cs])
 have HC := As.mk hcell
 have ho := (Own.start (X := []) w).box raw0.cs.toArray 25
 have HO := As.mk ho
 clear hr hcell ho
 go_enter Tryz.func52, Tryz.ntmps52
 go_wp2_with (refine go_ld HO.out me0 rfl 25 (.tmp 2) rfl rfl _ Tryz.underlying25 rfl size25 ?_)
 refine (heap_New raw0 c0 _ _ w _ HO.out conf0 good0 (by decide)).mono ?_
 rintro e w2 ⟨h, rfl, H⟩
 have HH := As.mk (H.drop)
 clear H HO
 go_wp2_with fail
 go_loopw [4, 24] (fun v i wr => ∃ (k : Nat) (mem : List Nat) (G : List (Nat × (Obj → Prop))), k ≤ 2 ∧ i = .int .i64 (k : Int) ∧ As (SG w 39 8 v k (anV k) G) ∧ HW h c0 (stk k) mem (G ++ []) (fun _ => True) w wr) (fun _ i _ => 2 - (intOf i).toNat)
 case atStart => exact ⟨0, _, [], Nat.zero_le _, rfl, ⟨⟨rfl, Or.inl ⟨rfl, rfl, rfl⟩⟩⟩, HH.out⟩
 case round =>
  clear HH
  obtain ⟨k, mem, G, hk, rfl, hsg, hh⟩ := hrel
  have HH := As.mk hh
  clear hh
  have hkk : k = 0 ∨ k = 1 ∨ k = 2 := by omega
  clear hk
  rcases hkk with rfl | rfl | rfl
  · have HRG : As (wr.rangeAt bb (oo + 0 * 6) [.int .i64 1, .int .i64 0, .int .i64 3, .int .i64 0, .int .i64 0, .int .u8 0]) := ⟨fun j v hj => by
     rw [Nat.add_assoc]
     exact cell_below HH.out.toBelow (HC.out _ v (opV_at [mo 3, mo 1] 0 (mo 3) rfl j v hj))⟩
    have hbx := HH.out.box #[.int .i64 1, .int .i64 0, .int .i64 3, .int .i64 0, .int .i64 0, .int .u8 0] 42
    have HBX := As.mk hbx
    have HDO := As.mk (fun (W : World) (L : List (Nat × (Obj → Prop))) (H : HW h c0 (stk 0) mem L (fun _ => True) w W) => show Calls Tryz.prog 16 #[.pointer (some ⟨h, 0, none⟩), .agg #[.int .i64 1, .int .i64 0, .int .i64 3, .int .i64 0, .int .i64 0, .int .u8 0]] W fun e w' => e = .returned (.agg #[.int .i64 0, .int .i64 0, .int .i64 0, .int .u8 0, .int .i64 0, .int .i64 0, .int .i64 0, .int .i64 0]) ∧ ∃ mem', HW h c0 (stk 1) mem' L (fun _ => True) w w' from by
     refine (heap_Do h c0 (stk 0) mem L _ w W (opk 0) H (ivk 0 (by omega)).1 (okk 0)).mono ?_
     rintro e w' ⟨h1, mem', h2, -⟩
     rw [stepk 0 (by omega)] at h1 h2
     exact ⟨h1, mem', h2⟩)
    clear hbx
    go_wp2_with (refine wpList_load_mid rfl 42 (.tmp 26) rfl bb (oo + 0 * 6) rfl [.int .i64 1, .int .i64 0, .int .i64 3, .int .i64 0, .int .i64 0, .int .u8 0] _ HRG.out Tryz.underlying42 rfl size42 ?_)
    refine (HDO.out _ _ HBX.out).mono ?_
    rintro e w5 ⟨rfl, mem', H5⟩
    have H6 := H5.sub (List.sublist_cons_self _ _)
    obtain ⟨hm, d, d1, d2, hos⟩ := H6.toS hsg.out
    have HOS := As.mk hos
    clear H5 H6 hos HBX HH hsg
    go_wp2_with (at_builtin; refine go_app w rfl _ _ 68 39 _ 8 64 rfl Tryz.underlying68 info39 rfl (by decide) u4 0 (anV 0) rfl ⟨w5.heap.size, 0, none⟩ 1 1 [.int .i64 0, .int .i64 0, .int .i64 0, .int .u8 0, .int .i64 0, .int .i64 0, .int .i64 0, .int .i64 0] rfl (HOS.out.alloc _) rfl (news _) (by intro u hu; simp at hu; rcases hu with rfl | rfl | rfl | rfl | rfl | rfl | rfl | rfl <;> rfl) (by simp [maxLen]) (by omega) ?_; intro v1 w6 hw; have HW6 := As.mk hw; clear hw)
    obtain ⟨G2, hsg2, hh2⟩ := HW.ofS d hm d1 d2 HW6.out
    have HH2 := As.mk hh2
    have HSG2 : As (SG w 39 8 v1 (0 + 1) (anV (0 + 1)) G2) := As.mk (by rw [anV_succ]; exact hsg2)
    clear hh2 hsg2 HW6 HOS
    go_roundw
    case rel => exact ⟨1, mem', G2, by omega, by go_num, HSG2, HH2.out⟩
    case measure => simp [intOf]
  · have HRG : As (wr.rangeAt bb (oo + 1 * 6) [.int .i64 1, .int .i64 0, .int .i64 1, .int .i64 0, .int .i64 0, .int .u8 0]) := ⟨fun j v hj => by
     rw [Nat.add_assoc]
     exact cell_below HH.out.toBelow (HC.out _ v (opV_at [mo 3, mo 1] 1 (mo 1) rfl j v hj))⟩
    have hbx := HH.out.box #[.int .i64 1, .int .i64 0, .int .i64 1, .int .i64 0, .int .i64 0, .int .u8 0] 42
    have HBX := As.mk hbx
    have HDO := As.mk (fun (W : World) (L : List (Nat × (Obj → Prop))) (H : HW h c0 (stk 1) mem L (fun _ => True) w W) => show Calls Tryz.prog 16 #[.pointer (some ⟨h, 0, none⟩), .agg #[.int .i64 1, .int .i64 0, .int .i64 1, .int .i64 0, .int .i64 0, .int .u8 0]] W fun e w' => e = .returned (.agg #[.int .i64 0, .int .i64 4, .int .i64 0, .int .u8 0, .int .i64 0, .int .i64 0, .int .i64 0, .int .i64 0]) ∧ ∃ mem', HW h c0 (stk 2) mem' L (fun _ => True) w w' from by
     refine (heap_Do h c0 (stk 1) mem L _ w W (opk 1) H (ivk 1 (by omega)).1 (okk 1)).mono ?_
     rintro e w' ⟨h1, mem', h2, -⟩
     rw [stepk 1 (by omega)] at h1 h2
     exact ⟨h1, mem', h2⟩)
    clear hbx
    go_wp2_with (refine wpList_load_mid rfl 42 (.tmp 26) rfl bb (oo + 1 * 6) rfl [.int .i64 1, .int .i64 0, .int .i64 1, .int .i64 0, .int .i64 0, .int .u8 0] _ HRG.out Tryz.underlying42 rfl size42 ?_)
    refine (HDO.out _ _ HBX.out).mono ?_
    rintro e w5 ⟨rfl, mem', H5⟩
    have H6 := H5.sub (List.sublist_cons_self _ _)
    obtain ⟨hm, d, d1, d2, hos⟩ := H6.toS hsg.out
    have HOS := As.mk hos
    clear H5 H6 hos HBX HH hsg
    go_wp2_with (at_builtin; refine go_app w rfl _ _ 68 39 _ 8 64 rfl Tryz.underlying68 info39 rfl (by decide) u4 1 (anV 1) rfl ⟨w5.heap.size, 0, none⟩ 1 1 [.int .i64 0, .int .i64 4, .int .i64 0, .int .u8 0, .int .i64 0, .int .i64 0, .int .i64 0, .int .i64 0] rfl (HOS.out.alloc _) rfl (news _) (by intro u hu; simp at hu; rcases hu with rfl | rfl | rfl | rfl | rfl | rfl | rfl | rfl <;> rfl) (by simp [maxLen]) (by omega) ?_; intro v1 w6 hw; have HW6 := As.mk hw; clear hw)
    obtain ⟨G2, hsg2, hh2⟩ := HW.ofS d hm d1 d2 HW6.out
    have HH2 := As.mk hh2
    have HSG2 : As (SG w 39 8 v1 (1 + 1) (anV (1 + 1)) G2) := As.mk (by rw [anV_succ]; exact hsg2)
    clear hh2 hsg2 HW6 HOS
    go_roundw
    case rel => exact ⟨2, mem', G2, by omega, by go_num, HSG2, HH2.out⟩
    case measure => simp [intOf]
  · obtain ⟨hm, d, d1, d2, hos⟩ := HH.out.toS hsg.out
    have HOS := As.mk hos
    clear hos
    go_wp2_with fail
    go_ret2
    exact ⟨⟨_, rfl, HOS.out.fr⟩, HOS.out.rest.toBelow⟩
end Go.Proofs.YtmookafmdonopaaGreat.Top
/- play: Run; hodmantop: begun walked: the whole does something. -/
namespace Go.Proofs.YtmookafmdonopaaGreat.Top
open Go Go.RowKit
set_option linter.unusedVariables false
set_option linter.unusedSimpArgs false
attribute [local go_sem] max2_int min2_int max_two min_two max_three

set_option maxHeartbeats 4000000 in
theorem play_Run (g cp : Nat) (w : World) (hcp : 24 ≤ cp) (h : ∀ i u, (uV by24)[i]? = some u → w.cell? ⟨g, i, none⟩ = some u) :
 Calls Tryz.prog 30 #[.slice (some ⟨g, 0, none⟩) 24 cp] w fun e w' => (∃ v, e = .returned (.tuple #[v, .int .i64 0]) ∧ Row w' v 2 (anV 2)) ∧ Below w.heap.size w w' := by
 have HD := As.mk (play_Decode g cp w hcp h)
 clear h
 go_enter Tryz.func30, Tryz.ntmps30
 go_wp2_with fail
 refine HD.out.mono ?_
 rintro e w1 ⟨⟨v, rfl, hv⟩, hb⟩
 have hr := hv w1 (Agr.refl _ _)
 obtain ⟨A, c2, rfl⟩ := hr.form
 have HO := As.mk ((Own.start (X := []) w).below hb)
 have HR := As.mk hr
 have HOZ := As.mk (HO.out.box #[.int .i64 0, .int .i64 0, .int .i64 0, .int .i64 0, .int .i64 0, .int .i64 0] 25)
 have HOR := As.mk (HO.out.box #[.int .i64 1, .int .i64 4, .int .i64 8, .int .i64 4, .int .i64 6, .int .i64 0] 25)
 have HHE := As.mk (fun (W : World) (hb : Below w1.heap.size w1 W) => run_Heap A c2 W (hr.below hb))
 have hraw : raw0.cs.toArray = #[.int .i64 1, .int .i64 4, .int .i64 8, .int .i64 4, .int .i64 6, .int .i64 0] := rfl
 rw [hraw] at HHE
 simp only [hraw]
 clear hb hv hr hraw HD
 go_wp2_with fail
 refine (HHE.out _ ((Below.refl w1.heap.size w1).alloc (Nat.le_refl _) _)).mono ?_
 rintro e w2 ⟨⟨v, rfl, hfr⟩, hb⟩
 have HOE := As.mk (HOR.out.below hb)
 have HFR := As.mk hfr.now
 clear hb hfr
 go_wp2_with fail
 go_ret2
 exact ⟨⟨_, rfl, HFR.out⟩, HOE.out.toBelow⟩
set_option maxHeartbeats 4000000 in
set_option maxRecDepth 100000 in
theorem top_begun (w : World) : Calls Tryz.prog 10 #[] w fun e w' => e = .returned (.bool true) ∧ Below w.heap.size w w' := by
 have HO := As.mk ((Own.start (X := []) w).box #[.int .i64 1, .int .i64 4, .int .i64 8, .int .i64 4, .int .i64 6, .int .i64 0] 25)
 have HO2 := As.mk (HO.out.box #[.int .i64 1, .int .i64 0, .int .i64 3, .int .i64 0, .int .i64 0, .int .u8 0, .int .i64 1, .int .i64 0, .int .i64 1, .int .i64 0, .int .i64 0, .int .u8 0] 42)
 have hraw : raw0.cs.toArray = #[.int .i64 1, .int .i64 4, .int .i64 8, .int .i64 4, .int .i64 6, .int .i64 0] := rfl
 go_enter Tryz.func10, Tryz.ntmps10
 go_wp2_with fail
 have ho2 := HO2.out
 rw [World.size_alloc] at ho2
 refine (play_Encode (w.heap.size + 1) 0 2 _ (Nat.le_refl _) (fun i u hu => ?_)).mono ?_
 · have hlt : i < 12 := by have := (List.getElem?_eq_some_iff.1 hu).1; simpa [opV, mo, Opp.cs] using this
   rw [Nat.zero_add, ho2.get me0 i (by simpa using hlt)]
   simpa [opV, mo, Opp.cs] using hu
 rintro e w3 ⟨⟨v, rfl, hfr⟩, hb⟩
 obtain ⟨gc, capc, xc, rfl, hcc, -⟩ := hfr.form (by omega)
 obtain ⟨bc, oc, hA, -, hcell⟩ := hfr.now.cell' (by simp [by24, rs5, h3, uV, b4])
 simp only [Option.some.injEq, Addr.mk.injEq, and_true] at hA
 obtain ⟨rfl, rfl⟩ := hA
 have HO3 := As.mk (ho2.below hb)
 have HRU := As.mk (play_Run gc capc w3 hcc (fun i u hu => by have := hcell i u hu; rwa [Nat.zero_add] at this))
 clear hb hfr hcell ho2 HO2 HO
 go_wp2_with fail
 refine HRU.out.mono ?_
 rintro e w4 ⟨⟨v, rfl, hr⟩, hb⟩
 obtain ⟨A, c2, rfl⟩ := hr.form
 obtain ⟨ba, oa, rfl, -, hcell⟩ := hr.cell' (by simp [anV, ank, An.cs, List.range_succ])
 have HO4 := As.mk (HO3.out.below hb)
 have y9 : w4.cell? ⟨ba, oa + 9, none⟩ = some (.int .i64 4) := hcell 9 _ rfl
 have y9' : w4.cell? ⟨ba, oa + 8 + 1, none⟩ = some (.int .i64 4) := y9
 clear hb hr hcell HO3 HRU
 go_wp2_with fail
 go_ret
 exact ⟨rfl, HO4.out.toBelow⟩
end Go.Proofs.YtmookafmdonopaaGreat.Top
/- (*heap.Heap).Blocks walked. -/
namespace Go.Proofs.YtmookafmdonopaaGreat.Top
open Go Go.RowKit Go.Instr Go.ChangeMaps
set_option linter.unusedVariables false
set_option linter.unusedSimpArgs false
attribute [local go_sem] max2_int min2_int max_two min_two max_three

/-- a heap's blocks as the plain one has them -/
def Bk.mb (c : Cf) (b : Bk) : MB := (b.at_, b.ch c, (b.asked : Int))
theorem mbV_app (l : List MB) (b : MB) : mbV (l ++ [b]) = mbV l ++ [.int .i64 (b.1 : Int), .int .i64 (b.2.1 : Int), .int .i64 b.2.2] := by simp [mbV]
theorem mbV_take (c : Cf) (bl : List Bk) (q : Nat) (b : Bk) (h : bl[q]? = some b) : mbV ((bl.take (q + 1)).map (Bk.mb c)) = mbV ((bl.take q).map (Bk.mb c)) ++ [.int .i64 (b.at_ : Int), .int .i64 (b.ch c : Int), .int .i64 (b.asked : Int)] := by
 rw [List.take_add_one, h, Option.toList_some, List.map_append, List.map_cons, List.map_nil, mbV_app]
 rfl
set_option maxHeartbeats 4000000 in
set_option maxRecDepth 100000 in
theorem heap_Blocks (h : Nat) (c : Cf) (s : Hs) (mem : List Nat) (L : List (Nat × (Obj → Prop))) (R : World → Prop) (w0 w : World) (H : HW h c s mem L R w0 w) (iv : Iv c s) :
 Calls Tryz.prog 17 #[.pointer (some ⟨h, 0, none⟩)] w fun e w' => ∃ v, e = .returned v ∧ Fr w.heap.size w' 48 v s.bl.length (mbV (s.bl.map (Bk.mb c))) ∧ Below w.heap.size w w' := by
 have hlen := iv.inv.len iv.good
 have hsd := iv.inv.sortedB iv.good
 obtain ⟨d, dz, -, -, -, -, -, -, deng⟩ := H.hc
 have hml : (marksB s.bl).length = s.bl.length := by simp [marksB]
 obtain ⟨A, cc, hsl⟩ := deng.2.slice_
 have z10 := dz.c10
 have hrow := deng.2
 rw [hsl] at z10 hrow
 rw [hml] at z10 hrow
 have z11 := dz.c11
 have HLK := As.mk (fun (W : World) (hb : Below w.heap.size w W) (b : Bk) (hbm : b ∈ s.bl) => show (Instr.lookup 77 (.map (some d.gm)) (.agg #[.int .i64 (b.at_ : Int)]) false).run Tryz.prog W = .ok (.agg #[.int .i64 (b.at_ : Int), .int .i64 (b.ch c : Int), .int .i64 (b.asked : Int)]) W from by
  obtain ⟨a, d', b1, b2, b3⟩ := H.below hb
  have e := (b3.hc me1).c11
  rw [cell_below hb z11] at e
  simp only [Option.some.injEq, Value.map.injEq] at e
  obtain ⟨x, hx, hxp⟩ := b3.at_ _ _ me2
  have h1 := lookup_run 77 48 Tryz.underlying77 _ W (zero48 W) d.gm b.at_ false x (by rw [e]; exact hx) _ hxp
  unfold keyV at h1
  rw [h1, mapB_at hsd hbm]
  rfl)
 obtain ⟨n, hn⟩ : ∃ n, n = s.bl.length := ⟨_, rfl⟩
 have HN := As.mk hn
 rw [← hn] at z10 hrow hlen ⊢
 have HROW := As.mk hrow
 have Z11 := As.mk z11
 clear H iv dz deng hsl hml hsd hn hrow z11
 go_enter Tryz.func17, Tryz.ntmps17
 go_wp2_with fail
 go_loopw [2, 13] (fun v i wr => ∃ q : Nat, q ≤ n ∧ i = .int .i64 (q : Int) ∧ OwnS [] [] (fun _ => True) w wr 48 3 v q (mbV ((s.bl.take q).map (Bk.mb c)))) (fun _ i _ => n - (intOf i).toNat)
 case atStart => exact ⟨0, Nat.zero_le _, rfl, OwnS.nil (Own.start w) 48 3⟩
 case round =>
  clear z10
  obtain ⟨q, hq, rfl, ho⟩ := hrel
  have HO := As.mk ho
  by_cases hqn : q < n
  · obtain ⟨b, hb⟩ : ∃ b, s.bl[q]? = some b := ⟨s.bl[q]'(by rw [← HN.out]; exact hqn), List.getElem?_eq_getElem _⟩
    have hbm := List.mem_of_getElem? hb
    have hmq : (marksB s.bl)[q]? = some (b.at_, b.k) := by simp [marksB, hb]
    obtain ⟨b9, o9, rfl, hnc9, hcell9⟩ := (HROW.out.below ho.rest.toBelow).cell (by rw [marksV_len]; simp [marksB, ← HN.out]; omega)
    have y0 := hcell9 _ _ (marksV_at _ q _ hmq).1
    have y1 := hcell9 _ _ (marksV_at _ q _ hmq).2
    rw [← Nat.add_assoc] at y1
    have z11 := cell_below ho.rest.toBelow Z11.out
    have HB := As.mk (And.intro hb hbm)
    clear hcell9 hmq hb hbm ho
    go_wp2_with fail
    have hO1 := HO.out.alloc (.cells #[.int .i64 (b.at_ : Int), .int .i64 (b.k : Int)] 99)
    have m0 : (wr.alloc (.cells #[.int .i64 (b.at_ : Int), .int .i64 (b.k : Int)] 99)).cell? ⟨wr.heap.size, 0, none⟩ = some (.int .i64 (b.at_ : Int)) := by simp
    have z11' := cell_below (box_below wr (.cells #[.int .i64 (b.at_ : Int), .int .i64 (b.k : Int)] 99)) z11
    obtain ⟨w1, hw1⟩ : ∃ x, x = wr.alloc (.cells #[.int .i64 (b.at_ : Int), .int .i64 (b.k : Int)] 99) := ⟨_, rfl⟩
    obtain ⟨q1, hq1⟩ : ∃ x, x = wr.heap.size := ⟨_, rfl⟩
    rw [← hw1] at hO1 z11'
    rw [← hw1, ← hq1] at m0
    simp only [← hw1, ← hq1]
    clear hw1 hq1 y0 y1 z11 HO
    have lk1 := HLK.out w1.drew ((hO1.drewN 1).rest.toBelow) b HB.out.2
    refine rgn [(0, 1), (1, 1), (2, 1), (3, 1), (4, 0), (5, 1), (6, 0), (7, 1), (8, 0), (9, 3), (10, 3), (11, 1)] [9, 10] (fun W => W.cell? ⟨h, 11, none⟩ = some (.map (some d.gm)) ∧ W.cell? ⟨q1, 0, none⟩ = some (.int .i64 (b.at_ : Int)) ∧ (Instr.lookup 77 (.map (some d.gm)) (.agg #[.int .i64 (b.at_ : Int)]) false).run Tryz.prog W = .ok (.agg #[.int .i64 (b.at_ : Int), .int .i64 (b.ch c : Int), .int .i64 (b.asked : Int)]) W) (by kernel_rfl) (by kernel_rfl) (fun _ _ _ d _ h => by cases d <;> exact h) ⟨z11', m0, lk1⟩ ?_
    obtain ⟨w2, hw2⟩ : ∃ x, x = w1.drew := ⟨_, rfl⟩
    have hO2 := hO1.drewN 1
    rw [show w1.drewN 1 = w1.drew from rfl] at hO2
    rw [show w1.cell? ⟨h, 11, none⟩ = w1.drew.cell? ⟨h, 11, none⟩ from rfl] at z11'
    rw [show w1.cell? ⟨q1, 0, none⟩ = w1.drew.cell? ⟨q1, 0, none⟩ from rfl] at m0
    rw [← hw2] at hO2 z11' m0 ⊢
    clear hw2 lk1 hO1
    iterate 4 (refine Run.pu (v := ?_) (a' := ?_) rfl rfl (Or.inl ⟨by rfl, ?_⟩) ?_ ?_; rotate_left 2; (focus (intro W; go_simp; with_reducible rfl)); (focus (simp only [Act.put, zq4, zq5, zq6]; rfl)))
    refine Run.rd (v := ?_) (a' := ?_) rfl rfl (Or.inl ⟨by rfl, ?_⟩) ?_ ?_; rotate_left 2; (focus (rintro W ⟨hW1, hW2, hW3⟩; go_simp; with_reducible rfl)); (focus (simp only [Act.put, zq4, zq5, zq6]; rfl))
    refine Run.pu (v := ?_) (a' := ?_) rfl rfl (Or.inl ⟨by rfl, ?_⟩) ?_ ?_; rotate_left 2; (focus (intro W; go_simp; with_reducible rfl)); (focus (simp only [Act.put, zq4, zq5, zq6]; rfl))
    refine Run.rd (v := ?_) (a' := ?_) rfl rfl (Or.inl ⟨by rfl, ?_⟩) ?_ ?_; rotate_left 2; (focus (rintro W ⟨hW1, hW2, hW3⟩; go_simp; with_reducible rfl)); (focus (simp only [Act.put, zq4, zq5, zq6]; rfl))
    refine Run.pu (v := ?_) (a' := ?_) rfl rfl (Or.inl ⟨by rfl, ?_⟩) ?_ ?_; rotate_left 2; (focus (intro W; go_simp; with_reducible rfl)); (focus (simp only [Act.put, zq4, zq5, zq6]; rfl))
    refine Run.rd (v := ?_) (a' := ?_) rfl rfl (Or.inl ⟨by rfl, ?_⟩) ?_ ?_; rotate_left 2; (focus (rintro W ⟨hW1, hW2, hW3⟩; go_simp; with_reducible rfl)); (focus (simp only [Act.put, zq4, zq5, zq6]; rfl))
    refine Run.la rfl (fun K hK => ?_)
    simp only [zq1, zq2, zq3]
    have hO3 := hO2.alloc (.cells #[.int .i64 (b.at_ : Int), .int .i64 (b.ch c : Int), .int .i64 (b.asked : Int)] 48)
    have HO3 := As.mk hO3
    clear z11' m0 hO2 hO3
    go_wp2
    refine hK.out _ _ ?_
    clear hK K
    refine Run.la rfl (fun K hK => ?_)
    simp only [zq1, zq2, zq3]
    refine go_app w rfl _ _ 43 48 _ 3 24 rfl Tryz.underlying43 info48 rfl (by decide) u2 q _ (by simp [Act.eval]) ⟨w2.heap.size, 0, none⟩ 1 1 [.int .i64 (b.at_ : Int), .int .i64 (b.ch c : Int), .int .i64 (b.asked : Int)] (by simp [Act.eval]) HO3.out rfl (news _) (by
     intro u hu
     simp at hu
     rcases hu with rfl | rfl | rfl <;> rfl) (by simp only [maxLen]; omega) (by omega) ?_
    intro v1 w3 hw3
    have HO4 := As.mk hw3
    clear hw3 HO3
    go_wp2
    refine hK.out _ _ ?_
    clear hK K
    refine Run.pu (v := ?_) (a' := ?_) rfl rfl (Or.inl ⟨by rfl, ?_⟩) ?_ ?_; rotate_left 2; (focus (intro W; go_simp; with_reducible rfl)); (focus (simp only [Act.put, zq4, zq5, zq6]; rfl))
    refine Run.nil ?_
    simp only [zq1, zq2, zq3]
    go_wp2
    go_roundw
    case rel => exact ⟨q + 1, by omega, by go_num, by rw [mbV_take c s.bl q b HB.out.1]; exact HO4.out⟩
    case measure => simp [intOf]; omega
  · have e1 : q = n := by omega
    subst e1
    have HF := As.mk (show OwnS [] [] (fun _ => True) w wr 48 3 u2 q (mbV (s.bl.map (Bk.mb c))) by have h9 := HO.out; rw [HN.out, List.take_length, ← HN.out] at h9; exact h9)
    clear ho HO
    go_wp2
    go_ret
    exact ⟨_, rfl, HF.out.fr, HF.out.rest.toBelow⟩
end Go.Proofs.YtmookafmdonopaaGreat.Top
/- What the laws on the whole share: bytes that come in, what is asked for, a heap made of it. -/
namespace Go.Proofs.YtmookafmdonopaaGreat.Top
open Go Go.RowKit
set_option linter.unusedVariables false
set_option linter.unusedSimpArgs false

/-- bytes come in -/
def BIn (W : World) (A : Option Addr) (n c : Nat) : Prop := n ≤ c ∧ ∃ bs : List Nat, bs.length = n ∧ (∀ b ∈ bs, b < 256) ∧ Row W (.slice A n c) n (byV bs)
theorem bin_nil (W : World) (A : Option Addr) (c : Nat) : BIn W A 0 c := ⟨Nat.zero_le _, [], rfl, by simp, Row.nil _ _ _⟩
theorem bin_row {W : World} {x : Addr} {l c : Nat} {zs : List Int} (hl : l ≤ c) (hz : zs.length = c) (hcell : ∀ i, i < zs.length → W.cell? (x.add i) = some (.int .u8 (zs.getD i 0))) (hwz : ∀ n ∈ zs, (Lit.int .u8 n).wf = true) : BIn W (some x) l c := by
 have hw : ∀ n ∈ zs, 0 ≤ n ∧ n < 256 := by
  intro n hn
  have h1 := hwz n hn
  simp only [Lit.wf, Bool.and_eq_true, decide_eq_true_eq] at h1
  have h2 : IntKind.u8.min = 0 := by decide
  have h3 : IntKind.u8.max = 255 := by decide
  rw [h2, h3] at h1
  omega
 refine ⟨hl, (zs.take l).map Int.toNat, by simp; omega, ?_, ?_⟩
 · intro b hb
   obtain ⟨n, hn, rfl⟩ := List.mem_map.1 hb
   have := hw n (List.mem_of_mem_take hn)
   omega
 · refine ⟨_, _, rfl, hl, ?_⟩
   rcases Nat.eq_zero_or_pos l with h0 | h0
   · exact Or.inl (by simp [h0, byV])
   · right
     obtain ⟨b, o, sp⟩ := x
     have hx : sp = none := by
      have h1 := hcell 0 (by omega)
      obtain ⟨_, _, _, _, h2⟩ := World.shape?_of_cell? h1
      simpa [Addr.add] using h2
     subst hx
     refine ⟨b, o, rfl, fun i u hu => ?_⟩
     simp only [byV, List.getElem?_map, Option.map_eq_some_iff] at hu
     obtain ⟨y, ⟨z, hz', rfl⟩, rfl⟩ := hu
     have h3 := (List.getElem?_eq_some_iff.1 hz').1
     rw [List.length_take] at h3
     have h4 := hcell i (by omega)
     rw [Addr.add_mid] at h4
     rw [h4]
     rw [List.getElem?_take, if_pos (by omega)] at hz'
     have h5 := hw z (List.mem_of_getElem? hz')
     rw [List.getD_eq_getElem?_getD, hz', Option.getD_some, Int.toNat_of_nonneg h5.1]
theorem BIn.below {W W1 : World} {A : Option Addr} {n c : Nat} (h : BIn W A n c) (hb : Below W.heap.size W W1) : BIn W1 A n c := ⟨h.1, h.2.imp fun bs hbs => ⟨hbs.1, hbs.2.1, hbs.2.2.below hb⟩⟩
theorem BIn.bytes {W : World} {A : Option Addr} {n c : Nat} (h : BIn W A n c) (hn : n ≤ 1000) : ∃ bs, Bytes W A n c bs := by
 obtain ⟨_, bs, h1, h2, h3⟩ := h
 exact ⟨bs, h3, h1, hn, h2⟩
theorem upN_le {v k : Nat} (h1 : 1 ≤ v) (h2 : v ≤ 2 ^ k) (h3 : k ≤ 20) : upN v ≤ 2 ^ k := by
 obtain ⟨j, e1, e2, e3⟩ := upN_spec v (by have := Nat.pow_le_pow_right (show 0 < 2 by decide) h3; omega)
 rw [e1]
 rcases Nat.lt_or_ge k j with h | h
 · exfalso
   have h4 : 2 ^ k ≤ 2 ^ (j - 1) := Nat.pow_le_pow_right (by decide) (by omega)
   have h5 : 2 ^ j = 2 * 2 ^ (j - 1) := by rw [← Nat.pow_succ']; congr 1; omega
   omega
 · exact Nat.pow_le_pow_right (by decide) h
/-- what is asked for is small: there is such a heap -/
theorem small_conf (r : Rw) (h : SmallR r) : ∃ c : Cf, confOf r = (c, 0) ∧ Good c ∧ c.H ≤ 4096 ∧ r.ok := by
 obtain ⟨⟨a1, a2⟩, ⟨b1, b2⟩, ⟨c1, c2⟩, ⟨d1, d2⟩, ⟨e1, e2⟩, ⟨f1, f2⟩, _⟩ := h
 have hok : r.ok := ⟨by simp [within]; omega, e1, by omega, f1, by omega⟩
 have g1 : upN r.g.toNat ≤ 2 ^ 4 := upN_le (by omega) (by omega) (by decide)
 obtain ⟨_, _, g2, _⟩ := upN_spec r.g.toNat (by omega)
 have n1 : upN (max r.l.toNat (upN r.g.toNat)) ≤ 2 ^ 7 := upN_le (by omega) (by omega) (by decide)
 obtain ⟨_, _, n2, _⟩ := upN_spec (max r.l.toNat (upN r.g.toNat)) (by omega)
 have p1 : upN (max r.p.toNat (upN r.g.toNat)) ≤ 2 ^ 5 := upN_le (by omega) (by omega) (by decide)
 obtain ⟨_, _, _, m2⟩ := rndN_spec r.m.toNat (2 * max (upN (max r.l.toNat (upN r.g.toNat))) (upN (max r.p.toNat (upN r.g.toNat)))) (by omega) (by omega)
 have l1 : Nat.log2 (upN (max r.l.toNat (upN r.g.toNat)) / upN r.g.toNat) ≤ 7 := by
  have h1 : upN (max r.l.toNat (upN r.g.toNat)) / upN r.g.toNat ≤ upN (max r.l.toNat (upN r.g.toNat)) := Nat.div_le_self _ _
  by_cases h0 : upN (max r.l.toNat (upN r.g.toNat)) / upN r.g.toNat = 0
  · rw [h0]; decide
  · have := (Nat.log2_lt h0 (k := 8)).2 (by omega)
    omega
 have hH : (ofP r).H ≤ 4096 := by
  show rndN r.m.toNat (2 * max (upN (max r.l.toNat (upN r.g.toNat))) (upN (max r.p.toNat (upN r.g.toNat)))) + Nat.log2 (upN (max r.l.toNat (upN r.g.toNat)) / upN r.g.toNat) * (rndN r.m.toNat (2 * max (upN (max r.l.toNat (upN r.g.toNat))) (upN (max r.p.toNat (upN r.g.toNat)))) / 2) ≤ 4096
  obtain ⟨M, hM⟩ : ∃ M, M = rndN r.m.toNat (2 * max (upN (max r.l.toNat (upN r.g.toNat))) (upN (max r.p.toNat (upN r.g.toNat)))) := ⟨_, rfl⟩
  obtain ⟨Lg, hLg⟩ : ∃ L, L = Nat.log2 (upN (max r.l.toNat (upN r.g.toNat)) / upN r.g.toNat) := ⟨_, rfl⟩
  rw [← hM] at m2 ⊢
  rw [← hLg] at l1 ⊢
  have h1 : M ≤ 406 := by omega
  have h2 := Nat.mul_le_mul l1 (show M / 2 ≤ 203 by omega)
  omega
 refine ⟨ofP r, ?_, ofP_good r hok (by omega), hH, hok⟩
 unfold confOf
 rw [if_pos ⟨hok, by omega⟩]
section
variable {h : Nat} {c : Cf} {s : Hs} {mem : List Nat} {L : List (Nat × (Obj → Prop))} {R R' : World → Prop} {w0 w w1 : World} {g e : Nat} {cs : List Value}
theorem HW.range (H : HW h c s mem L R w0 w) (hm : (g, EC e cs) ∈ L) : w.rangeAt g 0 cs := by
 obtain ⟨_, d, _, _, ho⟩ := H.toB
 exact ho.range (List.mem_append_right _ hm)
theorem HW.conf (H : HW h c s mem L R w0 w) : ConfR w h c := by
 obtain ⟨d, dz, -⟩ := H.hc
 exact ⟨dz.c0, dz.c1, dz.c2, dz.c3, dz.c4, dz.c5, dz.c6, dz.c7⟩
/-- calls are made out of numbers, beside a heap -/
theorem heap_Ops (H : HW h c s mem L R w0 w) (p : Nat) (A : Option Addr) (n cc j : Nat) (r : Rw) (hc : confOf r = (c, 0)) (ok : r.ok) (hg : Good c) (bs : List Nat) (B : Bytes w0 A n cc bs) (H2 : HW h c s mem ((p, PK A n cc j) :: L) R w0 w) (hj : j ≤ n) (most : Nat) (hm : most ≤ 900) :
 Calls Tryz.prog 15 #[.pointer (some ⟨p, 0, none⟩), .agg r.cs.toArray, .int .i64 (most : Int)] w fun e w' => ∃ (A3 : Option Addr) (c3 : Nat) (ops : List Opp), e = .returned (.slice A3 ops.length c3) ∧ ops.length ≤ most ∧ (∀ o ∈ ops, OpOk o) ∧ HW h c s mem L (fun W => R W ∧ Row W (.slice A3 ops.length c3) ops.length (opV ops)) w0 w' := by
 obtain ⟨h1, d, h2, h3, ho⟩ := H2.toB
 have ho1 : Own [] ((p, PK A n cc j) :: (B4 h c s mem d ++ L)) (R4 R c s d) w0 w := ho.permL List.perm_middle.symm
 refine (play_Ops _ _ w0 w p A n cc j r c hc ok hg bs B ho1 hj B.le most hm).mono ?_
 rintro e w' ⟨v, ops, rfl, h4, h5, h6⟩
 obtain ⟨A3, c3, rfl⟩ := h6.now.2.form
 exact ⟨A3, c3, ops, rfl, h4, h5, HW.ofB d h1 h2 h3 (h6.imp fun W hW => ⟨⟨hW.1.1, hW.2⟩, hW.1.2⟩)⟩
/-- an op of the row -/
theorem ops_range {W : World} {A3 : Option Addr} {c3 : Nat} {ops : List Opp} (hr : Row W (.slice A3 ops.length c3) ops.length (opV ops)) (i : Nat) (o : Opp) (ho : ops[i]? = some o) : ∃ b q, A3 = some ⟨b, q, none⟩ ∧ W.rangeAt b (q + i * 6) o.cs := by
 obtain ⟨b, q, hA, _, hcell⟩ := hr.cell' (by rw [opV_len]; have := (List.getElem?_eq_some_iff.1 ho).1; omega)
 refine ⟨b, q, hA, fun j v hj => ?_⟩
 rw [Nat.add_assoc]
 exact hcell _ v (opV_at ops i o ho j v hj)
end
theorem blkAt_mem {c : Cf} {s : Hs} (iv : Iv c s) {b : Bk} (hb : b ∈ s.bl) : blkAt s (b.at_ : Int) = some b := by
 unfold blkAt
 have h := find_at (iv.inv.sortedB iv.good) hb
 have e : (fun y : Bk => decide ((y.at_ : Int) = (b.at_ : Int))) = fun y => decide (y.at_ = b.at_) := by
  funext y
  congr 1
  exact propext (by omega)
 rw [e]
 exact h
theorem doP_usable {c : Cf} {s : Hs} (iv : Iv c s) (mem : List Nat) {b : Bk} (hb : b ∈ s.bl) : doP c s mem ⟨6, b.at_, 0, 0, 0, 0⟩ = (s, ⟨0, 0, (b.ch c : Nat), 0, 0, 0, 0, 0⟩) := by
 show blockP c s mem ⟨6, b.at_, 0, 0, 0, 0⟩ = _
 unfold blockP
 simp only [blkAt_mem iv hb]
 rfl
theorem doP_figures (c : Cf) (s : Hs) (mem : List Nat) : doP c s mem ⟨10, 0, 0, 0, 0, 0⟩ = (s, figP c s) := rfl
theorem ok_usable (x : Int) : OpOk ⟨6, x, 0, 0, 0, 0⟩ := ⟨(by decide : (1 : Int) ≤ 6 ∧ (6 : Int) ≤ 10), Or.inl rfl, (by decide : (0 : Int) ≤ 2 ^ 30), (by decide : (0 : Int) ≤ 2 ^ 30), (by decide : (0 : Int) ≤ 0 ∧ (0 : Int) < 256)⟩
theorem ok_figures : OpOk ⟨10, 0, 0, 0, 0, 0⟩ := ⟨by decide, Or.inl rfl, by decide, by decide, by decide⟩
theorem ok_trim : OpOk ⟨9, 0, 0, 0, 0, 0⟩ := ⟨by decide, Or.inl rfl, by decide, by decide, by decide⟩
/-- the next block lies behind -/
theorem next_apart {c : Cf} {bl : List Bk} (h : InvB c bl) {q : Nat} {b b' : Bk} (h1 : bl[q]? = some b) (h2 : bl[q + 1]? = some b') : b.at_ + b.ch c ≤ b'.at_ := by
 obtain ⟨l1, e1⟩ := List.getElem?_eq_some_iff.1 h1
 obtain ⟨l2, e2⟩ := List.getElem?_eq_some_iff.1 h2
 have := (List.pairwise_iff_getElem.1 h.apart) q (q + 1) l1 l2 (by omega)
 rw [e1, e2] at this
 exact this
theorem sum_take {c : Cf} {bl : List Bk} {q : Nat} {b : Bk} (h1 : bl[q]? = some b) : sumB c (bl.take (q + 1)) = sumB c (bl.take q) + b.ch c := by
 unfold sumB
 rw [List.take_add_one, h1]
 simp
theorem Row.cells {W : World} {b o n c : Nat} {cs : List Value} (h : Row W (.slice (some ⟨b, o, none⟩) n c) n cs) : ∀ i u, cs[i]? = some u → W.cell? ⟨b, o + i, none⟩ = some u := by
 intro i u hu
 have hl := (List.getElem?_eq_some_iff.1 hu).1
 obtain ⟨b', o', hA, -, hcell⟩ := h.cell' (by omega)
 simp only [Option.some.injEq, Addr.mk.injEq, and_true] at hA
 obtain ⟨rfl, rfl⟩ := hA
 exact hcell i u hu
/-- a block of a row of blocks -/
theorem blk_cells {W : World} {c : Cf} {bl : List Bk} {b o n cc q : Nat} {x : Bk} (h : Row W (.slice (some ⟨b, o, none⟩) n cc) n (mbV (bl.map (Bk.mb c)))) (hx : bl[q]? = some x) :
 W.cell? ⟨b, o + q * 3, none⟩ = some (.int .i64 (x.at_ : Int)) ∧ W.cell? ⟨b, o + q * 3 + 1, none⟩ = some (.int .i64 (x.ch c : Int)) ∧ W.cell? ⟨b, o + q * 3 + 2, none⟩ = some (.int .i64 (x.asked : Int)) := by
 obtain ⟨m1, m2, m3⟩ := mbV_at (bl.map (Bk.mb c)) q (x.mb c) (by simp [hx])
 exact ⟨h.cells _ _ m1, h.cells _ _ m2, h.cells _ _ m3⟩
end Go.Proofs.YtmookafmdonopaaGreat.Top
