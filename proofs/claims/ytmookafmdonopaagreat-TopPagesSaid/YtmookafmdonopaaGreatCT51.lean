/- heap.Copy walked: two heaps that share what is never stored into. -/
import Derived.Test.YtmookafmdonopaaGreatM35
namespace Go.Proofs.YtmookafmdonopaaGreat.Top
open Go Go.RowKit
set_option linter.unusedVariables false
set_option linter.unusedSimpArgs false
attribute [local go_sem] max2_int min2_int max_two min_two max_three
variable {h x : Nat} {c : Cf} {s s2 : Hs} {mem mem2 : List Nat} {L L2 : List (Nat × (Obj → Prop))} {R R2 : World → Prop} {w0 w w1 : World}

def hO (h : Nat) (c : Cf) (s : Hs) (mem : List Nat) (d : Hd) : List (Nat × (Obj → Prop)) :=
 [(d.g, EC 3 (natsV (metN c s.bl))), (h, EC 85 (hC c d.t d.sd d.gm (sumB c s.bl) s.peak s.mark (d.met c) (d.on c) (d.mem c))), (d.gm, MapP (mapB c s.bl)), (d.gy, EC 5 (bytesV mem))]
def hR (c : Cf) (s : Hs) (d : Hd) (W : World) : Prop := EngR W d.t d.sd (c.L + 1) (c.H / c.G) (bitsB c s.bl) (marksB s.bl) ∧ Row W (d.on c) (c.H / c.Page) (s.on.map Value.bool)
theorem HW.opn (H : HW h c s mem L R w0 w) : mem.length = c.H ∧ ∃ d : Hd, c.H / c.Page ≤ d.cap ∧ c.H ≤ d.capy ∧ Own [] (hO h c s mem d ++ L) (fun W => R W ∧ hR c s d W) w0 w := H
theorem perm2 {α : Type} (A : List α) (a b : α) (L : List α) : (A ++ (a :: b :: L)).Perm (a :: b :: (A ++ L)) := List.perm_middle.trans (List.perm_middle.cons _)
theorem perm4 {α : Type} (a b c e : α) (T : List α) : (b :: e :: c :: a :: T).Perm (a :: b :: c :: e :: T) := ((((List.Perm.swap a c T).cons e).trans ((List.Perm.swap a e (c :: T)).trans ((List.Perm.swap c e T).cons a))).cons b).trans (List.Perm.swap a b (c :: e :: T))
theorem HW.mk {d : Hd} (h1 : mem.length = c.H) (h2 : c.H / c.Page ≤ d.cap) (h3 : c.H ≤ d.capy) (ho : Own [] (hO h c s mem d ++ L) (fun W => R W ∧ hR c s d W) w0 w) : HW h c s mem L R w0 w := ⟨h1, d, h2, h3, ho⟩
theorem HW.perm (H : HW h c s mem L R w0 w) (hp : L2.Perm L) : HW h c s mem L2 R w0 w := by
 obtain ⟨a, d, b1, b2, b3⟩ := H.opn
 exact HW.mk a b1 b2 (b3.permL (hp.append_left _))
/-- two heaps lie at h and x -/
def HW2 (h x : Nat) (c : Cf) (s : Hs) (mem : List Nat) (s2 : Hs) (mem2 : List Nat) (L : List (Nat × (Obj → Prop))) (R : World → Prop) (w0 w : World) : Prop :=
 ∃ d2 : Hd, mem2.length = c.H ∧ c.H / c.Page ≤ d2.cap ∧ c.H ≤ d2.capy ∧ HW h c s mem (hO x c s2 mem2 d2 ++ L) (fun W => R W ∧ hR c s2 d2 W) w0 w
theorem HW2.swap (H : HW2 h x c s mem s2 mem2 L R w0 w) : HW2 x h c s2 mem2 s mem L R w0 w := by
 obtain ⟨d2, a2, b2, c2, H⟩ := H
 obtain ⟨a, d, b1, b2', b3⟩ := H.opn
 refine ⟨d, a, b1, b2', HW.mk a2 b2 c2 ?_⟩
 refine Own.imp (b3.permL ?_) fun W hW => ⟨⟨hW.1.1, hW.2⟩, hW.1.2⟩
 rw [← List.append_assoc, ← List.append_assoc]
 exact List.perm_append_comm.append_right _
theorem mapB_snoc {bl : List Bk} (hs : bl.Pairwise fun a b => a.at_ < b.at_) {q : Nat} {b : Bk} (h : bl[q]? = some b) : mapB c (bl.take q) b.at_ = none ∧ (fun x => if x = b.at_ then some (b.v c) else mapB c (bl.take q) x) = mapB c (bl.take (q + 1)) := by
 have hn : (bl.take q).find? (fun y => decide (y.at_ = b.at_)) = none := by
  rw [List.find?_eq_none]
  intro y hy
  obtain ⟨i, hi, rfl⟩ := List.mem_take_iff_getElem.1 hy
  obtain ⟨l1, e1⟩ := List.getElem?_eq_some_iff.1 h
  have := (List.pairwise_iff_getElem.1 hs) i q (by omega) l1 (by omega)
  rw [e1] at this
  simp only [decide_eq_true_eq]
  omega
 refine ⟨by unfold mapB; rw [hn]; rfl, ?_⟩
 funext x
 unfold mapB
 rw [List.take_add_one, h, Option.toList_some, List.find?_append]
 by_cases hx : x = b.at_
 · rw [if_pos hx, hx, hn]
   simp
 · rw [if_neg hx]
   have : ([b] : List Bk).find? (fun y => decide (y.at_ = x)) = none := by
    rw [List.find?_eq_none]
    intro y hy
    rw [List.mem_singleton.1 hy]
    simp only [decide_eq_true_eq]
    omega
   rw [this, Option.or_none]
set_option maxHeartbeats 2000000 in
set_option maxRecDepth 100000 in
theorem size85 : (Tryz.prog.info? 85).map (·.size) = some 18 := by kernel_rfl
theorem size63_ : (Tryz.prog.info? 63).map (·.size) = some 1 := by kernel_rfl
theorem size77 : (Tryz.prog.info? 77).map (·.size) = some 1 := by kernel_rfl
set_option maxHeartbeats 2000000 in
set_option maxRecDepth 100000 in
theorem clone_45 (A : Option Addr) (c n : Nat) (cs : List Value) (w : World) (h : Row w (.slice A n c) n cs) (hn : cs.length = n * 1) (h1 : ∀ u ∈ cs, u.oneCell' = true) (hl : n ≤ 1000000) :
 Calls Tryz.prog 45 #[.slice A n c] w fun e w' => ∃ v, e = .returned v ∧ w'.ownsRow w.heap.size 3 1 v n cs ∧ Below w.heap.size w w' := by
 rcases A with _ | ad
 · have e := h.nil_
   subst e
   have hn0 : n = 0 := by have := hn; simp only [List.length_nil] at this; omega
   subst hn0
   have hsp := eq_nil Tryz.underlying63 0 c
   go_enter Tryz.func45, Tryz.ntmps45
   go_wp2
   go_ret
   exact ⟨_, rfl, World.ownsRow_nil _ _ _ _, Below.refl _ _⟩
 · have hsp := ne_nil Tryz.underlying63 ad n c
   obtain ⟨A, c2, hv, hc, hr⟩ := h
   injection hv with e1 e2 e3
   subst e1; subst e3
   have hcell : ∀ j u, cs[j]? = some u → (w.alloc (.cells #[] 3)).cell? (ad.add j) = some u := by
    intro j u hu
    rcases hr with rfl | ⟨b, o, hA, hcell⟩
    · simp at hu
    · injection hA with hA
      subst hA
      have h1 := hcell j u hu
      have h2 : (⟨b, o, none⟩ : Addr).add j = ⟨b, o + j, none⟩ := by unfold Addr.add; split <;> simp_all
      rw [h2]
      exact cell_below ((Below.refl _ _).alloc (Nat.le_refl _) _) h1
   have HC := As.mk hcell
   have H1 := As.mk h1
   clear h1
   have HO : OwnS [] [] (fun _ => True) w (w.alloc (.cells #[] 3)) 3 1 (.slice (some ⟨w.heap.size, 0, none⟩) 0 0) 0 [] := OwnS.made (Own.start w) (Nat.le_refl _) (by simp [maxLen]) rfl rfl
   have HO := As.mk HO
   clear hcell hr
   go_enter Tryz.func45, Tryz.ntmps45
   go_wp2_with (at_builtin; refine go_app w rfl _ _ 63 3 _ 1 8 rfl Tryz.underlying63 info3 rfl (by decide) (.slice (some ⟨w.heap.size, 0, none⟩) 0 0) 0 [] rfl ad n c cs rfl HO.out hn HC.out H1.out (by simp [maxLen]; omega) (by omega) ?_; intro v1 w1 hw1; have HW := As.mk hw1; clear hw1)
   go_ret
   refine ⟨_, rfl, ?_, HW.out.rest.toBelow⟩
   have h2 := HW.out.own
   rw [Nat.zero_add] at h2
   exact h2
set_option maxHeartbeats 4000000 in
set_option maxRecDepth 100000 in
theorem heap_Copy (H : HW h c s mem L R w0 w) (iv : Iv c s) :
 Calls Tryz.prog 19 #[.pointer (some ⟨h, 0, none⟩)] w fun e w' => ∃ x, e = .returned (.pointer (some ⟨x, 0, none⟩)) ∧ HW2 h x c s mem s mem L R w0 w' := by
 obtain ⟨hml, d, hcap, hcapy, ho⟩ := H.opn
 have IV := As.mk iv
 have HML := As.mk hml
 have HCP := As.mk (And.intro hcap hcapy)
 have hsd := iv.inv.sortedB iv.good
 have HSD := As.mk hsd
 have hsm := iv.small
 have hon := iv.on
 have hnb : s.bl.length ≤ 100000 := by have := iv.inv.len iv.good; omega
 obtain ⟨np, hnp⟩ : ∃ np, np = c.H / c.Page := ⟨_, rfl⟩
 have hnp4 : np ≤ 4096 := by rw [hnp]; exact Nat.le_trans (Nat.div_le_self _ _) hsm
 have HNP := As.mk hnp
 have ho' : Own [] ((d.g, EC 3 (natsV (metN c s.bl))) :: (h, EC 85 [.int .i64 c.G, .int .i64 c.N, .int .i64 c.M, .int .i64 c.L, .int .i64 c.Page, .int .i64 c.P, .int .i64 c.H, .int .i64 c.Seed, .int .i64 c.G, .slice d.At d.nt d.ct, .slice d.As_ d.ns d.cs, .map (some d.gm), .int .i64 (sumB c s.bl : Nat), .int .i64 s.peak, .int .i64 s.mark, .slice (some ⟨d.g, 0, none⟩) np d.cap, .slice d.Ao np d.co, .slice (some ⟨d.gy, 0, none⟩) c.H d.capy]) :: (d.gm, MapP (mapB c s.bl)) :: (d.gy, EC 5 (bytesV mem)) :: L) (fun W => R W ∧ hR c s d W) w0 w := by rw [hnp]; exact ho
 have HO := As.mk ho'
 have hbx := HO.out.box #[.int .i64 c.G, .int .i64 c.N, .int .i64 c.M, .int .i64 c.L, .int .i64 c.Page, .int .i64 c.P, .int .i64 c.H, .int .i64 c.Seed, .int .i64 c.G, .slice d.At d.nt d.ct, .slice d.As_ d.ns d.cs, .map (some d.gm), .int .i64 (sumB c s.bl : Nat), .int .i64 s.peak, .int .i64 s.mark, .slice (some ⟨d.g, 0, none⟩) np d.cap, .slice d.Ao np d.co, .slice (some ⟨d.gy, 0, none⟩) c.H d.capy] 85
 obtain ⟨gx, hgx⟩ : ∃ g, g = w.heap.size := ⟨_, rfl⟩
 obtain ⟨w1, hw1⟩ : ∃ x, x = w.alloc (.cells #[.int .i64 c.G, .int .i64 c.N, .int .i64 c.M, .int .i64 c.L, .int .i64 c.Page, .int .i64 c.P, .int .i64 c.H, .int .i64 c.Seed, .int .i64 c.G, .slice d.At d.nt d.ct, .slice d.As_ d.ns d.cs, .map (some d.gm), .int .i64 (sumB c s.bl : Nat), .int .i64 s.peak, .int .i64 s.mark, .slice (some ⟨d.g, 0, none⟩) np d.cap, .slice d.Ao np d.co, .slice (some ⟨d.gy, 0, none⟩) c.H d.capy] 85) := ⟨_, rfl⟩
 rw [← hw1, ← hgx] at hbx
 have hm := hbx.alloc (x := .map #[] 0) (p := MapP fun _ => none) MapP.none_
 obtain ⟨gm2, hgm2⟩ : ∃ g, g = w1.heap.size := ⟨_, rfl⟩
 obtain ⟨w2, hw2⟩ : ∃ x, x = w1.alloc (.map #[] 0) := ⟨_, rfl⟩
 have hrun : (Instr.makeMap 77 none).run Tryz.prog w1 = .ok (.map (some gm2)) w2 := by
  rw [hgm2, hw2]
  simp [Instr.makeMap, run_underlying Tryz.underlying77]
 rw [← hw2, ← hgm2] at hm
 have HM := As.mk hm
 clear H iv ho ho' hml hcap hcapy hsd hnp hon hbx hm hw2 hgm2
 go_enter Tryz.func19, Tryz.ntmps19
 go_wp2_with (refine go_ld HO.out me1 rfl 85 (.tmp 9) rfl rfl _ Tryz.underlying85 rfl size85 ?_)
 simp only [← hw1, ← hgx]
 clear hgx hw1
 go_wp2_with fail
 simp only [hrun, Result.andThen_ok]
 go_wp2_with (refine go_st1 HM.out 1 rfl rfl 77 (.tmp 12) (.tmp 11) rfl 11 rfl (.map (some gm2)) rfl rfl (by simp) size77 ?_; intro w3 ho3; have HO3 := As.mk ho3; clear ho3 HM hrun HO)
 obtain ⟨xs, hxs⟩ : ∃ xs, xs = ([.int .i64 c.G, .int .i64 c.N, .int .i64 c.M, .int .i64 c.L, .int .i64 c.Page, .int .i64 c.P, .int .i64 c.H, .int .i64 c.Seed, .int .i64 c.G, .slice d.At d.nt d.ct, .slice d.As_ d.ns d.cs, .map (some gm2), .int .i64 (sumB c s.bl : Nat), .int .i64 s.peak, .int .i64 s.mark, .slice (some ⟨d.g, 0, none⟩) np d.cap, .slice d.Ao np d.co, .slice (some ⟨d.gy, 0, none⟩) c.H d.capy] : List Value) := ⟨_, rfl⟩
 have HO4 : As (Own [] ((gm2, MapP (mapB c (s.bl.take 0))) :: (gx, EC 85 xs) :: (hO h c s mem d ++ L)) (fun W => R W ∧ hR c s d W) w0 w3) := ⟨by have h1 := HO3.out; unfold hO hC Hd.t Hd.sd Hd.met Hd.on Hd.mem; rw [hxs, ← HNP.out]; exact h1⟩
 have hxl : xs.length = 18 := by rw [hxs]; rfl
 have hx11 : xs[11]? = some (.map (some gm2)) := by rw [hxs]; rfl
 have HXS := As.mk hxs
 clear HO3 hxs
 have HW4 : As (HW h c s mem ((gm2, MapP (mapB c (s.bl.take 0))) :: (gx, EC 85 xs) :: L) R w0 w3) := ⟨HW.mk HML.out HCP.out.1 HCP.out.2 (HO4.out.permL (perm2 _ _ _ _))⟩
 go_wp2_with fail
 refine (heap_Blocks h c s mem _ _ w0 w3 HW4.out IV.out).mono ?_
 rintro e w4 ⟨v, rfl, hfr, hb⟩
 obtain ⟨A4, c4, rfl⟩ := hfr.now.form
 have HB := As.mk (HO4.out.result hb (R' := fun W => Row W (.slice A4 s.bl.length c4) s.bl.length (mbV (s.bl.map (Bk.mb c)))) (fun W hW => hfr.row hW))
 obtain ⟨nb, hnbq⟩ : ∃ x, x = s.bl.length := ⟨_, rfl⟩
 rw [← hnbq] at HB hnb ⊢
 have HNB := As.mk hnbq
 clear hb hfr hnbq HW4 HO4
 go_wp2_with fail
 go_loopw [16] (fun i wr => ∃ q : Nat, q ≤ nb ∧ i = .int .i64 (q : Int) ∧ Own [] ((gm2, MapP (mapB c (s.bl.take q))) :: (gx, EC 85 xs) :: (hO h c s mem d ++ L)) (fun W => (R W ∧ hR c s d W) ∧ Row W (.slice A4 nb c4) nb (mbV (s.bl.map (Bk.mb c)))) w0 wr) (fun i _ => nb - (intOf i).toNat)
 case atStart => exact ⟨0, Nat.zero_le _, rfl, HB.out⟩
 case round =>
  clear HB
  obtain ⟨q, hq, rfl, ho⟩ := hrel
  have HO := As.mk ho
  clear ho
  by_cases hqn : q < nb
  · obtain ⟨b, hb⟩ : ∃ b, s.bl[q]? = some b := ⟨s.bl[q]'(by have := HNB.out; omega), List.getElem?_eq_getElem _⟩
    obtain ⟨b4, o4, rfl, -, -⟩ := HO.out.now.2.cell' (by rw [mbV_len, List.length_map]; have := HNB.out; omega)
    obtain ⟨y0, y1, y2⟩ := blk_cells HO.out.now.2 hb
    obtain ⟨mn, ms⟩ := mapB_snoc (c := c) HSD.out hb
    unfold Bk.v at ms
    obtain ⟨at_, hat⟩ : ∃ x, x = b.at_ := ⟨_, rfl⟩
    obtain ⟨ch, hch⟩ : ∃ x, x = b.ch c := ⟨_, rfl⟩
    obtain ⟨as_, has⟩ : ∃ x, x = b.asked := ⟨_, rfl⟩
    rw [← hat] at y0 mn
    rw [← hch] at y1
    rw [← has] at y2
    rw [← hat, ← hch, ← has] at ms
    have hbx := HO.out.box #[.int .i64 (at_ : Int), .int .i64 (ch : Int), .int .i64 (as_ : Int)] 48
    obtain ⟨g5, hg5⟩ : ∃ g, g = wr.heap.size := ⟨_, rfl⟩
    obtain ⟨w5, hw5⟩ : ∃ x, x = wr.alloc (.cells #[.int .i64 (at_ : Int), .int .i64 (ch : Int), .int .i64 (as_ : Int)] 48) := ⟨_, rfl⟩
    have u0 := hbx.get me0 0 (by simp)
    have u1 := hbx.get me0 1 (by simp)
    have u2 := hbx.get me0 2 (by simp)
    have x11 := hbx.get me2 11 (by omega)
    rw [hx11] at x11
    simp only [List.getElem?_cons_zero, List.getElem?_cons_succ] at u0 u1 u2
    rw [← hg5, ← hw5] at hbx
    obtain ⟨o, hob, hop⟩ := hbx.at_ gm2 _ me1
    obtain ⟨o', hrun, hop'⟩ := update_run 77 48 Tryz.underlying77 w5 gm2 at_ (.agg #[.int .i64 (at_ : Int), .int .i64 (ch : Int), .int .i64 (as_ : Int)]) o hob _ hop mn
    unfold keyV at hrun
    rw [ms] at hop'
    have hset := hbx.setMap 1 rfl o' hop'
    have HSET := As.mk hset.drop
    clear hbx hob hop hop' mn ms hat hch has hb HO hset hxl hx11
    go_wp2_with fail
    simp only [← hg5, ← hw5]
    clear hg5 hw5 y0 y1 y2
    go_wp2_with (simp only [hrun, Result.andThen_ok])
    go_roundw
    case rel => exact ⟨q + 1, by omega, by go_num, HSET.out⟩
    case measure => simp [intOf]; omega
  · have e : q = nb := by omega
    have e2 : s.bl.take q = s.bl := List.take_of_length_le (by have := HNB.out; omega)
    rw [e2] at HO
    rw [e]
    clear e e2 hqn hq
    go_wp2_with fail
    have ho : Own [] ((gm2, MapP (mapB c s.bl)) :: (gx, EC 85 xs) :: (d.g, EC 3 (natsV (metN c s.bl))) :: (h, EC 85 (hC c d.t d.sd d.gm (sumB c s.bl) s.peak s.mark (d.met c) (d.on c) (d.mem c))) :: (d.gm, MapP (mapB c s.bl)) :: (d.gy, EC 5 (bytesV mem)) :: L) (fun W => R W ∧ hR c s d W) w0 wr := HO.out.imp fun W hW => hW.1
    have hz : ∀ (L1 : List (Nat × (Obj → Prop))) (xs : List Value) (R1 : World → Prop) (W : World), Own [] (L1 ++ ((gm2, MapP (mapB c s.bl)) :: (gx, EC 85 xs) :: (d.g, EC 3 (natsV (metN c s.bl))) :: (h, EC 85 (hC c d.t d.sd d.gm (sumB c s.bl) s.peak s.mark (d.met c) (d.on c) (d.mem c))) :: (d.gm, MapP (mapB c s.bl)) :: (d.gy, EC 5 (bytesV mem)) :: L)) R1 w0 W → W.cell? ⟨h, 15, none⟩ = some (.slice (some ⟨d.g, 0, none⟩) np d.cap) ∧ W.cell? ⟨h, 16, none⟩ = some (.slice d.Ao np d.co) ∧ W.cell? ⟨h, 17, none⟩ = some (.slice (some ⟨d.gy, 0, none⟩) c.H d.capy) := by
     intro L1 xs R1 W k
     rw [HNP.out]
     exact ⟨k.get (List.mem_append_right _ me3) 15 (by simp [hC]), k.get (List.mem_append_right _ me3) 16 (by simp [hC]), k.get (List.mem_append_right _ me3) 17 (by simp [hC])⟩
    have HZ := As.mk hz
    have HO1 := As.mk ho
    have hnl : (natsV (metN c s.bl)).length = np := by unfold natsV; rw [List.length_map, metN_len, HNP.out]
    have hbl : (bytesV mem).length = c.H := by rw [bytesV_len, HML.out]
    have hol : (s.on.map Value.bool).length = np := by rw [List.length_map, HNP.out]; exact IV.out.on
    have HLS := As.mk (And.intro hnl (And.intro hbl hol))
    have hn1 : 1 ≤ np := by rw [HNP.out]; exact (Nat.le_div_iff_mul_le IV.out.good.p1).2 (by have := IV.out.good.bounds; omega)
    have hH1 : 1 ≤ c.H := by have := IV.out.good.bounds; omega
    clear HO ho hz hnl hbl hol hxl hx11
    have hS := HZ.out [] _ _ _ HO1.out.drew
    refine rgn [(0, 1), (1, 1), (2, 1), (3, 0), (5, 1), (6, 1), (7, 1), (8, 0), (10, 1), (11, 1), (12, 1), (13, 0), (4, 2), (9, 2), (14, 2), (15, 1), (16, 2), (17, 1), (18, 2), (19, 1), (20, 3)] [20] (fun W => W.cell? ⟨h, 15, none⟩ = some (.slice (some ⟨d.g, 0, none⟩) np d.cap) ∧ W.cell? ⟨h, 16, none⟩ = some (.slice d.Ao np d.co) ∧ W.cell? ⟨h, 17, none⟩ = some (.slice (some ⟨d.gy, 0, none⟩) c.H d.capy)) (by kernel_rfl) (by kernel_rfl) (fun _ _ _ d _ h => by cases d <;> exact h) hS ?_
    have HOD := As.mk HO1.out.drew
    obtain ⟨wd, hwd⟩ : ∃ x, x = wr.drew := ⟨_, rfl⟩
    rw [← hwd] at HOD ⊢
    clear hwd hS HO1
    iterate 3 (refine Run.pu (v := ?_) (a' := ?_) rfl rfl (Or.inl ⟨by rfl, ?_⟩) ?_ ?_; rotate_left 2; (focus (intro W; go_simp; with_reducible rfl)); (focus (simp only [zq1, zq2, zq3, Act.put, zq4, zq5, zq6]; rfl)))
    refine Run.rd (v := ?_) (a' := ?_) rfl rfl (Or.inl ⟨by rfl, ?_⟩) ?_ ?_; rotate_left 2; (focus (rintro W ⟨hW1, hW2, hW3⟩; go_simp; with_reducible rfl)); (focus (simp only [zq1, zq2, zq3, Act.put, zq4, zq5, zq6]; rfl))
    iterate 3 (refine Run.pu (v := ?_) (a' := ?_) rfl rfl (Or.inl ⟨by rfl, ?_⟩) ?_ ?_; rotate_left 2; (focus (intro W; go_simp; with_reducible rfl)); (focus (simp only [zq1, zq2, zq3, Act.put, zq4, zq5, zq6]; rfl)))
    refine Run.rd (v := ?_) (a' := ?_) rfl rfl (Or.inl ⟨by rfl, ?_⟩) ?_ ?_; rotate_left 2; (focus (rintro W ⟨hW1, hW2, hW3⟩; go_simp; with_reducible rfl)); (focus (simp only [zq1, zq2, zq3, Act.put, zq4, zq5, zq6]; rfl))
    iterate 3 (refine Run.pu (v := ?_) (a' := ?_) rfl rfl (Or.inl ⟨by rfl, ?_⟩) ?_ ?_; rotate_left 2; (focus (intro W; go_simp; with_reducible rfl)); (focus (simp only [zq1, zq2, zq3, Act.put, zq4, zq5, zq6]; rfl)))
    refine Run.rd (v := ?_) (a' := ?_) rfl rfl (Or.inl ⟨by rfl, ?_⟩) ?_ ?_; rotate_left 2; (focus (rintro W ⟨hW1, hW2, hW3⟩; go_simp; with_reducible rfl)); (focus (simp only [zq1, zq2, zq3, Act.put, zq4, zq5, zq6]; rfl))
    refine Run.ef rfl (fun K hK => ?_)
    simp only [zq1, zq2, zq3]
    try simp only [zq4, zq5, zq6]
    go_wp2_with fail
    refine (clone_45 (some ⟨d.g, 0, none⟩) d.cap np (natsV (metN c s.bl)) wd (HOD.out.row me2 (by rw [HNP.out]; exact HCP.out.1)) (by rw [HLS.out.1]; omega) (by intro u hu; obtain ⟨x, _, rfl⟩ := List.mem_map.1 hu; rfl) (by omega)).mono ?_
    rintro e w6 ⟨v, rfl, hown, hb⟩
    rcases Fr.own hown with ⟨h0, -⟩ | ⟨g1, cap1, y1, rfl, hc1, hg1, hy1, hec1⟩
    · omega
    have HOE := As.mk (HOD.out.add hb hg1 hy1 hec1)
    clear hown hb hg1 hy1 hec1 HOD
    go_wp2_with fail
    refine hK.out _ _ (HZ.out [_] _ _ _ HOE.out) ?_
    clear hK K
    refine Run.ef rfl (fun K hK => ?_)
    simp only [zq1, zq2, zq3]
    try simp only [zq4, zq5, zq6]
    go_wp2_with fail
    refine (clone_46 d.Ao d.co np (s.on.map Value.bool) w6 (by have := HOE.out.now.2.2; unfold Hd.on at this; rw [← HNP.out] at this; exact this) (by rw [HLS.out.2.2]; omega) (bools_one _) (by omega)).mono ?_
    rintro e w7 ⟨v, rfl, hown, hb⟩
    have hfr := Fr.own hown
    obtain ⟨A6, c6, rfl⟩ := hfr.now.form
    have HOF := As.mk (HOE.out.result hb (R' := fun W => Row W (.slice A6 np c6) np (s.on.map Value.bool)) (fun W hW => hfr.row hW))
    clear hown hfr hb HOE
    go_wp2_with fail
    refine hK.out _ _ (HZ.out [_] _ _ _ HOF.out) ?_
    clear hK K
    refine Run.ef rfl (fun K hK => ?_)
    simp only [zq1, zq2, zq3]
    try simp only [zq4, zq5, zq6]
    go_wp2_with fail
    refine (clone_47 (some ⟨d.gy, 0, none⟩) d.capy c.H (bytesV mem) w7 (HOF.out.row me6 HCP.out.2) (by rw [HLS.out.2.1]; omega) (bytesV_one _) (by omega)).mono ?_
    rintro e w8 ⟨v, rfl, hown, hb⟩
    rcases Fr.own hown with ⟨h0, -⟩ | ⟨g2, cap2, y2, rfl, hc2, hg2, hy2, hec2⟩
    · omega
    have HOG := As.mk (HOF.out.add hb hg2 hy2 hec2)
    clear hown hb hg2 hy2 hec2 HOF
    go_wp2_with fail
    refine hK.out _ _ (HZ.out [_, _] _ _ _ HOG.out) ?_
    clear hK K
    refine Run.pu (v := ?_) (a' := ?_) rfl rfl (Or.inl ⟨by rfl, ?_⟩) ?_ ?_; rotate_left 2; (focus (intro W; go_simp; with_reducible rfl)); (focus (simp only [zq1, zq2, zq3, Act.put, zq4, zq5, zq6]; rfl))
    refine Run.ef rfl (fun K hK => ?_)
    simp only [zq1, zq2, zq3]
    try simp only [zq4, zq5, zq6]
    go_wp2_with (refine go_st1 HOG.out 3 rfl rfl 63 (.tmp 42) (.tmp 31) rfl 15 rfl (.slice (some ⟨g1, 0, none⟩) np cap1) rfl rfl (by rw [HXS.out]; simp) size63_ ?_; intro w9 ho9; have HO9 := As.mk ho9; clear ho9 HOG)
    simp only [zq6, zq5] at HO9
    refine hK.out _ _ (HZ.out [_, _] _ _ _ HO9.out) ?_
    clear hK K
    refine Run.pu (v := ?_) (a' := ?_) rfl rfl (Or.inl ⟨by rfl, ?_⟩) ?_ ?_; rotate_left 2; (focus (intro W; go_simp; with_reducible rfl)); (focus (simp only [zq1, zq2, zq3, Act.put, zq4, zq5, zq6]; rfl))
    refine Run.ef rfl (fun K hK => ?_)
    simp only [zq1, zq2, zq3]
    try simp only [zq4, zq5, zq6]
    go_wp2_with (refine go_st1 HO9.out 3 rfl rfl 56 (.tmp 43) (.tmp 36) rfl 16 rfl (.slice A6 np c6) rfl rfl (by rw [HXS.out]; simp) size56 ?_; intro w10 ho10; have HO10 := As.mk ho10; clear ho10 HO9)
    simp only [zq6, zq5] at HO10
    refine hK.out _ _ (HZ.out [_, _] _ _ _ HO10.out) ?_
    clear hK K
    refine Run.pu (v := ?_) (a' := ?_) rfl rfl (Or.inl ⟨by rfl, ?_⟩) ?_ ?_; rotate_left 2; (focus (intro W; go_simp; with_reducible rfl)); (focus (simp only [zq1, zq2, zq3, Act.put, zq4, zq5, zq6]; rfl))
    refine Run.la rfl (fun K hK => ?_)
    simp only [zq1, zq2, zq3]
    try simp only [zq4, zq5, zq6]
    go_wp2_with (refine go_st1 HO10.out 3 rfl rfl 22 (.tmp 44) (.tmp 41) rfl 17 rfl (.slice (some ⟨g2, 0, none⟩) c.H cap2) rfl rfl (by rw [HXS.out]; simp) size22 ?_; intro w11 ho11; have HO11 := As.mk ho11; clear ho11 HO10)
    simp only [zq6, zq5] at HO11
    refine hK.out _ _ ?_
    clear hK K
    refine Run.nil ?_
    try simp only [zq1, zq2, zq3]
    try simp only [zq4, zq5, zq6]
    go_wp2_with fail
    go_ret
    refine ⟨gx, rfl, ?_⟩
    obtain ⟨d', hd'⟩ : ∃ d', d' = (⟨g1, cap1, gm2, g2, cap2, A6, d.At, d.As_, c6, d.nt, d.ct, d.ns, d.cs⟩ : Hd) := ⟨_, rfl⟩
    have hx : ((xs.set 15 (.slice (some ⟨g1, 0, none⟩) np cap1)).set 16 (.slice A6 np c6)).set 17 (.slice (some ⟨g2, 0, none⟩) c.H cap2) = hC c d'.t d'.sd d'.gm (sumB c s.bl) s.peak s.mark (d'.met c) (d'.on c) (d'.mem c) := by
     rw [HXS.out, hd', HNP.out]
     rfl
    have h1 := HO11.out
    rw [hx] at h1
    have h2 : Own [] (hO gx c s mem d' ++ (hO h c s mem d ++ L)) (fun W => (R W ∧ hR c s d W) ∧ Row W (.slice A6 np c6) np (s.on.map Value.bool)) w0 w11 := by
     refine h1.permL ?_
     rw [hd']
     exact perm4 _ _ _ _ _
    have h3 : Own [] (hO h c s mem d ++ (hO gx c s mem d' ++ L)) (fun W => (R W ∧ hR c s d' W) ∧ hR c s d W) w0 w11 := by
     refine (h2.permL ?_).imp fun W hW => ⟨⟨hW.1.1, ?_⟩, hW.1.2⟩
     · rw [← List.append_assoc, ← List.append_assoc]
       exact List.perm_append_comm.append_right _
     · refine ⟨?_, ?_⟩
       · rw [hd']; exact hW.1.2.1
       · have := hW.2
         rw [HNP.out] at this
         rw [hd']
         exact this
    refine ⟨d', HML.out, ?_, ?_, HW.mk HML.out HCP.out.1 HCP.out.2 h3⟩
    · rw [hd', ← HNP.out]; exact hc1
    · rw [hd']; exact hc2
end Go.Proofs.YtmookafmdonopaaGreat.Top
