/- (*heap.Heap).back, gone walked. -/
import Derived.Test.YtmookafmdonopaaGreatM14
import Derived.Test.YtmookafmdonopaaGreatM03
/- (*heap.Heap).back, gone walked. -/
namespace Go.Proofs.YtmookafmdonopaaGreat.Top
open Go Go.RowKit Go.Instr Go.ChangeMaps
set_option linter.unusedVariables false
set_option linter.unusedSimpArgs false
attribute [local go_sem] max2_int min2_int max_two min_two max_three

/-- a heap's cells -/
def hC (c : Cf) (t sd : Value) (gm : Nat) (live peak mark : Nat) (metv onv memv : Value) : List Value :=
 [.int .i64 c.G, .int .i64 c.N, .int .i64 c.M, .int .i64 c.L, .int .i64 c.Page, .int .i64 c.P, .int .i64 c.H, .int .i64 c.Seed, .int .i64 c.G, t, sd, .map (some gm), .int .i64 live, .int .i64 peak, .int .i64 mark, metv, onv, memv]
structure HcR (w : World) (h : Nat) (c : Cf) (t sd : Value) (gm : Nat) (live peak mark : Nat) (metv onv memv : Value) : Prop where
 c0 : w.cell? ⟨h, 0, none⟩ = some (.int .i64 c.G)
 c1 : w.cell? ⟨h, 1, none⟩ = some (.int .i64 c.N)
 c2 : w.cell? ⟨h, 2, none⟩ = some (.int .i64 c.M)
 c3 : w.cell? ⟨h, 3, none⟩ = some (.int .i64 c.L)
 c4 : w.cell? ⟨h, 4, none⟩ = some (.int .i64 c.Page)
 c5 : w.cell? ⟨h, 5, none⟩ = some (.int .i64 c.P)
 c6 : w.cell? ⟨h, 6, none⟩ = some (.int .i64 c.H)
 c7 : w.cell? ⟨h, 7, none⟩ = some (.int .i64 c.Seed)
 c8 : w.cell? ⟨h, 8, none⟩ = some (.int .i64 c.G)
 c9 : w.cell? ⟨h, 9, none⟩ = some t
 c10 : w.cell? ⟨h, 10, none⟩ = some sd
 c11 : w.cell? ⟨h, 11, none⟩ = some (.map (some gm))
 c12 : w.cell? ⟨h, 12, none⟩ = some (.int .i64 live)
 c13 : w.cell? ⟨h, 13, none⟩ = some (.int .i64 peak)
 c14 : w.cell? ⟨h, 14, none⟩ = some (.int .i64 mark)
 c15 : w.cell? ⟨h, 15, none⟩ = some metv
 c16 : w.cell? ⟨h, 16, none⟩ = some onv
 c17 : w.cell? ⟨h, 17, none⟩ = some memv
section
variable {X : List Nat} {L : List (Nat × (Obj → Prop))} {R : World → Prop} {w0 w : World} {h : Nat} {c : Cf} {t sd : Value} {gm live peak mark : Nat} {metv onv memv : Value}
theorem Own.hc (H : Own X L R w0 w) (hm : (h, EC 85 (hC c t sd gm live peak mark metv onv memv)) ∈ L) : HcR w h c t sd gm live peak mark metv onv memv :=
 ⟨H.get hm 0 (by simp [hC]), H.get hm 1 (by simp [hC]), H.get hm 2 (by simp [hC]), H.get hm 3 (by simp [hC]), H.get hm 4 (by simp [hC]), H.get hm 5 (by simp [hC]), H.get hm 6 (by simp [hC]), H.get hm 7 (by simp [hC]), H.get hm 8 (by simp [hC]), H.get hm 9 (by simp [hC]), H.get hm 10 (by simp [hC]), H.get hm 11 (by simp [hC]), H.get hm 12 (by simp [hC]), H.get hm 13 (by simp [hC]), H.get hm 14 (by simp [hC]), H.get hm 15 (by simp [hC]), H.get hm 16 (by simp [hC]), H.get hm 17 (by simp [hC])⟩
end
theorem zero48 (w : World) : (zeroValue 48).run Tryz.prog w = .ok (.agg #[.int .i64 0, .int .i64 0, .int .i64 0]) w := by
 obtain ⟨i0, hi, hzz⟩ := Option.map_eq_some_iff.1 info48
 simp only [Prod.mk.injEq] at hzz
 simp [zeroValue, typeInfo, hi, hzz.1]
set_option maxHeartbeats 1000000 in
theorem heap_back (L : List (Nat × (Obj → Prop))) (R : World → Prop) (w0 w : World) (h g n cap gm live peak mark : Nat) (c : Cf) (t sd onv memv : Value) (At As_ : Option Addr) (nt ct ns cs : Nat) (bl : List Bk) (b : Bk)
 (H : Own [] ((g, EC 3 (natsV (metN c bl))) :: (h, EC 85 (hC c t sd gm live peak mark (.slice (some ⟨g, 0, none⟩) n cap) onv memv)) :: (gm, MapP (mapB c bl)) :: L) R w0 w)
 (hg : Good c) (hn : n = c.H / c.Page) (hnc : n ≤ cap) (hi : InvB c (insB bl b)) (hi0 : InvB c bl) (hno : ∀ y ∈ bl, y.at_ ≠ b.at_) (hl : live ≤ 65536) :
 Calls Tryz.prog 88 #[.pointer (some ⟨h, 0, none⟩), b.v c, .agg #[.int .i64 c.G, (.slice At nt ct), (.slice As_ ns cs)]] w fun e w' => e = .returned (.tuple #[]) ∧
  Own [] ((g, EC 3 (natsV (metN c (insB bl b)))) :: (h, EC 85 (hC c (.slice At nt ct) (.slice As_ ns cs) gm (live + b.ch c) peak mark (.slice (some ⟨g, 0, none⟩) n cap) onv memv)) :: (gm, MapP (mapB c (insB bl b))) :: L) R w0 w' := by
 have hfit := hi.fits b (mem_ins.2 (Or.inl rfl))
 have hH := hg.max_
 have hch := ch_pos hg b
 have hpb := pgB_le hg b hfit
 have hplt := pg_le hg b
 obtain ⟨ch, hche⟩ : ∃ ch, ch = b.ch c := ⟨_, rfl⟩
 obtain ⟨at_, hat⟩ : ∃ a, a = b.at_ := ⟨_, rfl⟩
 obtain ⟨asked, has⟩ : ∃ a, a = b.asked := ⟨_, rfl⟩
 have hnn : mapB c bl at_ = none := mapB_none _ (by rw [hat]; exact hno)
 have HME := As.mk (fun (L : List (Nat × (Obj → Prop))) (R : World → Prop) (W : World) (hcs : List Value) (k : Own [] ((g, EC 3 (natsV (metN c bl))) :: L) R w0 W) (hh : (h, EC 85 hcs) ∈ L) (hp : hcs[4]? = some (.int .i64 c.Page)) (hm : hcs[15]? = some (.slice (some ⟨g, 0, none⟩) n cap)) =>
  heap_meets L R w0 W h g cap hcs (natI (metN c bl)) c.Page at_ ch (pgF c b) (pgB c b) asked 1 (by rw [ints_nat]; exact k) hh hp (by rw [natI_len, metN_len, ← hn]; exact hm) (by rw [natI_len, metN_len, ← hn]; exact hnc)
   hg.p1 (by rw [hche]; exact hch) (by rw [hat]; omega) (by rw [hche]; omega) (by have := hg.bounds; omega) (by rw [hat]; rfl) (by rw [hat, hche]; rfl) (by rw [natI_len, metN_len]; exact hpb) (by rw [natI_len, metN_len]; have := Nat.div_le_self c.H c.Page; omega) (by omega) (by
    intro x hx
    obtain ⟨y, hy, rfl⟩ := List.mem_map.1 hx
    obtain ⟨i, _, rfl⟩ := List.mem_map.1 hy
    have h1 : bl.countP (fun b => decide (pgF c b ≤ i ∧ i < pgB c b)) ≤ bl.length := List.countP_le_length
    have h2 := hi0.len hg
    omega))
 rw [met_ins c bl b (Nat.le_of_lt hplt), ints_nat] at HME
 have HMB := As.mk (mapB_ins (c := c) (hi.sortedB hg) (hi0.sortedB hg))
 have hbv : b.v c = .agg #[.int .i64 at_, .int .i64 ch, .int .i64 asked] := by rw [hat, hche, has]; rfl
 have c1 : live + ch ≤ 200000 := by omega
 rw [hbv, ← hche]
 rw [hbv, ← hat] at HMB
 have HO := As.mk ((H.box #[.int .i64 at_, .int .i64 ch, .int .i64 asked] 48).box #[.int .i64 c.G, (.slice At nt ct), (.slice As_ ns cs)] 83)
 clear H hi hi0 hno hfit hch hpb hplt hche hat has hbv hH hn hnc hl
 go_enter Tryz.func88, Tryz.ntmps88
 have ho := HO.out
 rw [World.size_alloc] at ho
 have HO0 := As.mk ho
 have y0 := ho.get (g := w.heap.size) (e := 48) (cs := [.int .i64 at_, .int .i64 ch, .int .i64 asked]) (by simp) 0 (by simp)
 have y1 := ho.get (g := w.heap.size) (e := 48) (cs := [.int .i64 at_, .int .i64 ch, .int .i64 asked]) (by simp) 1 (by simp)
 have y2 := ho.get (g := w.heap.size) (e := 48) (cs := [.int .i64 at_, .int .i64 ch, .int .i64 asked]) (by simp) 2 (by simp)
 have f8 := ho.frozen (g := h) (e := 85) (cs := hC c t sd gm live peak mark (.slice (some ⟨g, 0, none⟩) n cap) onv memv) (by simp) 8
 have f9 := ho.frozen (g := h) (e := 85) (cs := hC c t sd gm live peak mark (.slice (some ⟨g, 0, none⟩) n cap) onv memv) (by simp) 9
 have f10 := ho.frozen (g := h) (e := 85) (cs := hC c t sd gm live peak mark (.slice (some ⟨g, 0, none⟩) n cap) onv memv) (by simp) 10
 obtain ⟨z0, z1, z2, z3, z4, z5, z6, z7, z8, z9, z10, z11, z12, z13, z14, z15, z16, z17⟩ := ho.hc me3
 clear ho HO
 go_wp2_with fail
 have HO1 := As.mk (((HO0.out.set 3 rfl 8 (.int .i64 c.G) (by simp [hC])).set 3 rfl 9 (.slice At nt ct) (by simp [hC])).set 3 rfl 10 (.slice As_ ns cs) (by simp [hC]))
 simp only [hC, zq6, zq5] at HO1
 clear z0 z1 z2 z3 z4 z5 z6 z7 z8 z9 z10 z11 z12 z13 z14 z15 z16 z17 y0 y1 y2 f8 f9 f10 HO0
 obtain ⟨w1, hw1⟩ : ∃ w1, w1 = ((((w.alloc (.cells #[.int .i64 at_, .int .i64 ch, .int .i64 asked] 48)).alloc (.cells #[.int .i64 c.G, .slice At nt ct, .slice As_ ns cs] 83)).setCell ⟨h, 8, none⟩ (.int .i64 c.G)).setCell ⟨h, 9, none⟩ (.slice At nt ct)).setCell ⟨h, 10, none⟩ (.slice As_ ns cs) := ⟨_, rfl⟩
 rw [← hw1] at HO1 ⊢
 clear hw1
 have y0 := HO1.out.get me1 0 (by simp)
 have y1 := HO1.out.get me1 1 (by simp)
 have y2 := HO1.out.get me1 2 (by simp)
 have z11 := HO1.out.get me3 11 (by simp)
 refine rgn [(0, 1), (1, 1), (2, 1), (3, 0), (4, 1), (5, 0), (6, 1), (7, 0), (8, 3)] [8] (fun W => W.cell? ⟨h, 11, none⟩ = some (.map (some gm)) ∧ W.cell? ⟨w.heap.size, 0, none⟩ = some (.int .i64 at_) ∧ W.cell? ⟨w.heap.size, 1, none⟩ = some (.int .i64 ch) ∧ W.cell? ⟨w.heap.size, 2, none⟩ = some (.int .i64 asked)) (by kernel_rfl) (by kernel_rfl) (fun _ _ _ d _ h => by cases d <;> exact h) ⟨z11, y0, y1, y2⟩ ?_
 iterate 3 (refine Run.pu (v := ?_) (a' := ?_) rfl rfl (Or.inl ⟨by rfl, ?_⟩) ?_ ?_; rotate_left 2; (focus (intro W; go_simp; with_reducible rfl)); (focus (simp only [Act.put, zq4, zq5, zq6]; rfl)))
 refine Run.rd (v := ?_) (a' := ?_) rfl rfl (Or.inl ⟨by rfl, ?_⟩) ?_ ?_; rotate_left 2; (focus (rintro W ⟨hW1, hW2, hW3, hW4⟩; go_simp; with_reducible rfl)); (focus (simp only [Act.put, zq4, zq5, zq6]; rfl))
 refine Run.pu (v := ?_) (a' := ?_) rfl rfl (Or.inl ⟨by rfl, ?_⟩) ?_ ?_; rotate_left 2; (focus (intro W; go_simp; with_reducible rfl)); (focus (simp only [Act.put, zq4, zq5, zq6]; rfl))
 refine Run.rd (v := ?_) (a' := ?_) rfl rfl (Or.inl ⟨by rfl, ?_⟩) ?_ ?_; rotate_left 2; (focus (rintro W ⟨hW1, hW2, hW3, hW4⟩; go_simp; with_reducible rfl)); (focus (simp only [Act.put, zq4, zq5, zq6]; rfl))
 refine Run.pu (v := ?_) (a' := ?_) rfl rfl (Or.inl ⟨by rfl, ?_⟩) ?_ ?_; rotate_left 2; (focus (intro W; go_simp; with_reducible rfl)); (focus (simp only [Act.put, zq4, zq5, zq6]; rfl))
 refine Run.rd (v := ?_) (a' := ?_) rfl rfl (Or.inl ⟨by rfl, ?_⟩) ?_ ?_; rotate_left 2; (focus (rintro W ⟨hW1, hW2, hW3, hW4⟩; go_simp; with_reducible rfl)); (focus (simp only [Act.put, zq4, zq5, zq6]; rfl))
 refine Run.la rfl (fun K hK => ?_)
 simp only [zq1, zq2, zq3]
 try simp only [zq4, zq5, zq6]
 obtain ⟨o, hob, hop⟩ := HO1.out.drew.at_ gm _ me4
 obtain ⟨o', hrun, hop'⟩ := update_run 77 48 Tryz.underlying77 w1.drew gm at_ (.agg #[.int .i64 at_, .int .i64 ch, .int .i64 asked]) o hob _ hop hnn
 unfold keyV at hrun
 have HO2 := As.mk (HO1.out.drew.setMap 4 rfl o' hop')
 simp only [zq6, zq5, ← HMB.out] at HO2
 clear hob hop hop' y0 y1 y2 z11 HO1
 go_wp2
 refine hK.out _ _ ?_
 clear hK K
 refine Run.nil ?_
 obtain ⟨w2, hw2⟩ : ∃ w2, w2 = setBlock w1.drew gm o' := ⟨_, rfl⟩
 rw [← hw2] at HO2 ⊢
 clear hw2
 have HO3 := As.mk (HO2.out.front 2 rfl)
 simp only [List.eraseIdx_cons_succ, List.eraseIdx_cons_zero] at HO3
 clear HO2 hrun
 have y0 := HO3.out.get me2 0 (by simp)
 have y1 := HO3.out.get me2 1 (by simp)
 have y2 := HO3.out.get me2 2 (by simp)
 go_wp2_with fail
 refine (HME.out _ _ _ _ HO3.out me2 rfl rfl).mono ?_
 rintro e w3 ⟨rfl, ho⟩
 have HO4 := As.mk ho
 clear ho HO3 y0 y1 y2
 go_wp2_with fail
 have z12 := HO4.out.get me3 12 (by simp)
 have y1 := HO4.out.get me2 1 (by simp)
 refine rgn [(0, 1), (1, 1), (2, 1), (3, 0), (4, 1), (5, 0), (6, 1), (7, 1), (8, 1), (9, 3)] [9] (fun W => W.cell? ⟨h, 12, none⟩ = some (.int .i64 live) ∧ W.cell? ⟨w.heap.size, 1, none⟩ = some (.int .i64 ch)) (by kernel_rfl) (by kernel_rfl) (fun _ _ _ d _ h => by cases d <;> exact h) ⟨z12, y1⟩ ?_
 iterate 3 (refine Run.pu (v := ?_) (a' := ?_) rfl rfl (Or.inl ⟨by rfl, ?_⟩) ?_ ?_; rotate_left 2; (focus (intro W; go_simp; with_reducible rfl)); (focus (simp only [Act.put, zq4, zq5, zq6]; rfl)))
 refine Run.rd (v := ?_) (a' := ?_) rfl rfl (Or.inl ⟨by rfl, ?_⟩) ?_ ?_; rotate_left 2; (focus (rintro W ⟨hW1, hW2⟩; go_simp; with_reducible rfl)); (focus (simp only [Act.put, zq4, zq5, zq6]; rfl))
 refine Run.pu (v := ?_) (a' := ?_) rfl rfl (Or.inl ⟨by rfl, ?_⟩) ?_ ?_; rotate_left 2; (focus (intro W; go_simp; with_reducible rfl)); (focus (simp only [Act.put, zq4, zq5, zq6]; rfl))
 refine Run.rd (v := ?_) (a' := ?_) rfl rfl (Or.inl ⟨by rfl, ?_⟩) ?_ ?_; rotate_left 2; (focus (rintro W ⟨hW1, hW2⟩; go_simp; with_reducible rfl)); (focus (simp only [Act.put, zq4, zq5, zq6]; rfl))
 iterate 3 (refine Run.pu (v := ?_) (a' := ?_) rfl rfl (Or.inl ⟨by rfl, ?_⟩) ?_ ?_; rotate_left 2; (focus (intro W; go_simp; with_reducible rfl)); (focus (simp only [Act.put, zq4, zq5, zq6]; rfl)))
 refine Run.la rfl (fun K hK => ?_)
 simp only [zq1, zq2, zq3]
 try simp only [zq4, zq5, zq6]
 have f12 := HO4.out.drew.frozen (g := h) me3 12
 have HO5 := As.mk (HO4.out.drew.set 3 rfl 12 (.int .i64 ((live + ch : Nat) : Int)) (by simp))
 simp only [zq6, zq5] at HO5
 clear HO4
 go_wp2
 refine hK.out _ _ ?_
 clear hK K
 refine Run.nil ?_
 go_end0
 exact ⟨rfl, HO5.out.drop2.drop2⟩
theorem n_dvd {c : Cf} (hg : Good c) : c.N ∣ c.H := by
 obtain ⟨g, pg, k, h1, h2, h3, h4, h5, h6⟩ := hg.pow
 have e1 : c.N ∣ max c.N c.Page := by
  rcases Nat.le_total c.N c.Page with h | h
  · rw [Nat.max_eq_right h, h2, h3]
    rw [h2, h3] at h
    exact Nat.pow_dvd_pow 2 ((Nat.pow_le_pow_iff_right (by decide)).1 h)
  · rw [Nat.max_eq_left h]
    exact Nat.dvd_refl _
 have e2 : c.M / 2 = k * max c.N c.Page := by
  rw [h6, Nat.mul_left_comm, Nat.mul_div_cancel_left _ (by decide)]
 rw [hg.h, e2]
 refine Nat.dvd_add ?_ (Nat.dvd_trans e1 (Nat.dvd_trans (Nat.dvd_mul_left _ _) (Nat.dvd_mul_left _ _)))
 rw [h6]
 exact Nat.dvd_trans e1 (Nat.dvd_trans (Nat.dvd_mul_left _ _) (Nat.dvd_mul_left _ _))
theorem n_eq {c : Cf} (hg : Good c) : c.N = c.G * 2 ^ c.L := by
 obtain ⟨g, pg, k, h1, h2, h3, h4, h5, h6⟩ := hg.pow
 rw [h1, h2, Nat.pow_add]
theorem gran_dvd {c : Cf} (hg : Good c) : 2 ^ c.L ∣ c.H / c.G ∧ c.H / c.G * c.G = c.H := by
 obtain ⟨q, hq⟩ := n_dvd hg
 have h1 := hg.g1
 rw [n_eq hg] at hq
 have e : c.H / c.G = 2 ^ c.L * q := by rw [hq, Nat.mul_assoc, Nat.mul_div_cancel_left _ (by omega)]
 exact ⟨e ▸ Nat.dvd_mul_right _ _, by rw [e, hq, Nat.mul_comm, ← Nat.mul_assoc]⟩
/-- an engine's slots and marks as two slices -/
theorem EngR.slices {w : World} {t s : Value} {L n : Nat} {b : Nat → Bool} {l : List Mk} (h : EngR w t s L n b l) : ∃ g c A d, t = .slice (some ⟨g, 0, none⟩) L c ∧ s = .slice A l.length d := by
 obtain ⟨g, c, rfl⟩ := h.1.ge
 obtain ⟨A, d, rfl⟩ := h.2.slice_
 exact ⟨g, c, A, d, rfl, rfl⟩
set_option maxHeartbeats 1000000 in
theorem heap_gone (L : List (Nat × (Obj → Prop))) (R : World → Prop) (w0 w : World) (h g n cap gm live peak mark : Nat) (c : Cf) (onv memv : Value) (At As_ : Option Addr) (nt ct ns cs : Nat) (bl : List Bk) (b : Bk)
 (H : Own [] ((g, EC 3 (natsV (metN c bl))) :: (h, EC 85 (hC c (.slice At nt ct) (.slice As_ ns cs) gm live peak mark (.slice (some ⟨g, 0, none⟩) n cap) onv memv)) :: (gm, MapP (mapB c bl)) :: L) R w0 w)
 (HR : ∀ W, R W → EngR W (.slice At nt ct) (.slice As_ ns cs) (c.L + 1) (c.H / c.G) (bitsB c bl) (marksB bl))
 (hg : Good c) (hs : c.H ≤ 4096) (hn : n = c.H / c.Page) (hnc : n ≤ cap) (hi : InvB c bl) (hb : b ∈ bl) (hl : live ≤ 65536) (hlc : b.ch c ≤ live) :
 Calls Tryz.prog 73 #[.pointer (some ⟨h, 0, none⟩), b.v c] w fun e w' => e = .returned (.tuple #[]) ∧ ∃ At' As' nt' ct' ns' cs',
  Own [] ((g, EC 3 (natsV (metN c (delB bl b.at_)))) :: (h, EC 85 (hC c (.slice At' nt' ct') (.slice As' ns' cs') gm (live - b.ch c) peak mark (.slice (some ⟨g, 0, none⟩) n cap) onv memv)) :: (gm, MapP (mapB c (delB bl b.at_))) :: L)
   (fun W => R W ∧ EngR W (.slice At' nt' ct') (.slice As' ns' cs') (c.L + 1) (c.H / c.G) (bitsB c (delB bl b.at_)) (marksB (delB bl b.at_))) w0 w' := by
 have hfit := hi.fits b hb
 have hH := hg.max_
 have hch := ch_pos hg b
 have hpb := pgB_le hg b hfit
 have hplt := pg_le hg b
 obtain ⟨ch, hche⟩ : ∃ ch, ch = b.ch c := ⟨_, rfl⟩
 obtain ⟨at_, hat⟩ : ∃ a, a = b.at_ := ⟨_, rfl⟩
 obtain ⟨asked, has⟩ : ∃ a, a = b.asked := ⟨_, rfl⟩
 have HME := As.mk (fun (L : List (Nat × (Obj → Prop))) (R : World → Prop) (W : World) (hcs : List Value) (k : Own [] ((g, EC 3 (natsV (metN c bl))) :: L) R w0 W) (hh : (h, EC 85 hcs) ∈ L) (hp : hcs[4]? = some (.int .i64 c.Page)) (hm : hcs[15]? = some (.slice (some ⟨g, 0, none⟩) n cap)) =>
  heap_meets L R w0 W h g cap hcs (natI (metN c bl)) c.Page at_ ch (pgF c b) (pgB c b) asked (-1) (by rw [ints_nat]; exact k) hh hp (by rw [natI_len, metN_len, ← hn]; exact hm) (by rw [natI_len, metN_len, ← hn]; exact hnc)
   hg.p1 (by rw [hche]; exact hch) (by rw [hat]; omega) (by rw [hche]; omega) (by have := hg.bounds; omega) (by rw [hat]; rfl) (by rw [hat, hche]; rfl) (by rw [natI_len, metN_len]; exact hpb) (by rw [natI_len, metN_len]; have := Nat.div_le_self c.H c.Page; omega) (by omega) (by
    intro x hx
    obtain ⟨y, hy, rfl⟩ := List.mem_map.1 hx
    obtain ⟨i, _, rfl⟩ := List.mem_map.1 hy
    have h1 : bl.countP (fun b => decide (pgF c b ≤ i ∧ i < pgB c b)) ≤ bl.length := List.countP_le_length
    have h2 := hi.len hg
    omega))
 rw [met_del hi hg hb (Nat.le_of_lt hplt), ints_nat] at HME
 have HMB := As.mk (mapB_del hi hg hb)
 have hbv : b.v c = .agg #[.int .i64 at_, .int .i64 ch, .int .i64 asked] := by rw [hat, hche, has]; rfl
 obtain ⟨q, hq⟩ := at_gran (hi.mul b hb)
 have hgd := gran_dvd hg
 have HRE := As.mk (fun W (hr : R W) => place_Release c.G (c.L + 1) (c.H / c.G) b.k (q * 2 ^ b.k) at_ _ _ (bitsB c bl) (marksB bl) W (HR W hr) (by omega) (by have := hg.lev; omega) (Nat.le_trans (Nat.div_le_self _ _) hs) hgd.1 hg.g1 (by have := hg.bounds; omega)
  (by have := hi.len hg; simp [marksB]; omega) (hi.sorted hg) (by have := hi.k b hb; omega) (by rw [hat]; exact hq)
  ((Nat.le_div_iff_mul_le hg.g1).2 (by rw [Nat.add_mul, ← hq, ← ch_eq]; exact hfit)) (by rw [hat]; exact List.mem_map.2 ⟨b, hb, rfl⟩) (by rw [hat]; omega))
 rw [← bits_del hg hi hb _ hq, hat, marks_del, ← hat] at HRE
 have HLV : As (((live : Int) - (ch : Int)) = ((live - b.ch c : Nat) : Int)) := ⟨by rw [hche]; omega⟩
 have c1 : ch ≤ live := by rw [hche]; exact hlc
 rw [hbv]
 rw [← hat] at HMB HME
 rw [← hat]
 have HO := As.mk (H.box #[.int .i64 at_, .int .i64 ch, .int .i64 asked] 48)
 clear H hi hb hfit hch hpb hplt hche hat has hbv hH hn hnc hlc hq hgd HR hs
 go_enter Tryz.func73, Tryz.ntmps73
 go_wp2_with fail
 obtain ⟨w1, hw1⟩ : ∃ w1, w1 = w.alloc (.cells #[.int .i64 at_, .int .i64 ch, .int .i64 asked] 48) := ⟨_, rfl⟩
 rw [← hw1] at HO ⊢
 clear hw1
 have y0 := HO.out.get me0 0 (by simp)
 have z8 := HO.out.get me2 8 (by simp [hC])
 have z9 := HO.out.get me2 9 (by simp [hC])
 have z10 := HO.out.get me2 10 (by simp [hC])
 refine rgn [(0, 1), (1, 1), (2, 1), (3, 1), (4, 0), (5, 1), (6, 0), (7, 2), (8, 1), (9, 1), (10, 1), (11, 1), (12, 1), (13, 1), (14, 3)] [14] (fun W => W.cell? ⟨h, 8, none⟩ = some (.int .i64 c.G) ∧ W.cell? ⟨h, 9, none⟩ = some (.slice At nt ct) ∧ W.cell? ⟨h, 10, none⟩ = some (.slice As_ ns cs) ∧ W.cell? ⟨w.heap.size, 0, none⟩ = some (.int .i64 at_)) (by kernel_rfl) (by kernel_rfl) (fun _ _ _ d _ h => by cases d <;> exact h) ⟨z8, z9, z10, y0⟩ ?_
 iterate 4 (refine Run.pu (v := ?_) (a' := ?_) rfl rfl (Or.inl ⟨by rfl, ?_⟩) ?_ ?_; rotate_left 2; (focus (intro W; go_simp; with_reducible rfl)); (focus (simp only [Act.put, zq4, zq5, zq6]; rfl)))
 refine Run.rd (v := ?_) (a' := ?_) rfl rfl (Or.inl ⟨by rfl, ?_⟩) ?_ ?_; rotate_left 2; (focus (rintro W ⟨hW1, hW2, hW3, hW4⟩; go_simp; with_reducible rfl)); (focus (simp only [Act.put, zq4, zq5, zq6]; rfl))
 refine Run.pu (v := ?_) (a' := ?_) rfl rfl (Or.inl ⟨by rfl, ?_⟩) ?_ ?_; rotate_left 2; (focus (intro W; go_simp; with_reducible rfl)); (focus (simp only [Act.put, zq4, zq5, zq6]; rfl))
 refine Run.rd (v := ?_) (a' := ?_) rfl rfl (Or.inl ⟨by rfl, ?_⟩) ?_ ?_; rotate_left 2; (focus (rintro W ⟨hW1, hW2, hW3, hW4⟩; go_simp; with_reducible rfl)); (focus (simp only [Act.put, zq4, zq5, zq6]; rfl))
 refine Run.ef rfl (fun K hK => ?_)
 simp only [zq1, zq2, zq3]
 try simp only [zq4, zq5, zq6]
 go_wp2_with fail
 refine (HRE.out _ HO.out.drew.now).mono ?_
 rintro e w2 ⟨⟨t', s', rfl, hef⟩, hb⟩
 obtain ⟨gt, ct', At', cs', rfl, rfl⟩ := hef.now.slices
 have HO1 := As.mk (HO.out.drew.result (R' := fun W => EngR W (.slice (some ⟨gt, 0, none⟩) (c.L + 1) ct') (.slice At' (marksB (delB bl at_)).length cs') (c.L + 1) (c.H / c.G) (bitsB c (delB bl at_)) (marksB (delB bl at_))) hb (fun W hW => hef W hW))
 obtain ⟨ml, hml⟩ : ∃ ml, ml = (marksB (delB bl at_)).length := ⟨_, rfl⟩
 rw [← hml] at HO1 ⊢
 clear hef hb hml y0 z8 z9 z10 HO HRE
 have y0 := HO1.out.get me0 0 (by simp)
 have y1 := HO1.out.get me0 1 (by simp)
 have y2 := HO1.out.get me0 2 (by simp)
 obtain ⟨-, -, -, -, -, -, -, -, z8, z9, z10, -, -, -, -, -, -, -⟩ := HO1.out.hc me2
 have f8 := HO1.out.frozen (g := h) me2 8
 have f9 := HO1.out.frozen (g := h) me2 9
 have f10 := HO1.out.frozen (g := h) me2 10
 go_wp2
 refine hK.out _ _ ⟨z8, z9, z10, y0⟩ ?_
 clear hK K
 iterate 6 (refine Run.pu (v := ?_) (a' := ?_) rfl rfl (Or.inl ⟨by rfl, ?_⟩) ?_ ?_; rotate_left 2; (focus (intro W; go_simp; with_reducible rfl)); (focus (simp only [Act.put, zq4, zq5, zq6]; rfl)))
 refine Run.la rfl (fun K hK => ?_)
 simp only [zq1, zq2, zq3]
 try simp only [zq4, zq5, zq6]
 have HO2 := As.mk (((HO1.out.set 2 rfl 8 (.int .i64 c.G) (by simp [hC])).set 2 rfl 9 (.slice (some ⟨gt, 0, none⟩) (c.L + 1) ct') (by simp [hC])).set 2 rfl 10 (.slice At' ml cs') (by simp [hC]))
 simp only [hC, zq6, zq5] at HO2
 go_wp2
 refine hK.out _ _ ?_
 clear hK K
 refine Run.nil ?_
 clear z8 z9 z10 y0 y1 y2 f8 f9 f10 HO1
 obtain ⟨w3, hw3⟩ : ∃ w3, w3 = ((w2.setCell ⟨h, 8, none⟩ (.int .i64 c.G)).setCell ⟨h, 9, none⟩ (.slice (some ⟨gt, 0, none⟩) (c.L + 1) ct')).setCell ⟨h, 10, none⟩ (.slice At' ml cs') := ⟨_, rfl⟩
 rw [← hw3] at HO2 ⊢
 clear hw3
 have y0 := HO2.out.get me0 0 (by simp)
 have z11 := HO2.out.get me2 11 (by simp)
 go_wp2_with fail
 refine rgn [(0, 1), (1, 1), (2, 1), (3, 0), (4, 1), (5, 0), (6, 1), (7, 3)] [7] (fun W => W.cell? ⟨h, 11, none⟩ = some (.map (some gm)) ∧ W.cell? ⟨w.heap.size, 0, none⟩ = some (.int .i64 at_)) (by kernel_rfl) (by kernel_rfl) (fun _ _ _ d _ h => by cases d <;> exact h) ⟨z11, y0⟩ ?_
 iterate 3 (refine Run.pu (v := ?_) (a' := ?_) rfl rfl (Or.inl ⟨by rfl, ?_⟩) ?_ ?_; rotate_left 2; (focus (intro W; go_simp; with_reducible rfl)); (focus (simp only [Act.put, zq4, zq5, zq6]; rfl)))
 refine Run.rd (v := ?_) (a' := ?_) rfl rfl (Or.inl ⟨by rfl, ?_⟩) ?_ ?_; rotate_left 2; (focus (rintro W ⟨hW1, hW2⟩; go_simp; with_reducible rfl)); (focus (simp only [Act.put, zq4, zq5, zq6]; rfl))
 refine Run.pu (v := ?_) (a' := ?_) rfl rfl (Or.inl ⟨by rfl, ?_⟩) ?_ ?_; rotate_left 2; (focus (intro W; go_simp; with_reducible rfl)); (focus (simp only [Act.put, zq4, zq5, zq6]; rfl))
 refine Run.rd (v := ?_) (a' := ?_) rfl rfl (Or.inl ⟨by rfl, ?_⟩) ?_ ?_; rotate_left 2; (focus (rintro W ⟨hW1, hW2⟩; go_simp; with_reducible rfl)); (focus (simp only [Act.put, zq4, zq5, zq6]; rfl))
 refine Run.pu (v := ?_) (a' := ?_) rfl rfl (Or.inl ⟨by rfl, ?_⟩) ?_ ?_; rotate_left 2; (focus (intro W; go_simp; with_reducible rfl)); (focus (simp only [Act.put, zq4, zq5, zq6]; rfl))
 refine Run.la rfl (fun K hK => ?_)
 simp only [zq1, zq2, zq3]
 try simp only [zq4, zq5, zq6]
 obtain ⟨o, hob, hop⟩ := HO2.out.drew.at_ gm _ me3
 obtain ⟨o', hrun, hop'⟩ := delete_run 77 0 48 Tryz.underlying77 101 w3.drew gm at_ o hob _ hop
 unfold keyV at hrun
 have HO3 := As.mk (HO2.out.drew.setMap 3 rfl o' hop')
 simp only [zq6, zq5, ← HMB.out] at HO3
 clear hob hop hop' y0 z11 HO2
 go_wp2
 refine hK.out _ _ ?_
 clear hK K
 refine Run.nil ?_
 obtain ⟨w4, hw4⟩ : ∃ w4, w4 = setBlock w3.drew gm o' := ⟨_, rfl⟩
 rw [← hw4] at HO3 ⊢
 clear hw4
 have HO4 := As.mk (HO3.out.front 1 rfl)
 simp only [List.eraseIdx_cons_succ, List.eraseIdx_cons_zero] at HO4
 clear HO3 hrun
 have y0 := HO4.out.get me1 0 (by simp)
 have y1 := HO4.out.get me1 1 (by simp)
 have y2 := HO4.out.get me1 2 (by simp)
 go_wp2_with fail
 refine (HME.out _ _ _ _ HO4.out me1 rfl rfl).mono ?_
 rintro e w5 ⟨rfl, ho⟩
 have HO5 := As.mk ho
 clear ho HO4 y0 y1 y2
 go_wp2_with fail
 have z12 := HO5.out.get me2 12 (by simp)
 have y1 := HO5.out.get me1 1 (by simp)
 refine rgn [(0, 1), (1, 1), (2, 1), (3, 0), (4, 1), (5, 0), (6, 1), (7, 1), (8, 1), (9, 3)] [9] (fun W => W.cell? ⟨h, 12, none⟩ = some (.int .i64 live) ∧ W.cell? ⟨w.heap.size, 1, none⟩ = some (.int .i64 ch)) (by kernel_rfl) (by kernel_rfl) (fun _ _ _ d _ h => by cases d <;> exact h) ⟨z12, y1⟩ ?_
 iterate 3 (refine Run.pu (v := ?_) (a' := ?_) rfl rfl (Or.inl ⟨by rfl, ?_⟩) ?_ ?_; rotate_left 2; (focus (intro W; go_simp; with_reducible rfl)); (focus (simp only [Act.put, zq4, zq5, zq6]; rfl)))
 refine Run.rd (v := ?_) (a' := ?_) rfl rfl (Or.inl ⟨by rfl, ?_⟩) ?_ ?_; rotate_left 2; (focus (rintro W ⟨hW1, hW2⟩; go_simp; with_reducible rfl)); (focus (simp only [Act.put, zq4, zq5, zq6]; rfl))
 refine Run.pu (v := ?_) (a' := ?_) rfl rfl (Or.inl ⟨by rfl, ?_⟩) ?_ ?_; rotate_left 2; (focus (intro W; go_simp; with_reducible rfl)); (focus (simp only [Act.put, zq4, zq5, zq6]; rfl))
 refine Run.rd (v := ?_) (a' := ?_) rfl rfl (Or.inl ⟨by rfl, ?_⟩) ?_ ?_; rotate_left 2; (focus (rintro W ⟨hW1, hW2⟩; go_simp; with_reducible rfl)); (focus (simp only [Act.put, zq4, zq5, zq6]; rfl))
 iterate 3 (refine Run.pu (v := ?_) (a' := ?_) rfl rfl (Or.inl ⟨by rfl, ?_⟩) ?_ ?_; rotate_left 2; (focus (intro W; go_simp; with_reducible rfl)); (focus (simp only [Act.put, zq4, zq5, zq6]; rfl)))
 refine Run.la rfl (fun K hK => ?_)
 simp only [zq1, zq2, zq3]
 try simp only [zq4, zq5, zq6]
 have f12 := HO5.out.drew.frozen (g := h) me2 12
 have HO6 := As.mk (HO5.out.drew.set 2 rfl 12 (.int .i64 ((live - b.ch c : Nat) : Int)) (by simp))
 simp only [zq6, zq5] at HO6
 have hlv := HLV.out
 clear HO5
 go_wp2
 refine hK.out _ _ ?_
 clear hK K
 refine Run.nil ?_
 go_end0
 exact ⟨rfl, _, _, _, _, _, _, HO6.out.drop2⟩
end Go.Proofs.YtmookafmdonopaaGreat.Top
