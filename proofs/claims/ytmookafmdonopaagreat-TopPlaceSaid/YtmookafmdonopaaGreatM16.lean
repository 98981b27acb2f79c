/- (*heap.Heap).puts walked. -/
import Derived.Test.YtmookafmdonopaaGreatM15
/- (*heap.Heap).puts walked. -/
namespace Go.Proofs.YtmookafmdonopaaGreat.Top
open Go Go.RowKit Go.Instr Go.ChangeMaps
set_option linter.unusedVariables false
set_option linter.unusedSimpArgs false
attribute [local go_sem] max2_int min2_int max_two min_two max_three

/-- what a heap knows, but for its bytes -/
structure Hs where
 (bl : List Bk)
 (peak mark : Nat)
 (on : List Bool)
/-- the lowest place of a class in which nothing is live -/
def lowB (c : Cf) (bl : List Bk) (k : Nat) : Option Nat := (List.range (c.H / c.G / 2 ^ k)).find? fun i => !bk (bitsB c bl) k i
def bkAt (c : Cf) (i k asked : Nat) : Bk := ⟨i * 2 ^ k * c.G, k, asked⟩
/-- a block is placed -/
def putsP (c : Cf) (s : Hs) (k asked : Nat) : Hs × Int × Int :=
 match lowB c s.bl k with
 | none => (s, 0, 7)
 | some i =>
  match commitP s.on (metB (metN c s.bl)) (pgF c (bkAt c i k asked)) (pgB c (bkAt c i k asked)) c.P with
  | none => (s, 0, 6)
  | some (on', fr) => (⟨insB s.bl (bkAt c i k asked), max s.peak (sumB c (insB s.bl (bkAt c i k asked))), max s.mark (i * 2 ^ k * c.G + c.G * 2 ^ k), on'⟩, ((i * 2 ^ k * c.G : Nat) : Int), 0)
def bytesV (l : List Nat) : List Value := l.map fun (x : Nat) => Value.int .u8 (x : Int)
theorem bytesV_set (l : List Nat) (k x : Nat) : (bytesV l).set k (.int .u8 (x : Int)) = bytesV (l.set k x) := by simp [bytesV]
theorem bytesV_len (l : List Nat) : (bytesV l).length = l.length := by simp [bytesV]
/-- what is true of a heap -/
structure Iv (c : Cf) (s : Hs) : Prop where
 good : Good c
 small : c.H ≤ 4096
 inv : InvB c s.bl
 on : s.on.length = c.H / c.Page
 live : sumB c s.bl ≤ c.M
 peak : s.peak ≤ c.M
 mark : s.mark ≤ c.H
structure Hd where
 (g cap gm gy capy : Nat)
 (Ao At As_ : Option Addr)
 (co nt ct ns cs : Nat)
def Hd.t (d : Hd) : Value := .slice d.At d.nt d.ct
def Hd.sd (d : Hd) : Value := .slice d.As_ d.ns d.cs
def Hd.met (d : Hd) (c : Cf) : Value := .slice (some ⟨d.g, 0, none⟩) (c.H / c.Page) d.cap
def Hd.on (d : Hd) (c : Cf) : Value := .slice d.Ao (c.H / c.Page) d.co
def Hd.mem (d : Hd) (c : Cf) : Value := .slice (some ⟨d.gy, 0, none⟩) c.H d.capy
/-- a heap lies at h -/
def HW (h : Nat) (c : Cf) (s : Hs) (mem : List Nat) (L : List (Nat × (Obj → Prop))) (R : World → Prop) (w0 w : World) : Prop :=
 mem.length = c.H ∧ ∃ d : Hd, c.H / c.Page ≤ d.cap ∧ c.H ≤ d.capy ∧
  Own [] ((d.g, EC 3 (natsV (metN c s.bl))) :: (h, EC 85 (hC c d.t d.sd d.gm (sumB c s.bl) s.peak s.mark (d.met c) (d.on c) (d.mem c))) :: (d.gm, MapP (mapB c s.bl)) :: (d.gy, EC 5 (bytesV mem)) :: L)
   (fun W => R W ∧ EngR W d.t d.sd (c.L + 1) (c.H / c.G) (bitsB c s.bl) (marksB s.bl) ∧ Row W (d.on c) (c.H / c.Page) (s.on.map Value.bool)) w0 w
theorem lowB_none {c : Cf} {bl : List Bk} {k : Nat} (h : ∀ j, j < c.H / c.G / 2 ^ k → bk (bitsB c bl) k j = true) : lowB c bl k = none := by
 unfold lowB
 rw [List.find?_eq_none]
 intro x hx
 rw [h x (List.mem_range.1 hx)]
 simp
theorem lowB_some {c : Cf} {bl : List Bk} {k i : Nat} (h1 : i < c.H / c.G / 2 ^ k) (h2 : bk (bitsB c bl) k i = false) (h3 : ∀ j, j < i → bk (bitsB c bl) k j = true) : lowB c bl k = some i := by
 unfold lowB
 rw [List.find?_range_eq_some]
 refine ⟨by rw [h2]; rfl, List.mem_range.2 h1, fun j hj => ?_⟩
 rw [h3 j hj]
 rfl
theorem lowB_spec {c : Cf} {bl : List Bk} {k i : Nat} (h : lowB c bl k = some i) : i < c.H / c.G / 2 ^ k ∧ bk (bitsB c bl) k i = false ∧ ∀ j, j < i → bk (bitsB c bl) k j = true := by
 unfold lowB at h
 rw [List.find?_range_eq_some] at h
 obtain ⟨h1, h2, h3⟩ := h
 exact ⟨List.mem_range.1 h2, by simpa using h1, fun j hj => by simpa using h3 j hj⟩
/-- the block that is placed -/
theorem bkAt_ok {c : Cf} {bl : List Bk} {k i asked : Nat} (hg : Good c) (hi : InvB c bl) (hk : k ≤ c.L) (h : lowB c bl k = some i) (ha : asked ≤ c.G * 2 ^ k) :
 (∀ y ∈ bl, y.at_ + y.ch c ≤ (bkAt c i k asked).at_ ∨ (bkAt c i k asked).at_ + (bkAt c i k asked).ch c ≤ y.at_) ∧ (bkAt c i k asked).at_ + (bkAt c i k asked).ch c ≤ c.H ∧ InvB c (insB bl (bkAt c i k asked)) := by
 obtain ⟨h1, h2, h3⟩ := lowB_spec h
 have hf := (free_iff hg hi k i).1 h2
 have hp := Nat.two_pow_pos k
 have hle : (i + 1) * 2 ^ k ≤ c.H / c.G := (Nat.le_div_iff_mul_le hp).1 h1
 have hfit : i * 2 ^ k * c.G + 2 ^ k * c.G ≤ c.H := by
  have h4 : (i + 1) * 2 ^ k * c.G ≤ c.H / c.G * c.G := Nat.mul_le_mul_right _ hle
  rw [(gran_dvd hg).2, Nat.add_mul, Nat.one_mul, Nat.add_mul] at h4
  exact h4
 have hfree : ∀ y ∈ bl, y.at_ + y.ch c ≤ (bkAt c i k asked).at_ ∨ (bkAt c i k asked).at_ + (bkAt c i k asked).ch c ≤ y.at_ := by
  intro y hy
  rw [ch_eq c (bkAt c i k asked)]
  exact hf y hy
 have hfit2 : (bkAt c i k asked).at_ + (bkAt c i k asked).ch c ≤ c.H := by
  rw [ch_eq]
  exact hfit
 refine ⟨hfree, hfit2, hi.ins hg hfree hk ⟨i, ?_⟩ hfit2 ha⟩
 show i * 2 ^ k * c.G = c.G * 2 ^ k * i
 rw [Nat.mul_comm (c.G * 2 ^ k), Nat.mul_comm c.G, Nat.mul_assoc]
theorem freshTo_lt (on : List Bool) (a : Nat) : ∀ k, ∀ p ∈ freshTo on a k, p < on.length
 | 0 => by simp [freshTo]
 | k + 1 => by
  unfold freshTo
  split
  · exact freshTo_lt on a k
  · rename_i h
    intro p hp
    rcases List.mem_append.1 hp with hp | hp
    · exact freshTo_lt on a k p hp
    · rw [List.mem_singleton] at hp
      subst hp
      rcases Nat.lt_or_ge (a + k) on.length with h1 | h1
      · exact h1
      · rw [List.getD_eq_getElem?_getD, List.getElem?_eq_none h1] at h
        exact absurd rfl h
theorem commitP_some {on met : List Bool} {a b most : Nat} {x : List Bool} {fr : List Nat} (h : commitP on met a b most = some (x, fr)) (hl : met.length = on.length) : x.length = on.length ∧ fr.length ≤ b - a ∧ ∀ p ∈ fr, p < on.length := by
 unfold commitP at h
 split at h
 · cases h
 · injection h with h
   injection h with h1 h2
   subst h1; subst h2
   refine ⟨?_, freshTo_len _ _ _, freshTo_lt _ _ _⟩
   split
   · simp [andL, onTo_len, hl]
   · exact onTo_len _ _ _
set_option maxHeartbeats 2000000 in
set_option maxRecDepth 100000 in
theorem heap_puts (h : Nat) (c : Cf) (s : Hs) (mem : List Nat) (L : List (Nat × (Obj → Prop))) (R : World → Prop) (w0 w : World) (k asked : Nat) (H : HW h c s mem L R w0 w) (iv : Iv c s) (hk : k ≤ c.L) (ha : asked ≤ c.G * 2 ^ k) (hM : sumB c s.bl + c.G * 2 ^ k ≤ c.M) :
 Calls Tryz.prog 85 #[.pointer (some ⟨h, 0, none⟩), .int .i64 ((c.G * 2 ^ k : Nat) : Int), .int .i64 (asked : Int)] w fun e w' => ∃ mem', e = .returned (.tuple #[.int .i64 (putsP c s k asked).2.1, .int .i64 (putsP c s k asked).2.2]) ∧ HW h c (putsP c s k asked).1 mem' L R w0 w' ∧ ((putsP c s k asked).2.2 ≠ 0 → mem' = mem) := by
 obtain ⟨hml, d, hcap, hcapy, H⟩ := H
 have hg := iv.good
 obtain ⟨b1, b2, b3, b4, b5, b6, b7⟩ := hg.bounds
 have hbl := iv.inv.len hg
 have hgd := gran_dvd hg
 have hkp := Nat.two_pow_pos k
 have hn1 : 1 ≤ c.H / c.G := (Nat.le_div_iff_mul_le hg.g1).2 (by omega)
 have hpg1 : 1 ≤ c.H / c.Page := (Nat.le_div_iff_mul_le hg.p1).2 (by omega)
 have hpgl : c.H / c.Page ≤ 65536 := Nat.le_trans (Nat.div_le_self _ _) b7
 have HCL := As.mk (fun W => class_Class c hg k W hk)
 have HPL := As.mk (fun W (hr : EngR W d.t d.sd (c.L + 1) (c.H / c.G) (bitsB c s.bl) (marksB s.bl)) => place_Place c.G (c.L + 1) (c.H / c.G) k d.t d.sd (bitsB c s.bl) (marksB s.bl) W hr (by omega) (by have := hg.lev; omega) hn1 (Nat.le_trans (Nat.div_le_self _ _) iv.small) hgd.1 (by rw [hgd.2]; exact b7) (by simp [marksB]; omega) (iv.inv.sorted hg) (by omega) (by
  intro i hi hf
  have h1 := (free_iff hg iv.inv k i).1 hf
  cases hh : hasM (marksB s.bl) (i * 2 ^ k * c.G) with
  | false => rfl
  | true =>
   exfalso
   obtain ⟨m, hm, he⟩ := List.any_eq_true.1 hh
   obtain ⟨y, hy, rfl⟩ := List.mem_map.1 hm
   rw [decide_eq_true_iff] at he
   have h2 : y.at_ = i * 2 ^ k * c.G := he
   have h3 := ch_pos hg y
   have h4 : 1 ≤ 2 ^ k * c.G := Nat.mul_pos hkp hg.g1
   rcases h1 y hy with h5 | h5
   · rw [h2] at h5
     clear hgd
     omega
   · rw [h2] at h5
     clear hgd
     omega))
 have hLB0 := fun h0 => lowB_none (c := c) (bl := s.bl) (k := k) h0
 have hLB1 := fun i h1 h2 h3 => lowB_some (c := c) (bl := s.bl) (k := k) (i := i) h1 h2 h3
 have LB := As.mk (And.intro hLB0 hLB1)
 have IV := As.mk iv
 have BOK := As.mk (fun i (hl : lowB c s.bl k = some i) => bkAt_ok (asked := asked) hg iv.inv hk hl ha)
 have PS := As.mk (show putsP c s k asked = putsP c s k asked from rfl)
 obtain ⟨ch, hch⟩ : ∃ ch, ch = c.G * 2 ^ k := ⟨_, rfl⟩
 have CH := As.mk hch
 have hch1 : 1 ≤ ch := by rw [hch]; exact Nat.mul_pos hg.g1 hkp
 have hch2 : ch ≤ 65536 := by rw [hch]; omega
 have HG := As.mk hg
 have HMM := As.mk hM
 have HCAP := As.mk (And.intro hml (And.intro hcap hcapy))
 have HO := As.mk H
 rw [← hch] at HCL ⊢
 rw [Cf.v] at HCL
 have cells := H.hc me1
 obtain ⟨z0, z1, z2, z3, z4, z5, z6, z7, z8, z9, z10, z11, z12, z13, z14, z15, z16, z17⟩ := cells
 clear H hM hch hg iv hml hcap hcapy hgd hkp hk ha hLB0 hLB1 hbl
 go_enter Tryz.func85, Tryz.ntmps85
 go_wp2_with fail
 refine (HCL.out _).mono ?_
 rintro e w1 ⟨rfl, hb⟩
 have HO1 := As.mk (HO.out.below hb)
 clear hb HO HCL z0 z1 z2 z3 z4 z5 z6 z7 z8 z9 z10 z11 z12 z13 z14 z15 z16 z17
 obtain ⟨-, -, -, -, -, -, -, -, z8, z9, z10, -, -, -, -, -, -, -⟩ := HO1.out.hc me1
 go_wp2_with fail
 refine (HPL.out _ HO1.out.now.2.1).mono ?_
 rintro e w2 ⟨hpl, hb⟩
 clear z8 z9 z10 HPL
 rcases hpl with ⟨t', s', rfl, hef, hall⟩ | ⟨i, t', s', rfl, hi1, hi2, hi3, hef⟩
 · obtain ⟨gt, ct', As', ds', rfl, rfl⟩ := hef.now.slices
   have HO2 := As.mk (HO1.out.below hb)
   have HE := As.mk (LB.out.1 hall)
   clear hef hb hall HO1 LB BOK
   go_wp2_with fail
   have hP : putsP c s k asked = (s, 0, 7) := by
    unfold putsP
    rw [HE.out]
   rw [hP]
   have HO3 := As.mk ((HO2.out.box #[.int .i64 c.G, .slice (some ⟨gt, 0, none⟩) (c.L + 1) ct', .slice As' (marksB s.bl).length ds'] 83).drop)
   go_ret2
   exact ⟨mem, rfl, ⟨HCAP.out.1, d, HCAP.out.2.1, HCAP.out.2.2, HO3.out⟩, fun _ => rfl⟩
 · obtain ⟨gt, ct', As', ds', rfl, rfl⟩ := hef.now.slices
   have HE := As.mk (LB.out.2 i hi1 hi2 hi3)
   obtain ⟨bfree, bfit, binv⟩ := BOK.out i HE.out
   obtain ⟨b, hb0⟩ : ∃ b, b = bkAt c i k asked := ⟨_, rfl⟩
   have hbch : b.ch c = ch := by rw [hb0, CH.out]; rfl
   have hbk : b.k = k := by rw [hb0]; rfl
   have hbas : b.asked = asked := by rw [hb0]; rfl
   have hbat : b.at_ = i * 2 ^ k * c.G := by rw [hb0]; rfl
   rw [← hb0] at bfree bfit binv
   have hbits : bitsB c (insB s.bl b) = setB (bitsB c s.bl) (i * 2 ^ k) (2 ^ k) true := by rw [bits_ins HG.out s.bl (i * 2 ^ k) hbat, hbk]
   have hmk : putM (marksB s.bl) (i * 2 ^ k * c.G, k) = marksB (insB s.bl b) := by rw [← hbat, ← hbk]; exact marks_ins _ _
   rw [← hbits, hmk] at hef
   rw [hmk, ← hbat]
   obtain ⟨at_, hat⟩ : ∃ a, a = b.at_ := ⟨_, rfl⟩
   rw [← hat]
   obtain ⟨ml, hml⟩ : ∃ ml, ml = (marksB (insB s.bl b)).length := ⟨_, rfl⟩
   rw [← hml] at hef ⊢
   have HO2 := As.mk (HO1.out.result (R' := fun W => EngR W (.slice (some ⟨gt, 0, none⟩) (c.L + 1) ct') (.slice As' ml ds') (c.L + 1) (c.H / c.G) (bitsB c (insB s.bl b)) (marksB (insB s.bl b))) hb (fun W hW => hef W hW))
   have HPP := As.mk (fun W => pin_Pages c.Page at_ ch W HG.out.p1 hch1 (by rw [hat]; omega) (by omega) (by omega))
   rw [show (at_ / c.Page : Nat) = pgF c b by rw [hat]; rfl, show ((at_ + ch - 1) / c.Page + 1 : Nat) = pgB c b by rw [hat, ← hbch]; rfl] at HPP
   have BI := As.mk (And.intro hb0 (And.intro hbch (And.intro hat (And.intro bfree (And.intro binv (And.intro (pg_le HG.out b) (pgB_le HG.out b bfit)))))))
   have hat2 : at_ ≤ 65536 := by rw [hat]; omega
   clear hef hb hi1 hi2 hi3 HO1 LB BOK bfree bfit binv hb0 hbch hbk hbas hbat hbits hmk hat hml
   obtain ⟨f, hf⟩ : ∃ f, f = pgF c b := ⟨_, rfl⟩
   obtain ⟨bh, hbh⟩ : ∃ f, f = pgB c b := ⟨_, rfl⟩
   rw [← hf, ← hbh] at HPP
   have FB := As.mk (And.intro hf hbh)
   clear hf hbh
   have HO3 := As.mk (HO2.out.box #[.int .i64 c.G, .slice (some ⟨gt, 0, none⟩) (c.L + 1) ct', .slice As' ml ds'] 83)
   have z4 := (HO3.out.hc me2).c4
   go_wp2_with fail
   obtain ⟨w3, hw3⟩ : ∃ w3, w3 = w2.alloc (.cells #[.int .i64 c.G, .slice (some ⟨gt, 0, none⟩) (c.L + 1) ct', .slice As' ml ds'] 83) := ⟨_, rfl⟩
   obtain ⟨q2, hq2⟩ : ∃ q, q = w2.heap.size := ⟨_, rfl⟩
   rw [← hq2, ← hw3] at HO3
   simp only [← hw3, ← hq2]
   clear hw3 hq2 HO2 z4
   refine (HPP.out _).mono ?_
   rintro e w4 ⟨rfl, nq, rfl⟩
   have HO4 := As.mk (HO3.out.drewN nq)
   clear HO3 HPP
   obtain ⟨w4, hw4⟩ : ∃ w4, w4 = w3.drewN nq := ⟨_, rfl⟩
   rw [← hw4] at HO4 ⊢
   clear hw4
   go_wp2_with fail
   have z16 := (HO4.out.hc me2).c16
   have z5 := (HO4.out.hc me2).c5
   refine rgn [(0, 1), (1, 1), (2, 1), (3, 0), (4, 1), (6, 1), (7, 1), (8, 1), (9, 1), (10, 1), (11, 1), (12, 0), (5, 2), (13, 2), (14, 1), (15, 1), (16, 1), (17, 1), (18, 1), (19, 1), (20, 1)] [] (fun W => W.cell? ⟨h, 16, none⟩ = some (d.on c) ∧ W.cell? ⟨h, 5, none⟩ = some (.int .i64 c.P)) (by kernel_rfl) (by kernel_rfl) (fun _ _ _ d _ h => by cases d <;> exact h) ⟨z16, z5⟩ ?_
   iterate 3 (refine Run.pu (v := ?_) (a' := ?_) rfl rfl (Or.inl ⟨by rfl, ?_⟩) ?_ ?_; rotate_left 2; (focus (intro W; go_simp; with_reducible rfl)); (focus (simp only [Act.put, zq4, zq5, zq6]; rfl)))
   refine Run.rd (v := ?_) (a' := ?_) rfl rfl (Or.inl ⟨by rfl, ?_⟩) ?_ ?_; rotate_left 2; (focus (rintro W ⟨hW1, hW2⟩; go_simp; with_reducible rfl)); (focus (simp only [Act.put, zq4, zq5, zq6]; rfl))
   iterate 7 (refine Run.pu (v := ?_) (a' := ?_) rfl rfl (Or.inl ⟨by rfl, ?_⟩) ?_ ?_; rotate_left 2; (focus (intro W; go_simp; with_reducible rfl)); (focus (simp only [Act.put, zq4, zq5, zq6]; rfl)))
   refine Run.rd (v := ?_) (a' := ?_) rfl rfl (Or.inl ⟨by rfl, ?_⟩) ?_ ?_; rotate_left 2; (focus (rintro W ⟨hW1, hW2⟩; go_simp; with_reducible rfl)); (focus (simp only [Act.put, zq4, zq5, zq6]; rfl))
   refine Run.ef rfl (fun K hK => ?_)
   simp only [zq1, zq2, zq3]
   try simp only [zq4, zq5, zq6]
   obtain ⟨met, hmet⟩ : ∃ m, m = metN c s.bl := ⟨_, rfl⟩
   have hmetl : met.length = c.H / c.Page := by rw [hmet, metN_len]
   have HML := As.mk (And.intro hmet hmetl)
   obtain ⟨np, hnp⟩ : ∃ np, np = c.H / c.Page := ⟨_, rfl⟩
   have HGP := As.mk (fun W (hc : W.cell? ⟨h, 15, none⟩ = some (.slice (some ⟨d.g, 0, none⟩) np d.cap)) (hr : Row W (.slice (some ⟨d.g, 0, none⟩) np d.cap) np (natsV met)) => heap_pages h (some ⟨d.g, 0, none⟩) d.cap met W (by rw [hmetl, ← hnp]; exact hc) (by rw [hmetl, ← hnp]; exact hr) (by rw [hmetl]; omega))
   rw [hmetl, ← hnp] at HGP
   have HCO := As.mk (fun W A2 c2 (h1 : Row W (.slice d.Ao np d.co) np (s.on.map Value.bool)) (h2 : Row W (.slice A2 np c2) np ((metB met).map Value.bool)) => commit_Commit d.Ao A2 d.co c2 f bh c.P s.on (metB met) W (by rw [IV.out.on, ← hnp]; exact h1) (by rw [metB, List.length_map, hmetl, ← hnp]; exact h2) (by rw [IV.out.on]; omega) (by rw [IV.out.on]; omega) (by rw [IV.out.on, metB, List.length_map, hmetl]) (by rw [FB.out.1, FB.out.2]; have := BI.out.2.2.2.2.2.1; omega) (by rw [IV.out.on, FB.out.2]; exact BI.out.2.2.2.2.2.2) (by have := HG.out.p; omega))
   rw [IV.out.on, show (metB met).length = c.H / c.Page by rw [metB, List.length_map, hmetl], ← hnp] at HCO
   rw [← hmet] at HO4
   have HNP := As.mk hnp
   simp only [Hd.met, Hd.on, ← hnp] at HO4 z16 ⊢
   clear hmet hmetl hnp
   go_wp2_with fail
   refine (HGP.out _ (HO4.out.drew.hc me2).c15 ((HO4.out.drew.fr me1 (by rw [HNP.out]; exact HCAP.out.2.1)).now)).mono ?_
   rintro e w5 ⟨v5, rfl, hfr, hb⟩
   obtain ⟨A5, c5, rfl⟩ := hfr.slice
   have HO5 := As.mk (HO4.out.drew.result (R' := fun W => Row W (.slice A5 np c5) np ((metB met).map Value.bool)) hb (fun W hW => hfr.row hW))
   clear hfr hb HO4 z16 z5 HGP
   go_wp2
   refine hK.out _ _ ⟨by rw [Hd.on, ← HNP.out]; exact (HO5.out.hc me2).c16, (HO5.out.hc me2).c5⟩ ?_
   clear hK K
   refine Run.ef rfl (fun K hK => ?_)
   simp only [zq1, zq2, zq3]
   try simp only [zq4, zq5, zq6]
   go_wp2_with fail
   refine (HCO.out _ _ _ (by have h9 := HO5.out.now.1.1.2.2; exact h9) (by have h9 := HO5.out.now.2; exact h9)).mono ?_
   rintro e w6 ⟨hb, hcase⟩
   clear HCO
   rcases hcase with ⟨hcp, rfl⟩ | ⟨x, fr, v1, v2, hcp, rfl, hf1, hf2⟩
   · have HP : As (putsP c s k asked = (s, 0, 6)) := by
      refine ⟨?_⟩
      unfold putsP
      rw [HE.out]
      dsimp only
      rw [← BI.out.1, ← FB.out.1, ← FB.out.2, ← HML.out.1, hcp]
     have HO6 := As.mk (HO5.out.below hb)
     clear hcp hb HO5
     go_wp2
     refine hK.out _ _ ⟨by rw [Hd.on, ← HNP.out]; exact (HO6.out.hc me2).c16, (HO6.out.hc me2).c5⟩ ?_
     clear hK K
     iterate 7 (refine Run.pu (v := ?_) (a' := ?_) rfl rfl (Or.inl ⟨by rfl, ?_⟩) ?_ ?_; rotate_left 2; (focus (intro W; go_simp; with_reducible rfl)); (focus (simp only [Act.put, zq4, zq5, zq6]; rfl)))
     refine Run.nil ?_
     simp only [zq1, zq2, zq3]
     try simp only [zq4, zq5, zq6]
     go_wp2_with fail
     rw [HP.out]
     go_ret2
     refine ⟨mem, rfl, ⟨HCAP.out.1, d, HCAP.out.2.1, HCAP.out.2.2, ?_⟩, fun _ => rfl⟩
     have h9 := HO6.out.drop.imp (R' := fun W => R W ∧ EngR W d.t d.sd (c.L + 1) (c.H / c.G) (bitsB c s.bl) (marksB s.bl) ∧ Row W (.slice d.Ao np d.co) np (s.on.map Value.bool)) (fun W hW => hW.1.1)
     rw [Hd.met, Hd.on, ← HNP.out, ← HML.out.1]
     exact h9
   · obtain ⟨A6, c6, rfl⟩ := hf1.slice
     obtain ⟨A7, c7, rfl⟩ := hf2.slice
     have CP := As.mk hcp
     have CB := As.mk (commitP_some hcp (by rw [IV.out.on, metB, List.length_map, HML.out.2]))
     have HO6 := As.mk ((HO5.out.result (R' := fun W => Row W (.slice A6 np c6) np (x.map Value.bool)) hb (fun W hW => hf1.row hW)).reads (R' := fun W => Row W (.slice A7 fr.length c7) fr.length (natsV fr)) (fun W hW => hf2.row (fun k hk hlt => hW k hlt (Nat.le_trans HO5.out.size hk) (fun hm => HO5.out.fresh hk hm))))
     obtain ⟨frl, hfrl⟩ : ∃ n, n = fr.length := ⟨_, rfl⟩
     have FL := As.mk hfrl
     rw [← hfrl] at HO6 ⊢
     have hfr4 : frl ≤ 65536 := by
      have h1 := CB.out.2.1
      have h2 := BI.out.2.2.2.2.2.2
      have h3 := FB.out
      rw [hfrl]
      omega
     clear hcp hb hf1 hf2 hfrl HO5
     go_wp2
     refine hK.out _ _ ⟨by rw [Hd.on, ← HNP.out]; exact (HO6.out.hc me2).c16, (HO6.out.hc me2).c5⟩ ?_
     clear hK K
     iterate 7 (refine Run.pu (v := ?_) (a' := ?_) rfl rfl (Or.inl ⟨by rfl, ?_⟩) ?_ ?_; rotate_left 2; (focus (intro W; go_simp; with_reducible rfl)); (focus (simp only [Act.put, zq4, zq5, zq6]; rfl)))
     refine Run.nil ?_
     simp only [zq1, zq2, zq3]
     try simp only [zq4, zq5, zq6]
     go_wp2_with fail
     obtain ⟨RR, hRR⟩ : ∃ RR, RR = (fun W => ((((R W ∧ EngR W d.t d.sd (c.L + 1) (c.H / c.G) (bitsB c s.bl) (marksB s.bl) ∧ Row W (.slice d.Ao np d.co) np (s.on.map Value.bool)) ∧ EngR W (.slice (some ⟨gt, 0, none⟩) (c.L + 1) ct') (.slice As' ml ds') (c.L + 1) (c.H / c.G) (bitsB c (insB s.bl b)) (marksB (insB s.bl b))) ∧ Row W (.slice A5 np c5) np ((metB met).map Value.bool)) ∧ Row W (.slice A6 np c6) np (x.map Value.bool)) ∧ Row W (.slice A7 frl c7) frl (natsV fr)) := ⟨_, rfl⟩
     rw [← hRR] at HO6
     have HRR := As.mk (show ∀ W, RR W → R W ∧ EngR W (.slice (some ⟨gt, 0, none⟩) (c.L + 1) ct') (.slice As' ml ds') (c.L + 1) (c.H / c.G) (bitsB c (insB s.bl b)) (marksB (insB s.bl b)) ∧ Row W (.slice A6 np c6) np (x.map Value.bool) ∧ Row W (.slice A7 frl c7) frl (natsV fr) from fun W hW => by rw [hRR] at hW; exact ⟨hW.1.1.1.1.1, hW.1.1.1.2, hW.1.2, hW.2⟩)
     have PGE := As.mk (show np * c.Page = c.H by rw [HNP.out]; exact Nat.div_mul_cancel (page_dvd HG.out))
     clear hRR
     have hpage : c.Page ≤ 65536 := by omega
     have hseed := HG.out.seed
     have hnp6 : np ≤ 65536 := by rw [HNP.out]; exact hpgl
     go_loopw [74] (fun i wr => ∃ (q : Nat) (mem' : List Nat), q ≤ frl ∧ mem'.length = c.H ∧ i = .int .i64 (q : Int) ∧ Own [] ((q2, EC 83 [.int .i64 c.G, .slice (some ⟨gt, 0, none⟩) (c.L + 1) ct', .slice As' ml ds']) :: (d.g, EC 3 (natsV met)) :: (h, EC 85 (hC c d.t d.sd d.gm (sumB c s.bl) s.peak s.mark (.slice (some ⟨d.g, 0, none⟩) np d.cap) (.slice d.Ao np d.co) (d.mem c))) :: (d.gm, MapP (mapB c s.bl)) :: (d.gy, EC 5 (bytesV mem')) :: L) RR w0 wr) (fun i _ => frl - (intOf i).toNat)
     case atStart => exact ⟨0, mem, Nat.zero_le _, HCAP.out.1, rfl, HO6.out⟩
     case round =>
      clear HO6
      obtain ⟨q, mem1, hq, hm1, rfl, ho⟩ := hrel
      have HO7 := As.mk ho
      clear ho
      by_cases hqn : q < frl
      · obtain ⟨pg, hpg⟩ : ∃ p, fr[q]? = some p := ⟨fr[q]'(by rw [← FL.out]; exact hqn), List.getElem?_eq_getElem _⟩
        have hpgn : pg < np := by
         have h1 := CB.out.2.2 pg (List.mem_of_getElem? hpg)
         rw [IV.out.on, ← HNP.out] at h1
         exact h1
        obtain ⟨b7', o7, hA7, hnc7, hcell7⟩ := (HRR.out _ HO7.out.now).2.2.2.cell (by simp [natsV, ← FL.out]; omega)
        have y7 := hcell7 q _ (natsV_at fr q pg hpg)
        rw [hA7]
        have z4 := (HO7.out.hc me2).c4
        have hppl : pg * c.Page + c.Page ≤ c.H := by
         have h1 : (pg + 1) * c.Page ≤ np * c.Page := Nat.mul_le_mul_right _ hpgn
         rw [PGE.out, Nat.add_mul, Nat.one_mul] at h1
         exact h1
        obtain ⟨pp, hpp⟩ : ∃ pp, pp = pg * c.Page := ⟨_, rfl⟩
        rw [← hpp] at hppl
        have E1 := As.mk (show IntKind.i64.wrap ((pg : Int) * (c.Page : Int)) = (pp : Int) by rw [mul_i pg c.Page pp hpp]; exact iw64 _ (by omega) (by omega))
        have HQ := As.mk (And.intro hpg hpp)
        clear hcell7 hpg hpp
        have hdb : pg ≤ 65536 := by omega
        go_wp2_with fail
        clear y7 z4
        go_loopw [83] (fun i wr => ∃ (j : Nat) (mem' : List Nat), j ≤ c.Page ∧ mem'.length = c.H ∧ i = .int .i64 (j : Int) ∧ Own [] ((q2, EC 83 [.int .i64 c.G, .slice (some ⟨gt, 0, none⟩) (c.L + 1) ct', .slice As' ml ds']) :: (d.g, EC 3 (natsV met)) :: (h, EC 85 (hC c d.t d.sd d.gm (sumB c s.bl) s.peak s.mark (.slice (some ⟨d.g, 0, none⟩) np d.cap) (.slice d.Ao np d.co) (d.mem c))) :: (d.gm, MapP (mapB c s.bl)) :: (d.gy, EC 5 (bytesV mem')) :: L) RR w0 wr) (fun i _ => c.Page - (intOf i).toNat)
        case atStart => exact ⟨0, mem1, Nat.zero_le _, hm1, rfl, HO7.out⟩
        case round =>
         clear HO7
         obtain ⟨j, mem2, hj, hm2, rfl, ho⟩ := hrel
         have HO8 := As.mk ho
         clear ho
         by_cases hjn : j < c.Page
         · obtain ⟨z0, z1, z2, z3, z4, z5, z6, z7, z8, z9, z10, z11, z12, z13, z14, z15, z16, z17⟩ := HO8.out.hc me2
           clear z0 z1 z2 z3 z5 z6 z8 z9 z10 z11 z12 z13 z14 z15 z16
           have c1 : ((j : Int) < (c.Page : Int)) = True := eq_true (by omega)
           have c1' : (j < c.Page) = True := eq_true hjn
           obtain ⟨pj, hpj⟩ : ∃ pj, pj = pp + j := ⟨_, rfl⟩
           have hpjH : pj < c.H := by omega
           have E2 := As.mk (show IntKind.i64.wrap ((pp : Int) + (j : Int)) = (pj : Int) by rw [hpj, ← Int.natCast_add]; exact iw64 _ (by omega) (by omega))
           clear hpj
           go_wp2_with fail
           refine rgn [(0, 1), (1, 1), (2, 1), (3, 0), (4, 1), (5, 1), (6, 1), (7, 1), (8, 1), (9, 0), (10, 1), (11, 1), (12, 1), (13, 1), (14, 1), (15, 1), (16, 1), (17, 0), (18, 1), (19, 1), (20, 2), (21, 1), (22, 3)] [22] (fun W => W.cell? ⟨h, 17, none⟩ = some (.slice (some ⟨d.gy, 0, none⟩) c.H d.capy) ∧ W.cell? ⟨h, 4, none⟩ = some (.int .i64 c.Page) ∧ W.cell? ⟨h, 7, none⟩ = some (.int .i64 c.Seed)) (by kernel_rfl) (by kernel_rfl) (fun _ _ _ d _ h => by cases d <;> exact h) ⟨z17, z4, z7⟩ ?_
           iterate 3 (refine Run.pu (v := ?_) (a' := ?_) rfl rfl (Or.inl ⟨by rfl, ?_⟩) ?_ ?_; rotate_left 2; (focus (intro W; go_simp; with_reducible rfl)); (focus (simp only [Act.put, zq4, zq5, zq6]; rfl)))
           refine Run.rd (v := ?_) (a' := ?_) rfl rfl (Or.inl ⟨by rfl, ?_⟩) ?_ ?_; rotate_left 2; (focus (rintro W ⟨hW1, hW2, hW3⟩; go_simp; with_reducible rfl)); (focus (simp only [Act.put, zq4, zq5, zq6]; rfl))
           iterate 5 (refine Run.pu (v := ?_) (a' := ?_) rfl rfl (Or.inl ⟨by rfl, ?_⟩) ?_ ?_; rotate_left 2; (focus (intro W; go_simp; with_reducible rfl)); (focus (simp only [Act.put, zq4, zq5, zq6]; rfl)))
           refine Run.rd (v := ?_) (a' := ?_) rfl rfl (Or.inl ⟨by rfl, ?_⟩) ?_ ?_; rotate_left 2; (focus (rintro W ⟨hW1, hW2, hW3⟩; go_simp; with_reducible rfl)); (focus (simp only [Act.put, zq4, zq5, zq6]; rfl))
           iterate 7 (refine Run.pu (v := ?_) (a' := ?_) rfl rfl (Or.inl ⟨by rfl, ?_⟩) ?_ ?_; rotate_left 2; (focus (intro W; go_simp; with_reducible rfl)); (focus (simp only [Act.put, zq4, zq5, zq6]; rfl)))
           refine Run.rd (v := ?_) (a' := ?_) rfl rfl (Or.inl ⟨by rfl, ?_⟩) ?_ ?_; rotate_left 2; (focus (rintro W ⟨hW1, hW2, hW3⟩; go_simp; with_reducible rfl)); (focus (simp only [Act.put, zq4, zq5, zq6]; rfl))
           iterate 2 (refine Run.pu (v := ?_) (a' := ?_) rfl rfl (Or.inl ⟨by rfl, ?_⟩) ?_ ?_; rotate_left 2; (focus (intro W; go_simp; with_reducible rfl)); (focus (simp only [Act.put, zq4, zq5, zq6]; rfl)))
           refine Run.ef rfl (fun K hK => ?_)
           simp only [zq1, zq2, zq3]
           try simp only [zq4, zq5, zq6]
           go_wp2_with fail
           simp only [E1.out, E2.out]
           refine (junk_Byte c.Seed pg j _ (by omega) (by omega) (by omega)).mono ?_
           rintro e w9 ⟨rfl, hw9⟩
           rw [hw9]
           clear hw9 w9
           go_wp2
           refine hK.out _ _ ⟨z17, z4, z7⟩ ?_
           clear hK K
           have hcy := HCAP.out.2.2
           refine Run.pu (v := ?_) (a' := ?_) rfl rfl (Or.inl ⟨by rfl, ?_⟩) ?_ ?_; rotate_left 2; (focus (intro W; go_simp; with_reducible rfl)); (focus (simp only [Act.put, zq4, zq5, zq6]; rfl))
           refine Run.la rfl (fun K hK => ?_)
           simp only [zq1, zq2, zq3]
           try simp only [zq4, zq5, zq6]
           have y4 := HO8.out.drew.get me4 pj (by rw [bytesV_len, hm2]; exact hpjH)
           rw [List.getElem?_eq_getElem (by rw [bytesV_len, hm2]; exact hpjH)] at y4
           have f4 := HO8.out.drew.frozen (g := d.gy) me4 pj
           have HO9 := As.mk (HO8.out.drew.set 4 rfl pj (.int .u8 ((jb c.Seed pg j : Nat) : Int)) (by rw [bytesV_len, hm2]; exact hpjH))
           simp only [zq6, zq5, bytesV_set] at HO9
           obtain ⟨jbv, hjbv⟩ : ∃ v, v = jb c.Seed pg j := ⟨_, rfl⟩
           rw [← hjbv] at HO9
           simp only [← hjbv]
           clear hjbv HO8
           go_wp2
           refine hK.out _ _ ?_
           clear hK K
           refine Run.nil ?_
           go_wp2
           go_roundw
           case rel => exact ⟨j + 1, mem2.set pj jbv, by omega, by rw [List.length_set]; exact hm2, by go_num, HO9.out⟩
           case measure => simp [intOf]; omega
         · have e1 : j = c.Page := by omega
           subst e1
           have c1 : ((c.Page : Int) < (c.Page : Int)) = False := eq_false (by omega)
           go_wp2
           go_roundw
           case rel => exact ⟨q + 1, mem2, by omega, hm2, by go_num, HO8.out⟩
           case measure => simp [intOf]; omega
      · have e1 : q = frl := by omega
        subst e1
        have f16 := HO7.out.frozen (g := h) me2 16
        have s16 := (HO7.out.hc me2).c16
        have HO8 := As.mk (HO7.out.set 2 rfl 16 (.slice A6 np c6) (by simp [hC]))
        have y0 := HO8.out.get me0 0 (by simp)
        have y1 := HO8.out.get me0 1 (by simp)
        have y2 := HO8.out.get me0 2 (by simp)
        go_wp2_with fail
        obtain ⟨w7, hw7⟩ : ∃ w7, w7 = wr.setCell ⟨h, 16, none⟩ (.slice A6 np c6) := ⟨_, rfl⟩
        rw [← hw7] at HO8
        simp only [← hw7]
        clear hw7 y0 y1 y2 f16 s16 HO7
        obtain ⟨hbe, hbch, hbat, bfree, binv, -, -⟩ := BI.out
        have hno : ∀ y ∈ s.bl, y.at_ ≠ b.at_ := by
         intro y hy
         have h3 := ch_pos HG.out y
         have h4 := ch_pos HG.out b
         rcases bfree y hy with h5 | h5 <;> omega
        have hOb := HO8.out.drop
        rw [HML.out.1] at hOb
        have hbv : b.v c = .agg #[.int .i64 at_, .int .i64 ch, .int .i64 asked] := by
         rw [hbat, ← hbch, show asked = b.asked by rw [hbe]; rfl]
         rfl
        have HBK := As.mk (heap_back _ RR w0 w7 h d.g np d.cap d.gm (sumB c s.bl) s.peak s.mark c d.t d.sd (.slice A6 np c6) (d.mem c) (some ⟨gt, 0, none⟩) As' (c.L + 1) ct' ml ds' s.bl b hOb HG.out HNP.out (by rw [HNP.out]; exact HCAP.out.2.1) binv IV.out.inv hno (by have := HMM.out; omega))
        rw [hbv, hbch] at HBK
        clear hbv hOb hno binv bfree hbat hbch hbe HO8
        refine HBK.out.mono ?_
        clear HBK
        rintro e w8 ⟨rfl, ho⟩
        have HO9 := As.mk ho
        clear ho
        have z12 := HO9.out.get me1 12 (by simp [hC])
        have z13 := HO9.out.get me1 13 (by simp [hC])
        have z14 := HO9.out.get me1 14 (by simp [hC])
        obtain ⟨lv, hlv⟩ : ∃ lv, lv = sumB c s.bl + ch := ⟨_, rfl⟩
        obtain ⟨X1, hX1⟩ : ∃ x, x = max s.peak lv := ⟨_, rfl⟩
        obtain ⟨X2, hX2⟩ : ∃ x, x = max s.mark (at_ + ch) := ⟨_, rfl⟩
        have M1 := As.mk (show max (s.peak : Int) (lv : Int) = (X1 : Int) by rw [hX1]; omega)
        have M2 := As.mk (show max (s.mark : Int) ((at_ : Int) + (ch : Int)) = (X2 : Int) by rw [hX2]; omega)
        have M3 := As.mk (show IntKind.i64.wrap ((at_ : Int) + (ch : Int)) = (at_ : Int) + (ch : Int) from iw64 _ (by omega) (by omega))
        have hlv2 : lv ≤ 65536 := by rw [hlv]; have := HMM.out; have := CH.out; omega
        rw [← hlv] at HO9 z12
        have HX := As.mk (And.intro hlv (And.intro hX1 hX2))
        clear hlv hX1 hX2
        go_wp2_with fail
        refine rgn [(0, 1), (1, 1), (2, 1), (3, 1), (4, 1), (5, 0), (6, 1), (7, 1), (8, 1), (9, 0), (10, 1), (11, 1), (12, 1), (13, 1), (14, 0), (15, 1), (16, 1), (17, 1), (18, 1), (19, 1), (20, 1), (21, 3), (22, 1), (23, 1), (24, 3)] [21, 24] (fun W => W.cell? ⟨h, 12, none⟩ = some (.int .i64 (lv : Int)) ∧ W.cell? ⟨h, 13, none⟩ = some (.int .i64 (s.peak : Int)) ∧ W.cell? ⟨h, 14, none⟩ = some (.int .i64 (s.mark : Int))) (by kernel_rfl) (by kernel_rfl) (fun _ _ _ d _ h => by cases d <;> exact h) ⟨z12, z13, z14⟩ ?_
        iterate 5 (refine Run.pu (v := ?_) (a' := ?_) rfl rfl (Or.inl ⟨by rfl, ?_⟩) ?_ ?_; rotate_left 2; (focus (intro W; go_simp; with_reducible rfl)); (focus (simp only [Act.put, zq4, zq5, zq6]; rfl)))
        refine Run.rd (v := ?_) (a' := ?_) rfl rfl (Or.inl ⟨by rfl, ?_⟩) ?_ ?_; rotate_left 2; (focus (rintro W ⟨hW1, hW2, hW3⟩; go_simp; with_reducible rfl)); (focus (simp only [Act.put, zq4, zq5, zq6]; rfl))
        iterate 3 (refine Run.pu (v := ?_) (a' := ?_) rfl rfl (Or.inl ⟨by rfl, ?_⟩) ?_ ?_; rotate_left 2; (focus (intro W; go_simp; with_reducible rfl)); (focus (simp only [Act.put, zq4, zq5, zq6]; rfl)))
        refine Run.rd (v := ?_) (a' := ?_) rfl rfl (Or.inl ⟨by rfl, ?_⟩) ?_ ?_; rotate_left 2; (focus (rintro W ⟨hW1, hW2, hW3⟩; go_simp; with_reducible rfl)); (focus (simp only [Act.put, zq4, zq5, zq6]; rfl))
        iterate 4 (refine Run.pu (v := ?_) (a' := ?_) rfl rfl (Or.inl ⟨by rfl, ?_⟩) ?_ ?_; rotate_left 2; (focus (intro W; go_simp; with_reducible rfl)); (focus (simp only [Act.put, zq4, zq5, zq6]; rfl)))
        refine Run.rd (v := ?_) (a' := ?_) rfl rfl (Or.inl ⟨by rfl, ?_⟩) ?_ ?_; rotate_left 2; (focus (rintro W ⟨hW1, hW2, hW3⟩; go_simp; with_reducible rfl)); (focus (simp only [Act.put, zq4, zq5, zq6]; rfl))
        iterate 6 (refine Run.pu (v := ?_) (a' := ?_) rfl rfl (Or.inl ⟨by rfl, ?_⟩) ?_ ?_; rotate_left 2; (focus (intro W; go_simp; with_reducible rfl)); (focus (simp only [Act.put, zq4, zq5, zq6]; rfl)))
        refine Run.la rfl (fun K hK => ?_)
        simp only [zq1, zq2, zq3]
        try simp only [zq4, zq5, zq6]
        simp only [M1.out, M2.out, M3.out]
        have ho9 := HO9.out.drew
        obtain ⟨w9, hw9⟩ : ∃ w9, w9 = w8.drew := ⟨_, rfl⟩
        rw [← hw9] at ho9 ⊢
        clear hw9 HO9
        have HO9 := As.mk ho9
        clear ho9
        have f13 := HO9.out.frozen (g := h) me1 13
        have z13' := HO9.out.get me1 13 (by simp [hC])
        have HO10 := As.mk (HO9.out.set 1 rfl 13 (.int .i64 (X1 : Int)) (by simp [hC]))
        simp only [zq6, zq5] at HO10
        have f14 := HO10.out.frozen (g := h) me1 14
        have z14' := HO10.out.get me1 14 (by simp [hC])
        have HO11 := As.mk (HO10.out.set 1 rfl 14 (.int .i64 (X2 : Int)) (by simp [hC]))
        simp only [zq6, zq5] at HO11
        simp only [hC, List.getElem?_cons_zero, List.getElem?_cons_succ, zq6, zq5] at z13' z14' HO11
        clear z12 z13 z14 HO10 HO9
        go_wp2
        refine hK.out _ _ ?_
        clear hK K
        iterate 2 (refine Run.pu (v := ?_) (a' := ?_) rfl rfl (Or.inl ⟨by rfl, ?_⟩) ?_ ?_; rotate_left 2; (focus (intro W; go_simp; with_reducible rfl)); (focus (simp only [Act.put, zq4, zq5, zq6]; rfl)))
        refine Run.la rfl (fun K hK => ?_)
        simp only [zq1, zq2, zq3]
        try simp only [zq4, zq5, zq6]
        go_wp2
        refine hK.out _ _ ?_
        clear hK K
        refine Run.nil ?_
        go_wp2_with fail
        have HP : As (putsP c s k asked = (⟨insB s.bl b, X1, X2, x⟩, (at_ : Int), 0)) := by
         refine ⟨?_⟩
         unfold putsP
         rw [HE.out]
         dsimp only
         rw [← BI.out.1, ← FB.out.1, ← FB.out.2, ← HML.out.1, CP.out]
         dsimp only
         have e1 : i * 2 ^ k * c.G = at_ := by rw [BI.out.2.2.1, BI.out.1]; rfl
         have e2 : sumB c (insB s.bl b) = lv := by rw [sum_ins, BI.out.2.1, HX.out.1, Nat.add_comm]
         rw [e1, ← CH.out, e2, ← HX.out.2.1, ← HX.out.2.2]
        rw [HP.out]
        go_ret2
        refine ⟨mem1, rfl, ⟨hm1, ⟨d.g, d.cap, d.gm, d.gy, d.capy, A6, some ⟨gt, 0, none⟩, As', c6, c.L + 1, ct', ml, ds'⟩, HCAP.out.2.1, HCAP.out.2.2, ?_⟩, fun h0 => absurd rfl h0⟩
        have h9 := HO11.out.imp (R' := fun W => R W ∧ EngR W (.slice (some ⟨gt, 0, none⟩) (c.L + 1) ct') (.slice As' ml ds') (c.L + 1) (c.H / c.G) (bitsB c (insB s.bl b)) (marksB (insB s.bl b)) ∧ Row W (.slice A6 np c6) np (x.map Value.bool)) (fun W hW => ⟨(HRR.out W hW).1, (HRR.out W hW).2.1, (HRR.out W hW).2.2.1⟩)
        have e2 : sumB c (insB s.bl b) = lv := by rw [sum_ins, BI.out.2.1, HX.out.1, Nat.add_comm]
        simp only [Hd.met, Hd.on, Hd.mem, Hd.t, Hd.sd, ← HNP.out, e2, hC]
        exact h9
end Go.Proofs.YtmookafmdonopaaGreat.Top
