/- hodmanref17: place walked (weak). -/
import Derived.Test.YtmookafmdonopaaGreatM26
/- hodmanref17: place walked (weak). -/
namespace Go.Proofs.YtmookafmdonopaaGreat.Top
open Go Go.RowKit
set_option linter.unusedVariables false
set_option linter.unusedSimpArgs false
attribute [local go_sem] max2_int min2_int max_two min_two max_three

theorem ref_PagesP (pg a q : Nat) (w : World) (h1 : 1 ≤ pg) (h2 : pg ≤ 2 ^ 20) (h3 : a ≤ 2 ^ 20) (h4 : q ≤ 2 ^ 20) (hq : 1 ≤ q) :
 Calls Tryz.prog 97 #[.int .i64 (pg : Int), .int .i64 (a : Int), .int .i64 (q : Int)] w fun e w' => (∃ (x : Nat) (y : Int), x ≤ a ∧ e = .returned (.tuple #[.int .i64 (x : Int), .int .i64 y])) ∧ Below w.heap.size w w' := by
 obtain ⟨m, hm⟩ : ∃ m : Nat, (q : Int) - 1 = (m : Int) := ⟨q - 1, by omega⟩
 have HA := As.mk (fun w => ref_Add a m w (by omega) (by omega))
 have hn0 := beqF (show ¬ (q : Int) = 0 by omega)
 have E1 := As.mk (show wrap64 ((q : Int) - 1) = (m : Int) by rw [hm]; unfold wrap64; omega)
 have l1 := Nat.div_le_self a pg
 obtain ⟨x, hx⟩ : ∃ x, x = a / pg := ⟨_, rfl⟩
 have E2 := As.mk (show wrap64 ((a : Int) / (pg : Int)) = (x : Int) by rw [show (a : Int) / (pg : Int) = (x : Int) by rw [hx]; rfl]; unfold wrap64; omega)
 rw [← hx] at l1
 have hneg' : ((q : Int) < 0) = False := eq_false (by omega)
 clear hm h4 hx
 go_enter Tryz.func97, Tryz.ntmps97
 go_wp2_with fail
 simp only [E1.out]
 refine (HA.out _).mono ?_
 rintro e w' ⟨rfl, rfl⟩
 go_wp2_with fail
 go_quiet (fail)
 go_wp2
 go_ret2
 refine ⟨⟨x, wrap64 (wrap64 (((a : Int) + (m : Int)).tdiv (pg : Int)) + 1), l1, ?_⟩, ⟨rfl, rfl, rfl, Nat.le_refl _, fun _ _ => rfl⟩⟩
 rw [← E2.out]
 rfl
def Md.tl (c : Cf) (m : Md) : List Value := [.slice m.A m.l.length m.cap, .int .i64 m.live, .int .i64 m.peak, .int .i64 m.mark, .slice m.Ao (c.H / c.Page) m.co, .slice m.Am c.H m.cm]
theorem Md.split (c : Cf) (m : Md) : m.cs c = c.cs ++ m.tl c := rfl
def Md.setOn (m : Md) (Ao : Option Addr) (co : Nat) : Md := { m with Ao := Ao, co := co }
def Md.setMem (m : Md) (Am : Option Addr) (cm : Nat) : Md := { m with Am := Am, cm := cm }
def Md.setBl (m : Md) (A : Option Addr) (cap : Nat) (l : List MB) : Md := { m with A := A, cap := cap, l := l }
def Md.setLive (m : Md) (x : Int) : Md := { m with live := x }
def Md.setPM (m : Md) (x y : Int) : Md := { m with peak := x, mark := y }
def IntRowN (W : World) (v : Value) (n : Nat) : Prop := ∃ is : List Int, is.length = n ∧ Row W v n (iV is)
theorem IntRow.n {W : World} {A : Option Addr} {n c : Nat} (h : IntRow W (.slice A n c)) : IntRowN W (.slice A n c) n := by
 obtain ⟨is, _, hr⟩ := h
 obtain ⟨A', c', hv, _⟩ := id hr
 injection hv with _ h2 _
 exact ⟨is, h2.symm, h2 ▸ hr⟩
theorem Agr.refl (w w' : World) : Agr w w' w' := fun _ _ _ => rfl
/-- a block's placing comes back -/
def RetP (c : Cf) (m : Md) (N : Nat) (q : Nat) (w w' : World) (e : Ending) : Prop := ∃ (m' : Md) (at_ : Nat) (er : Int), e = .returned (.tuple #[m'.v c, .int .i64 (at_ : Int), .int .i64 er]) ∧ (er = 0 → at_ + q ≤ c.H ∧ MdF c m' ∧ m'.l.length ≤ N) ∧ (er ≠ 0 → m' = m) ∧ ∀ W, Agr w w' W → MdR W c m → MdR W c m'
theorem box89 {L : List (Nat × (Obj → Prop))} {R : World → Prop} {w0 w : World} (h : Own [] L R w0 w) : Own [] ((w.heap.size, EC 89 Md.zs) :: L) R w0 (w.alloc (.cells #[.int .i64 0, .int .i64 0, .int .i64 0, .int .i64 0, .int .i64 0, .int .i64 0, .int .i64 0, .int .i64 0, .slice none 0 0, .int .i64 0, .int .i64 0, .int .i64 0, .slice none 0 0, .slice none 0 0] 89)) := h.box Md.zs.toArray 89
theorem box2 (w : World) (cs : List Value) : Own [] [(w.heap.size + 1, EC 89 Md.zs), (w.heap.size, EC 89 cs)] (fun _ => True) w ((w.alloc (.cells cs.toArray 89)).alloc (.cells #[.int .i64 0, .int .i64 0, .int .i64 0, .int .i64 0, .int .i64 0, .int .i64 0, .int .i64 0, .int .i64 0, .slice none 0 0, .int .i64 0, .int .i64 0, .int .i64 0, .slice none 0 0, .slice none 0 0] 89)) := by
 have ho := box89 ((Own.start (X := []) w).box cs.toArray 89)
 simp only [World.size_alloc, List.toList_toArray] at ho
 exact ho
theorem size56 : (Tryz.prog.info? 56).map (·.size) = some 1 := by kernel_rfl
theorem size43 : (Tryz.prog.info? 43).map (·.size) = some 1 := by kernel_rfl
theorem size22 : (Tryz.prog.info? 22).map (·.size) = some 1 := by kernel_rfl
theorem size3 : (Tryz.prog.info? 3).map (·.size) = some 1 := by kernel_rfl
theorem iV_at (l : List Int) (k : Nat) (x : Int) (h : l[k]? = some x) : (iV l)[k]? = some (.int .i64 x) := by simp [iV, h]
set_option maxHeartbeats 8000000 in
set_option maxRecDepth 100000 in
theorem ref_place (c : Cf) (hg : Good c) (m : Md) (A : Option Addr) (cl : Nat) (l : List MB) (q : Nat) (asked : Int) (w : World) (hmd : MdR w c m) (hr : Row w (.slice A l.length cl) l.length (mbV l)) (hf : ∀ b ∈ l, b.1 + b.2.1 ≤ c.H) (hl : l.length ≤ 999) (hq : 1 ≤ q) (hq2 : q ≤ 65536) :
 Calls Tryz.prog 81 #[m.v c, .slice A l.length cl, .int .i64 (q : Int), .int .i64 asked] w fun e w' => RetP c m (l.length + 1) q w w' e ∧ Below w.heap.size w w' := by
 obtain ⟨b1, b2, b3, b4, b5, b6, b7⟩ := hg.bounds
 have hP := hg.p
 have HR := As.mk hr
 have HMD := As.mk hmd
 have HF := As.mk hf
 have HLOW := As.mk (fun (W : World) (h : Row W (.slice A l.length cl) l.length (mbV l)) => ref_Lowest c hg.max_ A cl l q W h (by omega) hq hq2)
 have HMET := As.mk (fun (W : World) (h : Row W (.slice A l.length cl) l.length (mbV l)) => ref_Met c.Page c.H A cl l W h hg.p1 (by omega) hg.max_ (by omega))
 have HPUT := As.mk (fun (W : World) (nb : MB) (h : Row W (.slice A l.length cl) l.length (mbV l)) => ref_put A cl l nb W h (by omega))
 obtain ⟨ln, hln⟩ : ∃ n, n = l.length := ⟨_, rfl⟩
 rw [← hln] at HR HLOW HMET HPUT hl ⊢
 have HLN := As.mk hln
 obtain ⟨np, hnp⟩ : ∃ np, np = c.H / c.Page := ⟨_, rfl⟩
 have hnp1 : 1 ≤ np := by rw [hnp]; exact (Nat.le_div_iff_mul_le hg.p1).2 (by omega)
 have hnp6 : np ≤ 65536 := by rw [hnp]; exact Nat.le_trans (Nat.div_le_self _ _) hg.max_
 rw [← hnp] at HMET
 have HNP := As.mk hnp
 have HO := As.mk (box2 w (m.cs c))
 have hcv : c.v = .agg c.cs.toArray := rfl
 rw [hcv] at HLOW
 have HPG := As.mk (fun (W : World) (a : Nat) (ha : a ≤ c.H) => ref_PagesP c.Page a q W hg.p1 (by omega) (by omega) (by omega) hq)
 have HFILL := As.mk (fun (W : World) (v : Value) (page : Int) (h : ByteRow W v c.H) => ref_Fill v c.H c.Page (c.Seed : Int) page W h (by omega) b7 hg.p1 (by omega))
 clear hr hmd hf hln hnp hg hcv
 unfold Md.v
 go_enter Tryz.func81, Tryz.ntmps81
 go_wp2_with (refine go_ldp HO.out me1 (Md.split c m) rfl 34 (.tmp 21) rfl rfl _ Tryz.underlying34 rfl size34 ?_)
 refine (HLOW.out _ (HR.out.below HO.out.toBelow)).mono ?_
 rintro e w2 ⟨⟨at_, ok, rfl, hok⟩, hb⟩
 have HO2 := As.mk (HO.out.below hb)
 clear hb HO HLOW
 cases ok
 · go_wp2_with (first | (refine go_ld HO2.out me1 rfl 89 (.tmp 4) rfl rfl _ Tryz.underlying89 rfl size89 ?_) | (refine go_st HO2.out 0 rfl rfl 89 (.tmp 8) (.tmp 30) rfl rfl (m.cs c) rfl rfl size89 (Md.one c m) ?_; intro w1 ho1; have HO3 := As.mk ho1; clear ho1))
   refine bodyPost_ret (results_ctt rfl _ rfl (HO3.out.range me0) Tryz.underlying89 rfl size89) rfl ⟨⟨m, 0, 7, rfl, fun h => absurd h (by decide), fun _ => rfl, fun W _ h => h⟩, HO3.out.toBelow⟩
 · have hat := hok rfl
   have z4 : w2.cell? ⟨w.heap.size, 4, none⟩ = some (.int .i64 c.Page) := HO2.out.get me1 4 (by simp [Md.cs])
   clear hok
   go_wp2_with fail
   refine (HPG.out _ at_ (by omega)).mono ?_
   rintro e w3 ⟨⟨x, y, hx, rfl⟩, hb⟩
   have HO3 := As.mk (HO2.out.below hb)
   clear hb HO2 z4 HPG
   go_wp2_with fail
   have HSS : As (∀ W, Own [] [(w.heap.size + 1, EC 89 Md.zs), (w.heap.size, EC 89 (m.cs c))] (fun _ => True) w W → W.cell? ⟨w.heap.size, 12, none⟩ = some (.slice m.Ao np m.co) ∧ W.cell? ⟨w.heap.size, 4, none⟩ = some (.int .i64 c.Page) ∧ W.cell? ⟨w.heap.size, 6, none⟩ = some (.int .i64 c.H) ∧ W.cell? ⟨w.heap.size, 5, none⟩ = some (.int .i64 c.P)) := ⟨fun W ho => ⟨by rw [HNP.out]; exact ho.get me1 12 (by simp [Md.cs]), ho.get me1 4 (by simp [Md.cs]), ho.get me1 6 (by simp [Md.cs]), ho.get me1 5 (by simp [Md.cs])⟩⟩
   refine rgn [(0, 1), (1, 0), (2, 1), (3, 1), (4, 0), (5, 1), (6, 1), (7, 0), (8, 1), (10, 1), (11, 1), (12, 1), (13, 1), (14, 0), (9, 2), (15, 2), (16, 1), (17, 1), (18, 1), (19, 1), (20, 1), (21, 1), (22, 1)] [] (fun W => W.cell? ⟨w.heap.size, 12, none⟩ = some (.slice m.Ao np m.co) ∧ W.cell? ⟨w.heap.size, 4, none⟩ = some (.int .i64 c.Page) ∧ W.cell? ⟨w.heap.size, 6, none⟩ = some (.int .i64 c.H) ∧ W.cell? ⟨w.heap.size, 5, none⟩ = some (.int .i64 c.P)) (by kernel_rfl) (by kernel_rfl) (fun _ _ _ d _ h => by cases d <;> exact h) (HSS.out _ HO3.out.drew) ?_
   obtain ⟨w4, hw4⟩ : ∃ x, x = w3.drew := ⟨_, rfl⟩
   have HO4 : As (Own [] [(w.heap.size + 1, EC 89 Md.zs), (w.heap.size, EC 89 (m.cs c))] (fun _ => True) w w4) := by rw [hw4]; exact As.mk HO3.out.drew
   rw [← hw4]
   clear hw4 HO3
   refine Run.pu (v := ?_) (a' := ?_) rfl rfl (Or.inl ⟨by rfl, ?_⟩) ?_ ?_; rotate_left 2; (focus (intro W; go_simp; with_reducible rfl)); (focus (simp only [zq1, zq2, zq3, Act.put, zq4, zq5, zq6]; rfl))
   refine Run.rd (v := ?_) (a' := ?_) rfl rfl (Or.inl ⟨by rfl, ?_⟩) ?_ ?_; rotate_left 2; (focus (rintro W ⟨hW1, hW2, hW3, hW4⟩; go_simp; with_reducible rfl)); (focus (simp only [zq1, zq2, zq3, Act.put, zq4, zq5, zq6]; rfl))
   iterate 2 (refine Run.pu (v := ?_) (a' := ?_) rfl rfl (Or.inl ⟨by rfl, ?_⟩) ?_ ?_; rotate_left 2; (focus (intro W; go_simp; with_reducible rfl)); (focus (simp only [zq1, zq2, zq3, Act.put, zq4, zq5, zq6]; rfl)))
   refine Run.rd (v := ?_) (a' := ?_) rfl rfl (Or.inl ⟨by rfl, ?_⟩) ?_ ?_; rotate_left 2; (focus (rintro W ⟨hW1, hW2, hW3, hW4⟩; go_simp; with_reducible rfl)); (focus (simp only [zq1, zq2, zq3, Act.put, zq4, zq5, zq6]; rfl))
   iterate 2 (refine Run.pu (v := ?_) (a' := ?_) rfl rfl (Or.inl ⟨by rfl, ?_⟩) ?_ ?_; rotate_left 2; (focus (intro W; go_simp; with_reducible rfl)); (focus (simp only [zq1, zq2, zq3, Act.put, zq4, zq5, zq6]; rfl)))
   refine Run.rd (v := ?_) (a' := ?_) rfl rfl (Or.inl ⟨by rfl, ?_⟩) ?_ ?_; rotate_left 2; (focus (rintro W ⟨hW1, hW2, hW3, hW4⟩; go_simp; with_reducible rfl)); (focus (simp only [zq1, zq2, zq3, Act.put, zq4, zq5, zq6]; rfl))
   iterate 5 (refine Run.pu (v := ?_) (a' := ?_) rfl rfl (Or.inl ⟨by rfl, ?_⟩) ?_ ?_; rotate_left 2; (focus (intro W; go_simp; with_reducible rfl)); (focus (simp only [zq1, zq2, zq3, Act.put, zq4, zq5, zq6]; rfl)))
   refine Run.rd (v := ?_) (a' := ?_) rfl rfl (Or.inl ⟨by rfl, ?_⟩) ?_ ?_; rotate_left 2; (focus (rintro W ⟨hW1, hW2, hW3, hW4⟩; go_simp; with_reducible rfl)); (focus (simp only [zq1, zq2, zq3, Act.put, zq4, zq5, zq6]; rfl))
   refine Run.ef rfl (fun K hK => ?_)
   simp only [zq1, zq2, zq3]
   try simp only [zq4, zq5, zq6]
   go_wp2_with fail
   refine (HMET.out _ (HR.out.below HO4.out.toBelow)).mono ?_
   rintro e w5 ⟨⟨v, rfl, bs, hbs, hfr⟩, hb⟩
   obtain ⟨gm, capm, xm, rfl, hcm, -⟩ := hfr.form hnp1
   have HFR := As.mk hfr.now
   have HO5 := As.mk (HO4.out.below hb)
   clear hb hfr HO4 HMET
   go_wp2_with fail
   refine hK.out _ _ (HSS.out _ HO5.out) ?_
   clear hK K
   refine Run.ef rfl (fun K hK => ?_)
   simp only [zq1, zq2, zq3]
   try simp only [zq4, zq5, zq6]
   obtain ⟨on, hon, hrow⟩ := (HMD.out.below HO5.out.toBelow).on
   rw [← HNP.out] at hrow hon
   have HROW := As.mk hrow
   clear hrow
   go_wp2_with fail
   refine (ref_Commit np m.Ao (some ⟨gm, 0, none⟩) m.co capm on bs x y c.P _ HROW.out hon HFR.out hbs hnp1 hnp6 (by omega)).mono ?_
   rintro e w6 ⟨⟨v1, v2, ok2, rfl, hcm2⟩, hb⟩
   have HCM := As.mk hcm2
   have HB := As.mk hb
   clear hcm2 hb HROW hon HFR hbs hcm
   have HO6 := As.mk (HO5.out.below HB.out)
   go_wp2_with fail
   refine hK.out _ _ (HSS.out _ HO6.out) ?_
   clear hK K
   iterate 7 (refine Run.pu (v := ?_) (a' := ?_) rfl rfl (Or.inl ⟨by rfl, ?_⟩) ?_ ?_; rotate_left 2; (focus (intro W; go_simp; with_reducible rfl)); (focus (simp only [zq1, zq2, zq3, Act.put, zq4, zq5, zq6]; rfl)))
   refine Run.nil ?_
   try simp only [zq1, zq2, zq3]
   try simp only [zq4, zq5, zq6]
   cases ok2
   · clear HO5
     go_wp2_with (first | (refine go_ld HO6.out me1 rfl 89 (.tmp 4) rfl rfl _ Tryz.underlying89 rfl size89 ?_) | (refine go_st HO6.out 0 rfl rfl 89 (.tmp 8) (.tmp 62) rfl rfl (m.cs c) rfl rfl size89 (Md.one c m) ?_; intro w1 ho1; have HO7 := As.mk ho1; clear ho1))
     refine bodyPost_ret (results_ctt rfl _ rfl (HO7.out.range me0) Tryz.underlying89 rfl size89) rfl ⟨⟨m, 0, 6, rfl, fun h => absurd h (by decide), fun _ => rfl, fun W _ h => h⟩, HO7.out.toBelow⟩
   · obtain ⟨h1, h2⟩ := HCM.out rfl w6 (Agr.refl _ _)
     obtain ⟨_, _, h1⟩ := h1
     obtain ⟨Ao, co, rfl⟩ := h1.form
     obtain ⟨is0, his0, h2⟩ := h2
     obtain ⟨Af, cf, rfl⟩ := h2.form
     obtain ⟨nf, hnf⟩ : ∃ n, n = is0.length := ⟨_, rfl⟩
     rw [← hnf] at his0 h2 HCM ⊢
     have HO7 := As.mk ((HO5.out.result HB.out (fun W hW => HCM.out rfl W hW)).imp (R' := fun W => MdR W c m → BoolRow W (.slice Ao np co) np ∧ IntRowN W (.slice Af nf cf) nf ∧ ByteRow W (.slice m.Am c.H m.cm) c.H) (fun W hW hm => ⟨hW.2.1, hW.2.2.n, hm.mem⟩))
     clear h1 h2 hnf HCM HB HO5 HO6
     have HO8 := As.mk (box89 HO7.out)
     have e1 : (m.cs c).set 12 (.slice Ao np co) = (m.setOn Ao co).cs c := by rw [HNP.out]; rfl
     go_wp2_with (first | (refine go_ld HO7.out me1 rfl 89 (.tmp 4) rfl rfl _ Tryz.underlying89 rfl size89 ?_) | (refine go_st HO8.out 0 rfl rfl 89 (.tmp 17) (.tmp 63) rfl rfl (m.cs c) rfl rfl size89 (Md.one c m) ?_; intro w1 ho1; have HO9 := As.mk ho1; clear ho1) | (refine go_st1 HO9.out 0 rfl rfl 56 (.tmp 65) (.tmp 64) rfl 12 rfl (.slice Ao np co) rfl rfl (by simp [Md.cs]) size56 ?_; intro w1 ho1; have HOX := As.mk ho1; clear ho1))
     obtain ⟨gx, hgx⟩ : ∃ g, g = w6.heap.size := ⟨_, rfl⟩
     have hox : Own [] [(w6.heap.size, EC 89 ((m.cs c).set 12 (.slice Ao np co))), (w.heap.size + 1, EC 89 Md.zs), (w.heap.size, EC 89 (m.cs c))] (fun W => MdR W c m → BoolRow W (.slice Ao np co) np ∧ IntRowN W (.slice Af nf cf) nf ∧ ByteRow W (.slice m.Am c.H m.cm) c.H) w w1 := HOX.out
     rw [e1, ← hgx] at hox
     rw [← hgx]
     have HOX := As.mk hox
     clear hox e1 hgx HO7 HO8 HO9
     go_loopw [18] (fun i wr => ∃ (k : Nat) (Am : Option Addr) (cm : Nat), k ≤ nf ∧ i = .int .i64 (k : Int) ∧ Own [] [(gx, EC 89 (((m.setOn Ao co).setMem Am cm).cs c)), (w.heap.size + 1, EC 89 Md.zs), (w.heap.size, EC 89 (m.cs c))] (fun W => MdR W c m → BoolRow W (.slice Ao np co) np ∧ IntRowN W (.slice Af nf cf) nf ∧ ByteRow W (.slice Am c.H cm) c.H) w wr) (fun i _ => nf - (intOf i).toNat)
     case atStart => exact ⟨0, m.Am, m.cm, Nat.zero_le _, rfl, HOX.out⟩
     case round =>
      clear HOX
      obtain ⟨k, Am, cm, hk, rfl, ho⟩ := hrel
      have HO := As.mk ho
      clear ho
      by_cases hkn : k < nf
      · obtain ⟨r1, ⟨is, his, r2⟩, r3⟩ := HO.out.now (HMD.out.below HO.out.toBelow)
        obtain ⟨bf, of, rfl, hncf, hcell⟩ := r2.cell' (by simp [iV]; omega)
        obtain ⟨fk, hfk⟩ : ∃ y, is[k]? = some y := ⟨is[k]'(by omega), List.getElem?_eq_getElem _⟩
        have YK := As.mk (hcell k _ (iV_at is k fk hfk))
        have R3 := As.mk r3
        clear r1 r2 hcell hfk his r3 hncf
        have HSS : As (∀ W, wr.cell? ⟨bf, of + k, none⟩ = W.cell? ⟨bf, of + k, none⟩ → Own [] [(gx, EC 89 (((m.setOn Ao co).setMem Am cm).cs c)), (w.heap.size + 1, EC 89 Md.zs), (w.heap.size, EC 89 (m.cs c))] (fun _ => True) w W → W.cell? ⟨gx, 13, none⟩ = some (.slice Am c.H cm) ∧ W.cell? ⟨w.heap.size, 7, none⟩ = some (.int .i64 c.Seed) ∧ W.cell? ⟨bf, of + k, none⟩ = some (.int .i64 fk) ∧ W.cell? ⟨w.heap.size, 4, none⟩ = some (.int .i64 c.Page)) := ⟨fun W hW ho => ⟨ho.get me0 13 (by simp [Md.cs]), ho.get me2 7 (by simp [Md.cs]), by rw [← hW]; exact YK.out, ho.get me2 4 (by simp [Md.cs])⟩⟩
        go_wp2_with fail
        refine rgn [(0, 1), (1, 0), (2, 1), (3, 1), (4, 0), (5, 1), (6, 1), (7, 1), (8, 0), (9, 1), (10, 1), (11, 0), (12, 2), (13, 1), (14, 3)] [14] (fun W => W.cell? ⟨gx, 13, none⟩ = some (.slice Am c.H cm) ∧ W.cell? ⟨w.heap.size, 7, none⟩ = some (.int .i64 c.Seed) ∧ W.cell? ⟨bf, of + k, none⟩ = some (.int .i64 fk) ∧ W.cell? ⟨w.heap.size, 4, none⟩ = some (.int .i64 c.Page)) (by kernel_rfl) (by kernel_rfl) (fun _ _ _ d _ h => by cases d <;> exact h) (HSS.out _ rfl (HO.out.drew.imp fun _ _ => trivial)) ?_
        obtain ⟨w7, hw7⟩ : ∃ x, x = wr.drew := ⟨_, rfl⟩
        have hod := HO.out.drew
        have hr3 : ByteRow w7 (.slice Am c.H cm) c.H := by rw [hw7]; exact R3.out
        have hcw : wr.cell? ⟨bf, of + k, none⟩ = w7.cell? ⟨bf, of + k, none⟩ := by rw [hw7]; rfl
        rw [← hw7] at hod ⊢
        have HO7 := As.mk hod
        have R37 := As.mk hr3
        have HCW := As.mk hcw
        clear hw7 hod HO R3 hr3 hcw
        refine Run.pu (v := ?_) (a' := ?_) rfl rfl (Or.inl ⟨by rfl, ?_⟩) ?_ ?_; rotate_left 2; (focus (intro W; go_simp; with_reducible rfl)); (focus (simp only [zq1, zq2, zq3, Act.put, zq4, zq5, zq6]; rfl))
        refine Run.rd (v := ?_) (a' := ?_) rfl rfl (Or.inl ⟨by rfl, ?_⟩) ?_ ?_; rotate_left 2; (focus (rintro W ⟨hW1, hW2, hW3, hW4⟩; go_simp; with_reducible rfl)); (focus (simp only [zq1, zq2, zq3, Act.put, zq4, zq5, zq6]; rfl))
        iterate 2 (refine Run.pu (v := ?_) (a' := ?_) rfl rfl (Or.inl ⟨by rfl, ?_⟩) ?_ ?_; rotate_left 2; (focus (intro W; go_simp; with_reducible rfl)); (focus (simp only [zq1, zq2, zq3, Act.put, zq4, zq5, zq6]; rfl)))
        refine Run.rd (v := ?_) (a' := ?_) rfl rfl (Or.inl ⟨by rfl, ?_⟩) ?_ ?_; rotate_left 2; (focus (rintro W ⟨hW1, hW2, hW3, hW4⟩; go_simp; with_reducible rfl)); (focus (simp only [zq1, zq2, zq3, Act.put, zq4, zq5, zq6]; rfl))
        iterate 3 (refine Run.pu (v := ?_) (a' := ?_) rfl rfl (Or.inl ⟨by rfl, ?_⟩) ?_ ?_; rotate_left 2; (focus (intro W; go_simp; with_reducible rfl)); (focus (simp only [zq1, zq2, zq3, Act.put, zq4, zq5, zq6]; rfl)))
        refine Run.rd (v := ?_) (a' := ?_) rfl rfl (Or.inl ⟨by rfl, ?_⟩) ?_ ?_; rotate_left 2; (focus (rintro W ⟨hW1, hW2, hW3, hW4⟩; go_simp; with_reducible rfl)); (focus (simp only [zq1, zq2, zq3, Act.put, zq4, zq5, zq6]; rfl))
        iterate 2 (refine Run.pu (v := ?_) (a' := ?_) rfl rfl (Or.inl ⟨by rfl, ?_⟩) ?_ ?_; rotate_left 2; (focus (intro W; go_simp; with_reducible rfl)); (focus (simp only [zq1, zq2, zq3, Act.put, zq4, zq5, zq6]; rfl)))
        refine Run.rd (v := ?_) (a' := ?_) rfl rfl (Or.inl ⟨by rfl, ?_⟩) ?_ ?_; rotate_left 2; (focus (rintro W ⟨hW1, hW2, hW3, hW4⟩; go_simp; with_reducible rfl)); (focus (simp only [zq1, zq2, zq3, Act.put, zq4, zq5, zq6]; rfl))
        refine Run.ef rfl (fun K hK => ?_)
        simp only [zq1, zq2, zq3]
        try simp only [zq4, zq5, zq6]
        go_wp2_with fail
        refine (HFILL.out _ _ fk R37.out).mono ?_
        rintro e w8 ⟨⟨v, rfl, hv⟩, hb⟩
        obtain ⟨us, hus, hvr⟩ := hv w8 (Agr.refl _ _)
        obtain ⟨Am2, cm2, rfl⟩ := hvr.form
        have HO8 := As.mk ((HO7.out.result hb (fun W hW => hv W hW)).imp (R' := fun W => MdR W c m → BoolRow W (.slice Ao np co) np ∧ IntRowN W (.slice (some ⟨bf, of, none⟩) nf cf) nf ∧ ByteRow W (.slice Am2 c.H cm2) c.H) (fun W h hm => ⟨(h.1 hm).1, (h.1 hm).2.1, h.2⟩))
        have hcw : wr.cell? ⟨bf, of + k, none⟩ = w8.cell? ⟨bf, of + k, none⟩ := YK.out.trans (cell_below hb (HCW.out ▸ YK.out)).symm
        have HCW8 := As.mk hcw
        clear hb hv hvr hus HO7 R37 HCW hcw
        go_wp2_with fail
        refine hK.out _ _ (HSS.out _ HCW8.out (HO8.out.imp fun _ _ => trivial)) ?_
        clear hK K HCW8
        refine Run.pu (v := ?_) (a' := ?_) rfl rfl (Or.inl ⟨by rfl, ?_⟩) ?_ ?_; rotate_left 2; (focus (intro W; go_simp; with_reducible rfl)); (focus (simp only [zq1, zq2, zq3, Act.put, zq4, zq5, zq6]; rfl))
        refine Run.la rfl (fun K hK => ?_)
        simp only [zq1, zq2, zq3]
        try simp only [zq4, zq5, zq6]
        refine go_st1 HO8.out 0 rfl rfl 22 (.tmp 85) (.tmp 84) rfl 13 rfl (.slice Am2 c.H cm2) rfl rfl (by simp [Md.cs]) size22 ?_
        intro w9 ho
        have HO9 : As (Own [] [(gx, EC 89 (((m.setOn Ao co).setMem Am2 cm2).cs c)), (w.heap.size + 1, EC 89 Md.zs), (w.heap.size, EC 89 (m.cs c))] (fun W => MdR W c m → BoolRow W (.slice Ao np co) np ∧ IntRowN W (.slice (some ⟨bf, of, none⟩) nf cf) nf ∧ ByteRow W (.slice Am2 c.H cm2) c.H) w w9) := As.mk ho
        clear ho HO8
        go_wp2_with fail
        refine hK.out _ _ ?_
        clear hK K
        refine Run.nil ?_
        try simp only [zq1, zq2, zq3]
        try simp only [zq4, zq5, zq6]
        go_wp2_with fail
        go_roundw
        case rel => exact ⟨k + 1, Am2, cm2, by omega, by go_num, HO9.out⟩
        case measure => simp [intOf]; omega
      · have e : k = nf := by omega
        rw [e]
        clear e hkn hk
        go_wp2_with fail
        refine (HPUT.out _ (at_, q, asked) (HR.out.below HO.out.toBelow)).mono ?_
        rintro e w7 ⟨⟨v, l', rfl, hll, hmem, hrow⟩, hb⟩
        obtain ⟨Ab, cb, rfl⟩ := (hrow w7 (Agr.refl _ _)).form
        have HO7 := As.mk ((HO.out.result hb (fun W hW => hrow W hW)).imp (R' := fun W => MdR W c m → BoolRow W (.slice Ao np co) np ∧ ByteRow W (.slice Am c.H cm) c.H ∧ Row W (.slice Ab l'.length cb) l'.length (mbV l')) (fun W h hm => ⟨(h.1 hm).1, (h.1 hm).2.2, h.2⟩))
        have HLL := As.mk hll
        have HMEM := As.mk hmem
        clear hb hrow hll hmem HO
        go_wp2_with (first | (refine go_st1 HO7.out 0 rfl rfl 43 (.tmp 92) (.tmp 91) rfl 8 rfl (.slice Ab l'.length cb) rfl rfl (by simp [Md.cs]) size43 ?_; intro w8 ho8; have HO8 := As.mk ho8; clear ho8) | (refine go_st1 HO8.out 0 rfl rfl 3 (.tmp 93) (.const (.int .i64 0)) rfl 9 rfl (.int .i64 0) rfl rfl (by simp [Md.cs]) size3 ?_; intro w9 ho9; have HO9 : As (Own [] [(gx, EC 89 (((((m.setOn Ao co).setMem Am cm).setBl Ab cb l').setLive 0).cs c)), (w.heap.size + 1, EC 89 Md.zs), (w.heap.size, EC 89 (m.cs c))] (fun W => MdR W c m → BoolRow W (.slice Ao np co) np ∧ ByteRow W (.slice Am c.H cm) c.H ∧ Row W (.slice Ab l'.length cb) l'.length (mbV l')) w w9) := As.mk ho9; clear ho9 HO8))
        clear HO7
        go_loopw [19] (fun i wr => ∃ (k : Nat) (live : Int), k ≤ l'.length ∧ i = .int .i64 (k : Int) ∧ Own [] [(gx, EC 89 (((((m.setOn Ao co).setMem Am cm).setBl Ab cb l').setLive live).cs c)), (w.heap.size + 1, EC 89 Md.zs), (w.heap.size, EC 89 (m.cs c))] (fun W => MdR W c m → BoolRow W (.slice Ao np co) np ∧ ByteRow W (.slice Am c.H cm) c.H ∧ Row W (.slice Ab l'.length cb) l'.length (mbV l')) w wr) (fun i _ => l'.length - (intOf i).toNat)
        case atStart => exact ⟨0, 0, Nat.zero_le _, rfl, HO9.out⟩
        case round =>
         clear HO9
         obtain ⟨k, live, hk, rfl, ho⟩ := hrel
         have HO := As.mk ho
         have z8 : wr.cell? ⟨gx, 8, none⟩ = some (.slice Ab l'.length cb) := ho.get me0 8 (by simp [Md.cs])
         have hl1 : l'.length ≤ 1000 := by have := HLL.out; have := HLN.out; omega
         clear ho
         by_cases hkn : k < l'.length
         · obtain ⟨mb, hm⟩ : ∃ mb, l'[k]? = some mb := ⟨l'[k]'hkn, List.getElem?_eq_getElem _⟩
           obtain ⟨-, -, r3⟩ := HO.out.now (HMD.out.below HO.out.toBelow)
           obtain ⟨bf, of, rfl, hncf, hcell⟩ := r3.cell' (by rw [mbV_len]; omega)
           have YK := As.mk (hcell _ _ (mbV_at l' k mb hm).2.1)
           clear r3 hcell hm hncf
           have hs : wr.cell? ⟨gx, 9, none⟩ = some (.int .i64 live) ∧ wr.cell? ⟨gx, 8, none⟩ = some (.slice (some ⟨bf, of, none⟩) l'.length cb) ∧ wr.cell? ⟨bf, of + k * 3 + 1, none⟩ = some (.int .i64 (mb.2.1 : Int)) := ⟨HO.out.get me0 9 (by simp [Md.cs]), z8, by rw [Nat.add_assoc]; exact YK.out⟩
           have HS := As.mk hs
           clear hs YK
           go_wp2_with fail
           refine rgn [(0, 1), (1, 0), (2, 1), (3, 0), (4, 1), (5, 1), (6, 1), (7, 0), (8, 1), (9, 1), (10, 3)] [10] (fun W => W.cell? ⟨gx, 9, none⟩ = some (.int .i64 live) ∧ W.cell? ⟨gx, 8, none⟩ = some (.slice (some ⟨bf, of, none⟩) l'.length cb) ∧ W.cell? ⟨bf, of + k * 3 + 1, none⟩ = some (.int .i64 (mb.2.1 : Int))) (by kernel_rfl) (by kernel_rfl) (fun _ _ _ d _ h => by cases d <;> exact h) HS.out ?_
           obtain ⟨w10, hw10⟩ : ∃ x, x = wr.drew := ⟨_, rfl⟩
           have hod := HO.out.drew
           rw [← hw10] at hod ⊢
           have HO10 := As.mk hod
           clear hw10 hod HO HS z8
           refine Run.pu (v := ?_) (a' := ?_) rfl rfl (Or.inl ⟨by rfl, ?_⟩) ?_ ?_; rotate_left 2; (focus (intro W; go_simp; with_reducible rfl)); (focus (simp only [zq1, zq2, zq3, Act.put, zq4, zq5, zq6]; rfl))
           refine Run.rd (v := ?_) (a' := ?_) rfl rfl (Or.inl ⟨by rfl, ?_⟩) ?_ ?_; rotate_left 2; (focus (rintro W ⟨hW1, hW2, hW3⟩; go_simp; with_reducible rfl)); (focus (simp only [zq1, zq2, zq3, Act.put, zq4, zq5, zq6]; rfl))
           refine Run.pu (v := ?_) (a' := ?_) rfl rfl (Or.inl ⟨by rfl, ?_⟩) ?_ ?_; rotate_left 2; (focus (intro W; go_simp; with_reducible rfl)); (focus (simp only [zq1, zq2, zq3, Act.put, zq4, zq5, zq6]; rfl))
           refine Run.rd (v := ?_) (a' := ?_) rfl rfl (Or.inl ⟨by rfl, ?_⟩) ?_ ?_; rotate_left 2; (focus (rintro W ⟨hW1, hW2, hW3⟩; go_simp; with_reducible rfl)); (focus (simp only [zq1, zq2, zq3, Act.put, zq4, zq5, zq6]; rfl))
           iterate 3 (refine Run.pu (v := ?_) (a' := ?_) rfl rfl (Or.inl ⟨by rfl, ?_⟩) ?_ ?_; rotate_left 2; (focus (intro W; go_simp; with_reducible rfl)); (focus (simp only [zq1, zq2, zq3, Act.put, zq4, zq5, zq6]; rfl)))
           refine Run.rd (v := ?_) (a' := ?_) rfl rfl (Or.inl ⟨by rfl, ?_⟩) ?_ ?_; rotate_left 2; (focus (rintro W ⟨hW1, hW2, hW3⟩; go_simp; with_reducible rfl)); (focus (simp only [zq1, zq2, zq3, Act.put, zq4, zq5, zq6]; rfl))
           iterate 2 (refine Run.pu (v := ?_) (a' := ?_) rfl rfl (Or.inl ⟨by rfl, ?_⟩) ?_ ?_; rotate_left 2; (focus (intro W; go_simp; with_reducible rfl)); (focus (simp only [zq1, zq2, zq3, Act.put, zq4, zq5, zq6]; rfl)))
           refine Run.la rfl (fun K hK => ?_)
           simp only [zq1, zq2, zq3]
           try simp only [zq4, zq5, zq6]
           refine go_st1 HO10.out 0 rfl rfl 3 (.tmp 110) (.tmp 109) rfl 9 rfl (.int .i64 (IntKind.i64.wrap (live + (mb.2.1 : Int)))) rfl rfl (by simp [Md.cs]) size3 ?_
           intro w11 ho
           have HO11 : As (Own [] [(gx, EC 89 (((((m.setOn Ao co).setMem Am cm).setBl (some ⟨bf, of, none⟩) cb l').setLive (IntKind.i64.wrap (live + (mb.2.1 : Int)))).cs c)), (w.heap.size + 1, EC 89 Md.zs), (w.heap.size, EC 89 (m.cs c))] (fun W => MdR W c m → BoolRow W (.slice Ao np co) np ∧ ByteRow W (.slice Am c.H cm) c.H ∧ Row W (.slice (some ⟨bf, of, none⟩) l'.length cb) l'.length (mbV l')) w w11) := As.mk ho
           clear ho HO10
           go_wp2_with fail
           refine hK.out _ _ ?_
           clear hK K
           refine Run.nil ?_
           try simp only [zq1, zq2, zq3]
           try simp only [zq4, zq5, zq6]
           go_wp2_with fail
           go_roundw
           case rel => exact ⟨k + 1, _, by omega, by go_num, HO11.out⟩
           case measure => simp [intOf]; omega
         · have e : k = l'.length := by omega
           rw [e]
           clear e hkn hk
           have z9 : wr.cell? ⟨gx, 9, none⟩ = some (.int .i64 live) := HO.out.get me0 9 (by simp [Md.cs])
           have z10 : wr.cell? ⟨gx, 10, none⟩ = some (.int .i64 m.peak) := HO.out.get me0 10 (by simp [Md.cs])
           have z11 : wr.cell? ⟨gx, 11, none⟩ = some (.int .i64 m.mark) := HO.out.get me0 11 (by simp [Md.cs])
           go_wp2_with (first | (refine go_st1 HO.out 0 rfl rfl 3 (.tmp 122) (.tmp 115) rfl 10 rfl (.int .i64 (max m.peak live)) rfl rfl (by simp [Md.cs]) size3 ?_; intro w11 ho; have HO11 := As.mk ho; clear ho) | (refine go_st1 HO11.out 0 rfl rfl 3 (.tmp 123) (.tmp 121) rfl 11 rfl (.int .i64 (max m.mark ((at_ : Int) + (q : Int)))) rfl rfl (by simp [Md.cs]) size3 ?_; intro w12 ho12; have HO12 : As (Own [] [(gx, EC 89 ((((((m.setOn Ao co).setMem Am cm).setBl Ab cb l').setLive live).setPM (max m.peak live) (max m.mark ((at_ : Int) + (q : Int)))).cs c)), (w.heap.size + 1, EC 89 Md.zs), (w.heap.size, EC 89 (m.cs c))] (fun W => MdR W c m → BoolRow W (.slice Ao np co) np ∧ ByteRow W (.slice Am c.H cm) c.H ∧ Row W (.slice Ab l'.length cb) l'.length (mbV l')) w w12) := As.mk ho12; clear ho12) | (refine go_ld HO12.out me0 rfl 89 (.tmp 17) rfl rfl _ Tryz.underlying89 rfl size89 ?_) | (refine go_st HO12.out 1 rfl rfl 89 (.tmp 8) (.tmp 124) rfl rfl ((((((m.setOn Ao co).setMem Am cm).setBl Ab cb l').setLive live).setPM (max m.peak live) (max m.mark ((at_ : Int) + (q : Int)))).cs c) rfl rfl size89 (Md.one c _) ?_; intro w13 ho13; have HO13 := As.mk ho13; clear ho13))
           refine bodyPost_ret (results_ctt rfl _ rfl (HO13.out.range me1) Tryz.underlying89 rfl size89) rfl ⟨⟨(((((m.setOn Ao co).setMem Am cm).setBl Ab cb l').setLive live).setPM (max m.peak live) (max m.mark ((at_ : Int) + (q : Int)))), at_, 0, rfl, fun _ => ⟨hat, ?_, ?_⟩, fun h => absurd rfl h, fun W hW hm => ?_⟩, HO13.out.toBelow⟩
           · intro b hb
             rcases HMEM.out b hb with rfl | hb
             · exact hat
             · exact HF.out b hb
           · have := HLL.out; have := HLN.out; show l'.length ≤ _; omega
           · obtain ⟨s1, s2, s3⟩ := HO13.out.ro W (fun k hk hx _ => hW k hx hk) hm
             exact ⟨s3, by rw [HNP.out] at s1; exact s1, s2⟩
end Go.Proofs.YtmookafmdonopaaGreat.Top
