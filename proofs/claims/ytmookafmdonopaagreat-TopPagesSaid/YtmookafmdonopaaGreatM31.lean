/- hodmanplay: Ops walked. -/
import Derived.Test.YtmookafmdonopaaGreatM30
/- hodmanplay: Ops walked. -/
namespace Go.Proofs.YtmookafmdonopaaGreat.Top
open Go Go.RowKit
set_option linter.unusedVariables false
set_option linter.unusedSimpArgs false
attribute [local go_sem] max2_int min2_int max_two min_two max_three

/-- the block of a slice of the walk's own -/
def SG (w0 : World) (e size : Nat) (v : Value) (n : Nat) (xs : List Value) (G : List (Nat × (Obj → Prop))) : Prop := xs.length = n * size ∧ ((v = .slice none 0 0 ∧ n = 0 ∧ G = []) ∨ ∃ g cap, v = .slice (some ⟨g, 0, none⟩) n cap ∧ w0.heap.size ≤ g ∧ G = [(g, ES e size n cap xs)])
theorem OwnS.split {X : List Nat} {L : List (Nat × (Obj → Prop))} {R : World → Prop} {w0 w : World} {e sz n : Nat} {v : Value} {xs : List Value} (h : OwnS X L R w0 w e sz v n xs) : ∃ G, SG w0 e sz v n xs G ∧ Own X (G ++ L) R w0 w := by
 rcases h.2 with ⟨h1, h2, h3⟩ | ⟨g, cap, h1, h2, h3⟩
 · exact ⟨[], ⟨h.1, Or.inl ⟨h1, h2, rfl⟩⟩, h3⟩
 · exact ⟨_, ⟨h.1, Or.inr ⟨g, cap, h1, h2, rfl⟩⟩, h3⟩
theorem SG.join {X : List Nat} {L G : List (Nat × (Obj → Prop))} {R : World → Prop} {w0 w : World} {e sz n : Nat} {v : Value} {xs : List Value} (h : SG w0 e sz v n xs G) (ho : Own X (G ++ L) R w0 w) : OwnS X L R w0 w e sz v n xs := by
 rcases h.2 with ⟨h1, h2, rfl⟩ | ⟨g, cap, h1, h2, rfl⟩
 · exact ⟨h.1, Or.inl ⟨h1, h2, ho⟩⟩
 · exact ⟨h.1, Or.inr ⟨g, cap, h1, h2, ho⟩⟩
theorem permY {α : Type} (G : List α) (a b c : α) (T : List α) : (a :: (G ++ (b :: c :: T))).Perm (G ++ (b :: c :: a :: T)) := (List.perm_middle (a := a) (l₁ := G)).symm.trans ((List.perm_middle (a := a) (l₁ := [b, c]) (l₂ := T)).symm.append_left G)
theorem permX {α : Type} (G : List α) (a b c : α) (T : List α) : (b :: (G ++ (c :: a :: T))).Perm (a :: (G ++ (b :: c :: T))) := (List.perm_middle (a := b) (l₁ := G)).symm.trans (permY G a b c T).symm
/-- calls' cells -/
def opV (l : List Opp) : List Value := l.flatMap Opp.cs
theorem opV_len (l : List Opp) : (opV l).length = l.length * 6 := by
 induction l with
 | nil => rfl
 | cons a l ih => simp only [opV, List.flatMap_cons, List.length_append, List.length_cons] at ih ⊢; rw [ih]; simp only [Opp.cs, List.length_cons, List.length_nil]; omega
theorem opV_snoc (l : List Opp) (o : Opp) : opV (l ++ [o]) = opV l ++ o.cs := by simp [opV]
theorem opV_at : ∀ (l : List Opp) (i : Nat) (o : Opp), l[i]? = some o → ∀ q u, o.cs[q]? = some u → (opV l)[i * 6 + q]? = some u
 | [], i, o, h, _, _, _ => by simp at h
 | a :: l, 0, o, h, q, u, hu => by
  simp only [List.getElem?_cons_zero, Option.some.injEq] at h
  subst h
  simp only [opV, List.flatMap_cons, Nat.zero_mul, Nat.zero_add]
  rw [List.getElem?_append_left (List.getElem?_eq_some_iff.1 hu).1]
  exact hu
 | a :: l, i + 1, o, h, q, u, hu => by
  have ih := opV_at l i o (by simpa using h) q u hu
  simp only [opV, List.flatMap_cons] at ih ⊢
  have e : (i + 1) * 6 + q = a.cs.length + (i * 6 + q) := by simp only [Opp.cs, List.length_cons, List.length_nil]; omega
  rw [e, List.getElem?_append_right (by omega), Nat.add_sub_cancel_left]
  exact ih
set_option maxHeartbeats 8000000 in
set_option maxRecDepth 100000 in
theorem play_Ops (L : List (Nat × (Obj → Prop))) (R : World → Prop) (w0 w : World) (p : Nat) (A : Option Addr) (n c j : Nat) (r : Rw) (cf : Cf) (hc : confOf r = (cf, 0)) (ok : r.ok) (hg : Good cf) (bs : List Nat) (B : Bytes w0 A n c bs) (H : Own [] ((p, PK A n c j) :: L) R w0 w) (hj : j ≤ n) (hn : n ≤ 1000) (most : Nat) (hm : most ≤ 900) :
 Calls Tryz.prog 15 #[.pointer (some ⟨p, 0, none⟩), .agg r.cs.toArray, .int .i64 (most : Int)] w fun e w' => ∃ (v : Value) (ops : List Opp), e = .returned v ∧ ops.length ≤ most ∧ (∀ o ∈ ops, OpOk o) ∧ Own [] L (fun W => R W ∧ Row W v ops.length (opV ops)) w0 w' := by
 have HNM := As.mk (fun W => ref_NewM r cf W ok hc hg)
 have HOV := As.mk (fun (L : List (Nat × (Obj → Prop))) (R : World → Prop) (W : World) (j : Nat) (H : Own [] ((p, PK A n c j) :: L) R w0 W) (hj : j ≤ n) => play_Over L R w0 W p A n c j H hj hn)
 have HOP := As.mk (fun (L : List (Nat × (Obj → Prop))) (R : World → Prop) (W : World) (j : Nat) (H : Own [] ((p, PK A n c j) :: L) R w0 W) (hj : j ≤ n) (m : Md) (hrow : ∀ W, R W → Row W (.slice m.A m.l.length m.cap) m.l.length (mbV m.l)) (hl : m.l.length ≤ 1000) (hat : ∀ b ∈ m.l, b.1 ≤ 65536) => play_Op L R w0 W p A n c j cf hg bs B H hj m.l m.A m.l.length m.cap rfl hrow hl hat)
 have HDO := As.mk (fun (W : World) (m : Md) (o : Opp) (ok : OpOk o) (hmd : MdR W cf m) (hf : MdF cf m) (hl : m.l.length ≤ 998) => ref_Do cf hg m o W ok hmd hf hl)
 have hH := hg.max_
 have hcv : cf.v = .agg cf.cs.toArray := rfl
 have hrv : r.v = .agg r.cs.toArray := rfl
 rw [hcv] at HOP
 rw [hrv] at HNM
 unfold Md.v at HNM HDO
 have ho := H.box r.cs.toArray 25
 have HO := As.mk ho
 clear ho H hcv hrv hc ok hg B
 go_enter Tryz.func15, Tryz.ntmps15
 go_wp2_with (refine go_ld HO.out me0 rfl 25 (.tmp 4) rfl rfl _ Tryz.underlying25 rfl size25 ?_)
 refine (HNM.out _).mono ?_
 rintro e w2 ⟨⟨m0, rfl, hm0, hR⟩, hb⟩
 have HO2 := As.mk (HO.out.result hb (fun W hW => hR W hW))
 have HO3 := As.mk (box89 HO2.out)
 have hl0 : m0.l.length = 0 := by rw [hm0]; rfl
 have HF0 : As (MdF cf m0) := ⟨by intro b hb; rw [hm0] at hb; simp at hb⟩
 obtain ⟨gr, hgr⟩ : ∃ g, g = w.heap.size := ⟨_, rfl⟩
 obtain ⟨g7, hg7⟩ : ∃ g, g = w2.heap.size := ⟨_, rfl⟩
 clear hb hR HNM HO hm0
 go_wp2_with (refine go_st HO3.out 0 rfl rfl 89 (.tmp 7) (.tmp 15) rfl rfl (m0.cs cf) rfl rfl size89 (Md.one cf m0) ?_; intro w4 ho1; have HO4 := As.mk ho1; clear ho1)
 have ho4 : Own [] ((p, PK A n c j) :: (g7, EC 89 (m0.cs cf)) :: (gr, EC 25 r.cs) :: L) (fun W => R W ∧ MdR W cf m0) w0 w4 := by
  rw [hg7, hgr]
  exact HO4.out.permL (List.perm_middle (a := (p, PK A n c j)) (l₁ := [(w2.heap.size, EC 89 (m0.cs cf)), (w.heap.size, EC 25 r.cs)]) (l₂ := L)).symm
 have HO5 := As.mk ho4
 simp only [← hg7, ← hgr]
 clear ho4 hg7 hgr HO2 HO3 HO4
 go_loopw [9, 10] (fun v i wr => ∃ (k : Nat) (ops : List Opp) (m : Md) (j' : Nat), k ≤ most ∧ ops.length = k ∧ i = .int .i64 (k : Int) ∧ m.l.length ≤ k ∧ As (MdF cf m) ∧ As (∀ o ∈ ops, OpOk o) ∧ j' ≤ n ∧ OwnS [] ((p, PK A n c j') :: (g7, EC 89 (m.cs cf)) :: (gr, EC 25 r.cs) :: L) (fun W => R W ∧ MdR W cf m) w0 wr 42 6 v k (opV ops)) (fun _ i _ => most - (intOf i).toNat)
 case atStart => exact ⟨0, [], m0, j, Nat.zero_le _, rfl, rfl, by omega, HF0, ⟨by simp⟩, hj, OwnS.nil HO5.out 42 6⟩
 case round =>
  clear HO5 HF0 hl0 hj
  obtain ⟨k, ops, m, j', hk, hol, rfl, hml, HF, HOK, hj', ho0⟩ := hrel
  obtain ⟨G, hsg, ho⟩ := ho0.split
  have HSG := As.mk hsg
  have HOL := As.mk hol
  have ho1 : Own [] ((p, PK A n c j') :: (G ++ ((g7, EC 89 (m.cs cf)) :: (gr, EC 25 r.cs) :: L))) (fun W => R W ∧ MdR W cf m) w0 wr := ho.permL List.perm_middle.symm
  have HO := As.mk ho1
  clear ho ho1 hsg hol ho0
  by_cases hkm : k < most
  · by_cases hov : n ≤ j'
    · go_wp2_with fail
      refine (HOV.out _ _ _ j' HO.out hj').mono ?_
      rintro e w5 ⟨rfl, ho⟩
      have HO5 := As.mk ho
      clear ho HO
      have hd : decide (n ≤ j') = true := decide_eq_true hov
      simp only [hd]
      go_wp2_with fail
      go_ret
      refine ⟨_, ops, rfl, by have := HOL.out; omega, HOK.out, ?_⟩
      have h1 := HSG.out.join (HO5.out.permL List.perm_middle)
      rw [HOL.out]
      exact (h1.freeze.imp (fun W h => ⟨h.1.1, h.2⟩)).drop.drop.drop
    · go_wp2_with fail
      refine (HOV.out _ _ _ j' HO.out hj').mono ?_
      rintro e w5 ⟨rfl, ho⟩
      have HO5 := As.mk ho
      have z8 : w5.cell? ⟨g7, 8, none⟩ = some (.slice m.A m.l.length m.cap) := ho.get (List.mem_cons_of_mem _ (List.mem_append_right _ me0)) 8 (by simp [Md.cs])
      clear ho HO
      have hd : decide (n ≤ j') = false := decide_eq_false hov
      simp only [hd]
      go_wp2_with (refine go_ldp HO5.out (List.mem_cons_of_mem _ (List.mem_append_right _ me0)) (Md.split cf m) rfl 34 (.tmp 30) rfl rfl _ Tryz.underlying34 rfl size34 ?_)
      refine (HOP.out _ _ _ j' HO5.out hj' m (fun W h => h.2.bl) (by omega) (fun b hb => by have := HF.out b hb; omega)).mono ?_
      rintro e w6 ⟨o, rfl, hok, j2, hj2, ho⟩
      have HO6 := As.mk ho
      have HOK2 := As.mk hok
      have hox : OwnS [] ((w6.heap.size, EC 42 o.cs) :: (p, PK A n c j2) :: (g7, EC 89 (m.cs cf)) :: (gr, EC 25 r.cs) :: L) (fun W => R W ∧ MdR W cf m) w0 (w6.alloc (.cells #[.int .i64 o.kind, .int .i64 o.p, .int .i64 o.s, .int .i64 o.a, .int .i64 o.n, .int .u8 o.b] 42)) 42 6 u9 k (opV ops) := by
       refine HSG.out.join ?_
       have h1 := ho.box #[.int .i64 o.kind, .int .i64 o.p, .int .i64 o.s, .int .i64 o.a, .int .i64 o.n, .int .u8 o.b] 42
       exact h1.permL ((List.perm_middle (a := (w6.heap.size, EC 42 o.cs)) (l₁ := G)).trans ((List.perm_middle (a := (p, PK A n c j2)) (l₁ := G)).cons _))
      obtain ⟨g11, hg11⟩ : ∃ g, g = w6.heap.size := ⟨_, rfl⟩
      obtain ⟨w7, hw7⟩ : ∃ x, x = w6.alloc (.cells #[.int .i64 o.kind, .int .i64 o.p, .int .i64 o.s, .int .i64 o.a, .int .i64 o.n, .int .u8 o.b] 42) := ⟨_, rfl⟩
      have hor : Own [] ((w6.heap.size, EC 42 [.int .i64 o.kind, .int .i64 o.p, .int .i64 o.s, .int .i64 o.a, .int .i64 o.n, .int .u8 o.b]) :: (p, PK A n c j2) :: (g7, EC 89 (m.cs cf)) :: (gr, EC 25 r.cs) :: L) (fun W => R W ∧ MdR W cf m) w0 (w6.alloc (.cells #[.int .i64 o.kind, .int .i64 o.p, .int .i64 o.s, .int .i64 o.a, .int .i64 o.n, .int .u8 o.b] 42)) := hox.rest
      have HOR := As.mk hor
      rw [← hg11, ← hw7] at hox
      have HOX := As.mk hox
      unfold Opp.v
      have hon : ∀ u ∈ ([.int .i64 o.kind, .int .i64 o.p, .int .i64 o.s, .int .i64 o.a, .int .i64 o.n, .int .u8 o.b] : List Value), u.oneCell' = true := o.one
      clear ho hok hox hor HO5 z8 hd hov hj'
      go_wp2_with (first | (refine go_ld HOR.out me0 rfl 42 (.tmp 11) rfl rfl _ Tryz.underlying42 rfl size42 ?_; rw [← hw7, ← hg11]; clear HOR hw7 hg11) | (at_builtin; refine go_app w0 rfl _ _ 36 42 _ 6 48 rfl Tryz.underlying36 info42 rfl (by decide) u9 k (opV ops) rfl ⟨w7.heap.size, 0, none⟩ 1 1 [.int .i64 o.kind, .int .i64 o.p, .int .i64 o.s, .int .i64 o.a, .int .i64 o.n, .int .u8 o.b] rfl (HOX.out.alloc _) rfl (news _) hon (by simp only [maxLen]; omega) (by omega) ?_; intro v1 w8 hw8; have HW8 := As.mk hw8; have HR8 := As.mk hw8.rest; clear hw8 HOX) | (refine go_ld HR8.out me2 rfl 89 (.tmp 7) rfl rfl _ Tryz.underlying89 rfl size89 ?_) | (refine go_ld HR8.out me0 rfl 42 (.tmp 11) rfl rfl _ Tryz.underlying42 rfl size42 ?_))
      refine (HDO.out w8 m o HOK2.out HR8.out.now.2 HF.out (by omega)).mono ?_
      rintro e w9 ⟨⟨m', an, rfl, hf', hl', hR⟩, hb⟩
      obtain ⟨G2, hsg2, ho8⟩ := HW8.out.split
      have hsg3 : SG w0 42 6 v1 (k + 1) (opV (ops ++ [o])) G2 := by rw [opV_snoc]; exact hsg2
      have HSG3 := As.mk hsg3
      have HF2 := As.mk hf'
      have HO9 := As.mk (((ho8.result hb (fun W hW => hR W hW)).imp (R' := fun W => R W ∧ MdR W cf m') (fun W h => ⟨h.1.1, h.2 h.1.2⟩)).permL (permY G2 (g7, EC 89 (m.cs cf)) (g11, EC 42 o.cs) (p, PK A n c j2) ((gr, EC 25 r.cs) :: L)))
      clear hb hR hf' hsg2 hsg3 ho8 HW8 HR8 hon HSG
      unfold Md.v
      go_wp2_with (refine go_st HO9.out 0 rfl rfl 89 (.tmp 7) (.tmp 43) rfl rfl (m'.cs cf) rfl rfl size89 (Md.one cf m') ?_; intro w10 ho1; have HO10 : As (Own [] ((g7, EC 89 (m'.cs cf)) :: (G2 ++ ((g11, EC 42 o.cs) :: (p, PK A n c j2) :: (gr, EC 25 r.cs) :: L))) (fun W => R W ∧ MdR W cf m') w0 w10) := As.mk ho1; clear ho1 HO9)
      go_roundw
      case rel => exact ⟨k + 1, ops ++ [o], m', j2, by omega, by simp [HOL.out], by go_num, by omega, HF2, ⟨fun x hx => by rcases List.mem_append.1 hx with h | h; exact HOK.out x h; exact (List.mem_singleton.1 h) ▸ HOK2.out⟩, hj2, HSG3.out.join (HO10.out.permL (permX G2 (g7, EC 89 (m'.cs cf)) (g11, EC 42 o.cs) (p, PK A n c j2) ((gr, EC 25 r.cs) :: L))).drop⟩
      case measure => simp [intOf]; omega
  · have e : k = most := by omega
    have hlo : ops.length ≤ most := by have := HOL.out; omega
    rw [e]
    clear e hkm hk
    go_wp2_with fail
    go_ret
    refine ⟨_, ops, rfl, hlo, HOK.out, ?_⟩
    have h1 := HSG.out.join (HO.out.permL List.perm_middle)
    rw [HOL.out]
    exact (h1.freeze.imp (fun W h => ⟨h.1.1, h.2⟩)).drop.drop.drop
end Go.Proofs.YtmookafmdonopaaGreat.Top
/- wire: fields, field, put, one walked (for the calls that begun asks). -/
namespace Go.Proofs.YtmookafmdonopaaGreat.Top
open Go Go.RowKit
set_option linter.unusedVariables false
set_option linter.unusedSimpArgs false
attribute [local go_sem] max2_int min2_int max_two min_two max_three

theorem wire_fields (w : World) : Calls Tryz.prog 92 #[.int .i64 1] w fun e w' => e = .returned (.string ⟨#[83]⟩) ∧ w' = w := by
 go_enter Tryz.func92, Tryz.ntmps92
 go_wp2
 go_ret
 exact ⟨rfl, rfl⟩
theorem wire_field (g : Nat) (w : World) : Calls Tryz.prog 93 #[.pointer (some ⟨g, 0, none⟩), .int .u8 83] w fun e w' => e = .returned (.pointer (some ⟨g, 2, none⟩)) ∧ w' = w := by
 go_enter Tryz.func93, Tryz.ntmps93
 go_wp2
 go_ret
 exact ⟨rfl, rfl⟩
/-- the bytes of "S" -/
theorem conv83 (W : World) : ∃ (c : Nat) (w' : World), (convert 9 22 (.string ⟨#[83]⟩)).run Tryz.prog W = .ok (.slice (some ⟨W.heap.size, 0, none⟩) 1 c) w' ∧ 1 ≤ c ∧ Below W.heap.size W w' ∧ w'.cell? ⟨W.heap.size, 0, none⟩ = some (.int .u8 83) := by
 have h := Lib.run_convert_string_bytes (P := Tryz.prog) W 9 22 5 ⟨#[83]⟩ Tryz.underlying9 Tryz.underlying22 Tryz.underlying5
 refine ⟨_, _, h, ?_, ⟨rfl, rfl, rfl, ?_, fun k hk => Lib.bytesWorld_at_old W 5 ⟨#[83]⟩ k hk⟩, ?_⟩
 · exact grownCap_ge _ _ _ _
 · rw [Lib.bytesWorld_size]; omega
 · exact Lib.bytesWorld_cell W 5 ⟨#[83]⟩ 0 (by decide)
/-- a call for so much -/
def mo (s : Int) : Opp := ⟨1, 0, s, 0, 0, 0⟩
def b4 (s : Int) : List Int := [1, 0, 0, s]
set_option maxHeartbeats 4000000 in
theorem wire_put (s : Int) (hs : s = 1 ∨ s = 3) (w : World) : Calls Tryz.prog 75 #[.agg (mo s).cs.toArray] w fun e w' => (∃ v, e = .returned v ∧ Fr w.heap.size w' 5 v 4 (uV (b4 s))) ∧ Below w.heap.size w w' := by
 have HO := As.mk ((Own.start (X := []) w).box #[.int .i64 1, .int .i64 0, .int .i64 s, .int .i64 0, .int .i64 0, .int .u8 0] 42)
 have hmo : (mo s).cs.toArray = #[.int .i64 1, .int .i64 0, .int .i64 s, .int .i64 0, .int .i64 0, .int .u8 0] := rfl
 rw [hmo]
 clear hmo
 have z0 := HO.out.get me0 0 (by simp)
 have z2 := HO.out.get me0 2 (by simp)
 simp only [List.getElem?_cons_zero, List.getElem?_cons_succ] at z0 z2
 go_enter Tryz.func75, Tryz.ntmps75
 go_wp2_with fail
 refine (wire_fields _).mono ?_
 rintro e w1 ⟨rfl, hw1⟩
 have hos : OwnS [] [(w.heap.size, EC 42 [.int .i64 1, .int .i64 0, .int .i64 s, .int .i64 0, .int .i64 0, .int .u8 0])] (fun _ => True) w w1 5 1 (.slice (some ⟨w.heap.size + 1, 0, none⟩) 1 1) 1 (uV [1]) := by
  rw [hw1]
  have h := OwnS.made (e := 5) (size := 1) (n := 1) (cap := 1) (cur := #[.int .u8 1]) (xs := uV [1]) HO.out (Nat.le_refl _) (by simp [maxLen]) rfl rfl
  rw [World.size_alloc] at h
  exact h
 obtain ⟨cc, w2, hcv, hcc, hb2, hc83⟩ := conv83 w1
 have HOS := As.mk (hos.below hb2)
 have z0 := HOS.out.rest.get me0 0 (by simp)
 have z2 := HOS.out.rest.get me0 2 (by simp)
 simp only [List.getElem?_cons_zero, List.getElem?_cons_succ] at z0 z2
 clear hos hb2 hw1 HO
 go_wp2_with fail
 rcases hs with rfl | rfl
 · go_loopw [3, 16] (fun v i wr => (i = .int .i64 0 ∧ v = .slice (some ⟨w.heap.size + 1, 0, none⟩) 1 1 ∧ wr = w2) ∨ (i = .int .i64 1 ∧ OwnS [] [(w.heap.size, EC 42 (mo 1).cs)] (fun _ => True) w wr 5 1 v 4 (uV (b4 1)))) (fun _ i _ => 1 - (intOf i).toNat)
   case atStart => exact Or.inl ⟨rfl, rfl, rfl⟩
   case round =>
    rcases hrel with ⟨rfl, rfl, rfl⟩ | ⟨rfl, ho⟩
    · go_wp2_with fail
      refine (wire_field _ _).mono ?_
      rintro e w3 ⟨rfl, rfl⟩
      go_wp2_with (at_builtin; refine go_app w rfl _ _ 22 5 _ 1 1 rfl Tryz.underlying22 info5 rfl (by decide) (.slice (some ⟨w.heap.size + 1, 0, none⟩) 1 1) 1 (uV [1]) rfl ⟨w3.heap.size, 0, none⟩ 3 3 [.int .u8 0, .int .u8 0, .int .u8 1] rfl (HOS.out.alloc _) rfl (news _) (by intro u hu; simp at hu; rcases hu with rfl | rfl | rfl <;> rfl) (by simp [maxLen]) (by omega) ?_; intro v1 w4 hw; have HW := As.mk hw; clear hw)
      go_roundw
      case rel => exact Or.inr ⟨by go_num, HW.out⟩
      case measure => simp [intOf]
    · have z0 := ho.rest.get me0 0 (by simp [mo, Opp.cs])
      simp only [mo, Opp.cs, List.getElem?_cons_zero] at z0
      have HW := As.mk ho
      clear ho
      go_wp2_with fail
      go_ret
      exact ⟨⟨_, rfl, HW.out.fr⟩, HW.out.rest.toBelow⟩
 · go_loopw [3, 16] (fun v i wr => (i = .int .i64 0 ∧ v = .slice (some ⟨w.heap.size + 1, 0, none⟩) 1 1 ∧ wr = w2) ∨ (i = .int .i64 1 ∧ OwnS [] [(w.heap.size, EC 42 (mo 3).cs)] (fun _ => True) w wr 5 1 v 4 (uV (b4 3)))) (fun _ i _ => 1 - (intOf i).toNat)
   case atStart => exact Or.inl ⟨rfl, rfl, rfl⟩
   case round =>
    rcases hrel with ⟨rfl, rfl, rfl⟩ | ⟨rfl, ho⟩
    · go_wp2_with fail
      refine (wire_field _ _).mono ?_
      rintro e w3 ⟨rfl, rfl⟩
      go_wp2_with (at_builtin; refine go_app w rfl _ _ 22 5 _ 1 1 rfl Tryz.underlying22 info5 rfl (by decide) (.slice (some ⟨w.heap.size + 1, 0, none⟩) 1 1) 1 (uV [1]) rfl ⟨w3.heap.size, 0, none⟩ 3 3 [.int .u8 0, .int .u8 0, .int .u8 3] rfl (HOS.out.alloc _) rfl (news _) (by intro u hu; simp at hu; rcases hu with rfl | rfl | rfl <;> rfl) (by simp [maxLen]) (by omega) ?_; intro v1 w4 hw; have HW := As.mk hw; clear hw)
      go_roundw
      case rel => exact Or.inr ⟨by go_num, HW.out⟩
      case measure => simp [intOf]
    · have z0 := ho.rest.get me0 0 (by simp [mo, Opp.cs])
      simp only [mo, Opp.cs, List.getElem?_cons_zero] at z0
      have HW := As.mk ho
      clear ho
      go_wp2_with fail
      go_ret
      exact ⟨⟨_, rfl, HW.out.fr⟩, HW.out.rest.toBelow⟩
set_option maxHeartbeats 4000000 in
set_option maxRecDepth 100000 in
theorem wire_one (s : Int) (hs : s = 1 ∨ s = 3) (bb oo ln cp : Nat) (w : World) (hln : 3 ≤ ln) (hlc : ln ≤ cp) (hl6 : ln ≤ 100) (h0 : w.cell? ⟨bb, oo, none⟩ = some (.int .u8 0)) (h1 : w.cell? ⟨bb, oo + 1, none⟩ = some (.int .u8 0)) (h2 : w.cell? ⟨bb, oo + 2, none⟩ = some (.int .u8 s)) :
 Calls Tryz.prog 91 #[.int .i64 1, .slice (some ⟨bb, oo, none⟩) ln cp] w fun e w' => e = .returned (.tuple #[.agg (mo s).cs.toArray, .int .i64 3, .bool true]) ∧ Below w.heap.size w w' := by
 have HO := As.mk ((Own.start (X := []) w).box #[.int .i64 1, .int .i64 0, .int .i64 0, .int .i64 0, .int .i64 0, .int .u8 0] 42)
 go_enter Tryz.func91, Tryz.ntmps91
 go_wp2_with fail
 refine (wire_fields _).mono ?_
 rintro e w1 ⟨rfl, hw1⟩
 have ho1 : Own [] [(w.heap.size, EC 42 [.int .i64 1, .int .i64 0, .int .i64 0, .int .i64 0, .int .i64 0, .int .u8 0])] (fun _ => True) w w1 := by rw [hw1]; exact HO.out
 obtain ⟨cc, w2, hcv, hcc, hb2, hc83⟩ := conv83 w1
 have HO2 := As.mk (ho1.below hb2)
 have HC := As.mk (And.intro (cell_below HO2.out.toBelow h0) (And.intro (cell_below HO2.out.toBelow h1) (cell_below HO2.out.toBelow h2)))
 clear ho1 hb2 hw1 HO h0 h1 h2
 go_wp2_with fail
 have q1' : ((1 : Int) < (ln : Int)) = True := eq_true (by omega)
 have q2' : ((2 : Int) < (ln : Int)) = True := eq_true (by omega)
 have q0 : (0 < ln) = True := eq_true (by omega)
 have q1 : (1 < ln) = True := eq_true (by omega)
 have q2 : (2 < ln) = True := eq_true (by omega)
 rcases hs with rfl | rfl
 · go_loopw [5, 15] (fun nn i wr => (i = .int .i64 0 ∧ nn = .int .i64 0 ∧ wr = w2) ∨ (i = .int .i64 1 ∧ nn = .int .i64 3 ∧ Own [] [(w.heap.size, EC 42 (mo 1).cs)] (fun _ => True) w wr)) (fun _ i _ => 1 - (intOf i).toNat)
   case atStart => exact Or.inl ⟨rfl, rfl, rfl⟩
   case round =>
    rcases hrel with ⟨rfl, rfl, rfl⟩ | ⟨rfl, rfl, ho⟩
    · go_wp2_with fail
      refine rgn [(0, 1), (2, 1), (3, 1), (4, 1), (5, 0), (6, 1), (7, 1), (8, 1), (9, 1), (10, 1), (11, 1), (12, 0), (13, 1), (14, 1), (15, 1), (16, 1), (17, 1), (18, 1), (19, 1), (20, 0), (21, 1), (22, 1), (1, 2), (23, 1), (24, 3)] [24] (fun W => W.cell? ⟨bb, oo, none⟩ = some (.int .u8 0) ∧ W.cell? ⟨bb, oo + 1, none⟩ = some (.int .u8 0) ∧ W.cell? ⟨bb, oo + 2, none⟩ = some (.int .u8 1)) (by kernel_rfl) (by kernel_rfl) (fun _ _ _ d _ h => by cases d <;> exact h) HC.out ?_
      have HOD := As.mk HO2.out.drew
      have HCD : As (wr.drew.cell? ⟨bb, oo, none⟩ = some (.int .u8 0) ∧ wr.drew.cell? ⟨bb, oo + 1, none⟩ = some (.int .u8 0) ∧ wr.drew.cell? ⟨bb, oo + 2, none⟩ = some (.int .u8 1)) := HC
      obtain ⟨w3, hw3⟩ : ∃ x, x = wr.drew := ⟨_, rfl⟩
      rw [← hw3] at HOD HCD ⊢
      clear hw3 HO2 HC hc83
      iterate 4 (refine Run.pu (v := ?_) (a' := ?_) rfl rfl (Or.inl ⟨by rfl, ?_⟩) ?_ ?_; rotate_left 2; (focus (intro W; go_simp; with_reducible rfl)); (focus (simp only [zq1, zq2, zq3, Act.put, zq4, zq5, zq6]; rfl)))
      refine Run.rd (v := ?_) (a' := ?_) rfl rfl (Or.inl ⟨by rfl, ?_⟩) ?_ ?_; rotate_left 2; (focus (rintro W ⟨hW1, hW2, hW3⟩; go_simp; with_reducible rfl)); (focus (simp only [zq1, zq2, zq3, Act.put, zq4, zq5, zq6]; rfl))
      refine Run.pu (v := ?_) (a' := ?_) rfl rfl (Or.inl ⟨by rfl, ?_⟩) ?_ ?_; rotate_left 2; (focus (intro W; go_simp; with_reducible rfl)); (focus (simp only [zq1, zq2, zq3, Act.put, zq4, zq5, zq6]; rfl))
      refine Run.pu (v := ?_) (a' := ?_) rfl rfl (Or.inl ⟨by rfl, ?_⟩) ?_ ?_; rotate_left 2; (focus (intro W; go_simp; (try simp only [IntKind.wrap_i64, IntKind.wrap_u8, Int.reduceAdd, Int.reduceMod, Int.reduceSub, Int.reduceMul, Int.reduceToNat]); with_reducible rfl)); (focus (simp only [zq1, zq2, zq3, Act.put, zq4, zq5, zq6]; rfl))
      iterate 2 (refine Run.pu (v := ?_) (a' := ?_) rfl rfl (Or.inl ⟨by rfl, ?_⟩) ?_ ?_; rotate_left 2; (focus (intro W; go_simp; with_reducible rfl)); (focus (simp only [zq1, zq2, zq3, Act.put, zq4, zq5, zq6]; rfl)))
      refine Run.pu (v := ?_) (a' := ?_) rfl rfl (Or.inl ⟨by rfl, ?_⟩) ?_ ?_; rotate_left 2; (focus (intro W; go_simp; (try simp only [IntKind.wrap_i64, IntKind.wrap_u8, Int.reduceAdd, Int.reduceMod, Int.reduceSub, Int.reduceMul, Int.reduceToNat]); with_reducible rfl)); (focus (simp only [zq1, zq2, zq3, Act.put, zq4, zq5, zq6]; rfl))
      refine Run.pu (v := ?_) (a' := ?_) rfl rfl (Or.inl ⟨by rfl, ?_⟩) ?_ ?_; rotate_left 2; (focus (intro W; go_simp; with_reducible rfl)); (focus (simp only [zq1, zq2, zq3, Act.put, zq4, zq5, zq6]; rfl))
      refine Run.rd (v := ?_) (a' := ?_) rfl rfl (Or.inl ⟨by rfl, ?_⟩) ?_ ?_; rotate_left 2; (focus (rintro W ⟨hW1, hW2, hW3⟩; go_simp; with_reducible rfl)); (focus (simp only [zq1, zq2, zq3, Act.put, zq4, zq5, zq6]; rfl))
      refine Run.pu (v := ?_) (a' := ?_) rfl rfl (Or.inl ⟨by rfl, ?_⟩) ?_ ?_; rotate_left 2; (focus (intro W; go_simp; with_reducible rfl)); (focus (simp only [zq1, zq2, zq3, Act.put, zq4, zq5, zq6]; rfl))
      iterate 2 (refine Run.pu (v := ?_) (a' := ?_) rfl rfl (Or.inl ⟨by rfl, ?_⟩) ?_ ?_; rotate_left 2; (focus (intro W; go_simp; (try simp only [IntKind.wrap_i64, IntKind.wrap_u8, Int.reduceAdd, Int.reduceMod, Int.reduceSub, Int.reduceMul, Int.reduceToNat]); with_reducible rfl)); (focus (simp only [zq1, zq2, zq3, Act.put, zq4, zq5, zq6]; rfl)))
      iterate 2 (refine Run.pu (v := ?_) (a' := ?_) rfl rfl (Or.inl ⟨by rfl, ?_⟩) ?_ ?_; rotate_left 2; (focus (intro W; go_simp; with_reducible rfl)); (focus (simp only [zq1, zq2, zq3, Act.put, zq4, zq5, zq6]; rfl)))
      refine Run.pu (v := ?_) (a' := ?_) rfl rfl (Or.inl ⟨by rfl, ?_⟩) ?_ ?_; rotate_left 2; (focus (intro W; go_simp; (try simp only [IntKind.wrap_i64, IntKind.wrap_u8, Int.reduceAdd, Int.reduceMod, Int.reduceSub, Int.reduceMul, Int.reduceToNat]); with_reducible rfl)); (focus (simp only [zq1, zq2, zq3, Act.put, zq4, zq5, zq6]; rfl))
      refine Run.pu (v := ?_) (a' := ?_) rfl rfl (Or.inl ⟨by rfl, ?_⟩) ?_ ?_; rotate_left 2; (focus (intro W; go_simp; with_reducible rfl)); (focus (simp only [zq1, zq2, zq3, Act.put, zq4, zq5, zq6]; rfl))
      refine Run.rd (v := ?_) (a' := ?_) rfl rfl (Or.inl ⟨by rfl, ?_⟩) ?_ ?_; rotate_left 2; (focus (rintro W ⟨hW1, hW2, hW3⟩; go_simp; with_reducible rfl)); (focus (simp only [zq1, zq2, zq3, Act.put, zq4, zq5, zq6]; rfl))
      refine Run.pu (v := ?_) (a' := ?_) rfl rfl (Or.inl ⟨by rfl, ?_⟩) ?_ ?_; rotate_left 2; (focus (intro W; go_simp; with_reducible rfl)); (focus (simp only [zq1, zq2, zq3, Act.put, zq4, zq5, zq6]; rfl))
      refine Run.pu (v := ?_) (a' := ?_) rfl rfl (Or.inl ⟨by rfl, ?_⟩) ?_ ?_; rotate_left 2; (focus (intro W; go_simp; (try simp only [IntKind.wrap_i64, IntKind.wrap_u8, Int.reduceAdd, Int.reduceMod, Int.reduceSub, Int.reduceMul, Int.reduceToNat]); with_reducible rfl)); (focus (simp only [zq1, zq2, zq3, Act.put, zq4, zq5, zq6]; rfl))
      refine Run.ef rfl (fun K hK => ?_)
      simp only [zq1, zq2, zq3]
      try simp only [zq4, zq5, zq6]
      go_wp2_with fail
      refine (wire_field _ _).mono ?_
      rintro e w4 ⟨rfl, rfl⟩
      go_wp2_with fail
      refine hK.out _ _ HCD.out ?_
      clear hK K
      refine Run.pu (v := ?_) (a' := ?_) rfl rfl (Or.inl ⟨by rfl, ?_⟩) ?_ ?_; rotate_left 2; (focus (intro W; go_simp; with_reducible rfl)); (focus (simp only [zq1, zq2, zq3, Act.put, zq4, zq5, zq6]; rfl))
      refine Run.la rfl (fun K hK => ?_)
      simp only [zq1, zq2, zq3]
      try simp only [zq4, zq5, zq6]
      refine go_st1 HOD.out 0 rfl rfl 3 (.tmp 48) (.tmp 47) rfl 2 rfl (.int .i64 1) rfl rfl (by simp) size3 ?_
      intro w5 ho
      have HO5 := As.mk ho
      clear ho HOD
      go_wp2_with fail
      refine hK.out _ _ ?_
      clear hK K
      refine Run.nil ?_
      try simp only [zq1, zq2, zq3]
      try simp only [zq4, zq5, zq6]
      go_wp2_with fail
      go_roundw
      case rel => exact Or.inr ⟨by go_num, by go_num, HO5.out⟩
      case measure => simp [intOf]
    · have HW := As.mk ho
      clear ho
      go_wp2_with (first | (refine go_ld HW.out me0 rfl 42 (.tmp 4) rfl rfl _ Tryz.underlying42 rfl size42 ?_) | (refine go_st HW.out 0 rfl rfl 42 (.tmp 4) (.tmp 54) rfl rfl ((mo 1).cs) rfl rfl size42 (Opp.one _) ?_; intro w6 ho6; have HW6 := As.mk ho6; clear ho6))
      exact bodyPost_ret (results_ctt rfl _ rfl (HW6.out.range me0) Tryz.underlying42 rfl size42) rfl ⟨rfl, HW6.out.toBelow⟩
 · go_loopw [5, 15] (fun nn i wr => (i = .int .i64 0 ∧ nn = .int .i64 0 ∧ wr = w2) ∨ (i = .int .i64 1 ∧ nn = .int .i64 3 ∧ Own [] [(w.heap.size, EC 42 (mo 3).cs)] (fun _ => True) w wr)) (fun _ i _ => 1 - (intOf i).toNat)
   case atStart => exact Or.inl ⟨rfl, rfl, rfl⟩
   case round =>
    rcases hrel with ⟨rfl, rfl, rfl⟩ | ⟨rfl, rfl, ho⟩
    · go_wp2_with fail
      refine rgn [(0, 1), (2, 1), (3, 1), (4, 1), (5, 0), (6, 1), (7, 1), (8, 1), (9, 1), (10, 1), (11, 1), (12, 0), (13, 1), (14, 1), (15, 1), (16, 1), (17, 1), (18, 1), (19, 1), (20, 0), (21, 1), (22, 1), (1, 2), (23, 1), (24, 3)] [24] (fun W => W.cell? ⟨bb, oo, none⟩ = some (.int .u8 0) ∧ W.cell? ⟨bb, oo + 1, none⟩ = some (.int .u8 0) ∧ W.cell? ⟨bb, oo + 2, none⟩ = some (.int .u8 3)) (by kernel_rfl) (by kernel_rfl) (fun _ _ _ d _ h => by cases d <;> exact h) HC.out ?_
      have HOD := As.mk HO2.out.drew
      have HCD : As (wr.drew.cell? ⟨bb, oo, none⟩ = some (.int .u8 0) ∧ wr.drew.cell? ⟨bb, oo + 1, none⟩ = some (.int .u8 0) ∧ wr.drew.cell? ⟨bb, oo + 2, none⟩ = some (.int .u8 3)) := HC
      obtain ⟨w3, hw3⟩ : ∃ x, x = wr.drew := ⟨_, rfl⟩
      rw [← hw3] at HOD HCD ⊢
      clear hw3 HO2 HC hc83
      iterate 4 (refine Run.pu (v := ?_) (a' := ?_) rfl rfl (Or.inl ⟨by rfl, ?_⟩) ?_ ?_; rotate_left 2; (focus (intro W; go_simp; with_reducible rfl)); (focus (simp only [zq1, zq2, zq3, Act.put, zq4, zq5, zq6]; rfl)))
      refine Run.rd (v := ?_) (a' := ?_) rfl rfl (Or.inl ⟨by rfl, ?_⟩) ?_ ?_; rotate_left 2; (focus (rintro W ⟨hW1, hW2, hW3⟩; go_simp; with_reducible rfl)); (focus (simp only [zq1, zq2, zq3, Act.put, zq4, zq5, zq6]; rfl))
      refine Run.pu (v := ?_) (a' := ?_) rfl rfl (Or.inl ⟨by rfl, ?_⟩) ?_ ?_; rotate_left 2; (focus (intro W; go_simp; with_reducible rfl)); (focus (simp only [zq1, zq2, zq3, Act.put, zq4, zq5, zq6]; rfl))
      refine Run.pu (v := ?_) (a' := ?_) rfl rfl (Or.inl ⟨by rfl, ?_⟩) ?_ ?_; rotate_left 2; (focus (intro W; go_simp; (try simp only [IntKind.wrap_i64, IntKind.wrap_u8, Int.reduceAdd, Int.reduceMod, Int.reduceSub, Int.reduceMul, Int.reduceToNat]); with_reducible rfl)); (focus (simp only [zq1, zq2, zq3, Act.put, zq4, zq5, zq6]; rfl))
      iterate 2 (refine Run.pu (v := ?_) (a' := ?_) rfl rfl (Or.inl ⟨by rfl, ?_⟩) ?_ ?_; rotate_left 2; (focus (intro W; go_simp; with_reducible rfl)); (focus (simp only [zq1, zq2, zq3, Act.put, zq4, zq5, zq6]; rfl)))
      refine Run.pu (v := ?_) (a' := ?_) rfl rfl (Or.inl ⟨by rfl, ?_⟩) ?_ ?_; rotate_left 2; (focus (intro W; go_simp; (try simp only [IntKind.wrap_i64, IntKind.wrap_u8, Int.reduceAdd, Int.reduceMod, Int.reduceSub, Int.reduceMul, Int.reduceToNat]); with_reducible rfl)); (focus (simp only [zq1, zq2, zq3, Act.put, zq4, zq5, zq6]; rfl))
      refine Run.pu (v := ?_) (a' := ?_) rfl rfl (Or.inl ⟨by rfl, ?_⟩) ?_ ?_; rotate_left 2; (focus (intro W; go_simp; with_reducible rfl)); (focus (simp only [zq1, zq2, zq3, Act.put, zq4, zq5, zq6]; rfl))
      refine Run.rd (v := ?_) (a' := ?_) rfl rfl (Or.inl ⟨by rfl, ?_⟩) ?_ ?_; rotate_left 2; (focus (rintro W ⟨hW1, hW2, hW3⟩; go_simp; with_reducible rfl)); (focus (simp only [zq1, zq2, zq3, Act.put, zq4, zq5, zq6]; rfl))
      refine Run.pu (v := ?_) (a' := ?_) rfl rfl (Or.inl ⟨by rfl, ?_⟩) ?_ ?_; rotate_left 2; (focus (intro W; go_simp; with_reducible rfl)); (focus (simp only [zq1, zq2, zq3, Act.put, zq4, zq5, zq6]; rfl))
      iterate 2 (refine Run.pu (v := ?_) (a' := ?_) rfl rfl (Or.inl ⟨by rfl, ?_⟩) ?_ ?_; rotate_left 2; (focus (intro W; go_simp; (try simp only [IntKind.wrap_i64, IntKind.wrap_u8, Int.reduceAdd, Int.reduceMod, Int.reduceSub, Int.reduceMul, Int.reduceToNat]); with_reducible rfl)); (focus (simp only [zq1, zq2, zq3, Act.put, zq4, zq5, zq6]; rfl)))
      iterate 2 (refine Run.pu (v := ?_) (a' := ?_) rfl rfl (Or.inl ⟨by rfl, ?_⟩) ?_ ?_; rotate_left 2; (focus (intro W; go_simp; with_reducible rfl)); (focus (simp only [zq1, zq2, zq3, Act.put, zq4, zq5, zq6]; rfl)))
      refine Run.pu (v := ?_) (a' := ?_) rfl rfl (Or.inl ⟨by rfl, ?_⟩) ?_ ?_; rotate_left 2; (focus (intro W; go_simp; (try simp only [IntKind.wrap_i64, IntKind.wrap_u8, Int.reduceAdd, Int.reduceMod, Int.reduceSub, Int.reduceMul, Int.reduceToNat]); with_reducible rfl)); (focus (simp only [zq1, zq2, zq3, Act.put, zq4, zq5, zq6]; rfl))
      refine Run.pu (v := ?_) (a' := ?_) rfl rfl (Or.inl ⟨by rfl, ?_⟩) ?_ ?_; rotate_left 2; (focus (intro W; go_simp; with_reducible rfl)); (focus (simp only [zq1, zq2, zq3, Act.put, zq4, zq5, zq6]; rfl))
      refine Run.rd (v := ?_) (a' := ?_) rfl rfl (Or.inl ⟨by rfl, ?_⟩) ?_ ?_; rotate_left 2; (focus (rintro W ⟨hW1, hW2, hW3⟩; go_simp; with_reducible rfl)); (focus (simp only [zq1, zq2, zq3, Act.put, zq4, zq5, zq6]; rfl))
      refine Run.pu (v := ?_) (a' := ?_) rfl rfl (Or.inl ⟨by rfl, ?_⟩) ?_ ?_; rotate_left 2; (focus (intro W; go_simp; with_reducible rfl)); (focus (simp only [zq1, zq2, zq3, Act.put, zq4, zq5, zq6]; rfl))
      refine Run.pu (v := ?_) (a' := ?_) rfl rfl (Or.inl ⟨by rfl, ?_⟩) ?_ ?_; rotate_left 2; (focus (intro W; go_simp; (try simp only [IntKind.wrap_i64, IntKind.wrap_u8, Int.reduceAdd, Int.reduceMod, Int.reduceSub, Int.reduceMul, Int.reduceToNat]); with_reducible rfl)); (focus (simp only [zq1, zq2, zq3, Act.put, zq4, zq5, zq6]; rfl))
      refine Run.ef rfl (fun K hK => ?_)
      simp only [zq1, zq2, zq3]
      try simp only [zq4, zq5, zq6]
      go_wp2_with fail
      refine (wire_field _ _).mono ?_
      rintro e w4 ⟨rfl, rfl⟩
      go_wp2_with fail
      refine hK.out _ _ HCD.out ?_
      clear hK K
      refine Run.pu (v := ?_) (a' := ?_) rfl rfl (Or.inl ⟨by rfl, ?_⟩) ?_ ?_; rotate_left 2; (focus (intro W; go_simp; with_reducible rfl)); (focus (simp only [zq1, zq2, zq3, Act.put, zq4, zq5, zq6]; rfl))
      refine Run.la rfl (fun K hK => ?_)
      simp only [zq1, zq2, zq3]
      try simp only [zq4, zq5, zq6]
      refine go_st1 HOD.out 0 rfl rfl 3 (.tmp 48) (.tmp 47) rfl 2 rfl (.int .i64 3) rfl rfl (by simp) size3 ?_
      intro w5 ho
      have HO5 := As.mk ho
      clear ho HOD
      go_wp2_with fail
      refine hK.out _ _ ?_
      clear hK K
      refine Run.nil ?_
      try simp only [zq1, zq2, zq3]
      try simp only [zq4, zq5, zq6]
      go_wp2_with fail
      go_roundw
      case rel => exact Or.inr ⟨by go_num, by go_num, HO5.out⟩
      case measure => simp [intOf]
    · have HW := As.mk ho
      clear ho
      go_wp2_with (first | (refine go_ld HW.out me0 rfl 42 (.tmp 4) rfl rfl _ Tryz.underlying42 rfl size42 ?_) | (refine go_st HW.out 0 rfl rfl 42 (.tmp 4) (.tmp 54) rfl rfl ((mo 3).cs) rfl rfl size42 (Opp.one _) ?_; intro w6 ho6; have HW6 := As.mk ho6; clear ho6))
      exact bodyPost_ret (results_ctt rfl _ rfl (HW6.out.range me0) Tryz.underlying42 rfl size42) rfl ⟨rfl, HW6.out.toBelow⟩
end Go.Proofs.YtmookafmdonopaaGreat.Top
