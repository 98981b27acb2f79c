/- (*heap.Heap).meets walked. -/
import Derived.Test.YtmookafmdonopaaGreatM13
/- (*heap.Heap).meets walked. -/
namespace Go.Proofs.YtmookafmdonopaaGreat.Top
open Go Go.RowKit
set_option linter.unusedVariables false
set_option linter.unusedSimpArgs false
attribute [local go_sem] max2_int min2_int max_two min_two max_three

def intsV (l : List Int) : List Value := l.map fun i => Value.int .i64 i
/-- k pages from f on, counted by B -/
def addM (met : List Int) (f : Nat) (B : Int) (k : Nat) : List Int := met.mapIdx fun i x => if f ≤ i ∧ i < f + k then x + B else x
theorem addM_len (met : List Int) (f : Nat) (B : Int) (k : Nat) : (addM met f B k).length = met.length := by simp [addM]
theorem addM_0 (met : List Int) (f : Nat) (B : Int) : addM met f B 0 = met := by
 apply List.ext_getElem?
 intro j
 unfold addM
 rw [List.getElem?_mapIdx]
 cases met[j]? with
 | none => rfl
 | some x => simp; omega
theorem addM_at (met : List Int) (f : Nat) (B : Int) (k j : Nat) : (addM met f B k)[j]? = met[j]?.map fun x => if f ≤ j ∧ j < f + k then x + B else x := by
 unfold addM
 rw [List.getElem?_mapIdx]
theorem addM_succ (met : List Int) (f : Nat) (B : Int) (k : Nat) (x : Int) (h : met[f + k]? = some x) : (addM met f B k).set (f + k) (x + B) = addM met f B (k + 1) := by
 have hl := (List.getElem?_eq_some_iff.1 h).1
 apply List.ext_getElem?
 intro j
 by_cases e : f + k = j
 · subst e
   rw [List.getElem?_set_self (by rw [addM_len]; exact hl), addM_at, h]
   simp
 · rw [List.getElem?_set_ne e, addM_at, addM_at]
   congr 1
   funext y
   by_cases h2 : f ≤ j ∧ j < f + k
   · rw [if_pos h2, if_pos (by omega)]
   · rw [if_neg h2, if_neg (by omega)]
theorem intsV_len (l : List Int) : (intsV l).length = l.length := by simp [intsV]
theorem intsV_at (l : List Int) (k : Nat) (x : Int) (h : l[k]? = some x) : (intsV l)[k]? = some (.int .i64 x) := by simp [intsV, h]
theorem intsV_set (l : List Int) (k : Nat) (x : Int) : (intsV l).set k (.int .i64 x) = intsV (l.set k x) := by simp [intsV]
set_option maxHeartbeats 1000000 in
theorem heap_meets (L : List (Nat × (Obj → Prop))) (R : World → Prop) (w0 w : World) (h g cap : Nat) (hcs : List Value) (met : List Int) (page at_ ch f bh : Nat) (asked B : Int)
 (H : Own [] ((g, EC 3 (intsV met)) :: L) R w0 w) (hh : (h, EC 85 hcs) ∈ L) (hp : hcs[4]? = some (.int .i64 page)) (hm : hcs[15]? = some (.slice (some ⟨g, 0, none⟩) met.length cap)) (hmc : met.length ≤ cap)
 (h1 : 1 ≤ page) (h2 : 1 ≤ ch) (h3 : at_ ≤ 65536) (h4 : ch ≤ 65536) (h5 : page ≤ 65536) (hf : f = at_ / page) (hb : bh = (at_ + ch - 1) / page + 1) (hbm : bh ≤ met.length) (hml : met.length ≤ 100000) (hB : -1 ≤ B ∧ B ≤ 1) (hx : ∀ x ∈ met, -1000000 ≤ x ∧ x ≤ 1000000) :
 Calls Tryz.prog 90 #[.pointer (some ⟨h, 0, none⟩), .agg #[.int .i64 at_, .int .i64 ch, .int .i64 asked], .int .i64 B] w fun e w' => e = .returned (.tuple #[]) ∧ Own [] ((g, EC 3 (intsV (addM met f B (bh - f)))) :: L) R w0 w' := by
 have HP := As.mk (fun W => pin_Pages page at_ ch W h1 h2 (by omega) (by omega) (by omega))
 rw [← hf, ← hb] at HP
 have hfb : f < bh := by
  rw [hf, hb]
  exact Nat.lt_succ_of_le (Nat.div_le_div_right (by omega))
 have hl4 := (List.getElem?_eq_some_iff.1 hp).1
 have hl15 := (List.getElem?_eq_some_iff.1 hm).1
 obtain ⟨L', hL'⟩ : ∃ L', L' = (w.heap.size, EC 48 [.int .i64 (at_ : Int), .int .i64 (ch : Int), .int .i64 asked]) :: L := ⟨_, rfl⟩
 have hh' : (h, EC 85 hcs) ∈ L' := hL' ▸ List.mem_cons_of_mem _ hh
 have hb' : (w.heap.size, EC 48 [.int .i64 (at_ : Int), .int .i64 (ch : Int), .int .i64 asked]) ∈ L' := hL' ▸ List.mem_cons_self
 have HC := As.mk (fun (W : World) (met' : List Int) (k : Own [] ((g, EC 3 (intsV met')) :: L') R w0 W) => And.intro ((k.get (List.mem_cons_of_mem _ hh') 4 hl4).trans hp) ((k.get (List.mem_cons_of_mem _ hh') 15 hl15).trans hm))
 have HX := As.mk hx
 have ho : Own [] ((g, EC 3 (intsV met)) :: L') R w0 (w.alloc (.cells #[.int .i64 at_, .int .i64 ch, .int .i64 asked] 48)) := by
  rw [hL']
  exact (H.box #[.int .i64 at_, .int .i64 ch, .int .i64 asked] 48).swap
 obtain ⟨z4, z15⟩ := HC.out _ _ ho
 have b0 := ho.get (List.mem_cons_of_mem _ hb') 0 (by simp)
 have b1 := ho.get (List.mem_cons_of_mem _ hb') 1 (by simp)
 have HO := As.mk ho
 have HL := As.mk hL'
 obtain ⟨n, hn⟩ : ∃ n, n = met.length := ⟨_, rfl⟩
 have HN := As.mk hn
 rw [← hn] at HC z15 hmc hbm hml
 have FB := As.mk (And.intro hf hb)
 clear ho hx H hh hp hm hL' hf hb hn hl4 hl15 hh' hb'
 go_enter Tryz.func90, Tryz.ntmps90
 go_wp2_with fail
 refine rgn [(0, 1), (1, 1), (2, 1), (3, 1), (4, 0), (5, 1), (6, 0), (7, 1), (8, 0), (9, 2), (10, 1), (11, 1), (12, 1), (13, 1), (14, 1)] [] (fun W => W.cell? ⟨h, 4, none⟩ = some (.int .i64 page) ∧ W.cell? ⟨w.heap.size, 0, none⟩ = some (.int .i64 at_) ∧ W.cell? ⟨w.heap.size, 1, none⟩ = some (.int .i64 ch)) (by kernel_rfl) (by kernel_rfl) (fun _ _ _ d _ h => by cases d <;> exact h) ⟨z4, b0, b1⟩ ?_
 iterate 4 (refine Run.pu (v := ?_) (a' := ?_) rfl rfl (Or.inl ⟨by rfl, ?_⟩) ?_ ?_; rotate_left 2; (focus (intro W; go_simp; with_reducible rfl)); (focus (simp only [Act.put, zq4, zq5, zq6]; rfl)))
 refine Run.rd (v := ?_) (a' := ?_) rfl rfl (Or.inl ⟨by rfl, ?_⟩) ?_ ?_; rotate_left 2; (focus (rintro W ⟨hW1, hW2, hW3⟩; go_simp; with_reducible rfl)); (focus (simp only [Act.put, zq4, zq5, zq6]; rfl))
 refine Run.pu (v := ?_) (a' := ?_) rfl rfl (Or.inl ⟨by rfl, ?_⟩) ?_ ?_; rotate_left 2; (focus (intro W; go_simp; with_reducible rfl)); (focus (simp only [Act.put, zq4, zq5, zq6]; rfl))
 refine Run.rd (v := ?_) (a' := ?_) rfl rfl (Or.inl ⟨by rfl, ?_⟩) ?_ ?_; rotate_left 2; (focus (rintro W ⟨hW1, hW2, hW3⟩; go_simp; with_reducible rfl)); (focus (simp only [Act.put, zq4, zq5, zq6]; rfl))
 refine Run.pu (v := ?_) (a' := ?_) rfl rfl (Or.inl ⟨by rfl, ?_⟩) ?_ ?_; rotate_left 2; (focus (intro W; go_simp; with_reducible rfl)); (focus (simp only [Act.put, zq4, zq5, zq6]; rfl))
 refine Run.rd (v := ?_) (a' := ?_) rfl rfl (Or.inl ⟨by rfl, ?_⟩) ?_ ?_; rotate_left 2; (focus (rintro W ⟨hW1, hW2, hW3⟩; go_simp; with_reducible rfl)); (focus (simp only [Act.put, zq4, zq5, zq6]; rfl))
 refine Run.ef rfl (fun K hK => ?_)
 simp only [zq1, zq2, zq3]
 go_wp2_with fail
 refine (HP.out _).mono ?_
 rintro e w1 ⟨rfl, nq, rfl⟩
 go_wp2
 refine hK.out _ _ ⟨z4, b0, b1⟩ ?_
 clear hK K
 iterate 5 (refine Run.pu (v := ?_) (a' := ?_) rfl rfl (Or.inl ⟨by rfl, ?_⟩) ?_ ?_; rotate_left 2; (focus (intro W; go_simp; with_reducible rfl)); (focus (simp only [Act.put, zq4, zq5, zq6]; rfl)))
 refine Run.nil ?_
 simp only [zq1, zq2, zq3]
 have HO1 := As.mk (HO.out.drewN (1 + nq))
 clear z4 z15 b0 b1 HO HP
 go_wp2_with fail
 go_loopw [8] (fun i wr => ∃ k : Nat, k ≤ bh - f ∧ i = .int .i64 ((f + k : Nat) : Int) ∧ Own [] ((g, EC 3 (intsV (addM met f B k))) :: L') R w0 wr) (fun i _ => bh - (intOf i).toNat)
 case atStart => exact ⟨0, Nat.zero_le _, rfl, by rw [addM_0]; exact HO1.out⟩
 case round =>
  clear HO1
  obtain ⟨k, hk, rfl, ho⟩ := hrel
  obtain ⟨z4, z15⟩ := HC.out _ _ ho
  have HO := As.mk ho
  have hln : (addM met f B k).length = n := by rw [addM_len, HN.out]
  obtain ⟨p, hp⟩ : ∃ p, p = f + k := ⟨_, rfl⟩
  rw [← hp]
  have HPE := As.mk hp
  have d1 : min (bh : Int) (n : Int) = (bh : Int) := by omega
  by_cases hlt : p < bh
  · obtain ⟨x, hx⟩ : ∃ x, met[p]? = some x := ⟨met[p]'(by have := HN.out; omega), List.getElem?_eq_getElem _⟩
    have hax : (addM met f B k)[p]? = some x := by rw [addM_at, hx, Option.map_some, if_neg (by omega)]
    have z1 := ho.get List.mem_cons_self p (by rw [intsV_len, hln]; omega)
    rw [intsV_at _ _ _ hax] at z1
    have z3 := ho.frozen (g := g) (e := 3) (cs := intsV (addM met f B k)) List.mem_cons_self p
    have hset := ho.set 0 (g := g) (e := 3) (cs := intsV (addM met f B k)) rfl p (.int .i64 (x + B)) (by rw [intsV_len, hln]; omega)
    have hxb := HX.out x (List.mem_of_getElem? hx)
    rw [intsV_set, hp, addM_succ met f B k x (by rw [← hp]; exact hx), ← hp] at hset
    have HSET := As.mk hset
    have d2 : ((p : Int) < (bh : Int)) = True := eq_true (by omega)
    clear hset hx hax ho HO hln hp
    go_wp2_with fail
    go_roundw
    case rel => exact ⟨k + 1, by have := HPE.out; omega, by rw [HPE.out]; go_num, HSET.out⟩
    case measure => simp [intOf]; omega
  · have e : k = bh - f := by omega
    subst e
    have d2 : ((p : Int) < (bh : Int)) = False := eq_false (by omega)
    clear hp ho hln
    go_wp2
    go_end0
    refine ⟨rfl, ?_⟩
    have h9 := HO.out
    rw [HL.out] at h9
    exact h9.drop2
end Go.Proofs.YtmookafmdonopaaGreat.Top
/- The heap's blocks, plainly: which there are, and what follows of them. -/
namespace Go.Proofs.YtmookafmdonopaaGreat.Top
open Go Go.RowKit
set_option linter.unusedVariables false
set_option linter.unusedSimpArgs false

/-- a block: where, of which class, how much was asked for -/
structure Bk where
 (at_ k asked : Nat)
def Bk.ch (c : Cf) (b : Bk) : Nat := c.G * 2 ^ b.k
def Bk.v (c : Cf) (b : Bk) : Value := .agg #[.int .i64 (b.at_ : Int), .int .i64 (b.ch c : Int), .int .i64 (b.asked : Int)]
def marksB (bl : List Bk) : List Mk := bl.map fun b => (b.at_, b.k)
def posB (bl : List Bk) (x : Nat) : Nat := bl.countP fun b => decide (b.at_ < x)
def insB (bl : List Bk) (b : Bk) : List Bk := bl.take (posB bl b.at_) ++ b :: bl.drop (posB bl b.at_)
def delB (bl : List Bk) (x : Nat) : List Bk := bl.take (posB bl x) ++ bl.drop (posB bl x + 1)
theorem posB_marks (bl : List Bk) (x : Nat) : posM (marksB bl) x = posB bl x := by
 unfold posM marksB posB
 rw [List.countP_map]
 rfl
theorem marks_ins (bl : List Bk) (b : Bk) : putM (marksB bl) (b.at_, b.k) = marksB (insB bl b) := by
 unfold putM insB
 rw [posB_marks]
 simp [marksB]
theorem marks_del (bl : List Bk) (x : Nat) : delM (marksB bl) x = marksB (delB bl x) := by
 unfold delM delB
 rw [posB_marks]
 simp [marksB]
/-- they lie apart, each at a multiple of what it is charged, within what there is -/
structure InvB (c : Cf) (bl : List Bk) : Prop where
 apart : bl.Pairwise fun a b => a.at_ + a.ch c ≤ b.at_
 k : ∀ b ∈ bl, b.k ≤ c.L
 mul : ∀ b ∈ bl, b.ch c ∣ b.at_
 fits : ∀ b ∈ bl, b.at_ + b.ch c ≤ c.H
 asked : ∀ b ∈ bl, b.asked ≤ b.ch c
theorem InvB.nil (c : Cf) : InvB c [] := ⟨List.Pairwise.nil, by simp, by simp, by simp, by simp⟩
section
variable {c : Cf} {bl : List Bk} {b : Bk}
theorem ch_pos (hg : Good c) (b : Bk) : 1 ≤ b.ch c := Nat.mul_pos hg.g1 (Nat.two_pow_pos _)
theorem ch_g (c : Cf) (b : Bk) : c.G ∣ b.ch c := Nat.dvd_mul_right _ _
theorem InvB.sorted (h : InvB c bl) (hg : Good c) : Sorted (marksB bl) := by
 unfold Sorted marksB
 rw [List.pairwise_map]
 refine h.apart.imp fun {a b} hab => ?_
 have := ch_pos hg a
 show a.at_ < b.at_
 omega
theorem InvB.sortedB (h : InvB c bl) (hg : Good c) : bl.Pairwise fun a b => a.at_ < b.at_ := by
 refine h.apart.imp fun {a b} hab => ?_
 have := ch_pos hg a
 omega
theorem ins_perm (bl : List Bk) (b : Bk) : (insB bl b).Perm (b :: bl) := by
 unfold insB
 refine List.perm_middle.trans ?_
 rw [List.take_append_drop]
theorem mem_ins {x : Bk} : x ∈ insB bl b ↔ x = b ∨ x ∈ bl := by
 rw [(ins_perm bl b).mem_iff, List.mem_cons]
/-- where a block lies in the list -/
theorem InvB.split (h : InvB c bl) (hg : Good c) (hb : b ∈ bl) : ∃ l r, bl = l ++ b :: r ∧ delB bl b.at_ = l ++ r ∧ insB (l ++ r) b = bl := by
 obtain ⟨l, r, rfl⟩ := List.append_of_mem hb
 have hs := h.sortedB hg
 rw [List.pairwise_append, List.pairwise_cons] at hs
 obtain ⟨h1, ⟨h2, h3⟩, h4⟩ := hs
 have hl : l.countP (fun y => decide (y.at_ < b.at_)) = l.length := List.countP_eq_length.2 fun y hy => by simpa using h4 y hy b List.mem_cons_self
 have hr : r.countP (fun y => decide (y.at_ < b.at_)) = 0 := List.countP_eq_zero.2 fun y hy => by have := h2 y hy; simp; omega
 have hp : posB (l ++ b :: r) b.at_ = l.length := by
  unfold posB
  rw [List.countP_append, List.countP_cons, hl, hr]
  simp
 have hp2 : posB (l ++ r) b.at_ = l.length := by
  unfold posB
  rw [List.countP_append, hl, hr]
  simp
 refine ⟨l, r, rfl, ?_, ?_⟩
 · unfold delB
   rw [hp]
   simp
 · unfold insB
   rw [hp2]
   simp
theorem InvB.del_perm (h : InvB c bl) (hg : Good c) (hb : b ∈ bl) : bl.Perm (b :: delB bl b.at_) := by
 obtain ⟨l, r, h1, h2, _⟩ := h.split hg hb
 rw [h2]
 conv => lhs; rw [h1]
 exact List.perm_middle
theorem InvB.ins_del (h : InvB c bl) (hg : Good c) (hb : b ∈ bl) : insB (delB bl b.at_) b = bl := by
 obtain ⟨l, r, h1, h2, h3⟩ := h.split hg hb
 rw [h2, h3]
/-- the others lie beside it -/
theorem InvB.beside (h : InvB c bl) (hg : Good c) (hb : b ∈ bl) : ∀ y ∈ delB bl b.at_, y.at_ + y.ch c ≤ b.at_ ∨ b.at_ + b.ch c ≤ y.at_ := by
 obtain ⟨l, r, h1, h2, _⟩ := h.split hg hb
 have hs := h.apart
 rw [h1, List.pairwise_append, List.pairwise_cons] at hs
 obtain ⟨_, ⟨h3, _⟩, h4⟩ := hs
 intro y hy
 rw [h2] at hy
 rcases List.mem_append.1 hy with hy | hy
 · exact Or.inl (h4 y hy b List.mem_cons_self)
 · exact Or.inr (h3 y hy)
theorem InvB.mem_del (h : InvB c bl) (hg : Good c) (hb : b ∈ bl) {y : Bk} (hy : y ∈ delB bl b.at_) : y ∈ bl ∧ y.at_ ≠ b.at_ := by
 refine ⟨(h.del_perm hg hb).mem_iff.2 (List.mem_cons_of_mem _ hy), ?_⟩
 have := ch_pos hg y
 have := ch_pos hg b
 rcases h.beside hg hb y hy with h1 | h1 <;> omega
theorem InvB.del (h : InvB c bl) (hg : Good c) (hb : b ∈ bl) : InvB c (delB bl b.at_) := by
 obtain ⟨l, r, h1, h2, _⟩ := h.split hg hb
 have hsub : (l ++ r).Sublist bl := by
  rw [h1]
  exact List.Sublist.append (List.Sublist.refl l) (List.sublist_cons_self b r)
 rw [h2]
 exact ⟨h.apart.sublist hsub, fun y hy => h.k y (hsub.subset hy), fun y hy => h.mul y (hsub.subset hy), fun y hy => h.fits y (hsub.subset hy), fun y hy => h.asked y (hsub.subset hy)⟩
theorem posB_spec (hs : bl.Pairwise fun a b => a.at_ < b.at_) (x : Nat) : (∀ y ∈ bl.take (posB bl x), y.at_ < x) ∧ ∀ y ∈ bl.drop (posB bl x), x ≤ y.at_ := by
 induction bl with
 | nil => simp
 | cons a bl ih =>
  have hs' := List.pairwise_cons.1 hs
  obtain ⟨i1, i2⟩ := ih hs'.2
  by_cases c1 : a.at_ < x
  · have e : posB (a :: bl) x = posB bl x + 1 := by simp [posB, List.countP_cons, c1]
    rw [e]
    refine ⟨?_, by simpa using i2⟩
    intro y hy
    rw [List.take_succ_cons] at hy
    rcases List.mem_cons.1 hy with rfl | hy
    · exact c1
    · exact i1 y hy
  · have e : posB (a :: bl) x = 0 := by
     unfold posB
     rw [List.countP_eq_zero]
     intro y hy
     rcases List.mem_cons.1 hy with rfl | hy
     · simpa using c1
     · have := hs'.1 y hy
       simp
       omega
    rw [e]
    refine ⟨by simp, ?_⟩
    intro y hy
    simp only [List.drop_zero] at hy
    rcases List.mem_cons.1 hy with rfl | hy
    · omega
    · have := hs'.1 y hy
      omega
theorem InvB.ins (h : InvB c bl) (hg : Good c) (hfree : ∀ y ∈ bl, y.at_ + y.ch c ≤ b.at_ ∨ b.at_ + b.ch c ≤ y.at_) (h1 : b.k ≤ c.L) (h2 : b.ch c ∣ b.at_) (h3 : b.at_ + b.ch c ≤ c.H) (h4 : b.asked ≤ b.ch c) : InvB c (insB bl b) := by
 obtain ⟨p1, p2⟩ := posB_spec (h.sortedB hg) b.at_
 have hp := h.apart
 rw [← List.take_append_drop (posB bl b.at_) bl, List.pairwise_append] at hp
 refine ⟨?_, ?_, ?_, ?_, ?_⟩
 · unfold insB
   rw [List.pairwise_append, List.pairwise_cons]
   have hbp := ch_pos hg b
   refine ⟨hp.1, ⟨fun y hy => ?_, hp.2.1⟩, fun y hy z hz => ?_⟩
   · have := p2 y hy
     have := ch_pos hg y
     rcases hfree y (List.mem_of_mem_drop hy) with h5 | h5 <;> omega
   · have hlt := p1 y hy
     have hyb : y.at_ + y.ch c ≤ b.at_ := by
      rcases hfree y (List.mem_of_mem_take hy) with h5 | h5 <;> omega
     rcases List.mem_cons.1 hz with rfl | hz
     · exact hyb
     · exact hp.2.2 y hy z hz
 · intro y hy
   rcases mem_ins.1 hy with rfl | hy
   · exact h1
   · exact h.k y hy
 · intro y hy
   rcases mem_ins.1 hy with rfl | hy
   · exact h2
   · exact h.mul y hy
 · intro y hy
   rcases mem_ins.1 hy with rfl | hy
   · exact h3
   · exact h.fits y hy
 · intro y hy
   rcases mem_ins.1 hy with rfl | hy
   · exact h4
   · exact h.asked y hy

/-! ### granules -/
def onG (c : Cf) (b : Bk) (i : Nat) : Bool := decide (b.at_ ≤ i * c.G ∧ i * c.G < b.at_ + b.ch c)
def bitsB (c : Cf) (bl : List Bk) : Nat → Bool := fun i => bl.any fun b => onG c b i
theorem onG_iff (hg : Good c) (a : Nat) (ha : b.at_ = a * c.G) (i : Nat) : onG c b i = true ↔ a ≤ i ∧ i < a + 2 ^ b.k := by
 have hG := hg.g1
 unfold onG Bk.ch
 rw [decide_eq_true_iff, ha, Nat.mul_comm c.G, ← Nat.add_mul, Nat.mul_le_mul_right_iff (by omega), Nat.mul_lt_mul_right (by omega)]
theorem at_gran (h : b.ch c ∣ b.at_) : ∃ a, b.at_ = a * 2 ^ b.k * c.G := by
 obtain ⟨q, hq⟩ := h
 refine ⟨q, ?_⟩
 rw [hq, Bk.ch, Nat.mul_comm, Nat.mul_comm c.G, Nat.mul_assoc]
theorem bits_ins (hg : Good c) (bl : List Bk) (a : Nat) (ha : b.at_ = a * c.G) : bitsB c (insB bl b) = setB (bitsB c bl) a (2 ^ b.k) true := by
 funext i
 have e : bitsB c (insB bl b) i = (onG c b i || bitsB c bl i) := by
  unfold bitsB
  rw [(ins_perm bl b).any_eq, List.any_cons]
 rw [e]
 unfold setB
 by_cases h : a ≤ i ∧ i < a + 2 ^ b.k
 · rw [if_pos h, (onG_iff hg a ha i).2 h]
   rfl
 · rw [if_neg h]
   have : onG c b i = false := by
    cases hh : onG c b i with
    | false => rfl
    | true => exact absurd ((onG_iff hg a ha i).1 hh) h
   rw [this]
   rfl
theorem bits_del (hg : Good c) (h : InvB c bl) (hb : b ∈ bl) (a : Nat) (ha : b.at_ = a * c.G) : bitsB c (delB bl b.at_) = setB (bitsB c bl) a (2 ^ b.k) false := by
 funext i
 have e : bitsB c bl i = (onG c b i || bitsB c (delB bl b.at_) i) := by
  unfold bitsB
  rw [(h.del_perm hg hb).any_eq, List.any_cons]
 unfold setB
 by_cases h1 : a ≤ i ∧ i < a + 2 ^ b.k
 · rw [if_pos h1]
   have h2 := (onG_iff hg a ha i).2 h1
   unfold onG at h2
   rw [decide_eq_true_iff] at h2
   unfold bitsB
   rw [List.any_eq_false]
   intro y hy
   unfold onG
   rw [decide_eq_true_iff]
   rcases h.beside hg hb y hy with h3 | h3 <;> omega
 · rw [if_neg h1, e]
   have : onG c b i = false := by
    cases hh : onG c b i with
    | false => rfl
    | true => exact absurd ((onG_iff hg a ha i).1 hh) h1
   rw [this]
   rfl
theorem ch_eq (c : Cf) (b : Bk) : b.ch c = 2 ^ b.k * c.G := Nat.mul_comm _ _
/-- a place in which nothing is live -/
theorem free_iff (hg : Good c) (h : InvB c bl) (k i : Nat) : bk (bitsB c bl) k i = false ↔ ∀ y ∈ bl, y.at_ + y.ch c ≤ i * 2 ^ k * c.G ∨ i * 2 ^ k * c.G + 2 ^ k * c.G ≤ y.at_ := by
 have hG := hg.g1
 constructor
 · intro hf y hy
   obtain ⟨q, hq⟩ := at_gran (h.mul y hy)
   obtain ⟨ya, hya⟩ : ∃ ya, ya = q * 2 ^ y.k := ⟨_, rfl⟩
   rw [← hya] at hq
   rw [ch_eq, hq, ← Nat.add_mul, ← Nat.add_mul, Nat.mul_le_mul_right_iff (by omega), Nat.mul_le_mul_right_iff (by omega)]
   rcases Nat.lt_or_ge (i * 2 ^ k) (ya + 2 ^ y.k) with h1 | h1
   · rcases Nat.lt_or_ge ya (i * 2 ^ k + 2 ^ k) with h2 | h2
     · exfalso
       have : bk (bitsB c bl) k i = true := by
        refine (bk_iff _ k i).2 ⟨max ya (i * 2 ^ k), by omega, ?_, ?_⟩
        · rw [Nat.add_mul, Nat.one_mul]
          have := Nat.two_pow_pos k
          omega
        · refine List.any_eq_true.2 ⟨y, hy, (onG_iff hg ya hq _).2 ⟨by omega, ?_⟩⟩
          have := Nat.two_pow_pos y.k
          omega
       rw [hf] at this
       cases this
     · exact Or.inr h2
   · exact Or.inl h1
 · intro hf
   cases hh : bk (bitsB c bl) k i with
   | false => rfl
   | true =>
    exfalso
    obtain ⟨j, h1, h2, h3⟩ := (bk_iff _ k i).1 hh
    obtain ⟨y, hy, hon⟩ := List.any_eq_true.1 h3
    unfold onG at hon
    rw [decide_eq_true_iff] at hon
    have e1 : i * 2 ^ k * c.G ≤ j * c.G := Nat.mul_le_mul_right _ h1
    have e2 : (j + 1) * c.G ≤ (i + 1) * 2 ^ k * c.G := Nat.mul_le_mul_right _ h2
    rw [Nat.add_mul, Nat.add_mul, Nat.add_mul, Nat.one_mul, Nat.one_mul] at e2
    rcases hf y hy with h4 | h4 <;> omega

/-! ### the map -/
def mapB (c : Cf) (bl : List Bk) : Nat → Option Value := fun x => (bl.find? fun b => decide (b.at_ = x)).map (Bk.v c)
theorem mapB_nil (c : Cf) : mapB c [] = fun _ => none := rfl
theorem uniq (hs : bl.Pairwise fun a b => a.at_ < b.at_) {x y : Bk} (hx : x ∈ bl) (hy : y ∈ bl) (h : x.at_ = y.at_) : x = y := by
 obtain ⟨i, hi⟩ := List.mem_iff_getElem?.1 hx
 obtain ⟨j, hj⟩ := List.mem_iff_getElem?.1 hy
 rw [List.pairwise_iff_getElem] at hs
 obtain ⟨i1, i2⟩ := List.getElem?_eq_some_iff.1 hi
 obtain ⟨j1, j2⟩ := List.getElem?_eq_some_iff.1 hj
 rcases Nat.lt_trichotomy i j with h1 | h1 | h1
 · have := hs i j i1 j1 h1
   rw [i2, j2] at this
   omega
 · subst h1
   rw [hi] at hj
   exact Option.some.inj hj
 · have := hs j i j1 i1 h1
   rw [i2, j2] at this
   omega
theorem find_at (hs : bl.Pairwise fun a b => a.at_ < b.at_) (hb : b ∈ bl) : (bl.find? fun y => decide (y.at_ = b.at_)) = some b := by
 cases hf : bl.find? fun y => decide (y.at_ = b.at_) with
 | none =>
  have := List.find?_eq_none.1 hf b hb
  simp at this
 | some y =>
  have h1 := List.mem_of_find?_eq_some hf
  have h2 := List.find?_some hf
  rw [decide_eq_true_iff] at h2
  rw [uniq hs h1 hb h2]
theorem mapB_at (hs : bl.Pairwise fun a b => a.at_ < b.at_) (hb : b ∈ bl) : mapB c bl b.at_ = some (b.v c) := by
 unfold mapB
 rw [find_at hs hb]
 rfl
theorem mapB_none (x : Nat) (h : ∀ b ∈ bl, b.at_ ≠ x) : mapB c bl x = none := by
 unfold mapB
 rw [List.find?_eq_none.2 fun y hy => by simpa using h y hy]
 rfl
theorem mapB_ins (hs : (insB bl b).Pairwise fun a b => a.at_ < b.at_) (hs0 : bl.Pairwise fun a b => a.at_ < b.at_) : mapB c (insB bl b) = fun x => if x = b.at_ then some (b.v c) else mapB c bl x := by
 funext x
 by_cases h : x = b.at_
 · subst h
   rw [if_pos rfl, mapB_at hs (mem_ins.2 (Or.inl rfl))]
 · rw [if_neg h]
   by_cases h2 : ∃ y ∈ bl, y.at_ = x
   · obtain ⟨y, hy, rfl⟩ := h2
     rw [mapB_at hs (mem_ins.2 (Or.inr hy)), mapB_at hs0 hy]
   · have h3 : ∀ y ∈ bl, y.at_ ≠ x := fun y hy e => h2 ⟨y, hy, e⟩
     rw [mapB_none x h3, mapB_none x (fun y hy => ?_)]
     rcases mem_ins.1 hy with rfl | hy
     · exact fun e => h e.symm
     · exact h3 y hy
theorem mapB_del (h : InvB c bl) (hg : Good c) (hb : b ∈ bl) : mapB c (delB bl b.at_) = fun x => if x = b.at_ then none else mapB c bl x := by
 have hs := h.sortedB hg
 have hs2 := (h.del hg hb).sortedB hg
 funext x
 by_cases h1 : x = b.at_
 · subst h1
   rw [if_pos rfl, mapB_none]
   intro y hy
   exact (h.mem_del hg hb hy).2
 · rw [if_neg h1]
   by_cases h2 : ∃ y ∈ delB bl b.at_, y.at_ = x
   · obtain ⟨y, hy, rfl⟩ := h2
     rw [mapB_at hs2 hy, mapB_at hs (h.mem_del hg hb hy).1]
   · have h3 : ∀ y ∈ delB bl b.at_, y.at_ ≠ x := fun y hy e => h2 ⟨y, hy, e⟩
     rw [mapB_none x h3, mapB_none x (fun y hy => ?_)]
     rcases List.mem_cons.1 ((h.del_perm hg hb).mem_iff.1 hy) with rfl | hy
     · exact fun e => h1 e.symm
     · exact h3 y hy

/-! ### pages -/
def pgF (c : Cf) (b : Bk) : Nat := b.at_ / c.Page
def pgB (c : Cf) (b : Bk) : Nat := (b.at_ + b.ch c - 1) / c.Page + 1
def metN (c : Cf) (bl : List Bk) : List Nat := (List.range (c.H / c.Page)).map fun i => bl.countP fun b => decide (pgF c b ≤ i ∧ i < pgB c b)
def natI (l : List Nat) : List Int := l.map fun (n : Nat) => (n : Int)
theorem natI_len (l : List Nat) : (natI l).length = l.length := by simp [natI]
theorem ints_nat (l : List Nat) : intsV (natI l) = natsV l := by simp [intsV, natI, natsV]
theorem metN_len (c : Cf) (bl : List Bk) : (metN c bl).length = c.H / c.Page := by simp [metN]
theorem metN_at (c : Cf) (bl : List Bk) (i : Nat) (hi : i < c.H / c.Page) : (metN c bl)[i]? = some (bl.countP fun b => decide (pgF c b ≤ i ∧ i < pgB c b)) := by
 unfold metN
 rw [List.getElem?_map, List.getElem?_range hi]
 rfl
theorem met_ins (c : Cf) (bl : List Bk) (b : Bk) (h : pgF c b ≤ pgB c b) : addM (natI (metN c bl)) (pgF c b) 1 (pgB c b - pgF c b) = natI (metN c (insB bl b)) := by
 apply List.ext_getElem?
 intro j
 rw [addM_at]
 by_cases hj : j < c.H / c.Page
 · unfold natI
   rw [List.getElem?_map, List.getElem?_map, metN_at c _ j hj, metN_at c _ j hj, (ins_perm bl b).countP_eq, List.countP_cons]
   simp only [Option.map_some, decide_eq_true_eq]
   by_cases h1 : pgF c b ≤ j ∧ j < pgB c b
   · rw [if_pos h1, if_pos (by omega)]
     simp
   · rw [if_neg h1, if_neg (by omega)]
     simp
 · rw [List.getElem?_eq_none (by rw [natI_len, metN_len]; omega), List.getElem?_eq_none (by rw [natI_len, metN_len]; omega)]
   rfl
theorem met_del (h : InvB c bl) (hg : Good c) (hb : b ∈ bl) (hp : pgF c b ≤ pgB c b) : addM (natI (metN c bl)) (pgF c b) (-1) (pgB c b - pgF c b) = natI (metN c (delB bl b.at_)) := by
 apply List.ext_getElem?
 intro j
 rw [addM_at]
 by_cases hj : j < c.H / c.Page
 · unfold natI
   rw [List.getElem?_map, List.getElem?_map, metN_at c _ j hj, metN_at c _ j hj, (h.del_perm hg hb).countP_eq, List.countP_cons]
   simp only [Option.map_some, decide_eq_true_eq]
   by_cases h1 : pgF c b ≤ j ∧ j < pgB c b
   · rw [if_pos h1, if_pos (by omega)]
     simp
     omega
   · rw [if_neg h1, if_neg (by omega)]
     simp
 · rw [List.getElem?_eq_none (by rw [natI_len, metN_len]; omega), List.getElem?_eq_none (by rw [natI_len, metN_len]; omega)]
   rfl
theorem pg_le (hg : Good c) (b : Bk) : pgF c b < pgB c b := by
 have := ch_pos hg b
 exact Nat.lt_succ_of_le (Nat.div_le_div_right (by omega))
theorem page_dvd (hg : Good c) : c.Page ∣ c.H := by
 obtain ⟨g, pg, k, h1, h2, h3, h4, h5, h6⟩ := hg.pow
 have e1 : c.Page ∣ max c.N c.Page := by
  rcases Nat.le_total c.N c.Page with h | h
  · rw [Nat.max_eq_right h]
    exact Nat.dvd_refl _
  · rw [Nat.max_eq_left h, h2, h3]
    rw [h2, h3] at h
    exact Nat.pow_dvd_pow 2 ((Nat.pow_le_pow_iff_right (by decide)).1 h)
 have e2 : c.M / 2 = k * max c.N c.Page := by
  rw [h6, Nat.mul_left_comm, Nat.mul_div_cancel_left _ (by decide)]
 rw [hg.h, e2]
 refine Nat.dvd_add ?_ (Nat.dvd_trans e1 (Nat.dvd_trans (Nat.dvd_mul_left _ _) (Nat.dvd_mul_left _ _)))
 rw [h6]
 exact Nat.dvd_trans e1 (Nat.dvd_trans (Nat.dvd_mul_left _ _) (Nat.dvd_mul_left _ _))
theorem pgB_le (hg : Good c) (b : Bk) (h : b.at_ + b.ch c ≤ c.H) : pgB c b ≤ c.H / c.Page := by
 have := ch_pos hg b
 have hp := hg.p1
 unfold pgB
 obtain ⟨q, hq⟩ := page_dvd hg
 rw [hq, Nat.mul_div_cancel_left _ (by omega)]
 exact (Nat.div_lt_iff_lt_mul (by omega)).2 (by rw [Nat.mul_comm, ← hq]; omega)

/-! ### how many there are -/
def sumB (c : Cf) (bl : List Bk) : Nat := (bl.map (Bk.ch c)).sum
theorem sum_perm {l1 l2 : List Nat} (h : l1.Perm l2) : l1.sum = l2.sum := h.sum_nat
theorem sum_ins (c : Cf) (bl : List Bk) (b : Bk) : sumB c (insB bl b) = b.ch c + sumB c bl := by
 unfold sumB
 rw [((ins_perm bl b).map (Bk.ch c)).sum_nat, List.map_cons, List.sum_cons]
theorem sum_del (h : InvB c bl) (hg : Good c) (hb : b ∈ bl) : b.ch c + sumB c (delB bl b.at_) = sumB c bl := by
 unfold sumB
 rw [((h.del_perm hg hb).map (Bk.ch c)).sum_nat, List.map_cons, List.sum_cons]
theorem len_sum (hg : Good c) : ∀ bl : List Bk, bl.length ≤ sumB c bl
 | [] => Nat.le_refl _
 | b :: bl => by
  have := len_sum hg bl
  have := ch_pos hg b
  unfold sumB at *
  simp
  omega
theorem apart_sum (hg : Good c) : ∀ (bl : List Bk) (lo : Nat), bl.Pairwise (fun a b => a.at_ + a.ch c ≤ b.at_) → (∀ b ∈ bl, b.at_ + b.ch c ≤ c.H) → (∀ b ∈ bl, lo ≤ b.at_) → lo ≤ c.H → lo + sumB c bl ≤ c.H
 | [], lo, _, _, _, h => by simpa [sumB] using h
 | b :: bl, lo, h1, h2, h3, h4 => by
  have h5 := List.pairwise_cons.1 h1
  have h6 := apart_sum hg bl (b.at_ + b.ch c) h5.2 (fun y hy => h2 y (List.mem_cons_of_mem _ hy)) h5.1 (h2 b List.mem_cons_self)
  have h7 := h3 b List.mem_cons_self
  unfold sumB at *
  simp
  omega
theorem InvB.len (h : InvB c bl) (hg : Good c) : bl.length ≤ 65536 := by
 have h1 := apart_sum hg bl 0 h.apart h.fits (fun _ _ => Nat.zero_le _) (Nat.zero_le _)
 have h2 := len_sum hg bl
 have h3 := hg.max_
 omega
end
end Go.Proofs.YtmookafmdonopaaGreat.Top
