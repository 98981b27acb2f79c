/- Trees of the walk's own; tree.twin, tree.put walked. -/
import Derived.Test.YtmookafmdonopaaGreatM06
/- Trees of the walk's own; tree.twin, tree.put walked. -/
namespace Go.Proofs.YtmookafmdonopaaGreat.Top
open Go Go.RowKit
set_option linter.unusedVariables false
set_option linter.unusedSimpArgs false
attribute [local go_sem] max2_int min2_int max_two min_two max_three

theorem Own.perm {X : List Nat} {L L' : List (Nat × (Obj → Prop))} {R : World → Prop} {w0 w : World} (h : Own X L R w0 w) (hp : L'.Perm L) : Own X L' R w0 w :=
 h.sub ((hp.map Prod.fst).nodup_iff.2 h.nd) (fun x hx => hp.mem_iff.1 hx)
/-- what a callee has made is the caller's -/
theorem Own.merge {L L2 : List (Nat × (Obj → Prop))} {R R2 : World → Prop} {w0 w w1 : World} (h : Own [] L R w0 w) (k : Own [] L2 R2 w w1) : Own [] (L2 ++ L) (fun W => R W ∧ R2 W) w0 w1 := by
 have hb := k.toBelow
 have h1 := h.below hb
 have hge : ∀ g, g ∈ L2.map Prod.fst → w.heap.size ≤ g := by
  intro g hm
  obtain ⟨⟨a, q⟩, h2, rfl⟩ := List.mem_map.1 hm
  rcases k.ok a q h2 with h3 | h3
  · simp at h3
  · exact h3
 refine ⟨?_, fun g p hm => ?_, fun g p hm => ?_, fun W hW => ⟨?_, ?_⟩, h1.upd⟩
 · rw [List.map_append, List.nodup_append]
   exact ⟨k.nd, h.nd, fun a ha b hb2 e => h.fresh (hge a ha) (e ▸ hb2)⟩
 · rcases List.mem_append.1 hm with hm | hm
   · exact k.at_ g p hm
   · exact h1.at_ g p hm
 · rcases List.mem_append.1 hm with hm | hm
   · rcases k.ok g p hm with h3 | h3
     · simp at h3
     · exact Or.inr (Nat.le_trans h.size h3)
   · exact h.ok g p hm
 · refine h.ro W fun j hj h0 hl => ?_
   refine (hW j (Nat.lt_of_lt_of_le hj hb.size) h0 ?_).trans (hb.block j hj)
   rw [List.map_append, List.mem_append]
   rintro (hm | hm)
   · have := hge j hm; omega
   · exact hl hm
 · refine k.ro W fun j hj h0 hl => hW j hj (Nat.le_trans h.size h0) ?_
   rw [List.map_append, List.mem_append]
   rintro (hm | hm)
   · exact hl hm
   · exact h.fresh h0 hm
def heads (gs : List (Nat × Nat)) (lv : List (List Nat)) : List Value := List.zipWith (fun p l => Value.slice (some ⟨p.1, 0, none⟩) l.length p.2) gs lv
def rowsE (gs : List (Nat × Nat)) (lv : List (List Nat)) : List (Nat × (Obj → Prop)) := List.zipWith (fun p l => (p.1, EC 149 (wordsV l))) gs lv
/-- A tree's levels that are the walk's own. -/
def TOwn (L : List (Nat × (Obj → Prop))) (R : World → Prop) (w0 w : World) (v : Value) (lv : List (List Nat)) : Prop :=
 ∃ gh ch gs, v = .slice (some ⟨gh, 0, none⟩) lv.length ch ∧ lv.length ≤ ch ∧ gs.length = lv.length ∧ (∀ (j : Nat) (p : Nat × Nat) (l : List Nat), gs[j]? = some p → lv[j]? = some l → l.length ≤ p.2) ∧ Own [] ((gh, EC 150 (heads gs lv)) :: (rowsE gs lv ++ L)) R w0 w
section
variable {L : List (Nat × (Obj → Prop))} {R : World → Prop} {w0 w w1 : World} {v : Value} {lv : List (List Nat)}
theorem heads_at {gs : List (Nat × Nat)} {j : Nat} {p : Nat × Nat} {l : List Nat} (h1 : gs[j]? = some p) (h2 : lv[j]? = some l) : (heads gs lv)[j]? = some (.slice (some ⟨p.1, 0, none⟩) l.length p.2) := by
 unfold heads; rw [List.getElem?_zipWith, h1, h2]
theorem rowsE_at {gs : List (Nat × Nat)} {j : Nat} {p : Nat × Nat} {l : List Nat} (h1 : gs[j]? = some p) (h2 : lv[j]? = some l) : (rowsE gs lv)[j]? = some (p.1, EC 149 (wordsV l)) := by
 unfold rowsE; rw [List.getElem?_zipWith, h1, h2]
theorem heads_set (gs : List (Nat × Nat)) (lv : List (List Nat)) (k : Nat) (m : List Nat) (hk : k < lv.length) (hm : m.length = lv[k].length) : heads gs (lv.set k m) = heads gs lv := by
 apply List.ext_getElem?
 intro j
 unfold heads
 rw [List.getElem?_zipWith, List.getElem?_zipWith]
 by_cases e : k = j
 · subst e
   rw [List.getElem?_set_self hk, List.getElem?_eq_getElem hk]
   cases gs[k]? with
   | none => rfl
   | some p => simp [hm]
 · rw [List.getElem?_set_ne e]
theorem rowsE_set (gs : List (Nat × Nat)) (lv : List (List Nat)) (k : Nat) (m : List Nat) (p : Nat × Nat) (hg : gs[k]? = some p) (hk : k < lv.length) : rowsE gs (lv.set k m) = (rowsE gs lv).set k (p.1, EC 149 (wordsV m)) := by
 apply List.ext_getElem?
 intro j
 have h1 := (List.getElem?_eq_some_iff.1 hg).1
 by_cases e : k = j
 · subst e
   rw [List.getElem?_set_self (by simp [rowsE]; omega)]
   unfold rowsE
   rw [List.getElem?_zipWith, List.getElem?_set_self hk, hg]
 · rw [List.getElem?_set_ne e]
   unfold rowsE
   rw [List.getElem?_zipWith, List.getElem?_zipWith, List.getElem?_set_ne e]
theorem TOwn.below (h : TOwn L R w0 w v lv) (hb : Below w.heap.size w w1) : TOwn L R w0 w1 v lv := by
 obtain ⟨gh, ch, gs, h1, h2, h3, h4, h5⟩ := h
 exact ⟨gh, ch, gs, h1, h2, h3, h4, h5.below hb⟩
theorem TOwn.lev (h : TOwn L R w0 w v lv) : Lev w v lv := by
 obtain ⟨gh, ch, gs, rfl, h2, h3, h4, h5⟩ := h
 refine ⟨heads gs lv, by simp [heads, h3], h5.row List.mem_cons_self h2, fun j x l hj hl => ?_⟩
 have hjl := (List.getElem?_eq_some_iff.1 hl).1
 have hg : gs[j]? = some gs[j] := List.getElem?_eq_getElem (by omega)
 rw [heads_at hg hl] at hj
 injection hj with hj
 subst hj
 exact h5.row (List.mem_cons_of_mem _ (List.mem_append_left _ (List.mem_of_getElem? (rowsE_at hg hl)))) (h4 j _ l hg hl)
theorem TOwn.rest (h : TOwn L R w0 w v lv) : Own [] L R w0 w := by
 obtain ⟨gh, ch, gs, rfl, h2, h3, h4, h5⟩ := h
 exact h5.sub ((List.nodup_append.1 (by have := (List.nodup_cons.1 h5.nd).2; rwa [List.map_append] at this)).2.1) (fun x hx => List.mem_cons_of_mem _ (List.mem_append_right _ hx))
end
theorem tree_put (L : List (Nat × (Obj → Prop))) (R : World → Prop) (size : Int) (A : Option Addr) (n c k i u : Nat) (lv : List (List Nat)) (w0 w : World) (h : TOwn L R w0 w (.slice A n c) lv) (hk : k < lv.length) (hi : i < lv[k].length) :
 Calls Tryz.prog 126 #[.agg #[.int .i64 size, .slice A n c], .int .i64 k, .int .i64 i, .int .u64 u] w fun e w' => e = .returned (.tuple #[]) ∧ TOwn L R w0 w' (.slice A n c) (lv.set k (lv[k].set i u)) := by
 obtain ⟨gh, ch, gs, hv, h2, h3, h4, h5⟩ := h
 injection hv with e1 e2 e3
 subst e1; subst e2; subst e3
 have hg : gs[k]? = some gs[k] := List.getElem?_eq_getElem (by omega)
 have hl : lv[k]? = some lv[k] := List.getElem?_eq_getElem hk
 obtain ⟨p, hp⟩ : ∃ p, p = gs[k] := ⟨_, rfl⟩
 rw [← hp] at hg
 obtain ⟨l, hle⟩ : ∃ l, l = lv[k] := ⟨_, rfl⟩
 have HL := As.mk hle
 rw [← hle] at hl
 have hb := h5.below (box_below w (.cells #[.int .i64 size, .slice (some ⟨gh, 0, none⟩) lv.length c] 132))
 have hrow := rowsE_at hg hl
 have hlt : k < (heads gs lv).length := by simp [heads]; omega
 have z1 := hb.get List.mem_cons_self k hlt
 rw [heads_at hg hl] at z1
 have hi' : i < l.length := by rw [hle]; exact hi
 have hiw : i < (wordsV l).length := by simpa [wordsV] using hi'
 have hmem : (p.1, EC 149 (wordsV l)) ∈ (gh, EC 150 (heads gs lv)) :: (rowsE gs lv ++ L) := List.mem_cons_of_mem _ (List.mem_append_left _ (List.mem_of_getElem? hrow))
 have z2 := hb.get hmem i hiw
 rw [List.getElem?_eq_getElem hiw] at z2
 have z2' : ∃ y, (w.alloc (.cells #[.int .i64 size, .slice (some ⟨gh, 0, none⟩) lv.length c] 132)).cell? ⟨p.1, i, none⟩ = some y := ⟨_, z2⟩
 clear z2
 obtain ⟨y, z2⟩ := z2'
 have z3 := hb.frozen (o := i) hmem
 have hset := hb.set (k + 1) (g := p.1) (e := 149) (cs := wordsV l) (by rw [List.getElem?_cons_succ, List.getElem?_append_left (List.getElem?_eq_some_iff.1 hrow).1]; exact hrow) i (.int .u64 u) hiw
 have hfin : TOwn L R w0 ((w.alloc (.cells #[.int .i64 size, .slice (some ⟨gh, 0, none⟩) lv.length c] 132)).setCell ⟨p.1, i, none⟩ (.int .u64 u)) (.slice (some ⟨gh, 0, none⟩) lv.length c) (lv.set k (lv[k].set i u)) := by
  refine ⟨gh, c, gs, by rw [List.length_set], by rw [List.length_set]; exact h2, by rw [List.length_set]; exact h3, fun j q m hj hm => ?_, ?_⟩
  · by_cases e : k = j
    · subst e
      rw [List.getElem?_set_self hk] at hm
      injection hm with hm
      rw [← hm, List.length_set]
      exact h4 _ _ _ hj (List.getElem?_eq_getElem hk)
    · rw [List.getElem?_set_ne e] at hm
      exact h4 _ _ _ hj hm
  · rw [heads_set gs lv k _ hk (by rw [List.length_set]), rowsE_set gs lv k _ p hg hk]
    rw [zq6, List.set_append_left _ _ (List.getElem?_eq_some_iff.1 hrow).1] at hset
    have e7 : wordsV (lv[k].set i u) = (wordsV l).set i (.int .u64 u) := by rw [← hle]; unfold wordsV; rw [List.map_set]
    rw [e7]
    exact hset
 have HF := As.mk hfin
 have hk1 : (k : Int) < (lv.length : Int) := by omega
 have hi1 : (i : Int) < (l.length : Int) := by omega
 clear hfin hset hb hmem hrow h5 h4 hg hl hlt hi h3 hp hle hiw HL
 go_enter Tryz.func126, Tryz.ntmps126
 go_wp2
 go_end0
 exact ⟨rfl, HF.out⟩
end Go.Proofs.YtmookafmdonopaaGreat.Top
/- tree.twin walked. -/
namespace Go.Proofs.YtmookafmdonopaaGreat.Top
open Go Go.RowKit
set_option linter.unusedVariables false
set_option linter.unusedSimpArgs false
attribute [local go_sem] max2_int min2_int max_two min_two max_three

theorem heads_snoc (gs : List (Nat × Nat)) (lv : List (List Nat)) (p : Nat × Nat) (l : List Nat) (h : gs.length = lv.length) : heads (gs ++ [p]) (lv ++ [l]) = heads gs lv ++ [.slice (some ⟨p.1, 0, none⟩) l.length p.2] := by
 unfold heads; rw [List.zipWith_append h]; rfl
theorem rowsE_snoc (gs : List (Nat × Nat)) (lv : List (List Nat)) (p : Nat × Nat) (l : List Nat) (h : gs.length = lv.length) : rowsE (gs ++ [p]) (lv ++ [l]) = rowsE gs lv ++ [(p.1, EC 149 (wordsV l))] := by
 unfold rowsE; rw [List.zipWith_append h]; rfl
theorem slices_one {w : World} {lv : List (List Nat)} {hs : List Value} (h1 : hs.length = lv.length) (h : ∀ (j : Nat) (x : Value) (l : List Nat), hs[j]? = some x → lv[j]? = some l → Row w x l.length (wordsV l)) : ∀ u ∈ hs, u.oneCell' = true := by
 intro u hu
 obtain ⟨j, hj⟩ := List.mem_iff_getElem?.1 hu
 have hjl := (List.getElem?_eq_some_iff.1 hj).1
 obtain ⟨A, c, rfl⟩ := (h j u lv[j] hj (List.getElem?_eq_getElem (by omega))).form
 rfl
theorem words_one (l : List Nat) : ∀ u ∈ wordsV l, u.oneCell' = true := by
 intro u hu
 obtain ⟨b, _, rfl⟩ := List.mem_map.1 hu
 rfl
/-- what the twin's walk owns when j rows are copied -/
def TwL (b1 b2 gh : Nat) (size : Int) (v' : Value) (gs : List (Nat × Nat)) (hs : List Value) (lv : List (List Nat)) (j : Nat) : List (Nat × (Obj → Prop)) :=
 (gh, EC 150 (heads gs (lv.take j) ++ hs.drop j)) :: (rowsE gs (lv.take j) ++ [(b2, EC 132 [.int .i64 0, .slice none 0 0]), (b1, EC 132 [.int .i64 size, v'])])
theorem tw_next {b1 b2 gh : Nat} {size : Int} {v' : Value} {gs : List (Nat × Nat)} {hs : List Value} {lv : List (List Nat)} {j : Nat} {w wr w1 : World} {g cap : Nat} {x : Obj} {l : List Nat} (h : Own [] (TwL b1 b2 gh size v' gs hs lv j) (fun _ => True) w wr) (hgs : gs.length = j) (hhs : hs.length = lv.length) (hl : lv[j]? = some l) (hb : Below wr.heap.size wr w1) (hg : wr.heap.size ≤ g) (hx : w1.heap[g]? = some x) (hp : EC 149 (wordsV l) x) :
 Own [] (TwL b1 b2 gh size v' (gs ++ [(g, cap)]) hs lv (j + 1)) (fun _ => True) w (w1.setCell ⟨gh, j, none⟩ (.slice (some ⟨g, 0, none⟩) l.length cap)) ∧ w1.cell? ⟨gh, j, none⟩ = hs[j]? ∧ w1.frozen? ⟨gh, j, none⟩ = false := by
 have hjl := (List.getElem?_eq_some_iff.1 hl).1
 have h1 := h.add hb hg hx hp
 have hlen : (heads gs (lv.take j)).length = j := by simp [heads]; omega
 have hjt : (lv.take j).length = j := by simp; omega
 have hlt : j < (heads gs (lv.take j) ++ hs.drop j).length := by simp [hlen]; omega
 have hmem : (gh, EC 150 (heads gs (lv.take j) ++ hs.drop j)) ∈ ((g, EC 149 (wordsV l)) :: TwL b1 b2 gh size v' gs hs lv j) := List.mem_cons_of_mem _ List.mem_cons_self
 have hset := h1.set 1 (g := gh) (e := 150) (cs := heads gs (lv.take j) ++ hs.drop j) rfl j (.slice (some ⟨g, 0, none⟩) l.length cap) hlt
 refine ⟨?_, ?_, h1.frozen hmem j⟩
 · have e1 : lv.take (j + 1) = lv.take j ++ [l] := by rw [List.take_succ_eq_append_getElem hjl]; congr 2; exact Option.some.inj ((List.getElem?_eq_getElem hjl).symm.trans hl)
   have e2 : (heads gs (lv.take j) ++ hs.drop j).set j (.slice (some ⟨g, 0, none⟩) l.length cap) = heads (gs ++ [(g, cap)]) (lv.take (j + 1)) ++ hs.drop (j + 1) := by
    rw [e1, heads_snoc _ _ _ _ (by rw [hgs, hjt]), List.set_append_right _ _ (by omega), hlen, Nat.sub_self, List.drop_eq_getElem_cons (by omega), List.append_assoc]
    rfl
   rw [e2] at hset
   refine hset.perm ?_
   unfold TwL
   rw [e1, rowsE_snoc _ _ _ _ (by rw [hgs, hjt])]
   show ((gh, _) :: (rowsE gs (lv.take j) ++ [_] ++ _)).Perm ((g, _) :: (gh, _) :: (rowsE gs (lv.take j) ++ _))
   rw [List.append_assoc]
   refine (List.Perm.cons _ ?_).trans (List.Perm.swap _ _ _)
   exact List.perm_middle
 · rw [h1.get hmem j hlt, List.getElem?_append_right (by omega), hlen, Nat.sub_self, List.getElem?_drop, Nat.add_zero]
set_option maxHeartbeats 1000000 in
theorem tree_twin (size : Int) (A : Option Addr) (n c : Nat) (lv : List (List Nat)) (w : World) (h : Lev w (.slice A n c) lv) (h0 : 0 < lv.length) (hm : lv.length ≤ 1000) (hl : ∀ l, l ∈ lv → 0 < l.length ∧ l.length ≤ 1000000) :
 Calls Tryz.prog 124 #[.agg #[.int .i64 size, .slice A n c]] w fun e w' => ∃ v, e = .returned (.agg #[.int .i64 size, v]) ∧ TOwn [] (fun _ => True) w w' v lv := by
 have hn := h.len
 subst hn
 obtain ⟨hs, h1, h2, h3⟩ := h
 have H2 := As.mk h2
 have H3 := As.mk h3
 have H1 := As.mk h1
 have HL := As.mk hl
 have HONE := As.mk (slices_one h1 h3)
 have ho := ((Own.start (X := []) w).box #[.int .i64 size, .slice A lv.length c] 132).box #[.int .i64 0, .slice none 0 0] 132
 rw [alloc_size] at ho
 have HO := As.mk ho
 clear h1 h2 h3 hl ho
 go_enter Tryz.func124, Tryz.ntmps124
 go_wp2_with fail
 refine (clone_133 A c lv.length hs _ (H2.out.below (by exact HO.out.toBelow)) (by rw [H1.out, Nat.mul_one]) HONE.out (by omega)).mono ?_
 rintro e w1 ⟨v, rfl, hw, hb⟩
 obtain ⟨gh, ch, x, rfl, hc, hg, hx, hp⟩ := (Fr.own hw).form h0
 have ho1 := HO.out.add hb hg hx hp
 have z0 := ho1.get (g := w.heap.size) (e := 132) (cs := [.int .i64 size, .slice A lv.length c]) (by simp) 0 (by simp)
 have z1 := ho1.get (g := w.heap.size) (e := 132) (cs := [.int .i64 size, .slice A lv.length c]) (by simp) 1 (by simp)
 have z2 := ho1.frozen (g := w.heap.size) (e := 132) (cs := [.int .i64 size, .slice A lv.length c]) (o := 1) (by simp)
 have HO1 := As.mk (ho1.set 2 (g := w.heap.size) (e := 132) (cs := [.int .i64 size, .slice A lv.length c]) rfl 1 (.slice (some ⟨gh, 0, none⟩) lv.length ch) (by simp))
 clear hw hb hg hx hp ho1 HO
 go_wp2
 go_loopw [12] (fun i wr => ∃ (j : Nat) (gs : List (Nat × Nat)), j ≤ lv.length ∧ i = .int .i64 (j : Int) ∧ gs.length = j ∧ (∀ (q : Nat) (p : Nat × Nat) (l : List Nat), gs[q]? = some p → lv[q]? = some l → l.length ≤ p.2) ∧ Own [] (TwL w.heap.size (w.heap.size + 1) gh size (.slice (some ⟨gh, 0, none⟩) lv.length ch) gs hs lv j) (fun _ => True) w wr) (fun i _ => lv.length - (intOf i).toNat)
 case atStart => exact ⟨0, [], Nat.zero_le _, rfl, rfl, fun q p l hq => by simp at hq, HO1.out⟩
 case round =>
  clear HO1 z0 z1 z2
  obtain ⟨j, gs, hj, rfl, hgl, hgc, ho⟩ := hrel
  have HO := As.mk ho
  have HGL := As.mk hgl
  have HGC := As.mk hgc
  have z0 := ho.get (g := w.heap.size) (e := 132) (cs := [.int .i64 size, .slice (some ⟨gh, 0, none⟩) lv.length ch]) (by simp [TwL]) 0 (by simp)
  have z1 := ho.get (g := w.heap.size) (e := 132) (cs := [.int .i64 size, .slice (some ⟨gh, 0, none⟩) lv.length ch]) (by simp [TwL]) 1 (by simp)
  have Z1 := As.mk z1
  clear ho hgl hgc
  by_cases hlt : j < lv.length
  · have hjh : j < hs.length := by have := H1.out; omega
    have hr := H3.out j hs[j] lv[j] (List.getElem?_eq_getElem hjh) (List.getElem?_eq_getElem hlt)
    have hlb := HL.out lv[j] (List.getElem_mem hlt)
    have hll := List.getElem?_eq_getElem hlt
    have hlen : (heads gs (lv.take j)).length = j := by simp [heads, HGL.out]; omega
    have z2 := HO.out.get (g := gh) (e := 150) (cs := heads gs (lv.take j) ++ hs.drop j) List.mem_cons_self j (by simp [hlen]; omega)
    rw [List.getElem?_append_right (by omega), hlen, Nat.sub_self, List.getElem?_drop, Nat.add_zero, List.getElem?_eq_getElem hjh] at z2
    obtain ⟨Aj, cj, hv⟩ := hr.form
    rw [hv] at hr z2
    obtain ⟨l, hle⟩ : ∃ l, l = lv[j] := ⟨_, rfl⟩
    rw [← hle] at hr z2 hlb hll
    have HLL := As.mk hll
    have HR := As.mk hr
    clear hr hle hll hlen hv
    have hjl : (j : Int) < (lv.length : Int) := by omega
    go_wp2
    refine rgn [(0, 1), (1, 0), (2, 1), (3, 1), (4, 2), (5, 1), (6, 3)] [6] (fun W => W.cell? ⟨w.heap.size, 1, none⟩ = some (.slice (some ⟨gh, 0, none⟩) lv.length ch)) (by kernel_rfl) (by kernel_rfl) (fun _ _ _ d _ h => by cases d <;> exact h) Z1.out ?_
    refine Run.pu (v := ?_) (a' := ?_) rfl rfl (Or.inl ⟨by rfl, ?_⟩) ?_ ?_; rotate_left 2; (focus (intro W; go_simp; with_reducible rfl)); (focus (simp only [Act.put, zq4, zq5, zq6]; rfl))
    refine Run.rd (v := ?_) (a' := ?_) rfl rfl (Or.inl ⟨by rfl, ?_⟩) ?_ ?_; rotate_left 2; (focus (intro W hW; go_simp; with_reducible rfl)); (focus (simp only [Act.put, zq4, zq5, zq6]; rfl))
    iterate 2 (refine Run.pu (v := ?_) (a' := ?_) rfl rfl (Or.inl ⟨by rfl, ?_⟩) ?_ ?_; rotate_left 2; (focus (intro W; go_simp; with_reducible rfl)); (focus (simp only [Act.put, zq4, zq5, zq6]; rfl)))
    refine Run.ef rfl (fun K hK => ?_)
    simp only [zq1, zq2, zq3]
    go_wp2_with fail
    refine (clone_134 Aj cj l.length (wordsV l) _ (HR.out.below (by exact HO.out.drew.toBelow)) (by simp [wordsV]) (words_one l) hlb.2).mono ?_
    rintro e w2 ⟨v, rfl, hw, hb⟩
    obtain ⟨g, cap, x, rfl, hc2, hg, hx, hp⟩ := (Fr.own hw).form hlb.1
    obtain ⟨hn1, hn2, hn3⟩ := tw_next (cap := cap) HO.out.drew HGL.out H1.out HLL.out hb hg hx hp
    rw [List.getElem?_eq_getElem hjh] at hn2
    have hz := (HO.out.drew.below hb).get (g := w.heap.size) (e := 132) (cs := [.int .i64 size, .slice (some ⟨gh, 0, none⟩) lv.length ch]) (by simp [TwL]) 1 (by simp)
    have HN := As.mk hn1
    clear hw hb hg hx hp hn1
    go_wp2
    refine hK.out _ _ hz ?_
    clear hK K hz
    refine Run.pu (v := ?_) (a' := ?_) rfl rfl (Or.inl ⟨by rfl, ?_⟩) ?_ ?_; rotate_left 2; (focus (intro W; go_simp; with_reducible rfl)); (focus (simp only [Act.put, zq4, zq5, zq6]; rfl))
    refine Run.la rfl (fun K hK => ?_)
    simp only [zq1, zq2, zq3]
    go_wp2
    refine hK.out _ _ ?_
    refine Run.nil ?_
    clear hK K hn2 hn3 z0 z1 Z1 z2
    go_wp2
    go_roundw
    case rel =>
     refine ⟨j + 1, _, hlt, by go_num, by rw [List.length_append, HGL.out]; rfl, fun q p m hq hm => ?_, HN.out⟩
     rcases Nat.lt_or_ge q gs.length with h1 | h1
     · rw [List.getElem?_append_left h1] at hq
       exact HGC.out q p m hq hm
     · rw [List.getElem?_append_right h1] at hq
       have e : q = j := by
        have h5 := (List.getElem?_eq_some_iff.1 hq).1
        have h6 := HGL.out
        simp only [List.length_singleton] at h5
        omega
       subst e
       rw [HGL.out, Nat.sub_self] at hq
       simp at hq
       have hm2 := HLL.out
       rw [hm] at hm2
       injection hm2 with hm2
       rw [← hq, hm2]
       exact hc2
    case measure => simp [intOf]; omega
  · have e : j = lv.length := by omega
    subst e
    have z3 := HO.out.get (g := w.heap.size + 1) (e := 132) (cs := [.int .i64 0, .slice none 0 0]) (by simp [TwL]) 0 (by simp)
    have z4 := HO.out.get (g := w.heap.size + 1) (e := 132) (cs := [.int .i64 0, .slice none 0 0]) (by simp [TwL]) 1 (by simp)
    have z5 := HO.out.frozen (g := w.heap.size + 1) (e := 132) (cs := [.int .i64 0, .slice none 0 0]) (by simp [TwL]) 0
    have z6 := HO.out.frozen (g := w.heap.size + 1) (e := 132) (cs := [.int .i64 0, .slice none 0 0]) (by simp [TwL]) 1
    go_wp2
    have hP : Own [] ((w.heap.size + 1, EC 132 [.int .i64 0, .slice none 0 0]) :: (gh, EC 150 (heads gs lv)) :: (rowsE gs lv ++ [(w.heap.size, EC 132 [.int .i64 size, .slice (some ⟨gh, 0, none⟩) lv.length ch])])) (fun _ => True) w wr := by
     have h7 := HO.out
     unfold TwL at h7
     have e9 : hs.drop lv.length = [] := by rw [← H1.out, List.drop_length]
     rw [List.take_length, e9, List.append_nil] at h7
     refine h7.perm ((List.Perm.swap _ _ _).trans (List.Perm.cons _ ?_))
     exact List.perm_middle.symm
    have hQ := (hP.set 0 rfl 0 (.int .i64 size) (by simp)).set 0 rfl 1 (.slice (some ⟨gh, 0, none⟩) lv.length ch) (by simp)
    have hT : TOwn [] (fun _ => True) w ((wr.setCell ⟨w.heap.size + 1, 0, none⟩ (.int .i64 size)).setCell ⟨w.heap.size + 1, 1, none⟩ (.slice (some ⟨gh, 0, none⟩) lv.length ch)) (.slice (some ⟨gh, 0, none⟩) lv.length ch) lv := by
     refine ⟨gh, ch, gs, rfl, hc, HGL.out, HGC.out, hQ.drop.sub ?_ ?_⟩
     · have h8 := hQ.drop.nd
       rw [List.append_nil]
       refine h8.sublist (List.Sublist.map _ (List.Sublist.cons_cons _ (List.sublist_append_left _ _)))
     · intro y hy
       rw [List.append_nil] at hy
       rcases List.mem_cons.1 hy with e | hy
       · exact e ▸ List.mem_cons_self
       · exact List.mem_cons_of_mem _ (List.mem_append_left _ hy)
    exact bodyPost_ret (v := .agg #[.int .i64 size, .slice (some ⟨gh, 0, none⟩) lv.length ch]) (by simp [results, Tryz.results124, go_sem, z3, z4]) rfl ⟨_, rfl, hT⟩
end Go.Proofs.YtmookafmdonopaaGreat.Top
/- tree.sums walked. -/
namespace Go.Proofs.YtmookafmdonopaaGreat.Top
open Go Go.RowKit
set_option linter.unusedVariables false
set_option linter.unusedSimpArgs false
attribute [local go_sem] max2_int min2_int max_two min_two max_three

section
variable {L : List (Nat × (Obj → Prop))} {R R2 : World → Prop} {w0 w w1 : World} {v : Value} {lv : List (List Nat)}
theorem TOwn.merge (h : Own [] L R w0 w) (k : TOwn [] R2 w w1 v lv) : TOwn L (fun W => R W ∧ R2 W) w0 w1 v lv := by
 obtain ⟨gh, ch, gs, h1, h2, h3, h4, h5⟩ := k
 have h6 := h.merge h5
 rw [List.append_nil] at h6
 exact ⟨gh, ch, gs, h1, h2, h3, h4, h6⟩
theorem TOwn.setL (h : TOwn L R w0 w v lv) (i : Nat) {g e : Nat} {cs : List Value} (hi : L[i]? = some (g, EC e cs)) (o : Nat) (u : Value) (ho : o < cs.length) : TOwn (L.set i (g, EC e (cs.set o u))) R w0 (w.setCell ⟨g, o, none⟩ u) v lv := by
 obtain ⟨gh, ch, gs, h1, h2, h3, h4, h5⟩ := h
 have h6 := h5.set (i + (rowsE gs lv).length + 1) (by rw [List.getElem?_cons_succ, List.getElem?_append_right (by omega), show i + (rowsE gs lv).length - (rowsE gs lv).length = i by omega]; exact hi) o u ho
 rw [zq6, List.set_append_right _ _ (by omega), show i + (rowsE gs lv).length - (rowsE gs lv).length = i by omega] at h6
 exact ⟨gh, ch, gs, h1, h2, h3, h4, h6⟩
theorem TOwn.imp (h : TOwn L R w0 w v lv) (hr : ∀ W, R W → R2 W) : TOwn L R2 w0 w v lv := by
 obtain ⟨gh, ch, gs, h1, h2, h3, h4, h5⟩ := h
 exact ⟨gh, ch, gs, h1, h2, h3, h4, h5.imp hr⟩
theorem TOwn.getL (h : TOwn L R w0 w v lv) {g e : Nat} {cs : List Value} (hm : (g, EC e cs) ∈ L) (o : Nat) (ho : o < cs.length) : w.cell? ⟨g, o, none⟩ = cs[o]? ∧ w.frozen? ⟨g, o, none⟩ = false := ⟨h.rest.get hm o ho, h.rest.frozen hm o⟩
theorem TOwn.levF (h : TOwn L R w0 w v lv) : LevF w0.heap.size w v lv := by
 obtain ⟨gh, ch, gs, rfl, h2, h3, h4, h5⟩ := h
 intro W hW
 refine ⟨heads gs lv, by simp [heads, h3], (h5.fr List.mem_cons_self h2).row hW, fun j x l hj hl => ?_⟩
 have hjl := (List.getElem?_eq_some_iff.1 hl).1
 have hg : gs[j]? = some gs[j] := List.getElem?_eq_getElem (by omega)
 rw [heads_at hg hl] at hj
 injection hj with hj
 subst hj
 exact (h5.fr (List.mem_cons_of_mem _ (List.mem_append_left _ (List.mem_of_getElem? (rowsE_at hg hl)))) (h4 j _ l hg hl)).row hW
end
theorem tree_at_i (size : Int) (A : Option Addr) (n c : Nat) (lv : List (List Nat)) (k i : Nat) (K I : Int) (w : World) (h : Lev w (.slice A n c) lv) (hK : K = (k : Int)) (hI : I = (i : Int)) :
 Calls Tryz.prog 125 #[.agg #[.int .i64 size, .slice A n c], .int .i64 K, .int .i64 I] w fun e w' => e = .returned (.int .u64 (atW lv k i : Int)) ∧ Below w.heap.size w w' := by
 subst hK; subst hI
 exact tree_at size A n c lv k i w h
theorem tree_put_i (L : List (Nat × (Obj → Prop))) (R : World → Prop) (size : Int) (A : Option Addr) (n c k i u : Nat) (K I : Int) (lv : List (List Nat)) (w0 w : World) (h : TOwn L R w0 w (.slice A n c) lv) (hk : k < lv.length) (hi : i < lv[k].length) (hK : K = (k : Int)) (hI : I = (i : Int)) :
 Calls Tryz.prog 126 #[.agg #[.int .i64 size, .slice A n c], .int .i64 K, .int .i64 I, .int .u64 u] w fun e w' => e = .returned (.tuple #[]) ∧ TOwn L R w0 w' (.slice A n c) (lv.set k (lv[k].set i u)) := by
 subst hK; subst hI
 exact tree_put L R size A n c k i u lv w0 w h hk hi
/-- k sums from lo on are anew -/
def sumTo (l0 : List Nat) (f : Nat → Bool) (lo k : Nat) : Nat → Bool := fun j => if lo ≤ j ∧ j < lo + k then decide (l0.getD j fullW = fullW) else f j
theorem one_shl (i : Nat) (h : i < 64) : IntKind.u64.wrap (2 ^ i) = (wb (rng i 1) : Int) := by
 have h2 : (2 : Int) ^ i = ((2 ^ i : Nat) : Int) := by rw [Int.natCast_pow]; rfl
 have h3 := mask_shl i 1 (by omega)
 have h4 : (2 ^ 1 - 1) * 2 ^ i = 2 ^ i := by rw [show 2 ^ 1 - 1 = 1 from rfl, Nat.one_mul]
 rw [h4] at h3
 rw [h2, h3]
 exact wu64 _ (wb_lt _)
theorem sum_step (l0 : List Nat) (f : Nat → Bool) (lo k : Nat) :
 wb (sumTo l0 f lo (k + 1)) = if l0.getD (lo + k) fullW = fullW then wb (fun t => (sumTo l0 f lo k t && !rng (lo + k) 1 t) || rng (lo + k) 1 t) else wb (fun t => sumTo l0 f lo k t && !rng (lo + k) 1 t) := by
 have key : ∀ t, sumTo l0 f lo (k + 1) t = if t = lo + k then decide (l0.getD (lo + k) fullW = fullW) else sumTo l0 f lo k t := by
  intro t
  unfold sumTo
  by_cases e : t = lo + k
  · subst e
    rw [if_pos rfl, if_pos (by omega)]
  · rw [if_neg e]
    by_cases h : lo ≤ t ∧ t < lo + k
    · rw [if_pos (by omega), if_pos h]
    · rw [if_neg (by omega), if_neg h]
 have hr : ∀ t, rng (lo + k) 1 t = decide (t = lo + k) := by
  intro t
  unfold rng
  by_cases e : t = lo + k
  · subst e; simp
  · rw [decide_eq_false e]
    by_cases h : lo + k ≤ t
    · rw [decide_eq_false (show ¬ t < lo + k + 1 by omega), Bool.and_false]
    · rw [decide_eq_false h, Bool.false_and]
 by_cases hf : l0.getD (lo + k) fullW = fullW
 · rw [if_pos hf]
   refine wb_congr fun t _ => ?_
   rw [key, hr]
   by_cases e : t = lo + k
   · rw [if_pos e, decide_eq_true hf, decide_eq_true e]; simp
   · rw [if_neg e, decide_eq_false e]; simp
 · rw [if_neg hf]
   refine wb_congr fun t _ => ?_
   rw [key, hr]
   by_cases e : t = lo + k
   · rw [if_pos e, decide_eq_false hf, decide_eq_true e]; simp
   · rw [if_neg e, decide_eq_false e]; simp
set_option maxHeartbeats 1000000 in
theorem tree_sums (L : List (Nat × (Obj → Prop))) (R : World → Prop) (size : Int) (A : Option Addr) (n c : Nat) (l0 : List Nat) (f : Nat → Bool) (lo hi : Nat) (w0 w : World) (h : TOwn L R w0 w (.slice A n c) [l0, [wb f]]) (hl : lo ≤ hi) (hh : hi < l0.length) (h64 : l0.length ≤ 64) :
 Calls Tryz.prog 127 #[.agg #[.int .i64 size, .slice A n c], .int .i64 1, .int .i64 lo, .int .i64 hi] w fun e w' => e = .returned (.tuple #[]) ∧ TOwn L R w0 w' (.slice A n c) [l0, [wb (sumTo l0 f lo (hi + 1 - lo))]] := by
 have ht := h.below (box_below w (.cells #[.int .i64 size, .slice A n c] 132))
 have HT := As.mk (show TOwn ((w.heap.size, EC 132 [.int .i64 size, .slice A n c]) :: L) R w0 (w.alloc (.cells #[.int .i64 size, .slice A n c] 132)) (.slice A n c) [l0, [wb f]] from by
  obtain ⟨gh, ch, gs, h1, h2, h3, h4, h5⟩ := h
  refine ⟨gh, ch, gs, h1, h2, h3, h4, (h5.box #[.int .i64 size, .slice A n c] 132).perm ?_⟩
  exact (List.Perm.cons _ List.perm_middle).trans (List.Perm.swap _ _ _))
 clear ht h
 go_enter Tryz.func127, Tryz.ntmps127
 go_wp2
 go_loopw [8] (fun i wr => ∃ k : Nat, k ≤ hi + 1 - lo ∧ i = .int .i64 ((lo + k : Nat) : Int) ∧ TOwn ((w.heap.size, EC 132 [.int .i64 size, .slice A n c]) :: L) R w0 wr (.slice A n c) [l0, [wb (sumTo l0 f lo k)]]) (fun i _ => hi + 1 - (intOf i).toNat)
 case atStart =>
  refine ⟨0, Nat.zero_le _, rfl, ?_⟩
  have e : wb (sumTo l0 f lo 0) = wb f := wb_congr fun t _ => by unfold sumTo; rw [if_neg (by omega)]
  rw [e]
  exact HT.out
 case round =>
  clear HT
  obtain ⟨k, hk, rfl, ht⟩ := hrel
  have HT := As.mk ht
  have z0 := (ht.getL List.mem_cons_self 0 (by simp)).1
  have z1 := (ht.getL List.mem_cons_self 1 (by simp)).1
  clear ht
  by_cases hlt : lo + k ≤ hi
  · have HS := As.mk (sum_step l0 f lo k)
    have hA0 : atW [l0, [wb (sumTo l0 f lo k)]] 0 (lo + k) = l0.getD (lo + k) fullW := rfl
    have hA1 : atW [l0, [wb (sumTo l0 f lo k)]] 1 0 = wb (sumTo l0 f lo k) := rfl
    have hs := one_shl (lo + k) (by omega)
    have hd : ((lo + k : Nat) : Int) / 64 = 0 := by omega
    have hd2 : ((lo + k : Nat) : Int) % 64 = ((lo + k : Nat) : Int) := by omega
    have h1 := u64_andNot (sumTo l0 f lo k) (rng (lo + k) 1)
    have h2 := u64_or (fun t => sumTo l0 f lo k t && !rng (lo + k) 1 t) (rng (lo + k) 1)
    obtain ⟨p, hp⟩ : ∃ p, p = lo + k := ⟨_, rfl⟩
    rw [← hp] at HS hA0 hs hd hd2 h1 h2 hlt ⊢
    have HP := As.mk hp
    clear hp
    obtain ⟨q, hq⟩ : ∃ q, q = l0.getD p fullW := ⟨_, rfl⟩
    rw [← hq] at HS hA0
    clear hq
    have HA0 := As.mk (fun w hL => hA0 ▸ tree_at_i size A n c [l0, [wb (sumTo l0 f lo k)]] 0 p 0 (p : Int) w hL rfl rfl)
    have HA1 := As.mk (fun w hL => hA1 ▸ tree_at_i size A n c [l0, [wb (sumTo l0 f lo k)]] 1 0 1 0 w hL rfl rfl)
    clear hA0 hA1
    have hp64 : p < 64 := by omega
    by_cases hf : q = fullW
    · have hf' : (q : Int) = 18446744073709551615 := by rw [hf]; rfl
      have hfb := beqT hf'
      clear hf'
      have HS2 := As.mk (show wb (sumTo l0 f lo (k + 1)) = wb (fun t => (sumTo l0 f lo k t && !rng p 1 t) || rng p 1 t) by rw [HS.out, if_pos hf])
      have HPU := As.mk (fun wx h => tree_put_i ((w.heap.size, EC 132 [.int .i64 size, .slice A n c]) :: L) R size A n c 1 0 (wb (fun t => (sumTo l0 f lo k t && !rng p 1 t) || rng p 1 t)) 1 0 [l0, [wb (sumTo l0 f lo k)]] w0 wx h (by simp) (by simp) rfl rfl)
      clear hf HS
      go_wp2_with fail
      refine (HA1.out _ HT.out.lev).mono ?_
      rintro e w1 ⟨rfl, hb⟩
      have HT1 := As.mk (HT.out.below hb)
      have z2 := (HT1.out.getL List.mem_cons_self 0 (by simp)).1
      have z3 := (HT1.out.getL List.mem_cons_self 1 (by simp)).1
      clear hb
      go_wp2_with fail
      refine (HA0.out _ HT1.out.lev).mono ?_
      rintro e w2 ⟨rfl, hb⟩
      have HT2 := As.mk (HT1.out.below hb)
      have z4 := (HT2.out.getL List.mem_cons_self 0 (by simp)).1
      have z5 := (HT2.out.getL List.mem_cons_self 1 (by simp)).1
      clear hb
      go_wp2_with fail
      refine (HPU.out _ HT2.out).mono ?_
      rintro e w3 ⟨rfl, ht⟩
      have HT3 := As.mk ht
      clear ht h1 h2 hs hd hd2
      go_wp2_with fail
      go_roundw
      case rel => exact ⟨k + 1, by have := HP.out; omega, by rw [HP.out]; go_num, by rw [HS2.out]; exact HT3.out⟩
      case measure => simp [intOf]; omega
    · have hf' : ¬ (q : Int) = 18446744073709551615 := by
       intro e
       apply hf
       have h9 : (q : Int) = (fullW : Int) := e
       exact Int.ofNat_inj.1 h9
      have hfb := beqF hf'
      clear hf'
      have HS2 := As.mk (show wb (sumTo l0 f lo (k + 1)) = wb (fun t => sumTo l0 f lo k t && !rng p 1 t) by rw [HS.out, if_neg hf])
      have HPU := As.mk (fun wx h => tree_put_i ((w.heap.size, EC 132 [.int .i64 size, .slice A n c]) :: L) R size A n c 1 0 (wb (fun t => sumTo l0 f lo k t && !rng p 1 t)) 1 0 [l0, [wb (sumTo l0 f lo k)]] w0 wx h (by simp) (by simp) rfl rfl)
      clear hf HS
      go_wp2_with fail
      refine (HA1.out _ HT.out.lev).mono ?_
      rintro e w1 ⟨rfl, hb⟩
      have HT1 := As.mk (HT.out.below hb)
      have z2 := (HT1.out.getL List.mem_cons_self 0 (by simp)).1
      have z3 := (HT1.out.getL List.mem_cons_self 1 (by simp)).1
      clear hb
      go_wp2_with fail
      refine (HA0.out _ HT1.out.lev).mono ?_
      rintro e w2 ⟨rfl, hb⟩
      have HT2 := As.mk (HT1.out.below hb)
      have z4 := (HT2.out.getL List.mem_cons_self 0 (by simp)).1
      have z5 := (HT2.out.getL List.mem_cons_self 1 (by simp)).1
      clear hb
      go_wp2_with fail
      refine (HPU.out _ HT2.out).mono ?_
      rintro e w3 ⟨rfl, ht⟩
      have HT3 := As.mk ht
      clear ht h1 h2 hs hd hd2
      go_wp2_with fail
      go_roundw
      case rel => exact ⟨k + 1, by have := HP.out; omega, by rw [HP.out]; go_num, by rw [HS2.out]; exact HT3.out⟩
      case measure => simp [intOf]; omega
  · have e : k = hi + 1 - lo := by omega
    subst e
    have hgt : ¬ ((lo + (hi + 1 - lo) : Nat) : Int) ≤ (hi : Int) := by omega
    go_wp2
    go_end0
    refine ⟨rfl, ?_⟩
    obtain ⟨gh, ch, gs, h1, h2, h3, h4, h5⟩ := HT.out
    exact ⟨gh, ch, gs, h1, h2, h3, h4, h5.sub (by
     have h6 := h5.nd
     exact h6.sublist (List.Sublist.map _ (List.Sublist.cons_cons _ (List.Sublist.append_left (List.sublist_cons_self _ _) _)))) (fun y hy => by
     rcases List.mem_cons.1 hy with e | hy
     · exact e ▸ List.mem_cons_self
     · rcases List.mem_append.1 hy with hy | hy
       · exact List.mem_cons_of_mem _ (List.mem_append_left _ hy)
       · exact List.mem_cons_of_mem _ (List.mem_append_right _ (List.mem_cons_of_mem _ hy)))⟩
end Go.Proofs.YtmookafmdonopaaGreat.Top
