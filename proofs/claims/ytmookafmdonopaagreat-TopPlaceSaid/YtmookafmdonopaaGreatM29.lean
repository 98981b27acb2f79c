/- hodmanref17: of walked (weak). -/
import Derived.Test.YtmookafmdonopaaGreatM28
/- hodmanref17: of walked (weak). -/
namespace Go.Proofs.YtmookafmdonopaaGreat.Top
open Go Go.RowKit
set_option linter.unusedVariables false
set_option linter.unusedSimpArgs false
attribute [local go_sem] max2_int min2_int max_two min_two max_three

theorem mbV_append (a b : List MB) : mbV (a ++ b) = mbV a ++ mbV b := by simp [mbV]
theorem mbV_take_ (l : List MB) (i : Nat) : mbV (l.take i) = (mbV l).take (i * 3) := by
 induction l generalizing i with
 | nil => simp [mbV]
 | cons a l ih =>
  cases i with
  | zero => simp [mbV]
  | succ i =>
   have h := ih i
   rw [List.take_succ_cons, show (i + 1) * 3 = i * 3 + 1 + 1 + 1 by omega]
   show mbV (a :: l.take i) = _
   simp only [mbV, List.flatMap_cons] at h ⊢
   rw [h]
   simp
theorem mbV_drop_ (l : List MB) (i : Nat) : mbV (l.drop i) = (mbV l).drop (i * 3) := by
 induction l generalizing i with
 | nil => simp [mbV]
 | cons a l ih =>
  cases i with
  | zero => simp
  | succ i =>
   have h := ih i
   rw [List.drop_succ_cons, show (i + 1) * 3 = i * 3 + 1 + 1 + 1 by omega]
   simp only [mbV, List.flatMap_cons] at h ⊢
   rw [h]
   simp
theorem mbV_one (l : List MB) : ∀ u ∈ mbV l, u.oneCell' = true := by
 intro u hu
 simp only [mbV, List.mem_flatMap, List.mem_cons, List.not_mem_nil, or_false] at hu
 obtain ⟨b, _, rfl | rfl | rfl⟩ := hu <;> rfl
theorem Own.one {X : List Nat} {L : List (Nat × (Obj → Prop))} {R : World → Prop} {w0 w : World} {g : Nat} {p q : Obj → Prop} (h : Own X ((g, p) :: L) R w0 w) (hpq : ∀ o, p o → q o) : Own X ((g, q) :: L) R w0 w := by
 refine ⟨h.nd, fun a r hm => ?_, fun a r hm => ?_, h.ro, h.upd⟩
 · rcases List.mem_cons.1 hm with e | hm
   · injection e with e1 e2
     subst e1; subst e2
     obtain ⟨o, ho, hp⟩ := h.at_ _ _ me0
     exact ⟨o, ho, hpq o hp⟩
   · exact h.at_ a r (List.mem_cons_of_mem _ hm)
 · rcases List.mem_cons.1 hm with e | hm
   · injection e with e1 e2
     subst e1; subst e2
     exact h.ok _ _ me0
   · exact h.ok a r (List.mem_cons_of_mem _ hm)
/-- a slice of the walk's own with something in it is a block -/
theorem OwnS.ec {X : List Nat} {L : List (Nat × (Obj → Prop))} {R : World → Prop} {w0 w : World} {e sz n : Nat} {v : Value} {xs : List Value} (h : OwnS X L R w0 w e sz v n xs) (hn : 0 < n) : ∃ g cap, v = .slice (some ⟨g, 0, none⟩) n cap ∧ n ≤ cap ∧ Own X ((g, EC e xs) :: L) R w0 w := by
 rcases h.2 with ⟨_, h1, _⟩ | ⟨g, cap, h1, _, h3⟩
 · omega
 · obtain ⟨o, _, cur, _, hc, _⟩ := h3.at_ _ _ me0
   refine ⟨g, cap, h1, hc, h3.one fun o ho => ?_⟩
   obtain ⟨cur, rfl, _, _, _, ht⟩ := ho
   exact ⟨cur, cur.toList.drop (n * sz), rfl, by rw [← ht, List.take_append_drop]⟩
/-- a slice of the walk's own is only read from here on -/
theorem OwnS.freeze {L : List (Nat × (Obj → Prop))} {R : World → Prop} {w0 w : World} {e sz n : Nat} {v : Value} {xs : List Value} (h : OwnS [] L R w0 w e sz v n xs) : Own [] L (fun W => R W ∧ Row W v n xs) w0 w := by
 rcases Nat.eq_zero_or_pos n with h0 | h0
 · subst h0
   have hx : xs = [] := by
    have := h.1
    rw [Nat.zero_mul] at this
    exact List.length_eq_zero_iff.1 this
   subst hx
   obtain ⟨A, c, rfl⟩ := h.row.form
   exact h.rest.imp fun W hW => ⟨hW, Row.nil _ _ _⟩
 · obtain ⟨g, cap, rfl, hc, ho⟩ := h.ec h0
   exact ho.freeze hc
def mb3 (b : MB) : List Value := [.int .i64 (b.1 : Int), .int .i64 (b.2.1 : Int), .int .i64 b.2.2]
/-- where a slice of a row from s on lies -/
theorem src_row {w : World} {b o n cm : Nat} {us : List Int} (hl : us.length = n) (hn : n ≤ cm) (h : ∀ j u, (uV us)[j]? = some u → w.cell? ((⟨b, o, none⟩ : Addr).add j) = some u) (s : Nat) :
 ∃ ad : Addr, (if cm = s then some (⟨b, o, none⟩ : Addr) else some ⟨b, o + s, none⟩) = some ad ∧ ∀ i u, ((uV us).drop s)[i]? = some u → w.cell? (ad.add i) = some u := by
 by_cases hc : cm = s
 · refine ⟨_, if_pos hc, fun i u hu => ?_⟩
   rw [List.drop_eq_nil_of_le (by rw [uV_len]; omega)] at hu
   simp at hu
 · refine ⟨_, if_neg hc, fun i u hu => ?_⟩
   rw [List.getElem?_drop] at hu
   have := h _ u hu
   rw [Addr.add_mid] at this ⊢
   rw [Nat.add_assoc]
   exact this
theorem take_src {w : World} {ad : Addr} {xs : List Value} (h : ∀ i u, xs[i]? = some u → w.cell? (ad.add i) = some u) (k : Nat) : ∀ i u, (xs.take k)[i]? = some u → w.cell? (ad.add i) = some u := by
 intro i u hu
 rw [List.getElem?_take] at hu
 split at hu
 · exact h i u hu
 · simp at hu
theorem size5 : (Tryz.prog.info? 5).map (·.size) = some 1 := by kernel_rfl
theorem mb3_one (b : MB) : ∀ v ∈ mb3 b, v.oneCell' = true := by
 intro v hv
 simp only [mb3, List.mem_cons, List.not_mem_nil, or_false] at hv
 rcases hv with rfl | rfl | rfl <;> rfl
set_option maxHeartbeats 16000000 in
set_option maxRecDepth 100000 in
theorem ref_of (c : Cf) (hg : Good c) (m : Md) (kd p s a n b : Int) (ix : Nat) (w : World) (ok : OpOk ⟨kd, p, s, a, n, b⟩) (hk : 4 ≤ kd ∧ kd ≤ 8) (hmd : MdR w c m) (hf : MdF c m) (hl : m.l.length ≤ 998) (hix : ix < m.l.length) :
 Calls Tryz.prog 67 #[m.v c, .agg (Opp.cs ⟨kd, p, s, a, n, b⟩).toArray, .int .i64 (ix : Int)] w fun e w' => RetM c m (m.l.length + 1) w w' e ∧ Below w.heap.size w w' := by
 have HMD := As.mk hmd
 have HF := As.mk hf
 have HO := As.mk (box4 w (m.cs c) (Opp.cs ⟨kd, p, s, a, n, b⟩))
 have HWR := As.mk (fun (W : World) (er : Int) => ref_wrong c m er W)
 obtain ⟨mb, hmb⟩ : ∃ mb, m.l[ix]? = some mb := ⟨m.l[ix]'hix, List.getElem?_eq_getElem _⟩
 obtain ⟨bb, oo, hA, hnc, hcell⟩ := hmd.bl.cell' (by rw [mbV_len]; omega)
 obtain ⟨m1, m2, m3⟩ := mbV_at m.l ix mb hmb
 have HB0 : As ((m.cs c)[8]? = some (.slice (some ⟨bb, oo, none⟩) m.l.length m.cap)) := As.mk (by simp [Md.cs, hA])
 have HCELL := As.mk hcell
 have Y : As (w.cell? ⟨bb, oo + ix * 3, none⟩ = some (.int .i64 (mb.1 : Int)) ∧ w.cell? ⟨bb, oo + ix * 3 + 1, none⟩ = some (.int .i64 (mb.2.1 : Int)) ∧ w.cell? ⟨bb, oo + ix * 3 + 2, none⟩ = some (.int .i64 mb.2.2)) := As.mk ⟨hcell _ _ m1, hcell _ _ m2, hcell _ _ m3⟩
 have HFB := As.mk (hf mb (List.mem_of_getElem? hmb))
 have HANEW := As.mk (fun (W : World) => ref_Anew c hg m.live (mb.2.1 : Int) s W)
 have HG := As.mk hg
 have hH : 1 ≤ c.H ∧ c.H ≤ 65536 := by obtain ⟨b1, b2, b3, b4, b5, b6, b7⟩ := hg.bounds; omega
 have hcv : c.v = .agg c.cs.toArray := rfl
 rw [hcv] at HANEW
 have OK := As.mk ok
 obtain ⟨ln, hln⟩ : ∃ n, n = m.l.length := ⟨_, rfl⟩
 rw [← hln] at HB0 hix hl hnc ⊢
 have HLN := As.mk hln
 clear hmd hf hA hcell m1 m2 m3 hmb hg hcv ok hln
 unfold Md.v at HWR ⊢
 obtain ⟨w1, hw1⟩ : ∃ x, x = ((((w.alloc (.cells (m.cs c).toArray 89)).alloc (.cells (Opp.cs ⟨kd, p, s, a, n, b⟩).toArray 42)).alloc (.cells #[.int .i64 0, .int .i64 0, .int .i64 0, .int .i64 0, .int .i64 0, .int .i64 0, .int .i64 0, .int .i64 0, .slice none 0 0, .int .i64 0, .int .i64 0, .int .i64 0, .slice none 0 0, .slice none 0 0] 89)).alloc (.cells #[.int .i64 0, .int .i64 0, .int .i64 0, .int .u8 0, .int .i64 0, .int .i64 0, .int .i64 0, .int .i64 0] 39)) := ⟨_, rfl⟩
 have ho := HO.out
 have hs8 : ((((w.alloc (.cells (m.cs c).toArray 89)).alloc (.cells (Opp.cs ⟨kd, p, s, a, n, b⟩).toArray 42)).alloc (.cells #[.int .i64 0, .int .i64 0, .int .i64 0, .int .i64 0, .int .i64 0, .int .i64 0, .int .i64 0, .int .i64 0, .slice none 0 0, .int .i64 0, .int .i64 0, .int .i64 0, .slice none 0 0, .slice none 0 0] 89)).alloc (.cells #[.int .i64 0, .int .i64 0, .int .i64 0, .int .u8 0, .int .i64 0, .int .i64 0, .int .i64 0, .int .i64 0] 39)).cell? ⟨w.heap.size, 8, none⟩ = some (.slice (some ⟨bb, oo, none⟩) ln m.cap) := (ho.get me3 8 (by simp [Md.cs])).trans HB0.out
 have y0 := cell_below ho.toBelow Y.out.1
 have y1 := cell_below ho.toBelow Y.out.2.1
 have y2 := cell_below ho.toBelow Y.out.2.2
 clear ho
 have ho1 := HO.out.box #[.int .i64 (mb.1 : Int), .int .i64 (mb.2.1 : Int), .int .i64 mb.2.2] 48
 have HO1 : As (Own [] ((w.heap.size + 1 + 1 + 1 + 1, EC 48 (mb3 mb)) :: [(w.heap.size + 3, EC 39 An.z), (w.heap.size + 2, EC 89 Md.zs), (w.heap.size + 1, EC 42 (Opp.cs ⟨kd, p, s, a, n, b⟩)), (w.heap.size, EC 89 (m.cs c))]) (fun _ => True) w (((((w.alloc (.cells (m.cs c).toArray 89)).alloc (.cells (Opp.cs ⟨kd, p, s, a, n, b⟩).toArray 42)).alloc (.cells #[.int .i64 0, .int .i64 0, .int .i64 0, .int .i64 0, .int .i64 0, .int .i64 0, .int .i64 0, .int .i64 0, .slice none 0 0, .int .i64 0, .int .i64 0, .int .i64 0, .slice none 0 0, .slice none 0 0] 89)).alloc (.cells #[.int .i64 0, .int .i64 0, .int .i64 0, .int .u8 0, .int .i64 0, .int .i64 0, .int .i64 0, .int .i64 0] 39)).alloc (.cells #[.int .i64 (mb.1 : Int), .int .i64 (mb.2.1 : Int), .int .i64 mb.2.2] 48))) := As.mk (by simp only [World.size_alloc] at ho1; exact ho1)
 clear ho1
 go_enter Tryz.func67, Tryz.ntmps67
 go_wp2_with fail
 clear hs8 y0 y1 y2 HO
 obtain ⟨gb, hgb⟩ : ∃ g, g = w.heap.size + 1 + 1 + 1 + 1 := ⟨_, rfl⟩
 obtain ⟨w2, hw2⟩ : ∃ x, x = (((((w.alloc (.cells (m.cs c).toArray 89)).alloc (.cells (Opp.cs ⟨kd, p, s, a, n, b⟩).toArray 42)).alloc (.cells #[.int .i64 0, .int .i64 0, .int .i64 0, .int .i64 0, .int .i64 0, .int .i64 0, .int .i64 0, .int .i64 0, .slice none 0 0, .int .i64 0, .int .i64 0, .int .i64 0, .slice none 0 0, .slice none 0 0] 89)).alloc (.cells #[.int .i64 0, .int .i64 0, .int .i64 0, .int .u8 0, .int .i64 0, .int .i64 0, .int .i64 0, .int .i64 0] 39)).alloc (.cells #[.int .i64 (mb.1 : Int), .int .i64 (mb.2.1 : Int), .int .i64 mb.2.2] 48)) := ⟨_, rfl⟩
 rw [← hgb, ← hw2] at HO1
 rw [← hgb, ← hw2]
 clear hgb hw2 hw1
 have HSS : As (∀ W, Own [] [(gb, EC 48 (mb3 mb)), (w.heap.size + 3, EC 39 An.z), (w.heap.size + 2, EC 89 Md.zs), (w.heap.size + 1, EC 42 (Opp.cs ⟨kd, p, s, a, n, b⟩)), (w.heap.size, EC 89 (m.cs c))] (fun _ => True) w W → W.cell? ⟨w.heap.size, 8, none⟩ = some (.slice (some ⟨bb, oo, none⟩) ln m.cap)) := ⟨fun W ho => (ho.get me4 8 (by simp [Md.cs])).trans HB0.out⟩
 have hxi : ix ≤ m.cap ∧ ln ≤ m.cap := by omega
 obtain ⟨j, hj⟩ : ∃ j, j = ix + 1 := ⟨_, rfl⟩
 have E1 := As.mk (show IntKind.i64.wrap ((ix : Int) + 1) = (j : Int) by rw [IntKind.wrap_i64]; omega)
 have had : ∃ ad : Addr, (if m.cap = j then some (⟨bb, oo, none⟩ : Addr) else some ⟨bb, oo + j * 3, none⟩) = some ad ∧ ∀ i u, (mbV (m.l.drop j))[i]? = some u → w.cell? (ad.add i) = some u := by
  by_cases hc : m.cap = j
  · refine ⟨_, if_pos hc, fun i u hu => ?_⟩
    have hn : m.l.drop j = [] := List.drop_eq_nil_of_le (by have := HLN.out; omega)
    rw [hn] at hu
    simp [mbV] at hu
  · refine ⟨_, if_neg hc, fun i u hu => ?_⟩
    rw [mbV_drop_, List.getElem?_drop] at hu
    have := HCELL.out _ u hu
    rw [Addr.add_mid, Nat.add_assoc]
    exact this
 obtain ⟨ad2, had1, had2⟩ := had
 have HAD := As.mk had1
 have HAD2 := As.mk had2
 have HTK : As (∀ i u, (mbV (m.l.take ix))[i]? = some u → w.cell? ((⟨bb, oo, none⟩ : Addr).add i) = some u) := by
  refine ⟨fun i u hu => ?_⟩
  rw [Addr.add_mid]
  refine HCELL.out i u ?_
  rw [mbV_take_, List.getElem?_take] at hu
  split at hu
  · exact hu
  · simp at hu
 have HLT : As ((mbV (m.l.take ix)).length = ix * 3 ∧ (mbV (m.l.drop j)).length = (ln - j) * 3) := ⟨by rw [mbV_len, List.length_take]; have := HLN.out; congr 1; omega, by rw [mbV_len, List.length_drop]; have := HLN.out; congr 1; omega⟩
 have hj2 : j ≤ ln ∧ j ≤ m.cap ∧ 1 ≤ j := by omega
 have hsum : ix + (ln - j) ≤ ln := by omega
 have HJ := As.mk hj
 clear had1 had2 hj
 refine rgn [(1, 1), (2, 0), (3, 1), (4, 1), (6, 1), (7, 0), (8, 1), (9, 1), (10, 1), (0, 2), (5, 2), (11, 2), (12, 1)] [] (fun W => W.cell? ⟨w.heap.size, 8, none⟩ = some (.slice (some ⟨bb, oo, none⟩) ln m.cap)) (by kernel_rfl) (by kernel_rfl) (fun _ _ _ d _ h => by cases d <;> exact h) (HSS.out _ HO1.out.drew) ?_
 obtain ⟨w3, hw3⟩ : ∃ x, x = w2.drew := ⟨_, rfl⟩
 have hod := HO1.out.drew
 rw [← hw3] at hod ⊢
 have HO3 := As.mk hod
 clear hw3 hod HO1
 refine Run.pu (v := ?_) (a' := ?_) rfl rfl (Or.inl ⟨by rfl, ?_⟩) ?_ ?_; rotate_left 2; (focus (intro W; go_simp; with_reducible rfl)); (focus (simp only [zq1, zq2, zq3, Act.put, zq4, zq5, zq6]; rfl))
 refine Run.rd (v := ?_) (a' := ?_) rfl rfl (Or.inl ⟨by rfl, ?_⟩) ?_ ?_; rotate_left 2; (focus (intro W hW; go_simp; with_reducible rfl)); (focus (simp only [zq1, zq2, zq3, Act.put, zq4, zq5, zq6]; rfl))
 iterate 3 (refine Run.pu (v := ?_) (a' := ?_) rfl rfl (Or.inl ⟨by rfl, ?_⟩) ?_ ?_; rotate_left 2; (focus (intro W; go_simp; with_reducible rfl)); (focus (simp only [zq1, zq2, zq3, Act.put, zq4, zq5, zq6]; rfl)))
 refine Run.rd (v := ?_) (a' := ?_) rfl rfl (Or.inl ⟨by rfl, ?_⟩) ?_ ?_; rotate_left 2; (focus (intro W hW; go_simp; with_reducible rfl)); (focus (simp only [zq1, zq2, zq3, Act.put, zq4, zq5, zq6]; rfl))
 refine Run.pu (v := ?_) (a' := ?_) rfl rfl (Or.inl ⟨by rfl, ?_⟩) ?_ ?_; rotate_left 2; (focus (intro W; go_simp; with_reducible rfl)); (focus (simp only [zq1, zq2, zq3, Act.put, zq4, zq5, zq6]; rfl))
 refine Run.pu (v := ?_) (a' := ?_) rfl rfl (Or.inl ⟨by rfl, ?_⟩) ?_ ?_
 rotate_left 2
 · intro W; go_simp; simp only [E1.out]; with_reducible rfl
 · simp only [zq1, zq2, zq3, Act.put, zq4, zq5, zq6]; rfl
 refine Run.pu (v := ?_) (a' := ?_) rfl rfl (Or.inl ⟨by rfl, ?_⟩) ?_ ?_
 rotate_left 2
 · intro W; go_simp; simp only [HAD.out]; with_reducible rfl
 · simp only [zq1, zq2, zq3, Act.put, zq4, zq5, zq6]; rfl
 refine Run.ef rfl (fun K hK => ?_)
 simp only [zq1, zq2, zq3]
 try simp only [zq4, zq5, zq6]
 have hos : OwnS [] [(gb, EC 48 (mb3 mb)), (w.heap.size + 3, EC 39 An.z), (w.heap.size + 2, EC 89 Md.zs), (w.heap.size + 1, EC 42 (Opp.cs ⟨kd, p, s, a, n, b⟩)), (w.heap.size, EC 89 (m.cs c))] (fun _ => True) w (w3.alloc (.cells #[] 48)) 48 3 (.slice (some ⟨w3.heap.size, 0, none⟩) 0 0) 0 [] := OwnS.made HO3.out (Nat.le_refl _) (by simp [maxLen]) rfl rfl
 have HOS := As.mk hos
 clear hos HO3
 go_wp2
 refine hK.out _ _ (HSS.out _ HOS.out.rest) ?_
 clear hK K
 refine Run.ef rfl (fun K hK => ?_)
 simp only [zq1, zq2, zq3]
 try simp only [zq4, zq5, zq6]
 refine go_app w rfl _ _ 43 48 _ 3 24 rfl Tryz.underlying43 info48 rfl (by decide) (.slice (some ⟨w3.heap.size, 0, none⟩) 0 0) 0 [] rfl ⟨bb, oo, none⟩ ix m.cap (mbV (m.l.take ix)) rfl HOS.out HLT.out.1 (fun i u hu => cell_below HOS.out.rest.toBelow (HTK.out i u hu)) (mbV_one _) (by simp only [maxLen]; omega) (by omega) ?_
 intro v1 w5 hw
 simp only [Nat.zero_add, List.nil_append] at hw
 have HW5 := As.mk hw
 clear hw HOS HTK
 go_wp2
 refine hK.out _ _ (HSS.out _ HW5.out.rest) ?_
 clear hK K
 refine Run.ef rfl (fun K hK => ?_)
 simp only [zq1, zq2, zq3]
 try simp only [zq4, zq5, zq6]
 refine go_app w rfl _ _ 43 48 _ 3 24 rfl Tryz.underlying43 info48 rfl (by decide) v1 ix (mbV (m.l.take ix)) rfl ad2 (ln - j) (m.cap - j) (mbV (m.l.drop j)) rfl HW5.out HLT.out.2 (fun i u hu => cell_below HW5.out.rest.toBelow (HAD2.out i u hu)) (mbV_one _) (by simp only [maxLen]; omega) (by omega) ?_
 intro v2 w6 hw
 rw [← mbV_append] at hw
 obtain ⟨ro, hro⟩ : ∃ ro, ro = m.l.take ix ++ m.l.drop j := ⟨_, rfl⟩
 have hnr : ro.length = ix + (ln - j) := by rw [hro, List.length_append, List.length_take, List.length_drop]; have := HLN.out; omega
 have hmr : ∀ b ∈ ro, b ∈ m.l := by
  intro b hb
  rw [hro] at hb
  rcases List.mem_append.1 hb with h | h
  · exact List.mem_of_mem_take h
  · exact List.mem_of_mem_drop h
 rw [← hro, ← hnr] at hw
 obtain ⟨Ar, cr, rfl⟩ := hw.row.form
 have HO6 := As.mk (hw.freeze.imp (R' := fun W => Row W (.slice Ar ro.length cr) ro.length (mbV ro)) (fun W h => h.2))
 have HMR := As.mk hmr
 have hnr2 : ro.length ≤ ln := by omega
 clear hw hro hmr hnr HW5 HAD HAD2 HLT HJ E1 hsum hj2
 go_wp2
 refine hK.out _ _ (HSS.out _ (HO6.out.imp fun _ _ => trivial)) ?_
 clear hK K HSS
 refine Run.pu (v := ?_) (a' := ?_) rfl rfl (Or.inl ⟨by rfl, ?_⟩) ?_ ?_; rotate_left 2; (focus (intro W; go_simp; with_reducible rfl)); (focus (simp only [zq1, zq2, zq3, Act.put, zq4, zq5, zq6]; rfl))
 refine Run.nil ?_
 try simp only [zq1, zq2, zq3]
 try simp only [zq4, zq5, zq6]
 have HS : As (∀ W, Own [] [(gb, EC 48 (mb3 mb)), (w.heap.size + 3, EC 39 An.z), (w.heap.size + 2, EC 89 Md.zs), (w.heap.size + 1, EC 42 (Opp.cs ⟨kd, p, s, a, n, b⟩)), (w.heap.size, EC 89 (m.cs c))] (fun _ => True) w W → W.cell? ⟨w.heap.size + 1, 0, none⟩ = some (.int .i64 kd) ∧ W.cell? ⟨w.heap.size + 1, 2, none⟩ = some (.int .i64 s) ∧ W.cell? ⟨w.heap.size + 1, 4, none⟩ = some (.int .i64 n) ∧ W.cell? ⟨w.heap.size + 1, 5, none⟩ = some (.int .u8 b) ∧ W.cell? ⟨w.heap.size, 9, none⟩ = some (.int .i64 m.live) ∧ W.cell? ⟨w.heap.size, 13, none⟩ = some (.slice m.Am c.H m.cm) ∧ W.cell? ⟨gb, 0, none⟩ = some (.int .i64 (mb.1 : Int)) ∧ W.cell? ⟨gb, 1, none⟩ = some (.int .i64 (mb.2.1 : Int))) := ⟨fun W ho => ⟨ho.get me3 0 (by simp [Opp.cs]), ho.get me3 2 (by simp [Opp.cs]), ho.get me3 4 (by simp [Opp.cs]), ho.get me3 5 (by simp [Opp.cs]), ho.get me4 9 (by simp [Md.cs]), ho.get me4 13 (by simp [Md.cs]), ho.get me0 0 (by simp [mb3]), ho.get me0 1 (by simp [mb3])⟩⟩
 obtain ⟨z0, z2, z4, z5, z9, z13, b0, b1⟩ := HS.out _ (HO6.out.imp fun _ _ => trivial)
 obtain ⟨hk4, hk8⟩ := hk
 have hkk : kd = 4 ∨ kd = 5 ∨ kd = 6 ∨ kd = 7 ∨ kd = 8 := by omega
 clear hk4 hk8
 rcases hkk with rfl | rfl | rfl | rfl | rfl

 · obtain ⟨x1, hx1⟩ : ∃ x, x = (adm c (wrap64 (m.live - (mb.2.1 : Int))) s 1).1 := ⟨_, rfl⟩
   obtain ⟨x2, hx2⟩ : ∃ x, x = (adm c (wrap64 (m.live - (mb.2.1 : Int))) s 1).2 := ⟨_, rfl⟩
   have HQ := As.mk (adm_q HG.out (live := wrap64 (m.live - (mb.2.1 : Int))) (s := s) goodA1)
   rw [← hx1, ← hx2] at HANEW HQ
   clear hx1 hx2
   go_wp2_with (refine go_ldp HO6.out me4 (Md.split c m) rfl 34 (.tmp 37) rfl rfl _ Tryz.underlying34 rfl size34 ?_)
   refine (HANEW.out _).mono ?_
   rintro e w7 ⟨rfl, hb⟩
   have HO7 := As.mk (HO6.out.below hb)
   clear hb HO6 HANEW z0 z2 z4 z5 z9 z13 b0 b1
   obtain ⟨z0, z2, z4, z5, z9, z13, b0, b1⟩ := HS.out _ (HO7.out.imp fun _ _ => trivial)
   by_cases hx2 : x2 = 0
   · obtain ⟨q, rfl, hq1, hq2⟩ := HQ.out hx2
     subst hx2
     go_wp2_with (refine go_ld HO7.out me4 rfl 89 (.tmp 3) rfl rfl _ Tryz.underlying89 rfl size89 ?_)
     refine (ref_place c HG.out m Ar cr ro q _ w7 (HMD.out.below HO7.out.toBelow) HO7.out.now (fun x hx => HF.out x (HMR.out x hx)) (by omega) hq1 hq2).mono ?_
     rintro e w8 ⟨⟨m', at_, er, rfl, hE, hN, hR⟩, hb⟩
     have HO8 := As.mk ((HO7.out.result hb (fun W hW => hR W hW)).imp (R' := fun W => MdR W c m → MdR W c m') (fun W h => h.2))
     have HE := As.mk hE
     have HN := As.mk hN
     clear hE hN hR hb HO7 HQ z0 z2 z4 z5 z9 z13 b0 b1
     have HO9 := As.mk (box89 HO8.out)
     obtain ⟨gx, hgx⟩ : ∃ g, g = w8.heap.size := ⟨_, rfl⟩
     unfold Md.v
     by_cases her : er = 0
     · subst her
       obtain ⟨hat, hf', hl'⟩ := HE.out rfl
       go_wp2_with (refine go_st HO9.out 0 rfl rfl 89 (.tmp 12) (.tmp 62) rfl rfl (m'.cs c) rfl rfl size89 (Md.one c m') ?_; intro w9 ho1; have b1 : w9.cell? ⟨gb, 1, none⟩ = some (.int .i64 (mb.2.1 : Int)) := ho1.get me1 1 (by simp [mb3]); have HO10 : As (Own [] [(gx, EC 89 (m'.cs c)), (gb, EC 48 (mb3 mb)), (w.heap.size + 3, EC 39 An.z), (w.heap.size + 2, EC 89 Md.zs), (w.heap.size + 1, EC 42 (Opp.cs ⟨4, p, s, a, n, b⟩)), (w.heap.size, EC 89 (m.cs c))] (fun W => MdR W c m → MdR W c m') w w9) := As.mk (by rw [hgx]; exact ho1); clear ho1 HO9)
       simp only [← hgx]
       clear hgx
       obtain ⟨kk, hkk, hk1, hk2⟩ : ∃ kk : Nat, min (q : Int) (mb.2.1 : Int) = (kk : Int) ∧ kk ≤ q ∧ kk ≤ mb.2.1 := ⟨min q mb.2.1, by omega, by omega, by omega⟩
       simp only [hkk]
       have hfb := HFB.out
       obtain ⟨a1, ha1⟩ : ∃ a1, a1 = mb.1 + kk := ⟨_, rfl⟩
       obtain ⟨a2, ha2⟩ : ∃ a2, a2 = at_ + kk := ⟨_, rfl⟩
       have E1 := As.mk (show IntKind.i64.wrap ((mb.1 : Int) + (kk : Int)) = (a1 : Int) by rw [IntKind.wrap_i64]; omega)
       have E2 := As.mk (show IntKind.i64.wrap ((at_ : Int) + (kk : Int)) = (a2 : Int) by rw [IntKind.wrap_i64]; omega)
       have ha1H : a1 ≤ c.H ∧ mb.1 ≤ a1 ∧ mb.1 ≤ c.H := by omega
       have ha2H : a2 ≤ c.H ∧ at_ ≤ c.H := by omega
       have hsz : at_ + (a1 - mb.1) + (c.H - a2) = c.H := by omega
       have hsz1 : a1 - mb.1 = kk := by omega
       have HM1 := HO10.out.now (HMD.out.below HO10.out.toBelow)
       obtain ⟨us, hus, hrow⟩ := HMD.out.mem
       obtain ⟨bm, om, hAm, hncm, hcm⟩ := uV_row hrow hus hH.1
       obtain ⟨us2, hus2, hrow2⟩ := HM1.mem
       obtain ⟨bx, ox, hAx, hncx, hcx⟩ := uV_row hrow2 hus2 hH.1
       obtain ⟨ad1, hd1, hs1⟩ := src_row hus hncm hcm mb.1
       obtain ⟨ad2', hd2, hs2⟩ := src_row hus2 hncx hcx a2
       have T1 := As.mk (fun W (hb : Below w9.heap.size w9 W) => fun i u (hu : ((uV us2).take at_)[i]? = some u) => cell_below hb (take_src hcx at_ i u hu))
       have T2 := As.mk (fun W (hb : Below w.heap.size w W) => fun i u (hu : (((uV us).drop mb.1).take kk)[i]? = some u) => cell_below hb (take_src hs1 kk i u hu))
       have T3 : As (∀ W, MdR W c m' → ∃ us3 : List Int, us3.length = c.H ∧ ∀ i u, ((uV us3).drop a2)[i]? = some u → W.cell? (ad2'.add i) = some u) := by
        refine ⟨fun W hm => ?_⟩
        obtain ⟨us3, h3, hr⟩ := hm.mem
        obtain ⟨b', o', hA', hn', hc'⟩ := uV_row hr h3 hH.1
        rw [hAx] at hA'
        simp only [Option.some.injEq, Addr.mk.injEq, and_true] at hA'
        obtain ⟨rfl, rfl⟩ := hA'
        obtain ⟨ad3, hd3, hs3⟩ := src_row h3 hn' hc' a2
        rw [hd2] at hd3
        obtain rfl := Option.some.inj hd3
        exact ⟨us3, h3, hs3⟩
       have L1 : As (((uV us2).take at_).length = at_ * 1 ∧ (((uV us).drop mb.1).take kk).length = kk * 1 ) := ⟨by rw [List.length_take, uV_len, hus2]; omega, by rw [List.length_take, List.length_drop, uV_len, hus]; omega⟩
       have HD1 := As.mk hd1
       have HD2 := As.mk hd2
       have HAX := As.mk hAx
       have HAM := As.mk hAm
       have HUS := As.mk (And.intro hus hus2)
       have hncx2 : at_ ≤ m'.cm ∧ c.H ≤ m'.cm ∧ c.H ≤ m.cm ∧ mb.1 ≤ m.cm ∧ a2 ≤ m'.cm ∧ a1 ≤ m.cm := by omega
       have HSS : As (∀ W, Own [] [(gx, EC 89 (m'.cs c)), (gb, EC 48 (mb3 mb)), (w.heap.size + 3, EC 39 An.z), (w.heap.size + 2, EC 89 Md.zs), (w.heap.size + 1, EC 42 (Opp.cs ⟨4, p, s, a, n, b⟩)), (w.heap.size, EC 89 (m.cs c))] (fun _ => True) w W → W.cell? ⟨gx, 13, none⟩ = some (.slice (some ⟨bx, ox, none⟩) c.H m'.cm) ∧ W.cell? ⟨w.heap.size, 13, none⟩ = some (.slice (some ⟨bm, om, none⟩) c.H m.cm) ∧ W.cell? ⟨gb, 0, none⟩ = some (.int .i64 (mb.1 : Int))) := ⟨fun W ho => ⟨(ho.get me0 13 (by simp [Md.cs])).trans (by simp [Md.cs, HAX.out]), (ho.get me5 13 (by simp [Md.cs])).trans (by simp [Md.cs, HAM.out]), ho.get me1 0 (by simp [mb3])⟩⟩
       clear hkk hfb ha1 ha2 HM1 hus hrow hAm hcm hus2 hrow2 hAx hcx hd1 hs1 hd2 hs2 hncm hncx b1 HE HN HO8
       refine rgn [(1, 1), (2, 0), (3, 1), (4, 1), (6, 1), (7, 0), (8, 1), (9, 0), (10, 1), (11, 0), (12, 1), (13, 1), (14, 1), (16, 1), (17, 0), (18, 1), (19, 1), (20, 1), (21, 1), (0, 2), (5, 2), (15, 2), (22, 2), (23, 1), (24, 3)] [24] (fun W => W.cell? ⟨gx, 13, none⟩ = some (.slice (some ⟨bx, ox, none⟩) c.H m'.cm) ∧ W.cell? ⟨w.heap.size, 13, none⟩ = some (.slice (some ⟨bm, om, none⟩) c.H m.cm) ∧ W.cell? ⟨gb, 0, none⟩ = some (.int .i64 (mb.1 : Int))) (by kernel_rfl) (by kernel_rfl) (fun _ _ _ d _ h => by cases d <;> exact h) (HSS.out _ (HO10.out.drew.imp fun _ _ => trivial)) ?_
       obtain ⟨wd, hwd⟩ : ∃ x, x = w9.drew := ⟨_, rfl⟩
       have hod := HO10.out.drew
       have hbd : Below w9.heap.size w9 wd := by rw [hwd]; exact ⟨rfl, rfl, rfl, Nat.le_refl _, fun _ _ => rfl⟩
       rw [← hwd] at hod ⊢
       have HO11 := As.mk hod
       have HBD := As.mk hbd
       clear hwd hod HO10 hbd
       refine Run.pu (v := ?_) (a' := ?_) rfl rfl (Or.inl ⟨by rfl, ?_⟩) ?_ ?_; rotate_left 2; (focus (intro W; go_simp; with_reducible rfl)); (focus (simp only [zq1, zq2, zq3, Act.put, zq4, zq5, zq6]; rfl))
       refine Run.rd (v := ?_) (a' := ?_) rfl rfl (Or.inl ⟨by rfl, ?_⟩) ?_ ?_; rotate_left 2; (focus (rintro W ⟨hW1, hW2, hW3⟩; go_simp; with_reducible rfl)); (focus (simp only [zq1, zq2, zq3, Act.put, zq4, zq5, zq6]; rfl))
       iterate 3 (refine Run.pu (v := ?_) (a' := ?_) rfl rfl (Or.inl ⟨by rfl, ?_⟩) ?_ ?_; rotate_left 2; (focus (intro W; go_simp; with_reducible rfl)); (focus (simp only [zq1, zq2, zq3, Act.put, zq4, zq5, zq6]; rfl)))
       refine Run.rd (v := ?_) (a' := ?_) rfl rfl (Or.inl ⟨by rfl, ?_⟩) ?_ ?_; rotate_left 2; (focus (rintro W ⟨hW1, hW2, hW3⟩; go_simp; with_reducible rfl)); (focus (simp only [zq1, zq2, zq3, Act.put, zq4, zq5, zq6]; rfl))
       refine Run.pu (v := ?_) (a' := ?_) rfl rfl (Or.inl ⟨by rfl, ?_⟩) ?_ ?_; rotate_left 2; (focus (intro W; go_simp; with_reducible rfl)); (focus (simp only [zq1, zq2, zq3, Act.put, zq4, zq5, zq6]; rfl))
       refine Run.rd (v := ?_) (a' := ?_) rfl rfl (Or.inl ⟨by rfl, ?_⟩) ?_ ?_; rotate_left 2; (focus (rintro W ⟨hW1, hW2, hW3⟩; go_simp; with_reducible rfl)); (focus (simp only [zq1, zq2, zq3, Act.put, zq4, zq5, zq6]; rfl))
       refine Run.pu (v := ?_) (a' := ?_) rfl rfl (Or.inl ⟨by rfl, ?_⟩) ?_ ?_; rotate_left 2; (focus (intro W; go_simp; with_reducible rfl)); (focus (simp only [zq1, zq2, zq3, Act.put, zq4, zq5, zq6]; rfl))
       refine Run.rd (v := ?_) (a' := ?_) rfl rfl (Or.inl ⟨by rfl, ?_⟩) ?_ ?_; rotate_left 2; (focus (rintro W ⟨hW1, hW2, hW3⟩; go_simp; with_reducible rfl)); (focus (simp only [zq1, zq2, zq3, Act.put, zq4, zq5, zq6]; rfl))
       refine Run.pu (v := ?_) (a' := ?_) rfl rfl (Or.inl ⟨by rfl, ?_⟩) ?_ ?_; rotate_left 2; (focus (intro W; go_simp; with_reducible rfl)); (focus (simp only [zq1, zq2, zq3, Act.put, zq4, zq5, zq6]; rfl))
       refine Run.pu (v := ?_) (a' := ?_) rfl rfl (Or.inl ⟨by rfl, ?_⟩) ?_ ?_
       rotate_left 2
       · intro W; go_simp; simp only [E1.out]; with_reducible rfl
       · simp only [zq1, zq2, zq3, Act.put, zq4, zq5, zq6]; rfl
       refine Run.pu (v := ?_) (a' := ?_) rfl rfl (Or.inl ⟨by rfl, ?_⟩) ?_ ?_
       rotate_left 2
       · intro W; go_simp; simp only [HD1.out, hsz1]; with_reducible rfl
       · simp only [zq1, zq2, zq3, Act.put, zq4, zq5, zq6]; rfl
       refine Run.pu (v := ?_) (a' := ?_) rfl rfl (Or.inl ⟨by rfl, ?_⟩) ?_ ?_; rotate_left 2; (focus (intro W; go_simp; with_reducible rfl)); (focus (simp only [zq1, zq2, zq3, Act.put, zq4, zq5, zq6]; rfl))
       refine Run.rd (v := ?_) (a' := ?_) rfl rfl (Or.inl ⟨by rfl, ?_⟩) ?_ ?_; rotate_left 2; (focus (rintro W ⟨hW1, hW2, hW3⟩; go_simp; with_reducible rfl)); (focus (simp only [zq1, zq2, zq3, Act.put, zq4, zq5, zq6]; rfl))
       iterate 2 (refine Run.pu (v := ?_) (a' := ?_) rfl rfl (Or.inl ⟨by rfl, ?_⟩) ?_ ?_; rotate_left 2; (focus (intro W; go_simp; with_reducible rfl)); (focus (simp only [zq1, zq2, zq3, Act.put, zq4, zq5, zq6]; rfl)))
       refine Run.pu (v := ?_) (a' := ?_) rfl rfl (Or.inl ⟨by rfl, ?_⟩) ?_ ?_
       rotate_left 2
       · intro W; go_simp; simp only [E2.out]; with_reducible rfl
       · simp only [zq1, zq2, zq3, Act.put, zq4, zq5, zq6]; rfl
       refine Run.pu (v := ?_) (a' := ?_) rfl rfl (Or.inl ⟨by rfl, ?_⟩) ?_ ?_
       rotate_left 2
       · intro W; go_simp; simp only [HD2.out]; with_reducible rfl
       · simp only [zq1, zq2, zq3, Act.put, zq4, zq5, zq6]; rfl
       refine Run.ef rfl (fun K hK => ?_)
       simp only [zq1, zq2, zq3]
       try simp only [zq4, zq5, zq6]
       have hos : OwnS [] [(gx, EC 89 (m'.cs c)), (gb, EC 48 (mb3 mb)), (w.heap.size + 3, EC 39 An.z), (w.heap.size + 2, EC 89 Md.zs), (w.heap.size + 1, EC 42 (Opp.cs ⟨4, p, s, a, n, b⟩)), (w.heap.size, EC 89 (m.cs c))] (fun W => MdR W c m → MdR W c m') w (wd.alloc (.cells #[] 5)) 5 1 (.slice (some ⟨wd.heap.size, 0, none⟩) 0 0) 0 [] := OwnS.made HO11.out (Nat.le_refl _) (by simp [maxLen]) rfl rfl
       have HOS := As.mk hos
       have HBA := As.mk (HBD.out.trans ((Below.refl wd.heap.size wd).alloc (Nat.le_refl _) (.cells #[] 5) |>.mono HBD.out.size))
       clear hos HO11 HBD
       go_wp2
       refine hK.out _ _ (HSS.out _ (HOS.out.rest.imp fun _ _ => trivial)) ?_
       clear hK K
       refine Run.ef rfl (fun K hK => ?_)
       simp only [zq1, zq2, zq3]
       try simp only [zq4, zq5, zq6]
       refine go_app w rfl _ _ 22 5 _ 1 1 rfl Tryz.underlying22 info5 rfl (by decide) (.slice (some ⟨wd.heap.size, 0, none⟩) 0 0) 0 [] rfl ⟨bx, ox, none⟩ at_ m'.cm ((uV us2).take at_) rfl HOS.out L1.out.1 (T1.out _ HBA.out) (fun u hu => uV_one us2 u (List.mem_of_mem_take hu)) (by simp only [maxLen]; omega) (by omega) ?_
       intro v3 wA hw
       simp only [Nat.zero_add, List.nil_append] at hw
       have HWA := As.mk hw
       clear hw HOS HBA T1
       go_wp2
       refine hK.out _ _ (HSS.out _ (HWA.out.rest.imp fun _ _ => trivial)) ?_
       clear hK K
       refine Run.ef rfl (fun K hK => ?_)
       simp only [zq1, zq2, zq3]
       try simp only [zq4, zq5, zq6]
       refine go_app w rfl _ _ 22 5 _ 1 1 rfl Tryz.underlying22 info5 rfl (by decide) v3 at_ ((uV us2).take at_) rfl ad1 kk (m.cm - mb.1) (((uV us).drop mb.1).take kk) rfl HWA.out L1.out.2 (T2.out _ HWA.out.rest.toBelow) (fun u hu => uV_one us u (List.mem_of_mem_drop (List.mem_of_mem_take hu))) (by simp only [maxLen]; omega) (by omega) ?_
       intro v4 wB hw
       have HWB := As.mk hw
       clear hw HWA T2
       go_wp2
       refine hK.out _ _ (HSS.out _ (HWB.out.rest.imp fun _ _ => trivial)) ?_
       clear hK K
       refine Run.ef rfl (fun K hK => ?_)
       simp only [zq1, zq2, zq3]
       try simp only [zq4, zq5, zq6]
       obtain ⟨us3, hus3, ht3⟩ := T3.out wB (HWB.out.rest.now (HMD.out.below HWB.out.rest.toBelow))
       have HT3 := As.mk ht3
       have HU3 := As.mk hus3
       clear T3 ht3 hus3
       refine go_app w rfl _ _ 22 5 _ 1 1 rfl Tryz.underlying22 info5 rfl (by decide) v4 (at_ + kk) ((uV us2).take at_ ++ ((uV us).drop mb.1).take kk) rfl ad2' (c.H - a2) (m'.cm - a2) ((uV us3).drop a2) rfl HWB.out (by rw [List.length_drop, uV_len, HU3.out, Nat.mul_one]) HT3.out (fun u hu => uV_one us3 u (List.mem_of_mem_drop hu)) (by simp only [maxLen]; omega) (by omega) ?_
       intro v5 wC hw
       have hn5 : at_ + kk + (c.H - a2) = c.H := by omega
       have hv5 : (uV us2).take at_ ++ ((uV us).drop mb.1).take kk ++ (uV us3).drop a2 = uV (us2.take at_ ++ (us.drop mb.1).take kk ++ us3.drop a2) := by simp [uV, List.map_take, List.map_drop]
       have HLM : As ((us2.take at_ ++ (us.drop mb.1).take kk ++ us3.drop a2).length = c.H) := by
        obtain ⟨e1, e2⟩ := HUS.out
        have e3 := HU3.out
        exact ⟨by simp only [List.length_append, List.length_take, List.length_drop, e1, e2, e3]; omega⟩
       rw [hn5, hv5] at hw
       obtain ⟨us5, hus5⟩ : ∃ x, x = us2.take at_ ++ (us.drop mb.1).take kk ++ us3.drop a2 := ⟨_, rfl⟩
       rw [← hus5] at hw HLM
       obtain ⟨A5, c5, rfl⟩ := hw.row.form
       have HO12 := As.mk (hw.freeze.imp (R' := fun W => MdR W c m → MdR W c (m'.setMem A5 c5)) (fun W h hm => ⟨(h.1 hm).bl, (h.1 hm).on, us5, HLM.out, h.2⟩))
       clear hw hus5 hn5 hv5 HWB HT3 HU3 HLM HUS L1 HD1 HD2
       go_wp2
       refine hK.out _ _ (HSS.out _ (HO12.out.imp fun _ _ => trivial)) ?_
       clear hK K
       refine Run.pu (v := ?_) (a' := ?_) rfl rfl (Or.inl ⟨by rfl, ?_⟩) ?_ ?_; rotate_left 2; (focus (intro W; go_simp; with_reducible rfl)); (focus (simp only [zq1, zq2, zq3, Act.put, zq4, zq5, zq6]; rfl))
       refine Run.la rfl (fun K hK => ?_)
       simp only [zq1, zq2, zq3]
       try simp only [zq4, zq5, zq6]
       refine go_st1 HO12.out 0 rfl rfl 22 (.tmp 99) (.tmp 98) rfl 13 rfl (.slice A5 c.H c5) rfl rfl (by simp [Md.cs]) size22 ?_
       intro wD ho
       have HO13 : As (Own [] [(gx, EC 89 ((m'.setMem A5 c5).cs c)), (gb, EC 48 (mb3 mb)), (w.heap.size + 3, EC 39 An.z), (w.heap.size + 2, EC 89 Md.zs), (w.heap.size + 1, EC 42 (Opp.cs ⟨4, p, s, a, n, b⟩)), (w.heap.size, EC 89 (m.cs c))] (fun W => MdR W c m → MdR W c (m'.setMem A5 c5)) w wD) := As.mk ho
       clear ho HO12
       go_wp2_with fail
       refine hK.out _ _ ?_
       clear hK K
       refine Run.nil ?_
       try simp only [zq1, zq2, zq3]
       try simp only [zq4, zq5, zq6]
       go_wp2_with (first | (refine go_ld HO13.out me0 rfl 89 (.tmp 12) rfl rfl _ Tryz.underlying89 rfl size89 ?_) | (refine go_st HO13.out 3 rfl rfl 89 (.tmp 6) (.tmp 100) rfl rfl ((m'.setMem A5 c5).cs c) rfl rfl size89 (Md.one c _) ?_; intro wa ho1; have HOa := As.mk ho1; clear ho1) | (refine go_st HOa.out 2 rfl rfl 39 (.tmp 7) (.tmp 102) rfl rfl (An.cs ⟨0, (at_ : Int), 0, 0, 0, 0, 0, 0⟩) rfl rfl size39 (An.one _) ?_; intro wb ho1; have HOb := As.mk ho1; clear ho1))
       refine bodyPost_ret (results_c2 rfl _ rfl rfl (HOb.out.range me3) (HOb.out.range me2) Tryz.underlying89 rfl size89 Tryz.underlying39 rfl size39) rfl ⟨⟨(m'.setMem A5 c5), ⟨0, (at_ : Int), 0, 0, 0, 0, 0, 0⟩, rfl, hf', by show m'.l.length ≤ _; omega, fun W hW => HOb.out.ro W (fun k hk hx _ => hW k hx hk)⟩, HOb.out.toBelow⟩
     · obtain rfl : m = m' := (HN.out her).symm
       have her' := beqF her
       go_wp2_with (first | (refine go_st HO9.out 0 rfl rfl 89 (.tmp 12) (.tmp 62) rfl rfl (m.cs c) rfl rfl size89 (Md.one c m) ?_; intro w9 ho1; have HO10 := As.mk ho1; clear ho1 HO9) | (refine go_ld HO10.out me5 rfl 89 (.tmp 3) rfl rfl _ Tryz.underlying89 rfl size89 ?_))
       refine (HWR.out _ _).mono ?_
       rintro e wq ⟨rfl, hb⟩
       have HOw := As.mk (HO10.out.below hb)
       clear hb HO10
       go_wp2_with (first | (refine go_st HOw.out 3 rfl rfl 89 (.tmp 6) (.tmp 70) rfl rfl (m.cs c) rfl rfl size89 (Md.one c m) ?_; intro wa ho1; have HOa := As.mk ho1; clear ho1) | (refine go_st HOa.out 2 rfl rfl 39 (.tmp 7) (.tmp 71) rfl rfl (An.no er).cs rfl rfl size39 (An.one _) ?_; intro wb ho1; have HOb := As.mk ho1; clear ho1))
       refine bodyPost_ret (results_c2 rfl _ rfl rfl (HOb.out.range me3) (HOb.out.range me2) Tryz.underlying89 rfl size89 Tryz.underlying39 rfl size39) rfl ⟨⟨m, An.no er, rfl, HF.out, by have := HLN.out; omega, fun W _ h => h⟩, HOb.out.toBelow⟩
   · have hx2' := beqF hx2
     go_wp2_with ((refine go_ld HO7.out me4 rfl 89 (.tmp 3) rfl rfl _ Tryz.underlying89 rfl size89 ?_))
     refine (HWR.out _ _).mono ?_
     rintro e wq ⟨rfl, hb⟩
     have HOw := As.mk (HO7.out.below hb)
     clear hb HO7
     go_wp2_with (first | (refine go_st HOw.out 2 rfl rfl 89 (.tmp 6) (.tmp 53) rfl rfl (m.cs c) rfl rfl size89 (Md.one c m) ?_; intro wa ho1; have HOa := As.mk ho1; clear ho1) | (refine go_st HOa.out 1 rfl rfl 39 (.tmp 7) (.tmp 54) rfl rfl (An.no x2).cs rfl rfl size39 (An.one _) ?_; intro wb ho1; have HOb := As.mk ho1; clear ho1))
     refine bodyPost_ret (results_c2 rfl _ rfl rfl (HOb.out.range me2) (HOb.out.range me1) Tryz.underlying89 rfl size89 Tryz.underlying39 rfl size39) rfl ⟨⟨m, An.no x2, rfl, HF.out, by have := HLN.out; omega, fun W _ h => h⟩, HOb.out.toBelow⟩
 · go_wp2_with fail
   refine rgn [(0, 1), (1, 1), (2, 0), (3, 1), (4, 0), (5, 1), (6, 1), (7, 2), (8, 1), (9, 3)] [9] (fun W => W.cell? ⟨w.heap.size, 9, none⟩ = some (.int .i64 m.live) ∧ W.cell? ⟨gb, 1, none⟩ = some (.int .i64 (mb.2.1 : Int))) (by kernel_rfl) (by kernel_rfl) (fun _ _ _ d _ h => by cases d <;> exact h) ⟨z9, b1⟩ ?_
   obtain ⟨wd, hwd⟩ : ∃ x, x = w6.drew := ⟨_, rfl⟩
   have hod := HO6.out.drew
   rw [← hwd] at hod ⊢
   have HO7 := As.mk hod
   clear hwd hod HO6 z0 z2 z4 z5 z9 z13 b0 b1
   iterate 2 (refine Run.pu (v := ?_) (a' := ?_) rfl rfl (Or.inl ⟨by rfl, ?_⟩) ?_ ?_; rotate_left 2; (focus (intro W; go_simp; with_reducible rfl)); (focus (simp only [zq1, zq2, zq3, Act.put, zq4, zq5, zq6]; rfl)))
   refine Run.rd (v := ?_) (a' := ?_) rfl rfl (Or.inl ⟨by rfl, ?_⟩) ?_ ?_; rotate_left 2; (focus (rintro W ⟨hW1, hW2⟩; go_simp; with_reducible rfl)); (focus (simp only [zq1, zq2, zq3, Act.put, zq4, zq5, zq6]; rfl))
   refine Run.pu (v := ?_) (a' := ?_) rfl rfl (Or.inl ⟨by rfl, ?_⟩) ?_ ?_; rotate_left 2; (focus (intro W; go_simp; with_reducible rfl)); (focus (simp only [zq1, zq2, zq3, Act.put, zq4, zq5, zq6]; rfl))
   refine Run.rd (v := ?_) (a' := ?_) rfl rfl (Or.inl ⟨by rfl, ?_⟩) ?_ ?_; rotate_left 2; (focus (rintro W ⟨hW1, hW2⟩; go_simp; with_reducible rfl)); (focus (simp only [zq1, zq2, zq3, Act.put, zq4, zq5, zq6]; rfl))
   iterate 2 (refine Run.pu (v := ?_) (a' := ?_) rfl rfl (Or.inl ⟨by rfl, ?_⟩) ?_ ?_; rotate_left 2; (focus (intro W; go_simp; with_reducible rfl)); (focus (simp only [zq1, zq2, zq3, Act.put, zq4, zq5, zq6]; rfl)))
   refine Run.ef rfl (fun K hK => ?_)
   simp only [zq1, zq2, zq3]
   try simp only [zq4, zq5, zq6]
   refine go_st1 HO7.out 4 rfl rfl 43 (.tmp 111) (.tmp 105) rfl 8 rfl (.slice Ar ro.length cr) rfl rfl (by simp [Md.cs]) size43 ?_
   intro wx ho
   have HO8 := As.mk ho
   clear ho HO7
   go_wp2_with fail
   refine hK.out _ _ ⟨HO8.out.get me4 9 (by simp [Md.cs]), HO8.out.get me0 1 (by simp [mb3])⟩ ?_
   clear hK K
   refine Run.pu (v := ?_) (a' := ?_) rfl rfl (Or.inl ⟨by rfl, ?_⟩) ?_ ?_; rotate_left 2; (focus (intro W; go_simp; with_reducible rfl)); (focus (simp only [zq1, zq2, zq3, Act.put, zq4, zq5, zq6]; rfl))
   refine Run.la rfl (fun K hK => ?_)
   simp only [zq1, zq2, zq3]
   try simp only [zq4, zq5, zq6]
   obtain ⟨lv, hlv⟩ : ∃ x, x = IntKind.i64.wrap (m.live - (mb.2.1 : Int)) := ⟨_, rfl⟩
   have HLV := As.mk hlv
   clear hlv
   refine go_st1 HO8.out 4 rfl rfl 3 (.tmp 112) (.tmp 110) rfl 9 rfl (.int .i64 lv) (by rw [HLV.out]; rfl) rfl (by simp [Md.cs]) size3 ?_
   intro wy ho
   have HO9 : As (Own [] [(gb, EC 48 (mb3 mb)), (w.heap.size + 3, EC 39 An.z), (w.heap.size + 2, EC 89 Md.zs), (w.heap.size + 1, EC 42 (Opp.cs ⟨5, p, s, a, n, b⟩)), (w.heap.size, EC 89 (((m.setBl Ar cr ro).setLive lv).cs c))] (fun W => Row W (.slice Ar ro.length cr) ro.length (mbV ro)) w wy) := As.mk ho
   clear ho HO8
   go_wp2_with fail
   refine hK.out _ _ ?_
   clear hK K
   refine Run.nil ?_
   try simp only [zq1, zq2, zq3]
   try simp only [zq4, zq5, zq6]
   go_wp2_with (first | (refine go_ld HO9.out me4 rfl 89 (.tmp 3) rfl rfl _ Tryz.underlying89 rfl size89 ?_) | (refine go_st HO9.out 2 rfl rfl 89 (.tmp 6) (.tmp 113) rfl rfl (((m.setBl Ar cr ro).setLive lv).cs c) rfl rfl size89 (Md.one c _) ?_; intro wa ho1; have HOa := As.mk ho1; clear ho1) | (refine go_st HOa.out 1 rfl rfl 39 (.tmp 7) (.tmp 114) rfl rfl (An.cs ⟨0, 0, 0, 0, 0, 0, 0, 0⟩) rfl rfl size39 (An.one _) ?_; intro wb ho1; have HOb := As.mk ho1; clear ho1))
   refine bodyPost_ret (results_c2 rfl _ rfl rfl (HOb.out.range me2) (HOb.out.range me1) Tryz.underlying89 rfl size89 Tryz.underlying39 rfl size39) rfl ⟨⟨((m.setBl Ar cr ro).setLive lv), ⟨0, 0, 0, 0, 0, 0, 0, 0⟩, rfl, fun x hx => HF.out x (HMR.out x hx), by show ro.length ≤ _; omega, fun W hW hm => ⟨HOb.out.ro W (fun k hk hx _ => hW k hx hk), hm.on, hm.mem⟩⟩, HOb.out.toBelow⟩
 · go_wp2_with fail
   refine rgn [(0, 0), (1, 1), (2, 0), (3, 1), (4, 2), (5, 3)] [5] (fun W => W.rangeAt w.heap.size 0 (m.cs c) ∧ W.cell? ⟨gb, 1, none⟩ = some (.int .i64 (mb.2.1 : Int))) (by kernel_rfl) (by kernel_rfl) (fun _ _ _ d _ h => by cases d <;> exact h) ⟨HO6.out.drew.range me4, b1⟩ ?_
   obtain ⟨wd, hwd⟩ : ∃ x, x = w6.drew := ⟨_, rfl⟩
   have hod := HO6.out.drew
   rw [← hwd] at hod ⊢
   have HO7 := As.mk hod
   clear hwd hod HO6 z0 z2 z4 z5 z9 z13 b0 b1
   refine Run.rd (v := .agg (m.cs c).toArray) (a' := ?_) rfl rfl (yieldsIf_load_mid rfl 89 (.tmp 3) rfl w.heap.size 0 rfl (m.cs c) _ (fun W hW => hW.1) Tryz.underlying89 rfl size89) ?_ ?_
   rotate_left 1
   · simp only [zq1, zq2, zq3, Act.put, zq4, zq5, zq6]; rfl
   refine Run.pu (v := ?_) (a' := ?_) rfl rfl (Or.inl ⟨by rfl, ?_⟩) ?_ ?_; rotate_left 2; (focus (intro W; go_simp; with_reducible rfl)); (focus (simp only [zq1, zq2, zq3, Act.put, zq4, zq5, zq6]; rfl))
   refine Run.rd (v := ?_) (a' := ?_) rfl rfl (Or.inl ⟨by rfl, ?_⟩) ?_ ?_; rotate_left 2; (focus (rintro W ⟨hW1, hW2⟩; go_simp; with_reducible rfl)); (focus (simp only [zq1, zq2, zq3, Act.put, zq4, zq5, zq6]; rfl))
   refine Run.pu (v := ?_) (a' := ?_) rfl rfl (Or.inl ⟨by rfl, ?_⟩) ?_ ?_; rotate_left 2; (focus (intro W; go_simp; with_reducible rfl)); (focus (simp only [zq1, zq2, zq3, Act.put, zq4, zq5, zq6]; rfl))
   refine Run.ef rfl (fun K hK => ?_)
   simp only [zq1, zq2, zq3]
   try simp only [zq4, zq5, zq6]
   refine go_st HO7.out 2 rfl rfl 89 (.tmp 6) (.tmp 117) rfl rfl (m.cs c) rfl rfl size89 (Md.one c m) ?_
   intro wx ho
   have HO8 := As.mk ho
   clear ho HO7
   go_wp2_with fail
   refine hK.out _ _ ⟨HO8.out.range me4, HO8.out.get me0 1 (by simp [mb3])⟩ ?_
   clear hK K
   refine Run.la rfl (fun K hK => ?_)
   simp only [zq1, zq2, zq3]
   try simp only [zq4, zq5, zq6]
   refine go_st HO8.out 1 rfl rfl 39 (.tmp 7) (.tmp 120) rfl rfl (An.cs ⟨0, 0, (mb.2.1 : Int), 0, 0, 0, 0, 0⟩) rfl rfl size39 (An.one _) ?_
   intro wx ho
   have HO9 := As.mk ho
   clear ho HO8
   go_wp2_with fail
   refine hK.out _ _ ?_
   clear hK K
   refine Run.nil ?_
   try simp only [zq1, zq2, zq3]
   try simp only [zq4, zq5, zq6]
   go_wp2_with fail
   refine bodyPost_ret (results_c2 rfl _ rfl rfl (HO9.out.range me2) (HO9.out.range me1) Tryz.underlying89 rfl size89 Tryz.underlying39 rfl size39) rfl ⟨⟨m, ⟨0, 0, (mb.2.1 : Int), 0, 0, 0, 0, 0⟩, rfl, HF.out, by have := HLN.out; omega, fun W _ h => h⟩, HO9.out.toBelow⟩
 · by_cases hn0 : n < 0
   · go_wp2_with (refine go_ld HO6.out me4 rfl 89 (.tmp 3) rfl rfl _ Tryz.underlying89 rfl size89 ?_)
     refine (HWR.out _ _).mono ?_
     rintro e wq ⟨rfl, hb⟩
     have HOw := As.mk (HO6.out.below hb)
     clear hb HO6
     go_wp2_with (first | (refine go_st HOw.out 2 rfl rfl 89 (.tmp 6) (.tmp 133) rfl rfl (m.cs c) rfl rfl size89 (Md.one c m) ?_; intro wa ho1; have HOa := As.mk ho1; clear ho1) | (refine go_st HOa.out 1 rfl rfl 39 (.tmp 7) (.tmp 134) rfl rfl (An.no 9).cs rfl rfl size39 (An.one _) ?_; intro wb ho1; have HOb := As.mk ho1; clear ho1))
     refine bodyPost_ret (results_c2 rfl _ rfl rfl (HOb.out.range me2) (HOb.out.range me1) Tryz.underlying89 rfl size89 Tryz.underlying39 rfl size39) rfl ⟨⟨m, An.no 9, rfl, HF.out, by have := HLN.out; omega, fun W _ h => h⟩, HOb.out.toBelow⟩
   · by_cases hn1 : (mb.2.1 : Int) ≤ n
     · go_wp2_with (refine go_ld HO6.out me4 rfl 89 (.tmp 3) rfl rfl _ Tryz.underlying89 rfl size89 ?_)
       refine (HWR.out _ _).mono ?_
       rintro e wq ⟨rfl, hb⟩
       have HOw := As.mk (HO6.out.below hb)
       clear hb HO6
       go_wp2_with (first | (refine go_st HOw.out 2 rfl rfl 89 (.tmp 6) (.tmp 133) rfl rfl (m.cs c) rfl rfl size89 (Md.one c m) ?_; intro wa ho1; have HOa := As.mk ho1; clear ho1) | (refine go_st HOa.out 1 rfl rfl 39 (.tmp 7) (.tmp 134) rfl rfl (An.no 9).cs rfl rfl size39 (An.one _) ?_; intro wb ho1; have HOb := As.mk ho1; clear ho1))
       refine bodyPost_ret (results_c2 rfl _ rfl rfl (HOb.out.range me2) (HOb.out.range me1) Tryz.underlying89 rfl size89 Tryz.underlying39 rfl size39) rfl ⟨⟨m, An.no 9, rfl, HF.out, by have := HLN.out; omega, fun W _ h => h⟩, HOb.out.toBelow⟩
     · have hfb := HFB.out
       obtain ⟨q, hq⟩ : ∃ q : Nat, n = (q : Int) := ⟨n.toNat, by omega⟩
       have hq1 : q < mb.2.1 := by omega
       obtain ⟨y, hy⟩ : ∃ y, y = mb.1 + q := ⟨_, rfl⟩
       have hyH : y < c.H := by omega
       have E2 := As.mk (show IntKind.i64.wrap ((mb.1 : Int) + n) = (y : Int) by rw [IntKind.wrap_i64]; omega)
       have E3 := As.mk (show wrap64 ((mb.1 : Int) + n) = (y : Int) by unfold wrap64; omega)
       obtain ⟨us, hus, hrow⟩ := HMD.out.mem
       obtain ⟨bm, om, hAm, hncm, hcm⟩ := uV_row hrow hus hH.1
       obtain ⟨ux, hux⟩ : ∃ x, us[y]? = some x := ⟨us[y]'(by omega), List.getElem?_eq_getElem _⟩
       have HUX := As.mk (hcm y _ (show (uV us)[y]? = some (.int .u8 ux) by simp [uV, hux]))
       have HCM := As.mk hcm
       have HUS := As.mk hus
       have HAM := As.mk hAm
       rw [Addr.add_mid] at HUX
       clear hrow hux hcm hus hfb hy hq hq1 hAm
       rw [HAM.out] at z13
       have hyc : w6.cell? ⟨bm, om + y, none⟩ = some (.int .u8 ux) := cell_below HO6.out.toBelow HUX.out
       go_wp2_with fail
       refine rgn [(0, 0), (1, 1), (2, 0), (3, 1), (4, 0), (5, 1), (6, 0), (7, 1), (8, 1), (9, 0), (10, 1), (11, 2), (12, 3)] [12] (fun W => W.rangeAt w.heap.size 0 (m.cs c) ∧ W.cell? ⟨w.heap.size, 13, none⟩ = some (.slice (some ⟨bm, om, none⟩) c.H m.cm) ∧ W.cell? ⟨gb, 0, none⟩ = some (.int .i64 (mb.1 : Int)) ∧ W.cell? ⟨w.heap.size + 1, 4, none⟩ = some (.int .i64 n) ∧ W.cell? ⟨bm, om + y, none⟩ = some (.int .u8 ux)) (by kernel_rfl) (by kernel_rfl) (fun _ _ _ d _ h => by cases d <;> exact h) ⟨HO6.out.drew.range me4, z13, b0, z4, hyc⟩ ?_
       clear hyc
       obtain ⟨wd, hwd⟩ : ∃ x, x = w6.drew := ⟨_, rfl⟩
       have hod := HO6.out.drew
       rw [← hwd] at hod ⊢
       have HO7 := As.mk hod
       clear hwd hod HO6 z0 z2 z4 z5 z9 z13 b0 b1
       refine Run.rd (v := .agg (m.cs c).toArray) (a' := ?_) rfl rfl (yieldsIf_load_mid rfl 89 (.tmp 3) rfl w.heap.size 0 rfl (m.cs c) _ (fun W hW => hW.1) Tryz.underlying89 rfl size89) ?_ ?_
       rotate_left 1
       · simp only [zq1, zq2, zq3, Act.put, zq4, zq5, zq6]; rfl
       refine Run.pu (v := ?_) (a' := ?_) rfl rfl (Or.inl ⟨by rfl, ?_⟩) ?_ ?_; rotate_left 2; (focus (intro W; go_simp; with_reducible rfl)); (focus (simp only [zq1, zq2, zq3, Act.put, zq4, zq5, zq6]; rfl))
       refine Run.rd (v := ?_) (a' := ?_) rfl rfl (Or.inl ⟨by rfl, ?_⟩) ?_ ?_; rotate_left 2; (focus (rintro W ⟨hW1, hW2, hW3, hW4, hW5⟩; go_simp; with_reducible rfl)); (focus (simp only [zq1, zq2, zq3, Act.put, zq4, zq5, zq6]; rfl))
       refine Run.pu (v := ?_) (a' := ?_) rfl rfl (Or.inl ⟨by rfl, ?_⟩) ?_ ?_; rotate_left 2; (focus (intro W; go_simp; with_reducible rfl)); (focus (simp only [zq1, zq2, zq3, Act.put, zq4, zq5, zq6]; rfl))
       refine Run.rd (v := ?_) (a' := ?_) rfl rfl (Or.inl ⟨by rfl, ?_⟩) ?_ ?_; rotate_left 2; (focus (rintro W ⟨hW1, hW2, hW3, hW4, hW5⟩; go_simp; with_reducible rfl)); (focus (simp only [zq1, zq2, zq3, Act.put, zq4, zq5, zq6]; rfl))
       refine Run.pu (v := ?_) (a' := ?_) rfl rfl (Or.inl ⟨by rfl, ?_⟩) ?_ ?_; rotate_left 2; (focus (intro W; go_simp; with_reducible rfl)); (focus (simp only [zq1, zq2, zq3, Act.put, zq4, zq5, zq6]; rfl))
       refine Run.rd (v := ?_) (a' := ?_) rfl rfl (Or.inl ⟨by rfl, ?_⟩) ?_ ?_; rotate_left 2; (focus (rintro W ⟨hW1, hW2, hW3, hW4, hW5⟩; go_simp; with_reducible rfl)); (focus (simp only [zq1, zq2, zq3, Act.put, zq4, zq5, zq6]; rfl))
       refine Run.pu (v := ?_) (a' := ?_) rfl rfl (Or.inl ⟨by rfl, ?_⟩) ?_ ?_
       rotate_left 2
       · intro W; go_simp; simp only [E2.out]; with_reducible rfl
       · simp only [zq1, zq2, zq3, Act.put, zq4, zq5, zq6]; rfl
       refine Run.pu (v := ?_) (a' := ?_) rfl rfl (Or.inl ⟨by rfl, ?_⟩) ?_ ?_; rotate_left 2; (focus (intro W; go_simp; with_reducible rfl)); (focus (simp only [zq1, zq2, zq3, Act.put, zq4, zq5, zq6]; rfl))
       refine Run.rd (v := ?_) (a' := ?_) rfl rfl (Or.inl ⟨by rfl, ?_⟩) ?_ ?_; rotate_left 2; (focus (rintro W ⟨hW1, hW2, hW3, hW4, hW5⟩; go_simp; with_reducible rfl)); (focus (simp only [zq1, zq2, zq3, Act.put, zq4, zq5, zq6]; rfl))
       refine Run.pu (v := ?_) (a' := ?_) rfl rfl (Or.inl ⟨by rfl, ?_⟩) ?_ ?_; rotate_left 2; (focus (intro W; go_simp; with_reducible rfl)); (focus (simp only [zq1, zq2, zq3, Act.put, zq4, zq5, zq6]; rfl))
       refine Run.ef rfl (fun K hK => ?_)
       simp only [zq1, zq2, zq3]
       try simp only [zq4, zq5, zq6]
       refine go_st HO7.out 2 rfl rfl 89 (.tmp 6) (.tmp 138) rfl rfl (m.cs c) rfl rfl size89 (Md.one c m) ?_
       intro wx ho
       have HO8 := As.mk ho
       clear ho HO7
       go_wp2_with fail
       refine hK.out _ _ ⟨HO8.out.range me4, (HO8.out.get me4 13 (by simp [Md.cs])).trans (by simp [Md.cs, HAM.out]), HO8.out.get me0 0 (by simp [mb3]), HO8.out.get me3 4 (by simp [Opp.cs]), cell_below HO8.out.toBelow HUX.out⟩ ?_
       clear hK K
       refine Run.la rfl (fun K hK => ?_)
       simp only [zq1, zq2, zq3]
       try simp only [zq4, zq5, zq6]
       refine go_st HO8.out 1 rfl rfl 39 (.tmp 7) (.tmp 148) rfl rfl (An.cs ⟨0, 0, 0, ux, 0, 0, 0, 0⟩) rfl rfl size39 (An.one _) ?_
       intro wx ho
       have HO9 := As.mk ho
       clear ho HO8
       go_wp2_with fail
       refine hK.out _ _ ?_
       clear hK K
       refine Run.nil ?_
       try simp only [zq1, zq2, zq3]
       try simp only [zq4, zq5, zq6]
       go_wp2_with fail
       refine bodyPost_ret (results_c2 rfl _ rfl rfl (HO9.out.range me2) (HO9.out.range me1) Tryz.underlying89 rfl size89 Tryz.underlying39 rfl size39) rfl ⟨⟨m, ⟨0, 0, 0, ux, 0, 0, 0, 0⟩, rfl, HF.out, by have := HLN.out; omega, fun W _ h => h⟩, HO9.out.toBelow⟩
 · by_cases hn0 : n < 0
   · go_wp2_with (refine go_ld HO6.out me4 rfl 89 (.tmp 3) rfl rfl _ Tryz.underlying89 rfl size89 ?_)
     refine (HWR.out _ _).mono ?_
     rintro e wq ⟨rfl, hb⟩
     have HOw := As.mk (HO6.out.below hb)
     clear hb HO6
     go_wp2_with (first | (refine go_st HOw.out 2 rfl rfl 89 (.tmp 6) (.tmp 133) rfl rfl (m.cs c) rfl rfl size89 (Md.one c m) ?_; intro wa ho1; have HOa := As.mk ho1; clear ho1) | (refine go_st HOa.out 1 rfl rfl 39 (.tmp 7) (.tmp 134) rfl rfl (An.no 9).cs rfl rfl size39 (An.one _) ?_; intro wb ho1; have HOb := As.mk ho1; clear ho1))
     refine bodyPost_ret (results_c2 rfl _ rfl rfl (HOb.out.range me2) (HOb.out.range me1) Tryz.underlying89 rfl size89 Tryz.underlying39 rfl size39) rfl ⟨⟨m, An.no 9, rfl, HF.out, by have := HLN.out; omega, fun W _ h => h⟩, HOb.out.toBelow⟩
   · by_cases hn1 : (mb.2.1 : Int) ≤ n
     · go_wp2_with (refine go_ld HO6.out me4 rfl 89 (.tmp 3) rfl rfl _ Tryz.underlying89 rfl size89 ?_)
       refine (HWR.out _ _).mono ?_
       rintro e wq ⟨rfl, hb⟩
       have HOw := As.mk (HO6.out.below hb)
       clear hb HO6
       go_wp2_with (first | (refine go_st HOw.out 2 rfl rfl 89 (.tmp 6) (.tmp 133) rfl rfl (m.cs c) rfl rfl size89 (Md.one c m) ?_; intro wa ho1; have HOa := As.mk ho1; clear ho1) | (refine go_st HOa.out 1 rfl rfl 39 (.tmp 7) (.tmp 134) rfl rfl (An.no 9).cs rfl rfl size39 (An.one _) ?_; intro wb ho1; have HOb := As.mk ho1; clear ho1))
       refine bodyPost_ret (results_c2 rfl _ rfl rfl (HOb.out.range me2) (HOb.out.range me1) Tryz.underlying89 rfl size89 Tryz.underlying39 rfl size39) rfl ⟨⟨m, An.no 9, rfl, HF.out, by have := HLN.out; omega, fun W _ h => h⟩, HOb.out.toBelow⟩
     · have hfb := HFB.out
       obtain ⟨q, hq⟩ : ∃ q : Nat, n = (q : Int) := ⟨n.toNat, by omega⟩
       have hq1 : q < mb.2.1 := by omega
       obtain ⟨y, hy⟩ : ∃ y, y = mb.1 + q := ⟨_, rfl⟩
       have hyH : y < c.H := by omega
       have E2 := As.mk (show IntKind.i64.wrap ((mb.1 : Int) + n) = (y : Int) by rw [IntKind.wrap_i64]; omega)
       have E3 := As.mk (show wrap64 ((mb.1 : Int) + n) = (y : Int) by unfold wrap64; omega)
       obtain ⟨us, hus, hrow⟩ := HMD.out.mem
       obtain ⟨bm, om, hAm, hncm, hcm⟩ := uV_row hrow hus hH.1
       obtain ⟨ux, hux⟩ : ∃ x, us[y]? = some x := ⟨us[y]'(by omega), List.getElem?_eq_getElem _⟩
       have HUX := As.mk (hcm y _ (show (uV us)[y]? = some (.int .u8 ux) by simp [uV, hux]))
       have HCM := As.mk hcm
       have HUS := As.mk hus
       have HAM := As.mk hAm
       rw [Addr.add_mid] at HUX
       clear hrow hux hcm hus hfb hy hq hq1 hAm
       rw [HAM.out] at z13
       have hos : OwnS [] [(gb, EC 48 (mb3 mb)), (w.heap.size + 3, EC 39 An.z), (w.heap.size + 2, EC 89 Md.zs), (w.heap.size + 1, EC 42 (Opp.cs ⟨8, p, s, a, n, b⟩)), (w.heap.size, EC 89 (m.cs c))] (fun W => Row W (.slice Ar ro.length cr) ro.length (mbV ro)) w (w6.alloc (.cells #[] 5)) 5 1 (.slice (some ⟨w6.heap.size, 0, none⟩) 0 0) 0 [] := OwnS.made HO6.out (Nat.le_refl _) (by simp [maxLen]) rfl rfl
       have HOS := As.mk hos
       have z13a : (w6.alloc (.cells #[] 5)).cell? ⟨w.heap.size, 13, none⟩ = some (.slice (some ⟨bm, om, none⟩) c.H m.cm) := (hos.rest.get me4 13 (by simp [Md.cs])).trans (by simp [Md.cs, HAM.out])
       clear hos HO6 HUX
       go_wp2_with (first | (at_builtin; refine go_app w rfl _ _ 22 5 _ 1 1 rfl Tryz.underlying22 info5 rfl (by decide) (.slice (some ⟨w6.heap.size, 0, none⟩) 0 0) 0 [] rfl ⟨bm, om, none⟩ c.H m.cm (uV us) rfl HOS.out (by rw [uV_len, HUS.out, Nat.mul_one]) (fun i u hu => cell_below HOS.out.rest.toBelow (HCM.out i u hu)) (uV_one us) (by simp only [maxLen]; omega) (by omega) ?_; intro v1 w7 hw; simp only [Nat.zero_add, List.nil_append] at hw; obtain ⟨gy, cap, rfl, hcap, ho⟩ := hw.ec (by omega); have HO7 := As.mk ho; clear hw ho HOS z0 z2 z4 z5 z9 z13 z13a b0 b1) | (refine go_st1 HO7.out 5 rfl rfl 22 (.tmp 153) (.tmp 152) rfl 13 rfl (.slice (some ⟨gy, 0, none⟩) c.H cap) rfl rfl (by simp [Md.cs]) size22 ?_; intro w8 ho; have HO8 : As (Own [] [(gy, EC 5 (uV us)), (gb, EC 48 (mb3 mb)), (w.heap.size + 3, EC 39 An.z), (w.heap.size + 2, EC 89 Md.zs), (w.heap.size + 1, EC 42 (Opp.cs ⟨8, p, s, a, n, b⟩)), (w.heap.size, EC 89 ((m.setMem (some ⟨gy, 0, none⟩) cap).cs c))] (fun W => Row W (.slice Ar ro.length cr) ro.length (mbV ro)) w w8) := As.mk ho; have z13 : w8.cell? ⟨w.heap.size, 13, none⟩ = some (.slice (some ⟨gy, 0, none⟩) c.H cap) := ho.get me5 13 (by simp [Md.cs]); have b0 : w8.cell? ⟨gb, 0, none⟩ = some (.int .i64 (mb.1 : Int)) := ho.get me1 0 (by simp [mb3]); have z4 : w8.cell? ⟨w.heap.size + 1, 4, none⟩ = some (.int .i64 n) := ho.get me4 4 (by simp [Opp.cs]); have z5 : w8.cell? ⟨w.heap.size + 1, 5, none⟩ = some (.int .u8 b) := ho.get me4 5 (by simp [Opp.cs]); clear ho HO7) | (simp only [E3.out]) | (refine go_st1 HO8.out 0 rfl rfl 5 (.tmp 163) (.tmp 162) rfl y rfl (.int .u8 b) rfl rfl (by rw [uV_len, HUS.out]; exact hyH) size5 ?_; intro w9 ho; have HO9 : As (Own [] [(gy, EC 5 ((uV us).set y (.int .u8 b))), (gb, EC 48 (mb3 mb)), (w.heap.size + 3, EC 39 An.z), (w.heap.size + 2, EC 89 Md.zs), (w.heap.size + 1, EC 42 (Opp.cs ⟨8, p, s, a, n, b⟩)), (w.heap.size, EC 89 ((m.setMem (some ⟨gy, 0, none⟩) cap).cs c))] (fun W => Row W (.slice Ar ro.length cr) ro.length (mbV ro)) w w9) := As.mk ho; clear ho) | (refine go_ld HO9.out me5 rfl 89 (.tmp 3) rfl rfl _ Tryz.underlying89 rfl size89 ?_) | (refine go_st HO9.out 3 rfl rfl 89 (.tmp 6) (.tmp 164) rfl rfl ((m.setMem (some ⟨gy, 0, none⟩) cap).cs c) rfl rfl size89 (Md.one c _) ?_; intro wa ho1; have HOa := As.mk ho1; clear ho1) | (refine go_st HOa.out 2 rfl rfl 39 (.tmp 7) (.tmp 165) rfl rfl (An.cs ⟨0, 0, 0, 0, 0, 0, 0, 0⟩) rfl rfl size39 (An.one _) ?_; intro wb ho1; have HOb := As.mk ho1; clear ho1))
       trace_state
       refine bodyPost_ret (results_c2 rfl _ rfl rfl (HOb.out.range me3) (HOb.out.range me2) Tryz.underlying89 rfl size89 Tryz.underlying39 rfl size39) rfl ⟨⟨(m.setMem (some ⟨gy, 0, none⟩) cap), ⟨0, 0, 0, 0, 0, 0, 0, 0⟩, rfl, HF.out, by have := HLN.out; show m.l.length ≤ _; omega, fun W hW hm => ⟨hm.bl, hm.on, us.set y b, by rw [List.length_set]; exact HUS.out, by rw [show uV (us.set y b) = (uV us).set y (.int .u8 b) by rw [uV, List.map_set]; rfl]; exact ((HOb.out.freeze (n := c.H) hcap).ro W (fun k hk hx _ => hW k hx hk)).2⟩⟩, HOb.out.toBelow⟩
end Go.Proofs.YtmookafmdonopaaGreat.Top
