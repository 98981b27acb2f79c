/- slices.Insert walked: one mark. -/
import Derived.Test.YtmookafmdonopaaGreatM11
/- slices.Insert walked: one mark. -/
namespace Go.Proofs.YtmookafmdonopaaGreat.Top
open Go Go.RowKit
set_option linter.unusedVariables false
set_option linter.unusedSimpArgs false
attribute [local go_sem] max2_int min2_int max_two min_two max_three

theorem over_take {A ns : List Value} {o : Nat} (h : o ≤ A.length) : (over A o ns).take (o + ns.length) = A.take o ++ ns := by
  have hl : (A.take o).length = o := by rw [List.length_take]; omega
  unfold over
  rw [List.take_append_of_le_length (by rw [List.length_append, hl]; exact Nat.le_refl _)]
  exact List.take_of_length_le (by rw [List.length_append, hl]; exact Nat.le_refl _)
/-- copy into a block of the walk's own, as an equation -/
theorem copy_run {X : List Nat} {L : List (Nat × (Obj → Prop))} {R : World → Prop} {w0 w : World} (dT sT ty : TypeId) (elem sz : Nat) (hu : Tryz.prog.underlying dT = some (.slice elem)) (hsz : (Tryz.prog.info? elem).map (·.size) = some sz)
    (g off dLen dCap : Nat) (ad : Addr) (sLen sCap k : Nat) (e : TypeId) (cs ns : List Value) (H : Own X ((g, EX e cs) :: L) R w0 w) (hk : Nat.min sLen dLen = k) (hn : ns.length = k * sz)
    (hsrc : ∀ j v, ns[j]? = some v → w.cell? (ad.add j) = some v) (hfit : off + ns.length ≤ cs.length) (h1 : ∀ v ∈ ns, v.oneCell' = true) :
    ∃ w1, (Builtin.copy_ #[dT, sT] ty #[.slice (some ⟨g, off, none⟩) dLen dCap, .slice (some ad) sLen sCap]).run Tryz.prog w = .ok (.int .i64 k) w1 ∧ Own X ((g, EX e (over cs off ns)) :: L) R w0 w1 := by
  obtain ⟨x, hx, hxx⟩ := H.at_ _ _ List.mem_cons_self
  rw [show x = .cells cs.toArray e (0, 0) from hxx] at hx
  have hrun := run_copy_n Tryz.prog w dT sT ty elem sz g off dLen dCap ad sLen sCap cs.toArray e ns hu hsz hx (by rw [hk]; exact hn) hsrc (by simpa using hfit) h1
  rw [hk] at hrun
  exact ⟨_, hrun, H.setRow⟩
/-- a goal that the walk lets stand -/
def Hold (p : Prop) : Prop := p
theorem sz99 : (Tryz.prog.info? 99).map (·.size) = some 2 := by kernel_rfl
set_option maxHeartbeats 1000000 in
theorem Insert_end (L : List (Nat × (Obj → Prop))) (R : World → Prop) (w0 w : World) (v : Value) (n gv : Nat) (xs : List Value) (u1 u2 : Value) (H : OwnS [] L R w0 w 99 2 v n xs) (hv : (gv, EC 99 [u1, u2]) ∈ L) (hn : n ≤ 100000) (h1 : ∀ u ∈ [u1, u2], u.oneCell' = true) :
    Calls Tryz.prog 120 #[v, .int .i64 n, .slice (some ⟨gv, 0, none⟩) 1 1] w fun e w' => ∃ v', e = .returned v' ∧ OwnS [] L R w0 w' 99 2 v' (n + 1) (xs ++ [u1, u2]) := by
  obtain ⟨A, c, rfl⟩ := H.slice
  have HO := As.mk H
  have z1 := H.rest.get hv 0 (by simp)
  have z2 := H.rest.get hv 1 (by simp)
  have HN := As.mk (show ∀ j u, [u1, u2][j]? = some u → w.cell? ((⟨gv, 0, none⟩ : Addr).add j) = some u from fun j u hj => by
    rcases j with _ | _ | j
    · simp at hj; subst hj; exact z1
    · simp at hj; subst hj; exact z2
    · simp at hj)
  have hnc : n ≤ c := by
    rcases H.2 with ⟨e, e2, _⟩ | ⟨g, cap, e, _, h3⟩
    · injection e with _ _ e3; omega
    · obtain ⟨o, ho, cur, rfl, a1, a2, a3, a4⟩ := h3.at_ _ _ List.mem_cons_self
      injection e with _ _ e3
      omega
  clear H z1 z2
  go_enter Tryz.func120, Tryz.ntmps120
  go_wp2_with (at_builtin; refine go_app w0 rfl _ _ 81 99 _ 2 16 rfl Tryz.underlying81 info99 rfl (by decide) (.slice A n c) n xs rfl ⟨gv, 0, none⟩ 1 1 [u1, u2] rfl HO.out rfl HN.out h1 (by simp [maxLen]; omega) (by omega) ?_; intro v1 w1 hw1; have HW := As.mk hw1; clear hw1)
  all_goals (go_ret; exact ⟨_, rfl, HW.out⟩)
set_option maxHeartbeats 1000000 in
set_option maxRecDepth 100000 in
theorem Insert_grow (L : List (Nat × (Obj → Prop))) (R : World → Prop) (w0 w : World) (g cap n i gv : Nat) (cs : List Value) (u1 u2 : Value) (H : Own [] ((g, EX 99 cs) :: L) R w0 w) (hc : cs.length = cap * 2) (hnc : n = cap) (hi : i < n) (hv : (gv, EC 99 [u1, u2]) ∈ L) (hn : n ≤ 100000) (h1 : ∀ u ∈ [u1, u2], u.oneCell' = true) (h2 : ∀ u ∈ cs, u.oneCell' = true) :
    Calls Tryz.prog 120 #[.slice (some ⟨g, 0, none⟩) n cap, .int .i64 i, .slice (some ⟨gv, 0, none⟩) 1 1] w fun e w' => ∃ v', e = .returned v' ∧ OwnS [] L R w0 w' 99 2 v' (n + 1) (cs.take (i * 2) ++ [u1, u2] ++ cs.drop (i * 2)) := by
  subst hnc
  have HO := As.mk H
  have HV := As.mk (show ∀ (W : World) (L2 : List (Nat × (Obj → Prop))), Own [] (L2 ++ L) R w0 W → ∀ j u, [u1, u2][j]? = some u → W.cell? ((⟨gv, 0, none⟩ : Addr).add j) = some u from fun W L2 h j u hj => by
    have y1 := h.get (List.mem_append_right _ hv) 0 (by simp)
    have y2 := h.get (List.mem_append_right _ hv) 1 (by simp)
    rcases j with _ | _ | j
    · simp at hj; subst hj; exact y1
    · simp at hj; subst hj; exact y2
    · simp at hj)
  have HG := As.mk (show ∀ (W : World) (L1 L2 : List (Nat × (Obj → Prop))), Own [] (L1 ++ (g, EX 99 cs) :: L2) R w0 W → ∀ (o j : Nat) (u : Value), cs[o + j]? = some u → W.cell? ((⟨g, o, none⟩ : Addr).add j) = some u from fun W L1 L2 h o j u hj => by
    have h9 : Own [] ((g, EC 99 cs) :: (L1 ++ L2)) R w0 W := (h.perm List.perm_middle.symm).weak EX.ec
    have y1 := h9.get List.mem_cons_self (o + j) (List.getElem?_eq_some_iff.1 hj).1
    rw [Addr.add_lit, y1, hj])
  have c1 : ((i : Int) = (n : Int)) = False := eq_false (by omega)
  have c2 : (i = n) = False := eq_false (by omega)
  clear H
  obtain ⟨k, hk⟩ : ∃ k, i + k = n + 1 := ⟨n + 1 - i, by omega⟩
  have hki : (n : Int) + 1 - (i : Int) = (k : Int) := by omega
  have hk2 : 2 ≤ k := by omega
  have hol : (cs.take (i * 2)).length = i * 2 := by rw [List.length_take, hc]; omega
  have HOL := As.mk (And.intro hol (show ∀ j u, (cs.take (i * 2))[j]? = some u → w.cell? ((⟨g, 0, none⟩ : Addr).add j) = some u from fun j u hj => by
    rw [List.getElem?_take] at hj
    split at hj
    · exact HG.out w [] L HO.out 0 j u (by rw [Nat.zero_add]; exact hj)
    · cases hj))
  clear hol
  go_enter Tryz.func120, Tryz.ntmps120
  go_wp2_with (at_builtin; refine go_appz rfl _ _ 81 3 rfl 99 _ 2 16 .i64 .i64 Tryz.underlying81 Tryz.underlying3 info99 rfl (by decide) ⟨g, 0, none⟩ i n (cs.take (i * 2)) rfl HOL.out.1 HOL.out.2 k (k : Int) rfl rfl (by omega) (by omega) (by omega) (by omega) (by unfold maxLen; omega) HO.out ?_; intro g' cap' cs' w1 q1 q2 q3 q4 q5 hw1 hb1; have HW := As.mk (And.intro q1 (And.intro q2 (And.intro q3 (And.intro q4 (And.intro hw1 hb1))))); clear q1 q2 q3 q4 q5 hw1 hb1; rw [hk]; rw [hk] at HW; have HK := As.mk (And.intro hk hki); clear hk hki; change Hold _)
  obtain ⟨q1, q2, q3, q4, hw1, hb1⟩ := HW.out
  have hlen1 : (over cs' (i * 2) [u1, u2]).length = cap' * 2 := by rw [over_len (by simp; omega)]; exact q3
  have HW1 := As.mk hw1
  have Q4 := As.mk q4
  have HV1 := As.mk (HV.out w1 [(g', EX 99 cs'), (g, EX 99 cs)] hw1)
  have HL1 := As.mk hlen1
  have Q3 := As.mk q3
  have d1 : ¬ cap' = i := by omega
  have d2 : i < n + 1 := by omega
  have d3 : ¬ cap' = i + 1 := by omega
  have d4 : cap' ≤ 9223372036854775807 := by unfold maxLen at q2; omega
  clear hw1 hb1 q4 HW hlen1 q3
  unfold Hold
  refine Or.inl ?_
  unfold wpList
  obtain ⟨w2, r2, hw2⟩ := copy_run 81 81 3 99 2 Tryz.underlying81 sz99 g' (i * 2) (n + 1 - i) (cap' - i) ⟨gv, 0, none⟩ 1 1 1 99 cs' [u1, u2] HW1.out (Nat.min_eq_left (by omega)) rfl HV1.out (by rw [Q3.out]; simp only [List.length_cons, List.length_nil]; omega) h1
  obtain ⟨i1, hi1⟩ : ∃ i1, i1 = i + 1 := ⟨_, rfl⟩
  obtain ⟨w3, r3, hw3⟩ := copy_run 81 81 3 99 2 Tryz.underlying81 sz99 g' (i1 * 2) (n + 1 - i1) (cap' - i1) ⟨g, i * 2, none⟩ (n - i) (n - i) (n - i) 99 (over cs' (i * 2) [u1, u2]) (cs.drop (i * 2)) hw2.drew (Nat.min_eq_left (by omega)) (by rw [List.length_drop, hc]; omega)
    (fun j u hj => HG.out _ [(g', EX 99 (over cs' (i * 2) [u1, u2]))] L hw2.drew (i * 2) j u (by rwa [List.getElem?_drop] at hj)) (by rw [HL1.out, List.length_drop, hc]; omega) (fun u hu => h2 u (List.mem_of_mem_drop hu))
  have HW3 := As.mk hw3
  have HI1 := As.mk hi1
  have e1 : IntKind.i64.wrap ((i : Int) + 1) = (i1 : Int) := by rw [iw64 _ (by omega) (by omega)]; omega
  have e2 : ((i1 : Int) ≤ (n : Int) + 1) = True := eq_true (by omega)
  have e3 : (cap' = i1) = False := eq_false (by omega)
  have e4 : (n = i) = False := eq_false (by omega)
  have e5 : ((i : Int) ≤ (n : Int)) = True := eq_true (by omega)
  have e6 : (0 : Int) ≤ (i1 : Int) := by omega
  clear hw2 hw3 hi1
  go_wp2_with fail
  refine rgn [(0, 1), (1, 1), (2, 1), (3, 1), (4, 1), (5, 1), (6, 1), (7, 1), (8, 3)] [8] (fun W => True) (by kernel_rfl) (by kernel_rfl) (fun _ _ _ d _ h => by cases d <;> exact h) trivial ?_
  iterate 8 (refine Run.pu (v := ?_) (a' := ?_) rfl rfl (Or.inl ⟨by rfl, ?_⟩) ?_ ?_; rotate_left 2; (focus (intro W; go_simp; with_reducible rfl)); (focus (simp only [Act.put, List.setIfInBounds_toArray, List.set_cons_zero, List.set_cons_succ]; rfl)))
  refine Run.la rfl (fun K hK => ?_)
  simp only [List.getElem_toArray, List.getElem_cons_succ, List.getElem_cons_zero]
  go_wp2_with fail
  refine hK.out _ _ ?_
  clear hK K
  refine Run.nil ?_
  go_wp2_with fail
  go_ret
  refine ⟨_, rfl, OwnS.ofWhole HW3.out.drop2 q1 q2 ?_ ?_⟩
  · rw [over_len (by rw [HL1.out, List.length_drop, hc, HI1.out]; omega), HL1.out]
  · have t1 : (over cs' (i * 2) [u1, u2]).take (i1 * 2) = cs'.take (i * 2) ++ [u1, u2] := by
      have h9 := over_take (A := cs') (ns := [u1, u2]) (o := i * 2) (by rw [Q3.out]; omega)
      rw [show i * 2 + [u1, u2].length = i1 * 2 by rw [HI1.out]; simp; omega] at h9
      exact h9
    have t2 := over_take (A := over cs' (i * 2) [u1, u2]) (ns := cs.drop (i * 2)) (o := i1 * 2) (by rw [HL1.out, HI1.out]; omega)
    rw [show i1 * 2 + (cs.drop (i * 2)).length = (n + 1) * 2 by rw [List.length_drop, hc, HI1.out]; omega, t1, Q4.out] at t2
    exact t2
theorem sizeOf99 (w : World) : (Go.sizeOf 99).run Tryz.prog w = .ok 2 w := by
  obtain ⟨i0, hi, hzz⟩ := Option.map_eq_some_iff.1 sz99
  simp [Go.sizeOf, typeInfo, hi, hzz]
theorem overlaps_no (w : World) (gv g o lb cb : Nat) (cur cur2 : Array Value) (hne : gv ≠ g) (h1 : w.heap[gv]? = some (.cells cur 99 (0, 0))) (h2 : w.heap[g]? = some (.cells cur2 99 (0, 0))) (h3 : 0 < cur2.size) :
    (callFunc 130 #[.slice (some ⟨gv, 0, none⟩) 1 1, .slice (some ⟨g, o, none⟩) lb cb]).run Tryz.prog w = .ok (.value (.bool false)) w := by
  rw [run_callFunc_extern Tryz.func130 (by kernel_rfl) (by kernel_rfl) (by kernel_rfl) (e := Extern.SlicesOverlaps.overlaps #[81, 81] #[4]) (by kernel_rfl),
    Lib.run_overlaps_apart w 81 4 99 Tryz.underlying81 2 sizeOf99 ⟨gv, 0, none⟩ ⟨g, o, none⟩ 1 1 lb cb hne 99 99 cur.size cur2.size (by simp [World.shape?, h1]) (by simp [World.shape?, h2]) (by omega) (by simp [World.frozen?, h1]) (by simp [World.frozen?, h1])]
  rfl
set_option maxHeartbeats 1000000 in
set_option maxRecDepth 100000 in
theorem Insert_shift (L : List (Nat × (Obj → Prop))) (R : World → Prop) (w0 w : World) (g cap n i gv : Nat) (cs : List Value) (u1 u2 : Value) (H : Own [] ((g, EX 99 cs) :: L) R w0 w) (hc : cs.length = cap * 2) (hnc : n < cap) (hcm : cap ≤ maxLen) (hi : i < n) (hv : (gv, EC 99 [u1, u2]) ∈ L) (hn : n ≤ 100000) (h1 : ∀ u ∈ [u1, u2], u.oneCell' = true) (h2 : ∀ u ∈ cs.take (n * 2), u.oneCell' = true) :
    Calls Tryz.prog 120 #[.slice (some ⟨g, 0, none⟩) n cap, .int .i64 i, .slice (some ⟨gv, 0, none⟩) 1 1] w fun e w' => ∃ v', e = .returned v' ∧ OwnS [] L R w0 w' 99 2 v' (n + 1) ((cs.take (n * 2)).take (i * 2) ++ [u1, u2] ++ (cs.take (n * 2)).drop (i * 2)) := by
  have hne : gv ≠ g := by
    rintro rfl
    exact (List.nodup_cons.1 H.nd).1 (List.mem_map.2 ⟨_, hv, rfl⟩)
  obtain ⟨ov, hov, cur, sp, rfl, hcur⟩ := H.at_ _ _ (List.mem_cons_of_mem _ hv)
  obtain ⟨og, hog, hogx⟩ := H.at_ _ _ List.mem_cons_self
  rw [show og = .cells cs.toArray 99 (0, 0) from hogx] at hog
  have hovl := fun o lb cb => overlaps_no w gv g o lb cb cur cs.toArray hne hov hog (by rw [List.size_toArray, hc]; omega)
  have HOV := As.mk hovl
  obtain ⟨i1, hi1⟩ : ∃ i1, i1 = i + 1 := ⟨_, rfl⟩
  have hlen1 : ((cs.take (n * 2)).drop (i * 2)).length = (n - i) * 2 := by rw [List.length_drop, List.length_take, hc]; omega
  obtain ⟨w2, r2, hw2⟩ := copy_run 81 81 3 99 2 Tryz.underlying81 sz99 g (i1 * 2) (n + 1 - i1) (cap - i1) ⟨g, i * 2, none⟩ (n + 1 - i) (cap - i) (n - i) 99 cs ((cs.take (n * 2)).drop (i * 2)) H.drew (by rw [hi1]; exact (Nat.min_eq_right (by omega)).trans (by omega)) hlen1
    (fun j u hj => by
      have h9 : Own [] ((g, EC 99 cs) :: L) R w0 w := H.weak EX.ec
      have h8 : cs[i * 2 + j]? = some u := by
        rw [List.getElem?_drop, List.getElem?_take] at hj
        split at hj
        · exact hj
        · cases hj
      rw [Addr.add_lit]
      have y1 := h9.get List.mem_cons_self (i * 2 + j) (List.getElem?_eq_some_iff.1 h8).1
      exact y1.trans h8) (by rw [hlen1, hc]; omega) (fun u hu => h2 u (List.mem_of_mem_drop hu))
  have hl2 : (over cs (i1 * 2) ((cs.take (n * 2)).drop (i * 2))).length = cap * 2 := by rw [over_len (by rw [hlen1, hc]; omega)]; exact hc
  obtain ⟨w3, r3, hw3⟩ := copy_run 81 81 3 99 2 Tryz.underlying81 sz99 g (i * 2) (n + 1 - i) (cap - i) ⟨gv, 0, none⟩ 1 1 1 99 (over cs (i1 * 2) ((cs.take (n * 2)).drop (i * 2))) [u1, u2] hw2 (Nat.min_eq_left (by omega)) rfl
    (fun j u hj => by
      have y1 := hw2.get (List.mem_cons_of_mem _ hv) 0 (by simp)
      have y2 := hw2.get (List.mem_cons_of_mem _ hv) 1 (by simp)
      rcases j with _ | _ | j
      · simp at hj; subst hj; exact y1
      · simp at hj; subst hj; exact y2
      · simp at hj) (by rw [hl2]; simp only [List.length_cons, List.length_nil]; omega) h1
  have HW3 := As.mk hw3
  have hl3 : (over (over cs (i1 * 2) ((cs.take (n * 2)).drop (i * 2))) (i * 2) [u1, u2]).length = cap * 2 := by rw [over_len (by rw [hl2]; simp only [List.length_cons, List.length_nil]; omega)]; exact hl2
  have HL := As.mk (And.intro hlen1 (And.intro hl2 hl3))
  have HI1 := As.mk hi1
  have e1 : IntKind.i64.wrap ((i : Int) + 1) = (i1 : Int) := by rw [iw64 _ (by omega) (by omega)]; omega
  have e1' : (i : Int) + 1 = (i1 : Int) := by omega
  have e1w : IntKind.i64.wrap (i1 : Int) = (i1 : Int) := iw64 _ (by omega) (by omega)
  have e2 : ((i1 : Int) ≤ (n : Int) + 1) = True := eq_true (by omega)
  have e3 : (cap = i1) = False := eq_false (by omega)
  have e4 : (cap = i) = False := eq_false (by omega)
  have e5 : ((i : Int) ≤ (n : Int) + 1) = True := eq_true (by omega)
  have e6 : (0 : Int) ≤ (i1 : Int) := by omega
  have e7 : cap ≤ 9223372036854775807 := by unfold maxLen at hcm; omega
  have c1 : ((i : Int) = (n : Int)) = False := eq_false (by omega)
  have c2 : (i = n) = False := eq_false (by omega)
  have c3 : ((cap : Int) < (n : Int) + 1) = False := eq_false (by omega)
  clear H hw2 hw3 hi1 hov hog hlen1 hl2 hl3 hcur hovl
  go_enter Tryz.func120, Tryz.ntmps120
  go_wp2_with (simp only [HOV.out])
  refine rgn [(0, 1), (1, 1), (2, 1), (3, 1), (4, 1), (5, 1), (6, 1), (7, 1), (8, 3)] [8] (fun W => True) (by kernel_rfl) (by kernel_rfl) (fun _ _ _ d _ h => by cases d <;> exact h) trivial ?_
  iterate 8 (refine Run.pu (v := ?_) (a' := ?_) rfl rfl (Or.inl ⟨by rfl, ?_⟩) ?_ ?_; rotate_left 2; (focus (intro W; go_simp; with_reducible rfl)); (focus (simp only [Act.put, List.setIfInBounds_toArray, List.set_cons_zero, List.set_cons_succ]; rfl)))
  refine Run.la rfl (fun K hK => ?_)
  simp only [List.getElem_toArray, List.getElem_cons_succ, List.getElem_cons_zero]
  go_wp2_with fail
  refine hK.out _ _ ?_
  clear hK K
  refine Run.nil ?_
  go_wp2_with fail
  go_ret
  refine ⟨_, rfl, OwnS.ofWhole HW3.out (by omega) hcm HL.out.2.2 ?_⟩
  obtain ⟨g1, g2, g3⟩ := HL.out
  have t1 := over_take (A := over cs (i1 * 2) ((cs.take (n * 2)).drop (i * 2))) (ns := [u1, u2]) (o := i * 2) (by rw [g2]; omega)
  have t2 : (over cs (i1 * 2) ((cs.take (n * 2)).drop (i * 2))).take (i * 2) = cs.take (i * 2) := by
    unfold over
    rw [List.append_assoc, List.take_append_of_le_length (by rw [List.length_take, hc, HI1.out]; omega), List.take_take, Nat.min_eq_left (by rw [HI1.out]; omega)]
  rw [t2] at t1
  have t3 : (over cs (i1 * 2) ((cs.take (n * 2)).drop (i * 2))).take ((n + 1) * 2) = cs.take (i1 * 2) ++ (cs.take (n * 2)).drop (i * 2) := by
    have h9 := over_take (A := cs) (ns := (cs.take (n * 2)).drop (i * 2)) (o := i1 * 2) (by rw [hc, HI1.out]; omega)
    rw [g1, show i1 * 2 + (n - i) * 2 = (n + 1) * 2 by rw [HI1.out]; omega] at h9
    exact h9
  have hi2 : i * 2 + [u1, u2].length = i1 * 2 := by rw [HI1.out]; simp; omega
  have t4 : ∀ (A : List Value), A.length = cap * 2 → (over A (i * 2) [u1, u2]).take ((n + 1) * 2) = A.take (i * 2) ++ [u1, u2] ++ (A.take ((n + 1) * 2)).drop (i1 * 2) := by
    intro A hA
    unfold over
    rw [List.take_append, List.take_of_length_le (by rw [List.length_append, List.length_take, hA, Nat.min_eq_left (by omega), hi2, HI1.out]; omega), List.length_append, List.length_take, hA, Nat.min_eq_left (by omega), hi2, List.take_drop]
    congr 3
    rw [HI1.out]; omega
  rw [t4 _ g2, t2, t3]
  have t5 : (cs.take (n * 2)).take (i * 2) = cs.take (i * 2) := by rw [List.take_take, Nat.min_eq_left (by omega)]
  have t6 : (cs.take (i1 * 2) ++ (cs.take (n * 2)).drop (i * 2)).drop (i1 * 2) = (cs.take (n * 2)).drop (i * 2) := by
    have hl : (cs.take (i1 * 2)).length = i1 * 2 := by rw [List.length_take, hc, HI1.out]; omega
    rw [List.drop_append, hl, Nat.sub_self, List.drop_of_length_le (by omega)]
    rfl
  rw [t5, t6]
/-- a mark is put in -/
theorem slices_Insert (L : List (Nat × (Obj → Prop))) (R : World → Prop) (w0 w : World) (v : Value) (n i gv : Nat) (xs : List Value) (u1 u2 : Value) (H : OwnS [] L R w0 w 99 2 v n xs) (hv : (gv, EC 99 [u1, u2]) ∈ L) (hi : i ≤ n) (hn : n ≤ 100000) (h1 : ∀ u ∈ [u1, u2], u.oneCell' = true) (h2 : ∀ u ∈ xs, u.oneCell' = true) :
    Calls Tryz.prog 120 #[v, .int .i64 i, .slice (some ⟨gv, 0, none⟩) 1 1] w fun e w' => ∃ v', e = .returned v' ∧ OwnS [] L R w0 w' 99 2 v' (n + 1) (xs.take (i * 2) ++ [u1, u2] ++ xs.drop (i * 2)) := by
  have hxl := H.1
  rcases Nat.eq_or_lt_of_le hi with rfl | hi
  · rw [List.take_of_length_le (by omega), List.drop_of_length_le (by omega), List.append_nil]
    exact Insert_end L R w0 w v i gv xs u1 u2 H hv hn h1
  · obtain ⟨g, cap, cs, rfl, hnc, hcm, hcl, hct, hw⟩ := H.whole (by omega)
    rcases Nat.eq_or_lt_of_le hnc with e | hlt
    · have hcs : cs = xs := by rw [← hct, List.take_of_length_le (by omega)]
      subst hcs
      exact Insert_grow L R w0 w g cap n i gv cs u1 u2 hw hcl e hi hv hn h1 h2
    · subst hct
      exact Insert_shift L R w0 w g cap n i gv cs u1 u2 hw hcl hlt hcm hi hv hn h1 h2
end Go.Proofs.YtmookafmdonopaaGreat.Top
/- slices.Delete walked: one mark; side.Put, side.Take. -/
namespace Go.Proofs.YtmookafmdonopaaGreat.Top
open Go Go.RowKit
set_option linter.unusedVariables false
set_option linter.unusedSimpArgs false
attribute [local go_sem] max2_int min2_int max_two min_two max_three

theorem Own.storeAt {X : List Nat} {L : List (Nat × (Obj → Prop))} {R : World → Prop} {w0 w : World} {g e o : Nat} {cs ns : List Value} (H : Own X ((g, EX e cs) :: L) R w0 w) (hfit : o + ns.length ≤ cs.length) (h1 : ∀ v ∈ ns, v.oneCell' = true) :
    ∃ w1, (storeCells ⟨g, o, none⟩ ns).run Tryz.prog w = .ok () w1 ∧ Own X ((g, EX e (over cs o ns)) :: L) R w0 w1 := by
  obtain ⟨x, hx, hxx⟩ := H.at_ _ _ List.mem_cons_self
  rw [show x = .cells cs.toArray e (0, 0) from hxx] at hx
  have hst := run_storeCells_at Tryz.prog g o e ns 0 cs.toArray w hx (by simpa using hfit) h1
  simp only [Nat.add_zero] at hst
  exact ⟨_, hst, H.setRow (cs' := over cs o ns)⟩
theorem append_run {X : List Nat} {L : List (Nat × (Obj → Prop))} {R : World → Prop} {w0 w : World} (t ty e sz : Nat) (hu : Tryz.prog.underlying t = some (.slice e)) (hsz : (Tryz.prog.info? e).map (·.size) = some sz)
    (g sLen sCap : Nat) (ad : Addr) (m c : Nat) (cs ns : List Value) (H : Own X ((g, EX e cs) :: L) R w0 w) (hn : ns.length = m * sz)
    (hsrc : ∀ j v, ns[j]? = some v → w.cell? (ad.add j) = some v) (hfit : sLen * sz + ns.length ≤ cs.length) (hroom : sLen + m ≤ sCap) (h1 : ∀ v ∈ ns, v.oneCell' = true) :
    ∃ w1, (Builtin.append_ #[t, t] ty #[.slice (some ⟨g, 0, none⟩) sLen sCap, .slice (some ad) m c]).run Tryz.prog w = .ok (.slice (some ⟨g, 0, none⟩) (sLen + m) sCap) w1 ∧ Own X ((g, EX e (over cs (sLen * sz) ns)) :: L) R w0 w1 := by
  obtain ⟨w1, hst, hw⟩ := H.storeAt hfit h1
  obtain ⟨i, hi, hisz⟩ := Option.map_eq_some_iff.1 hsz
  have hfc := run_firstCells_some (P := Tryz.prog) w i.size m ad m c ns (by rw [hisz]; exact hn) hsrc
  refine ⟨w1, ?_, hw⟩
  have hadd : (⟨g, 0, none⟩ : Addr).add (sLen * i.size) = ⟨g, sLen * sz, none⟩ := by rw [hisz, Addr.add_lit, Nat.zero_add]
  simp [Builtin.append_, run_underlying hu, sizeOf, typeInfo, hi, Builtin.lenOf, hroom, hfc, hadd, hst]
theorem zero99 (w : World) : (zeroValue 99).run Tryz.prog w = .ok (.agg #[.int .i64 0, .int .i64 0]) w := by
  obtain ⟨i0, hi, hzz⟩ := Option.map_eq_some_iff.1 info99
  simp only [Prod.mk.injEq] at hzz
  simp [zeroValue, typeInfo, hi, hzz.1]
theorem clear_run {X : List Nat} {L : List (Nat × (Obj → Prop))} {R : World → Prop} {w0 w : World} (ty g o c : Nat) (cs : List Value) (H : Own X ((g, EX 99 cs) :: L) R w0 w) (hfit : o + 2 ≤ cs.length) :
    ∃ w1, (Builtin.clear_ #[81] ty #[.slice (some ⟨g, o, none⟩) 1 c]).run Tryz.prog w = .ok (.tuple #[]) w1 ∧ Own X ((g, EX 99 (over cs o [.int .i64 0, .int .i64 0])) :: L) R w0 w1 := by
  obtain ⟨w1, hst, hw⟩ := H.storeAt (o := o) (ns := [.int .i64 0, .int .i64 0]) hfit (by intro v hv; simp at hv; subst hv; rfl)
  refine ⟨w1, ?_, hw⟩
  have hz : (Builtin.zeroCells (Value.agg #[.int .i64 0, .int .i64 0]).cells 1).toList = [.int .i64 0, .int .i64 0] := by kernel_rfl
  simp [Builtin.clear_, run_underlying Tryz.underlying81, zero99, hz, hst]
set_option maxHeartbeats 1000000 in
set_option maxRecDepth 100000 in
theorem Delete_w (L : List (Nat × (Obj → Prop))) (R : World → Prop) (w0 w : World) (g cap n i : Nat) (cs : List Value) (H : Own [] ((g, EX 99 cs) :: L) R w0 w) (hc : cs.length = cap * 2) (hnc : n ≤ cap) (hcm : cap ≤ maxLen) (hi : i < n) (hn : n ≤ 100000) (h2 : ∀ u ∈ cs.take (n * 2), u.oneCell' = true) :
    Calls Tryz.prog 115 #[.slice (some ⟨g, 0, none⟩) n cap, .int .i64 i, .int .i64 ((i : Int) + 1)] w fun e w' => ∃ v', e = .returned v' ∧ OwnS [] L R w0 w' 99 2 v' (n - 1) ((cs.take (n * 2)).take (i * 2) ++ (cs.take (n * 2)).drop (i * 2 + 2)) := by
  obtain ⟨i1, hi1⟩ : ∃ i1, i1 = i + 1 := ⟨_, rfl⟩
  have e0 : (i : Int) + 1 = (i1 : Int) := by omega
  rw [e0]
  obtain ⟨ad, had⟩ : ∃ ad : Addr, ad = if cap = i1 then ⟨g, 0, none⟩ else ⟨g, i1 * 2, none⟩ := ⟨_, rfl⟩
  have hlen1 : ((cs.take (n * 2)).drop (i1 * 2)).length = (n - i1) * 2 := by rw [List.length_drop, List.length_take, hc]; omega
  obtain ⟨w2, r2, hw2⟩ := append_run 81 81 99 2 Tryz.underlying81 sz99 g i cap ad (n - i1) (cap - i1) cs ((cs.take (n * 2)).drop (i1 * 2)) H.drew hlen1
    (fun j u hj => by
      have h9 : Own [] ((g, EC 99 cs) :: L) R w0 w := H.weak EX.ec
      have hjl := (List.getElem?_eq_some_iff.1 hj).1
      rw [hlen1] at hjl
      have h8 : cs[i1 * 2 + j]? = some u := by
        rw [List.getElem?_drop, List.getElem?_take] at hj
        split at hj
        · exact hj
        · cases hj
      rw [had, if_neg (by omega), Addr.add_lit]
      have y1 := h9.get List.mem_cons_self (i1 * 2 + j) (List.getElem?_eq_some_iff.1 h8).1
      exact y1.trans h8) (by rw [hlen1, hc]; omega) (by omega) (fun u hu => h2 u (List.mem_of_mem_drop hu))
  have hl2 : (over cs (i * 2) ((cs.take (n * 2)).drop (i1 * 2))).length = cap * 2 := by rw [over_len (by rw [hlen1, hc]; omega)]; exact hc
  obtain ⟨n1, hn1⟩ : ∃ n1, n1 = n - 1 := ⟨_, rfl⟩
  rw [show i + (n - i1) = n1 by omega] at r2
  obtain ⟨w3, r3, hw3⟩ := clear_run 0 g (n1 * 2) (cap - n1) _ hw2 (by rw [hl2]; omega)
  have hl3 : (over (over cs (i * 2) ((cs.take (n * 2)).drop (i1 * 2))) (n1 * 2) [.int .i64 0, .int .i64 0]).length = cap * 2 := by rw [over_len (by rw [hl2]; simp only [List.length_cons, List.length_nil]; omega)]; exact hl2
  have HW3 := As.mk hw3
  have HF : As (OwnS [] L R w0 w3 99 2 (.slice (some ⟨g, 0, none⟩) n1 cap) n1 ((cs.take (n * 2)).take (i * 2) ++ (cs.take (n * 2)).drop (i * 2 + 2))) := by
    refine As.mk (OwnS.ofWhole hw3 (by omega) hcm hl3 ?_)
    have t0 := over_take (A := cs) (ns := (cs.take (n * 2)).drop (i1 * 2)) (o := i * 2) (by omega)
    rw [hlen1, show i * 2 + (n - i1) * 2 = n1 * 2 by omega] at t0
    have t1 : ∀ (A ns : List Value), A.length = cap * 2 → (over A (n1 * 2) ns).take (n1 * 2) = A.take (n1 * 2) := by
      intro A ns hA
      have hl : (A.take (n1 * 2)).length = n1 * 2 := by rw [List.length_take, hA]; omega
      unfold over
      rw [List.append_assoc, List.take_append_of_le_length (by rw [hl]; exact Nat.le_refl _), List.take_of_length_le (by rw [hl]; exact Nat.le_refl _)]
    rw [t1 _ _ hl2, t0, List.take_take, Nat.min_eq_left (by omega), show i * 2 + 2 = i1 * 2 by omega]
  have HI := As.mk (And.intro hi1 hn1)
  have b0 : ((i : Int) == (i1 : Int)) = false := beqF (by omega)
  have b1 : ((i : Int) = (i1 : Int)) = False := eq_false (by omega)
  have b2 : (i = i1) = False := eq_false (by omega)
  have b3 : ((i1 : Int) ≤ (n : Int)) = True := eq_true (by omega)
  have b4 : ((i : Int) ≤ (n : Int)) = True := eq_true (by omega)
  have b5 : (cap = n1) = False := eq_false (by omega)
  have b6 : n1 ≤ n := by omega
  have b7 : n - n1 = 1 := by omega
  have b8 : IntKind.i64.wrap (i1 : Int) = (i1 : Int) := iw64 _ (by omega) (by omega)
  have b9 : IntKind.i64.wrap (i : Int) = (i : Int) := iw64 _ (by omega) (by omega)
  have b10 : cap ≤ 9223372036854775807 := by unfold maxLen at hcm; omega
  have b11 : (0 : Int) ≤ (i1 : Int) := by omega
  have b12 : (0 : Int) ≤ (i : Int) := by omega
  have b13 : ((i : Int) ≤ (cap : Int)) = True := eq_true (by omega)
  have b14 : ((i : Int) ≤ (i1 : Int)) = True := eq_true (by omega)
  have b15 : ((n : Int) ≤ (cap : Int)) = True := eq_true (by omega)
  have b16 : (i1 ≤ n) = True := eq_true (by omega)
  have b17 : (i ≤ i1) = True := eq_true (by omega)
  have b18 : (n ≤ cap) = True := eq_true hnc
  have b19 : (i ≤ cap) = True := eq_true (by omega)
  have b20 : (i ≤ n) = True := eq_true (by omega)
  have hne : n1 < n := by omega
  clear H hw2 hw3 hi1 hlen1 hl2 hl3 hn1 e0
  by_cases hcap : cap = i1
  · rw [if_pos hcap] at had
    subst had
    have hcn : cap = n := by have := HI.out.1; omega
    subst hcap
    subst hcn
    rw [Nat.sub_self] at r2
    rw [b7] at r3
    go_enter Tryz.func115, Tryz.ntmps115
    go_wp2_with fail
    refine rgn [(0, 1), (1, 1), (2, 1), (3, 1), (4, 1), (5, 1), (6, 2), (7, 1)] [] (fun W => True) (by kernel_rfl) (by kernel_rfl) (fun _ _ _ d _ h => by cases d <;> exact h) trivial ?_
    iterate 6 (refine Run.pu (v := ?_) (a' := ?_) rfl rfl (Or.inl ⟨by rfl, ?_⟩) ?_ ?_; rotate_left 2; (focus (intro W; go_simp; with_reducible rfl)); (focus (simp only [Act.put, List.setIfInBounds_toArray, List.set_cons_zero, List.set_cons_succ]; rfl)))
    refine Run.ef rfl (fun K hK => ?_)
    simp only [List.getElem_toArray, List.getElem_cons_succ, List.getElem_cons_zero]
    simp only [List.setIfInBounds_toArray, List.set_cons_succ, List.set_cons_zero]
    refine Lib.wpList_append_run _ rfl _ _ 81 81 rfl (.slice (some ⟨g, 0, none⟩) i cap) (.slice (some ⟨g, 0, none⟩) 0 0) (by simp [Act.eval]) (by simp [Act.eval]) _ _ r2 ?_
    go_wp2
    refine hK.out _ _ trivial ?_
    clear hK K
    refine Run.pu (v := ?_) (a' := ?_) rfl rfl (Or.inl ⟨by rfl, ?_⟩) ?_ ?_; rotate_left 2; (focus (intro W; go_simp; with_reducible rfl)); (focus (simp only [Act.put, List.setIfInBounds_toArray, List.set_cons_zero, List.set_cons_succ]; rfl))
    refine Run.nil ?_
    go_wp2_with fail
    go_ret
    refine ⟨_, rfl, ?_⟩
    rw [← HI.out.2]
    exact HF.out
  · rw [if_neg hcap] at had
    subst had
    have hcapP : (cap = i1) = False := eq_false hcap
    go_enter Tryz.func115, Tryz.ntmps115
    go_wp2_with fail
    refine rgn [(0, 1), (1, 1), (2, 1), (3, 1), (4, 1), (5, 1), (6, 2), (7, 1)] [] (fun W => True) (by kernel_rfl) (by kernel_rfl) (fun _ _ _ d _ h => by cases d <;> exact h) trivial ?_
    iterate 6 (refine Run.pu (v := ?_) (a' := ?_) rfl rfl (Or.inl ⟨by rfl, ?_⟩) ?_ ?_; rotate_left 2; (focus (intro W; go_simp; with_reducible rfl)); (focus (simp only [Act.put, List.setIfInBounds_toArray, List.set_cons_zero, List.set_cons_succ]; rfl)))
    refine Run.ef rfl (fun K hK => ?_)
    simp only [List.getElem_toArray, List.getElem_cons_succ, List.getElem_cons_zero]
    simp only [List.setIfInBounds_toArray, List.set_cons_succ, List.set_cons_zero]
    refine Lib.wpList_append_run _ rfl _ _ 81 81 rfl (.slice (some ⟨g, 0, none⟩) i cap) (.slice (some ⟨g, i1 * 2, none⟩) (n - i1) (cap - i1)) (by simp [Act.eval]) (by simp [Act.eval]) _ _ r2 ?_
    go_wp2
    refine hK.out _ _ trivial ?_
    clear hK K
    refine Run.pu (v := ?_) (a' := ?_) rfl rfl (Or.inl ⟨by rfl, ?_⟩) ?_ ?_; rotate_left 2; (focus (intro W; go_simp; with_reducible rfl)); (focus (simp only [Act.put, List.setIfInBounds_toArray, List.set_cons_zero, List.set_cons_succ]; rfl))
    refine Run.nil ?_
    go_wp2_with fail
    go_ret
    refine ⟨_, rfl, ?_⟩
    rw [← HI.out.2]
    exact HF.out
theorem slices_Delete (L : List (Nat × (Obj → Prop))) (R : World → Prop) (w0 w : World) (v : Value) (n i : Nat) (I : Int) (xs : List Value) (H : OwnS [] L R w0 w 99 2 v n xs) (hI : I = (i : Int) + 1) (hi : i < n) (hn : n ≤ 100000) (h2 : ∀ u ∈ xs, u.oneCell' = true) :
    Calls Tryz.prog 115 #[v, .int .i64 i, .int .i64 I] w fun e w' => ∃ v', e = .returned v' ∧ OwnS [] L R w0 w' 99 2 v' (n - 1) (xs.take (i * 2) ++ xs.drop (i * 2 + 2)) := by
  subst hI
  obtain ⟨g, cap, cs, rfl, hnc, hcm, hcl, hct, hw⟩ := H.whole (by omega)
  subst hct
  exact Delete_w L R w0 w g cap n i cs hw hcl hnc hcm hi hn h2
theorem marksV_app (a b : List Mk) : marksV (a ++ b) = marksV a ++ marksV b := by simp [marksV]
theorem marksV_take (l : List Mk) (p : Nat) : (marksV l).take (p * 2) = marksV (l.take p) := by
  induction l generalizing p with
  | nil => simp [marksV]
  | cons a r ih =>
    cases p with
    | zero => simp [marksV]
    | succ p =>
      have e : marksV (a :: r) = .int .i64 (a.1 : Int) :: .int .i64 (a.2 : Int) :: marksV r := rfl
      have e2 : marksV (a :: r.take p) = .int .i64 (a.1 : Int) :: .int .i64 (a.2 : Int) :: marksV (r.take p) := rfl
      rw [e, show (p + 1) * 2 = p * 2 + 1 + 1 by omega, List.take_succ_cons, List.take_succ_cons, List.take_succ_cons, e2, ih]
theorem marksV_drop (l : List Mk) (p : Nat) : (marksV l).drop (p * 2) = marksV (l.drop p) := by
  induction l generalizing p with
  | nil => simp [marksV]
  | cons a r ih =>
    cases p with
    | zero => simp [marksV]
    | succ p =>
      have e : marksV (a :: r) = .int .i64 (a.1 : Int) :: .int .i64 (a.2 : Int) :: marksV r := rfl
      rw [e, show (p + 1) * 2 = p * 2 + 1 + 1 by omega, List.drop_succ_cons, List.drop_succ_cons, List.drop_succ_cons, ih]
theorem marksV_one (l : List Mk) : ∀ u ∈ marksV l, u.oneCell' = true := by
  intro u hu
  unfold marksV at hu
  rw [List.mem_flatMap] at hu
  obtain ⟨p, _, hp⟩ := hu
  simp at hp
  rcases hp with rfl | rfl <;> rfl
/-- marks with another one; without one -/
def putM (l : List Mk) (m : Mk) : List Mk := l.take (posM l m.1) ++ m :: l.drop (posM l m.1)
def delM (l : List Mk) (x : Nat) : List Mk := l.take (posM l x) ++ l.drop (posM l x + 1)
set_option maxHeartbeats 1000000 in
theorem side_Put (A : Option Addr) (c : Nat) (l : List Mk) (m : Mk) (w : World) (h : Row w (.slice A l.length c) l.length (marksV l)) (hs : Sorted l) (hl : l.length ≤ 100000) (hm : hasM l m.1 = false) :
    Calls Tryz.prog 112 #[.slice A l.length c, .agg #[.int .i64 m.1, .int .i64 m.2]] w fun e w' => ∃ v', e = .returned v' ∧ Fr w.heap.size w' 99 v' (l.length + 1) (marksV (putM l m)) ∧ Below w.heap.size w w' := by
  obtain ⟨x, k⟩ := m
  simp only at hm
  have H := As.mk h
  have HF := As.mk (fun W (hr : Row W (.slice A l.length c) l.length (marksV l)) => hm ▸ side_find A c l x W hr hs hl)
  have hlen := marksV_len l
  have HCL := As.mk (fun W (hr : Row W (.slice A l.length c) l.length (marksV l)) => clone_113 A c l.length (marksV l) W hr hlen (marksV_one l) (by omega))
  have HO := As.mk ((Own.start (X := []) w).box #[.int .i64 x, .int .i64 k] 99)
  have hp := posM_le l x
  have hres : (marksV l).take (posM l x * 2) ++ [.int .i64 (x : Int), .int .i64 (k : Int)] ++ (marksV l).drop (posM l x * 2) = marksV (putM l (x, k)) := by
    rw [marksV_take, marksV_drop]
    unfold putM
    rw [show (x, k) :: l.drop (posM l x) = [(x, k)] ++ l.drop (posM l x) from rfl, marksV_app, marksV_app, List.append_assoc]
    rfl
  have HRES := As.mk hres
  obtain ⟨p, hpe⟩ : ∃ p, p = posM l x := ⟨_, rfl⟩
  rw [← hpe] at HF HRES hp
  obtain ⟨xs, hxs⟩ : ∃ xs, xs = marksV l := ⟨_, rfl⟩
  have H1 := As.mk (hxs ▸ marksV_one l)
  rw [← hxs] at H HF HCL HRES
  obtain ⟨n, hn⟩ : ∃ n, n = l.length := ⟨_, rfl⟩
  rw [← hn] at H HF HCL hp hl ⊢
  obtain ⟨ys, hys⟩ : ∃ ys, ys = marksV (putM l (x, k)) := ⟨_, rfl⟩
  rw [← hys] at HRES ⊢
  clear h hs hm hlen hres hpe hxs hn hys
  go_enter Tryz.func112, Tryz.ntmps112
  go_wp2_with fail
  refine (HCL.out _ (H.out.below HO.out.toBelow)).mono ?_
  rintro e w1 ⟨v1, rfl, hk1, hb1⟩
  have HS1 := As.mk (OwnS.ofRow HO.out hb1 hk1)
  have z0 := HS1.out.rest.get (g := w.heap.size) (e := 99) (cs := [.int .i64 x, .int .i64 k]) List.mem_cons_self 0 (by simp)
  clear hk1 hb1 HCL
  go_wp2_with fail
  refine (HF.out _ (H.out.below HS1.out.rest.toBelow)).mono ?_
  rintro e w2 ⟨rfl, hb2⟩
  have HS2 := As.mk (HS1.out.below hb2)
  have y0 := HS2.out.rest.get (g := w.heap.size) (e := 99) (cs := [.int .i64 x, .int .i64 k]) List.mem_cons_self 0 (by simp)
  have y1 := HS2.out.rest.get (g := w.heap.size) (e := 99) (cs := [.int .i64 x, .int .i64 k]) List.mem_cons_self 1 (by simp)
  clear hb2 z0 HS1 HF
  have HS3 := As.mk (HS2.out.box #[.int .i64 x, .int .i64 k] 99)
  go_wp2_with fail
  refine (slices_Insert _ _ w _ v1 n p w2.heap.size xs (.int .i64 x) (.int .i64 k) HS3.out List.mem_cons_self hp hl (by intro u hu; simp at hu; rcases hu with rfl | rfl <;> rfl) H1.out).mono ?_
  rintro e w3 ⟨v3, rfl, hw3⟩
  rw [HRES.out] at hw3
  have HW := As.mk hw3
  clear hw3
  go_wp2
  go_ret
  exact ⟨_, rfl, HW.out.fr, HW.out.rest.toBelow⟩
set_option maxHeartbeats 1000000 in
theorem side_Take (A : Option Addr) (c : Nat) (l : List Mk) (x k : Nat) (w : World) (h : Row w (.slice A l.length c) l.length (marksV l)) (hs : Sorted l) (hl : l.length ≤ 100000) (hm : (x, k) ∈ l) :
    Calls Tryz.prog 105 #[.slice A l.length c, .int .i64 x] w fun e w' => ∃ v', e = .returned (.tuple #[v', .int .i64 k, .bool true]) ∧ Fr w.heap.size w' 99 v' (l.length - 1) (marksV (delM l x)) ∧ Below w.heap.size w w' := by
  have hhas : hasM l x = true := List.any_eq_true.2 ⟨_, hm, by simp⟩
  have hat : l[posM l x]? = some (x, k) := by
    obtain ⟨q, hq, hqx⟩ := (hasM_at l x hs).1 hhas
    obtain ⟨j, hj⟩ := List.mem_iff_getElem?.1 hm
    have h1 := posM_spec l x hs j (x, k) hj
    have h2 := posM_spec l x hs _ q hq
    have hjl := (List.getElem?_eq_some_iff.1 hj).1
    have hql := (List.getElem?_eq_some_iff.1 hq).1
    rcases Nat.lt_trichotomy (posM l x) j with h3 | h3 | h3
    · exfalso
      have := List.pairwise_iff_getElem.1 hs _ _ hql hjl h3
      rw [List.getElem?_eq_getElem hql] at hq
      rw [List.getElem?_eq_getElem hjl] at hj
      injection hq with hq
      injection hj with hj
      rw [hq, hj] at this
      simp only at this
      omega
    · rw [h3]; exact hj
    · exfalso
      have := h1.2 h3
      simp at this
  have H := As.mk h
  have HF := As.mk (fun W (hr : Row W (.slice A l.length c) l.length (marksV l)) => hhas ▸ side_find A c l x W hr hs hl)
  have hlen := marksV_len l
  have HCL := As.mk (fun W (hr : Row W (.slice A l.length c) l.length (marksV l)) => clone_113 A c l.length (marksV l) W hr hlen (marksV_one l) (by omega))
  have HO := As.mk (Own.start (X := []) w)
  have hp : posM l x < l.length := (List.getElem?_eq_some_iff.1 hat).1
  have hres : (marksV l).take (posM l x * 2) ++ (marksV l).drop (posM l x * 2 + 2) = marksV (delM l x) := by
    rw [marksV_take, show posM l x * 2 + 2 = (posM l x + 1) * 2 by omega, marksV_drop]
    unfold delM
    rw [marksV_app]
  have HRES := As.mk hres
  obtain ⟨b, o, rfl, hnc, hcell⟩ := h.cell (by rw [hlen]; omega)
  have z9 := hcell _ _ (marksV_at l _ _ hat).2
  rw [← Nat.add_assoc] at z9
  simp only at z9
  have Z9 := As.mk z9
  obtain ⟨p, hpe⟩ : ∃ p, p = posM l x := ⟨_, rfl⟩
  rw [← hpe] at HF HRES hp Z9
  obtain ⟨xs, hxs⟩ : ∃ xs, xs = marksV l := ⟨_, rfl⟩
  have H1 := As.mk (hxs ▸ marksV_one l)
  rw [← hxs] at H HF HCL HRES
  obtain ⟨n, hn⟩ : ∃ n, n = l.length := ⟨_, rfl⟩
  rw [← hn] at H HF HCL hp hl ⊢
  obtain ⟨ys, hys⟩ : ∃ ys, ys = marksV (delM l x) := ⟨_, rfl⟩
  rw [← hys] at HRES ⊢
  clear h hs hm hlen hres hpe hxs hn hys hhas hat hcell hnc z9
  go_enter Tryz.func105, Tryz.ntmps105
  go_wp2_with fail
  refine (HCL.out _ (H.out.below HO.out.toBelow)).mono ?_
  rintro e w1 ⟨v1, rfl, hk1, hb1⟩
  have HS1 := As.mk (OwnS.ofRow HO.out hb1 hk1)
  clear hk1 hb1 HCL
  go_wp2_with fail
  refine (HF.out _ (H.out.below HS1.out.rest.toBelow)).mono ?_
  rintro e w2 ⟨rfl, hb2⟩
  have HS2 := As.mk (HS1.out.below hb2)
  clear hb2 HS1 HF
  have HZ := As.mk (show ∀ W, Below w.heap.size w W → W.cell? ⟨b, o + p * 2 + 1, none⟩ = some (.int .i64 k) from fun W hb => cell_below hb Z9.out)
  have a1 : IntKind.i64.wrap (p : Int) = (p : Int) := iw64 _ (by omega) (by omega)
  have a2 : ((p : Int) < (n : Int)) = True := eq_true (by omega)
  have a3 : (p < n) = True := eq_true (by omega)
  have a4 : (0 : Int) ≤ (p : Int) := by omega
  go_wp2_with fail
  refine rgn [(0, 1), (1, 1), (2, 1), (3, 1), (5, 1), (6, 1), (7, 1), (8, 1), (9, 0), (4, 2), (10, 1), (11, 1), (12, 1)] [] (fun W => W.cell? ⟨b, o + p * 2 + 1, none⟩ = some (.int .i64 k)) (by kernel_rfl) (by kernel_rfl) (fun _ _ _ d _ h => by cases d <;> exact h) (HZ.out _ HS2.out.drew.rest.toBelow) ?_
  iterate 8 (refine Run.pu (v := ?_) (a' := ?_) rfl rfl (Or.inl ⟨by rfl, ?_⟩) ?_ ?_; rotate_left 2; (focus (intro W; go_simp; with_reducible rfl)); (focus (simp only [Act.put, List.setIfInBounds_toArray, List.set_cons_zero, List.set_cons_succ]; rfl)))
  refine Run.rd (v := ?_) (a' := ?_) rfl rfl (Or.inl ⟨by rfl, ?_⟩) ?_ ?_; rotate_left 2; (focus (intro W hW; go_simp; with_reducible rfl)); (focus (simp only [Act.put, List.setIfInBounds_toArray, List.set_cons_zero, List.set_cons_succ]; rfl))
  refine Run.ef rfl (fun K hK => ?_)
  simp only [List.getElem_toArray, List.getElem_cons_succ, List.getElem_cons_zero]
  go_wp2_with fail
  refine (slices_Delete _ _ w _ v1 n p _ xs HS2.out.drew ?_ hp hl H1.out).mono ?_
  · first | rfl | omega
  rintro e w3 ⟨v3, rfl, hw3⟩
  rw [HRES.out] at hw3
  have HW := As.mk hw3
  clear hw3
  go_wp2
  refine hK.out _ _ (HZ.out _ HW.out.rest.toBelow) ?_
  clear hK K
  iterate 3 (refine Run.pu (v := ?_) (a' := ?_) rfl rfl (Or.inl ⟨by rfl, ?_⟩) ?_ ?_; rotate_left 2; (focus (intro W; go_simp; with_reducible rfl)); (focus (simp only [Act.put, List.setIfInBounds_toArray, List.set_cons_zero, List.set_cons_succ]; rfl)))
  refine Run.nil ?_
  simp only [List.getElem_toArray, List.getElem_cons_succ, List.getElem_cons_zero]
  go_wp2
  refine bodyPost_ret (v := .tuple #[v3, .int .i64 k, .bool true]) (by simp [results, Tryz.f105, go_sem]) rfl ?_
  exact ⟨_, rfl, HW.out.fr, HW.out.rest.toBelow⟩
end Go.Proofs.YtmookafmdonopaaGreat.Top
