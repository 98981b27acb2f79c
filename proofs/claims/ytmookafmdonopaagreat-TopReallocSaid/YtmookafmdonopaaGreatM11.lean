/- side.find walked: a binary search among marks. -/
import Derived.Test.YtmookafmdonopaaGreatM10
/- side.find walked: a binary search among marks. -/
namespace Go.Proofs.YtmookafmdonopaaGreat.Top
open Go Go.RowKit
set_option linter.unusedVariables false
set_option linter.unusedSimpArgs false
attribute [local go_sem] max2_int min2_int max_two min_two max_three

/-- marks: where, which class -/
abbrev Mk := Nat × Nat
def marksV (l : List Mk) : List Value := l.flatMap fun p => [.int .i64 (p.1 : Int), .int .i64 (p.2 : Int)]
def Sorted (l : List Mk) : Prop := l.Pairwise fun a b => a.1 < b.1
theorem marksV_len (l : List Mk) : (marksV l).length = l.length * 2 := by
 induction l with
 | nil => rfl
 | cons a r ih => simp only [marksV, List.flatMap_cons, List.length_append, List.length_cons] at ih ⊢; simp at ih ⊢; omega
theorem marksV_at (l : List Mk) (i : Nat) (p : Mk) (h : l[i]? = some p) : (marksV l)[i * 2]? = some (.int .i64 (p.1 : Int)) ∧ (marksV l)[i * 2 + 1]? = some (.int .i64 (p.2 : Int)) := by
 induction l generalizing i with
 | nil => simp at h
 | cons a r ih =>
  cases i with
  | zero =>
   simp at h
   subst h
   exact ⟨rfl, rfl⟩
  | succ i =>
   have h2 := ih i (by simpa using h)
   have e : marksV (a :: r) = .int .i64 (a.1 : Int) :: .int .i64 (a.2 : Int) :: marksV r := rfl
   rw [e, show (i + 1) * 2 = i * 2 + 1 + 1 by omega]
   simp only [List.getElem?_cons_succ]
   exact h2
/-- how many lie ahead of a place -/
def posM (l : List Mk) (x : Nat) : Nat := l.countP fun p => decide (p.1 < x)
def hasM (l : List Mk) (x : Nat) : Bool := l.any fun p => decide (p.1 = x)
theorem posM_le (l : List Mk) (x : Nat) : posM l x ≤ l.length := List.countP_le_length
theorem posM_spec (l : List Mk) (x : Nat) (hs : Sorted l) : ∀ i p, l[i]? = some p → (p.1 < x ↔ i < posM l x) := by
 induction l with
 | nil => intro i p h; simp at h
 | cons a r ih =>
  intro i p h
  have hr := ih (List.pairwise_cons.1 hs).2
  have ha := (List.pairwise_cons.1 hs).1
  unfold posM
  by_cases hx : a.1 < x
  · rw [List.countP_cons_of_pos (by simpa using hx)]
    cases i with
    | zero => simp at h; subst h; simp [hx]
    | succ i =>
     have h2 := hr i p (by simpa using h)
     rw [h2]
     unfold posM
     omega
  · have h0 : r.countP (fun p => decide (p.1 < x)) = 0 := by
     rw [List.countP_eq_zero]
     intro q hq
     have := ha q hq
     simp; omega
    rw [List.countP_cons_of_neg (by simpa using hx), h0]
    refine ⟨fun h3 => ?_, fun h3 => by omega⟩
    exfalso
    cases i with
    | zero => simp at h; subst h; exact hx h3
    | succ i =>
     have h4 : p ∈ r := List.mem_of_getElem? (by simpa using h)
     have := ha p h4
     omega
theorem hasM_at (l : List Mk) (x : Nat) (hs : Sorted l) : hasM l x = true ↔ ∃ p, l[posM l x]? = some p ∧ p.1 = x := by
 unfold hasM
 rw [List.any_eq_true]
 constructor
 · rintro ⟨p, hp, hx⟩
   obtain ⟨i, hi⟩ := List.mem_iff_getElem?.1 hp
   have hx' : p.1 = x := by simpa using hx
   have h1 := posM_spec l x hs i p hi
   have hi2 : posM l x ≤ i := by have : ¬ i < posM l x := (fun h => by have := h1.2 h; omega); omega
   have hil := (List.getElem?_eq_some_iff.1 hi).1
   obtain ⟨q, hq⟩ : ∃ q, l[posM l x]? = some q := ⟨l[posM l x], List.getElem?_eq_getElem (by omega)⟩
   rcases Nat.eq_or_lt_of_le hi2 with h3 | h3
   · exact ⟨p, by rw [h3]; exact hi, hx'⟩
   · exfalso
     have hq2 := posM_spec l x hs _ q hq
     have hlt : q.1 < p.1 := by
      have := List.pairwise_iff_getElem.1 hs (posM l x) i (by omega) hil h3
      rw [List.getElem?_eq_getElem (by omega)] at hq hi
      injection hq with hq
      injection hi with hi
      rw [← hq, ← hi]
      exact this
     have := hq2.1 (by omega)
     omega
 · rintro ⟨p, hp, hx⟩
   exact ⟨p, List.mem_of_getElem? hp, by simpa using hx⟩
def cmpI (a x : Nat) : Int := if a < x then -1 else if a = x then 0 else 1
theorem mark_cmp (a k x : Nat) (w : World) : Calls Tryz.prog 122 #[.agg #[.int .i64 a, .int .i64 k], .int .i64 x] w fun e w' => e = .returned (.int .i64 (cmpI a x)) ∧ Below w.heap.size w w' := by
 have HB := As.mk (box_below w (.cells #[.int .i64 a, .int .i64 k] 99))
 unfold cmpI
 go_enter Tryz.func122, Tryz.ntmps122
 go_wp2
 all_goals (go_ret; exact ⟨rfl, box_below _ _⟩)
theorem Row.cell {w : World} {A : Option Addr} {n c : Nat} {cs : List Value} (h : Row w (.slice A n c) n cs) (hne : 0 < cs.length) : ∃ b o, A = some ⟨b, o, none⟩ ∧ n ≤ c ∧ ∀ i u, cs[i]? = some u → w.cell? ⟨b, o + i, none⟩ = some u := by
 obtain ⟨A', c', hv, hc, hr⟩ := h
 injection hv with h1 h2 h3
 subst h1; subst h3
 rcases hr with rfl | ⟨b, o, hA, hcell⟩
 · simp at hne
 · exact ⟨b, o, hA, hc, hcell⟩
set_option maxHeartbeats 1000000 in
theorem search (A : Option Addr) (c : Nat) (l : List Mk) (x : Nat) (w : World) (h : Row w (.slice A l.length c) l.length (marksV l)) (hs : Sorted l) (hl : l.length ≤ 100000) :
 Calls Tryz.prog 121 #[.slice A l.length c, .int .i64 x, .func (.func 122) #[] #[]] w fun e w' => e = .returned (.tuple #[.int .i64 (posM l x), .bool (hasM l x)]) ∧ Below w.heap.size w w' := by
 have H := As.mk h
 have hple := posM_le l x
 have PS := As.mk (posM_spec l x hs)
 have HM := As.mk (hasM_at l x hs)
 have hlen := marksV_len l
 have HLEN := As.mk hlen
 obtain ⟨n, hn⟩ : ∃ n, n = l.length := ⟨_, rfl⟩
 have HN := As.mk hn
 rw [← hn] at H hple hl ⊢
 obtain ⟨p, hp⟩ : ∃ p, p = posM l x := ⟨_, rfl⟩
 rw [← hp] at PS HM hple ⊢
 obtain ⟨fd, hfd⟩ : ∃ fd, fd = hasM l x := ⟨_, rfl⟩
 rw [← hfd] at HM ⊢
 clear h hs hn hp hfd hlen
 go_enter Tryz.func121, Tryz.ntmps121
 go_wp2_with fail
 go_loopw [9, 10] (fun a b wr => ∃ lo hi : Nat, a = .int .i64 (lo : Int) ∧ b = .int .i64 (hi : Int) ∧ lo ≤ p ∧ p ≤ hi ∧ hi ≤ n ∧ Below w.heap.size w wr) (fun a b _ => (intOf b).toNat - (intOf a).toNat)
 case atStart => exact ⟨0, n, rfl, rfl, Nat.zero_le _, hple, Nat.le_refl _, Below.refl _ _⟩
 case round =>
  obtain ⟨lo, hi, rfl, rfl, h1, h2, h3, hb⟩ := hrel
  have HB := As.mk hb
  clear hb
  by_cases hlt : lo < hi
  · obtain ⟨m, hm⟩ : ∃ m, m = (lo + hi) / 2 := ⟨_, rfl⟩
    have hm1 : ((lo : Int) + (hi : Int)) / 2 = (m : Int) := by omega
    have hm2 : m < n := by omega
    have hm3 : lo ≤ m := by omega
    have hm4 : m < hi := by omega
    obtain ⟨q, hq⟩ : ∃ q, l[m]? = some q := ⟨l[m]'(by have := HN.out; omega), List.getElem?_eq_getElem _⟩
    obtain ⟨c1, c2⟩ := marksV_at l m q hq
    obtain ⟨b, o, rfl, hnc, hcell⟩ := H.out.cell (by rw [HLEN.out]; have := HN.out; omega)
    have z1 := cell_below HB.out (hcell _ _ c1)
    have z2 := cell_below HB.out (hcell _ _ c2)
    rw [← Nat.add_assoc] at z2
    have hps := PS.out m q hq
    have hlm : ((lo : Int) < (hi : Int)) = True := eq_true (by omega)
    have HC := As.mk (fun W => mark_cmp q.1 q.2 x W)
    obtain ⟨q1, q2⟩ := q
    simp only at z1 z2 hps HC
    have HM1 := As.mk hm
    clear hq c1 c2 hcell hm
    by_cases hc : q1 < x
    · have hcv : (cmpI q1 x < 0) = True := eq_true (by unfold cmpI; rw [if_pos hc]; decide)
      have hmp := hps.1 hc
      clear hps
      go_wp2_with fail
      refine (HC.out _).mono ?_
      rintro e w2 ⟨rfl, hb2⟩
      have HB2 := As.mk (HB.out.trans (hb2.mono HB.out.size))
      clear hb2
      go_wp2_with fail
      go_roundw
      case rel => exact ⟨m + 1, hi, by go_num, rfl, by omega, h2, h3, HB2.out⟩
      case measure => simp [intOf]; omega
    · have hcv : (cmpI q1 x < 0) = False := eq_false (by unfold cmpI; rw [if_neg hc]; split <;> decide)
      have hmp : ¬ m < p := fun h => hc (hps.2 h)
      clear hps
      go_wp2_with fail
      refine (HC.out _).mono ?_
      rintro e w2 ⟨rfl, hb2⟩
      have HB2 := As.mk (HB.out.trans (hb2.mono HB.out.size))
      clear hb2
      go_wp2_with fail
      go_roundw
      case rel => exact ⟨lo, m, rfl, rfl, h1, by omega, by omega, HB2.out⟩
      case measure => simp [intOf]; omega
  · have e1 : lo = p := by omega
    have e2 : hi = p := by omega
    subst e1
    subst e2
    by_cases hpn : hi < n
    · obtain ⟨q, hq⟩ : ∃ q, l[hi]? = some q := ⟨l[hi]'(by have := HN.out; omega), List.getElem?_eq_getElem _⟩
      obtain ⟨c1, c2⟩ := marksV_at l hi q hq
      obtain ⟨b, o, rfl, hnc, hcell⟩ := H.out.cell (by rw [HLEN.out]; have := HN.out; omega)
      have z1 := cell_below HB.out (hcell _ _ c1)
      have z2 := cell_below HB.out (hcell _ _ c2)
      rw [← Nat.add_assoc] at z2
      have HC := As.mk (fun W => mark_cmp q.1 q.2 x W)
      have hfd : fd = decide (cmpI q.1 x = 0) := by
       apply bool_ext
       rw [HM.out, hq, decide_eq_true_iff]
       unfold cmpI
       constructor
       · rintro ⟨p', e, hx⟩
         injection e with e
         subst e
         rw [if_neg (by omega), if_pos hx]
       · intro h
         refine ⟨q, rfl, ?_⟩
         split at h
         · cases h
         · split at h
           · assumption
           · cases h
      obtain ⟨q1, q2⟩ := q
      simp only at z1 z2 HC hfd
      have hll : ((hi : Int) < (n : Int)) = True := eq_true (by omega)
      subst hfd
      obtain ⟨cv, hcv⟩ : ∃ cv, cv = cmpI q1 x := ⟨_, rfl⟩
      rw [← hcv] at HC
      have HCV := As.mk hcv
      clear hq c1 c2 hcell hcv
      go_wp2_with fail
      refine (HC.out _).mono ?_
      rintro e w2 ⟨rfl, hb2⟩
      have HB2 := As.mk (HB.out.trans (hb2.mono HB.out.size))
      clear hb2
      go_wp2_with fail
      have e : (cv == 0) = decide (cmpI q1 x = 0) := by rw [HCV.out]; rfl
      exact bodyPost_ret (v := .tuple #[.int .i64 hi, .bool (decide (cmpI q1 x = 0))]) (by rw [← e]; simp [results, Tryz.f121, go_sem]) rfl ⟨rfl, HB2.out⟩
    · have hfd : fd = false := by
       cases fd with
       | false => rfl
       | true =>
        obtain ⟨p', e, _⟩ := HM.out.1 rfl
        have := (List.getElem?_eq_some_iff.1 e).1
        have := HN.out
        omega
      subst hfd
      have hll : ((hi : Int) < (n : Int)) = False := eq_false (by omega)
      go_wp2_with fail
      exact bodyPost_ret (v := .tuple #[.int .i64 hi, .bool false]) (by simp [results, Tryz.f121, go_sem]) rfl ⟨rfl, HB.out⟩
theorem side_find (A : Option Addr) (c : Nat) (l : List Mk) (x : Nat) (w : World) (h : Row w (.slice A l.length c) l.length (marksV l)) (hs : Sorted l) (hl : l.length ≤ 100000) :
 Calls Tryz.prog 114 #[.slice A l.length c, .int .i64 x] w fun e w' => e = .returned (.tuple #[.int .i64 (posM l x), .bool (hasM l x)]) ∧ Below w.heap.size w w' := by
 have HS := As.mk (search A c l x w h hs hl)
 obtain ⟨p, hp⟩ : ∃ p, p = posM l x := ⟨_, rfl⟩
 obtain ⟨fd, hfd⟩ : ∃ fd, fd = hasM l x := ⟨_, rfl⟩
 obtain ⟨n, hn⟩ : ∃ n, n = l.length := ⟨_, rfl⟩
 rw [← hp, ← hfd, ← hn] at HS
 rw [← hp, ← hfd, ← hn]
 clear h hs hp hfd hl hn
 go_enter Tryz.func114, Tryz.ntmps114
 go_wp2_with fail
 refine HS.out.mono ?_
 rintro e w2 ⟨rfl, hb⟩
 have HB := As.mk hb
 clear hb HS
 go_wp2
 exact bodyPost_ret (v := .tuple #[.int .i64 p, .bool fd]) (by simp [results, Tryz.f114, go_sem]) rfl ⟨rfl, HB.out⟩
end Go.Proofs.YtmookafmdonopaaGreat.Top
/- slices.Insert walked: one mark. -/
namespace Go.Proofs.YtmookafmdonopaaGreat.Top
open Go Go.RowKit
set_option linter.unusedVariables false
set_option linter.unusedSimpArgs false
attribute [local go_sem] max2_int min2_int max_two min_two max_three

theorem over_take {A ns : List Value} {o : Nat} (h : o ≤ A.length) : (over A o ns).take (o + ns.length) = A.take o ++ ns := by
 have hl : (A.take o).length = o := by rw [List.length_take]; omega
 unfold over
 rw [List.take_append_of_le_length (by rw [List.length_append, hl]; exact Nat.le_refl _)]
 exact List.take_of_length_le (by rw [List.length_append, hl]; exact Nat.le_refl _)
/-- copy into a block of the walk's own, as an equation -/
theorem copy_run {X : List Nat} {L : List (Nat × (Obj → Prop))} {R : World → Prop} {w0 w : World} (dT sT ty : TypeId) (elem sz : Nat) (hu : Tryz.prog.underlying dT = some (.slice elem)) (hsz : (Tryz.prog.info? elem).map (·.size) = some sz)
 (g off dLen dCap : Nat) (ad : Addr) (sLen sCap k : Nat) (e : TypeId) (cs ns : List Value) (H : Own X ((g, EX e cs) :: L) R w0 w) (hk : Nat.min sLen dLen = k) (hn : ns.length = k * sz)
 (hsrc : ∀ j v, ns[j]? = some v → w.cell? (ad.add j) = some v) (hfit : off + ns.length ≤ cs.length) (h1 : ∀ v ∈ ns, v.oneCell' = true) :
 ∃ w1, (Builtin.copy_ #[dT, sT] ty #[.slice (some ⟨g, off, none⟩) dLen dCap, .slice (some ad) sLen sCap]).run Tryz.prog w = .ok (.int .i64 k) w1 ∧ Own X ((g, EX e (over cs off ns)) :: L) R w0 w1 := by
 obtain ⟨x, hx, hxx⟩ := H.at_ _ _ List.mem_cons_self
 rw [show x = .cells cs.toArray e (0, 0) from hxx] at hx
 have hrun := run_copy_n Tryz.prog w dT sT ty elem sz g off dLen dCap ad sLen sCap cs.toArray e ns hu hsz hx (by rw [hk]; exact hn) hsrc (by simpa using hfit) h1
 rw [hk] at hrun
 exact ⟨_, hrun, H.setRow⟩
/-- a goal that the walk lets stand -/
def Hold (p : Prop) : Prop := p
theorem sz99 : (Tryz.prog.info? 99).map (·.size) = some 2 := by kernel_rfl
set_option maxHeartbeats 1000000 in
theorem Insert_end (L : List (Nat × (Obj → Prop))) (R : World → Prop) (w0 w : World) (v : Value) (n gv : Nat) (xs : List Value) (u1 u2 : Value) (H : OwnS [] L R w0 w 99 2 v n xs) (hv : (gv, EC 99 [u1, u2]) ∈ L) (hn : n ≤ 100000) (h1 : ∀ u ∈ [u1, u2], u.oneCell' = true) :
 Calls Tryz.prog 120 #[v, .int .i64 n, .slice (some ⟨gv, 0, none⟩) 1 1] w fun e w' => ∃ v', e = .returned v' ∧ OwnS [] L R w0 w' 99 2 v' (n + 1) (xs ++ [u1, u2]) := by
 obtain ⟨A, c, rfl⟩ := H.slice
 have HO := As.mk H
 have z1 := H.rest.get hv 0 (by simp)
 have z2 := H.rest.get hv 1 (by simp)
 have HN := As.mk (show ∀ j u, [u1, u2][j]? = some u → w.cell? ((⟨gv, 0, none⟩ : Addr).add j) = some u from fun j u hj => by
  rcases j with _ | _ | j
  · simp at hj; subst hj; exact z1
  · simp at hj; subst hj; exact z2
  · simp at hj)
 have hnc : n ≤ c := by
  rcases H.2 with ⟨e, e2, _⟩ | ⟨g, cap, e, _, h3⟩
  · injection e with _ _ e3; omega
  · obtain ⟨o, ho, cur, rfl, a1, a2, a3, a4⟩ := h3.at_ _ _ List.mem_cons_self
    injection e with _ _ e3
    omega
 clear H z1 z2
 go_enter Tryz.func120, Tryz.ntmps120
 go_wp2_with (at_builtin; refine go_app w0 rfl _ _ 81 99 _ 2 16 rfl Tryz.underlying81 info99 rfl (by decide) (.slice A n c) n xs rfl ⟨gv, 0, none⟩ 1 1 [u1, u2] rfl HO.out rfl HN.out h1 (by simp [maxLen]; omega) (by omega) ?_; intro v1 w1 hw1; have HW := As.mk hw1; clear hw1)
 all_goals (go_ret; exact ⟨_, rfl, HW.out⟩)
set_option maxHeartbeats 1000000 in
set_option maxRecDepth 100000 in
theorem Insert_grow (L : List (Nat × (Obj → Prop))) (R : World → Prop) (w0 w : World) (g cap n i gv : Nat) (cs : List Value) (u1 u2 : Value) (H : Own [] ((g, EX 99 cs) :: L) R w0 w) (hc : cs.length = cap * 2) (hnc : n = cap) (hi : i < n) (hv : (gv, EC 99 [u1, u2]) ∈ L) (hn : n ≤ 100000) (h1 : ∀ u ∈ [u1, u2], u.oneCell' = true) (h2 : ∀ u ∈ cs, u.oneCell' = true) :
 Calls Tryz.prog 120 #[.slice (some ⟨g, 0, none⟩) n cap, .int .i64 i, .slice (some ⟨gv, 0, none⟩) 1 1] w fun e w' => ∃ v', e = .returned v' ∧ OwnS [] L R w0 w' 99 2 v' (n + 1) (cs.take (i * 2) ++ [u1, u2] ++ cs.drop (i * 2)) := by
 subst hnc
 have HO := As.mk H
 have HV := As.mk (show ∀ (W : World) (L2 : List (Nat × (Obj → Prop))), Own [] (L2 ++ L) R w0 W → ∀ j u, [u1, u2][j]? = some u → W.cell? ((⟨gv, 0, none⟩ : Addr).add j) = some u from fun W L2 h j u hj => by
  have y1 := h.get (List.mem_append_right _ hv) 0 (by simp)
  have y2 := h.get (List.mem_append_right _ hv) 1 (by simp)
  rcases j with _ | _ | j
  · simp at hj; subst hj; exact y1
  · simp at hj; subst hj; exact y2
  · simp at hj)
 have HG := As.mk (show ∀ (W : World) (L1 L2 : List (Nat × (Obj → Prop))), Own [] (L1 ++ (g, EX 99 cs) :: L2) R w0 W → ∀ (o j : Nat) (u : Value), cs[o + j]? = some u → W.cell? ((⟨g, o, none⟩ : Addr).add j) = some u from fun W L1 L2 h o j u hj => by
  have h9 : Own [] ((g, EC 99 cs) :: (L1 ++ L2)) R w0 W := (h.perm List.perm_middle.symm).weak EX.ec
  have y1 := h9.get List.mem_cons_self (o + j) (List.getElem?_eq_some_iff.1 hj).1
  rw [Addr.add_lit, y1, hj])
 have c1 : ((i : Int) = (n : Int)) = False := eq_false (by omega)
 have c2 : (i = n) = False := eq_false (by omega)
 clear H
 obtain ⟨k, hk⟩ : ∃ k, i + k = n + 1 := ⟨n + 1 - i, by omega⟩
 have hki : (n : Int) + 1 - (i : Int) = (k : Int) := by omega
 have hk2 : 2 ≤ k := by omega
 have hol : (cs.take (i * 2)).length = i * 2 := by rw [List.length_take, hc]; omega
 have HOL := As.mk (And.intro hol (show ∀ j u, (cs.take (i * 2))[j]? = some u → w.cell? ((⟨g, 0, none⟩ : Addr).add j) = some u from fun j u hj => by
  rw [List.getElem?_take] at hj
  split at hj
  · exact HG.out w [] L HO.out 0 j u (by rw [Nat.zero_add]; exact hj)
  · cases hj))
 clear hol
 go_enter Tryz.func120, Tryz.ntmps120
 go_wp2_with (at_builtin; refine go_appz rfl _ _ 81 3 rfl 99 _ 2 16 .i64 .i64 Tryz.underlying81 Tryz.underlying3 info99 rfl (by decide) ⟨g, 0, none⟩ i n (cs.take (i * 2)) rfl HOL.out.1 HOL.out.2 k (k : Int) rfl rfl (by omega) (by omega) (by omega) (by omega) (by unfold maxLen; omega) HO.out ?_; intro g' cap' cs' w1 q1 q2 q3 q4 q5 hw1 hb1; have HW := As.mk (And.intro q1 (And.intro q2 (And.intro q3 (And.intro q4 (And.intro hw1 hb1))))); clear q1 q2 q3 q4 q5 hw1 hb1; rw [hk]; rw [hk] at HW; have HK := As.mk (And.intro hk hki); clear hk hki; change Hold _)
 obtain ⟨q1, q2, q3, q4, hw1, hb1⟩ := HW.out
 have hlen1 : (over cs' (i * 2) [u1, u2]).length = cap' * 2 := by rw [over_len (by simp; omega)]; exact q3
 have HW1 := As.mk hw1
 have Q4 := As.mk q4
 have HV1 := As.mk (HV.out w1 [(g', EX 99 cs'), (g, EX 99 cs)] hw1)
 have HL1 := As.mk hlen1
 have Q3 := As.mk q3
 have d1 : ¬ cap' = i := by omega
 have d2 : i < n + 1 := by omega
 have d3 : ¬ cap' = i + 1 := by omega
 have d4 : cap' ≤ 9223372036854775807 := by unfold maxLen at q2; omega
 clear hw1 hb1 q4 HW hlen1 q3
 unfold Hold
 refine Or.inl ?_
 unfold wpList
 obtain ⟨w2, r2, hw2⟩ := copy_run 81 81 3 99 2 Tryz.underlying81 sz99 g' (i * 2) (n + 1 - i) (cap' - i) ⟨gv, 0, none⟩ 1 1 1 99 cs' [u1, u2] HW1.out (Nat.min_eq_left (by omega)) rfl HV1.out (by rw [Q3.out]; simp only [List.length_cons, List.length_nil]; omega) h1
 obtain ⟨i1, hi1⟩ : ∃ i1, i1 = i + 1 := ⟨_, rfl⟩
 obtain ⟨w3, r3, hw3⟩ := copy_run 81 81 3 99 2 Tryz.underlying81 sz99 g' (i1 * 2) (n + 1 - i1) (cap' - i1) ⟨g, i * 2, none⟩ (n - i) (n - i) (n - i) 99 (over cs' (i * 2) [u1, u2]) (cs.drop (i * 2)) hw2.drew (Nat.min_eq_left (by omega)) (by rw [List.length_drop, hc]; omega)
  (fun j u hj => HG.out _ [(g', EX 99 (over cs' (i * 2) [u1, u2]))] L hw2.drew (i * 2) j u (by rwa [List.getElem?_drop] at hj)) (by rw [HL1.out, List.length_drop, hc]; omega) (fun u hu => h2 u (List.mem_of_mem_drop hu))
 have HW3 := As.mk hw3
 have HI1 := As.mk hi1
 have e1 : IntKind.i64.wrap ((i : Int) + 1) = (i1 : Int) := by rw [iw64 _ (by omega) (by omega)]; omega
 have e2 : ((i1 : Int) ≤ (n : Int) + 1) = True := eq_true (by omega)
 have e3 : (cap' = i1) = False := eq_false (by omega)
 have e4 : (n = i) = False := eq_false (by omega)
 have e5 : ((i : Int) ≤ (n : Int)) = True := eq_true (by omega)
 have e6 : (0 : Int) ≤ (i1 : Int) := by omega
 clear hw2 hw3 hi1
 go_wp2_with fail
 refine rgn [(0, 1), (1, 1), (2, 1), (3, 1), (4, 1), (5, 1), (6, 1), (7, 1), (8, 3)] [8] (fun W => True) (by kernel_rfl) (by kernel_rfl) (fun _ _ _ d _ h => by cases d <;> exact h) trivial ?_
 iterate 8 (refine Run.pu (v := ?_) (a' := ?_) rfl rfl (Or.inl ⟨by rfl, ?_⟩) ?_ ?_; rotate_left 2; (focus (intro W; go_simp; with_reducible rfl)); (focus (simp only [Act.put, zq4, zq5, zq6]; rfl)))
 refine Run.la rfl (fun K hK => ?_)
 simp only [zq1, zq2, zq3]
 go_wp2_with fail
 refine hK.out _ _ ?_
 clear hK K
 refine Run.nil ?_
 go_wp2_with fail
 go_ret
 refine ⟨_, rfl, OwnS.ofWhole HW3.out.drop2 q1 q2 ?_ ?_⟩
 · rw [over_len (by rw [HL1.out, List.length_drop, hc, HI1.out]; omega), HL1.out]
 · have t1 : (over cs' (i * 2) [u1, u2]).take (i1 * 2) = cs'.take (i * 2) ++ [u1, u2] := by
    have h9 := over_take (A := cs') (ns := [u1, u2]) (o := i * 2) (by rw [Q3.out]; omega)
    rw [show i * 2 + [u1, u2].length = i1 * 2 by rw [HI1.out]; simp; omega] at h9
    exact h9
   have t2 := over_take (A := over cs' (i * 2) [u1, u2]) (ns := cs.drop (i * 2)) (o := i1 * 2) (by rw [HL1.out, HI1.out]; omega)
   rw [show i1 * 2 + (cs.drop (i * 2)).length = (n + 1) * 2 by rw [List.length_drop, hc, HI1.out]; omega, t1, Q4.out] at t2
   exact t2
theorem sizeOf99 (w : World) : (Go.sizeOf 99).run Tryz.prog w = .ok 2 w := by
 obtain ⟨i0, hi, hzz⟩ := Option.map_eq_some_iff.1 sz99
 simp [Go.sizeOf, typeInfo, hi, hzz]
theorem overlaps_no (w : World) (gv g o lb cb : Nat) (cur cur2 : Array Value) (hne : gv ≠ g) (h1 : w.heap[gv]? = some (.cells cur 99 (0, 0))) (h2 : w.heap[g]? = some (.cells cur2 99 (0, 0))) (h3 : 0 < cur2.size) :
 (callFunc 130 #[.slice (some ⟨gv, 0, none⟩) 1 1, .slice (some ⟨g, o, none⟩) lb cb]).run Tryz.prog w = .ok (.value (.bool false)) w := by
 rw [run_callFunc_extern Tryz.func130 (by kernel_rfl) (by kernel_rfl) (by kernel_rfl) (e := Extern.SlicesOverlaps.overlaps #[81, 81] #[4]) (by kernel_rfl),
  Lib.run_overlaps_apart w 81 4 99 Tryz.underlying81 2 sizeOf99 ⟨gv, 0, none⟩ ⟨g, o, none⟩ 1 1 lb cb hne 99 99 cur.size cur2.size (by simp [World.shape?, h1]) (by simp [World.shape?, h2]) (by omega) (by simp [World.frozen?, h1]) (by simp [World.frozen?, h1])]
 rfl
set_option maxHeartbeats 1000000 in
set_option maxRecDepth 100000 in
theorem Insert_shift (L : List (Nat × (Obj → Prop))) (R : World → Prop) (w0 w : World) (g cap n i gv : Nat) (cs : List Value) (u1 u2 : Value) (H : Own [] ((g, EX 99 cs) :: L) R w0 w) (hc : cs.length = cap * 2) (hnc : n < cap) (hcm : cap ≤ maxLen) (hi : i < n) (hv : (gv, EC 99 [u1, u2]) ∈ L) (hn : n ≤ 100000) (h1 : ∀ u ∈ [u1, u2], u.oneCell' = true) (h2 : ∀ u ∈ cs.take (n * 2), u.oneCell' = true) :
 Calls Tryz.prog 120 #[.slice (some ⟨g, 0, none⟩) n cap, .int .i64 i, .slice (some ⟨gv, 0, none⟩) 1 1] w fun e w' => ∃ v', e = .returned v' ∧ OwnS [] L R w0 w' 99 2 v' (n + 1) ((cs.take (n * 2)).take (i * 2) ++ [u1, u2] ++ (cs.take (n * 2)).drop (i * 2)) := by
 have hne : gv ≠ g := by
  rintro rfl
  exact (List.nodup_cons.1 H.nd).1 (List.mem_map.2 ⟨_, hv, rfl⟩)
 obtain ⟨ov, hov, cur, sp, rfl, hcur⟩ := H.at_ _ _ (List.mem_cons_of_mem _ hv)
 obtain ⟨og, hog, hogx⟩ := H.at_ _ _ List.mem_cons_self
 rw [show og = .cells cs.toArray 99 (0, 0) from hogx] at hog
 have hovl := fun o lb cb => overlaps_no w gv g o lb cb cur cs.toArray hne hov hog (by rw [List.size_toArray, hc]; omega)
 have HOV := As.mk hovl
 obtain ⟨i1, hi1⟩ : ∃ i1, i1 = i + 1 := ⟨_, rfl⟩
 have hlen1 : ((cs.take (n * 2)).drop (i * 2)).length = (n - i) * 2 := by rw [List.length_drop, List.length_take, hc]; omega
 obtain ⟨w2, r2, hw2⟩ := copy_run 81 81 3 99 2 Tryz.underlying81 sz99 g (i1 * 2) (n + 1 - i1) (cap - i1) ⟨g, i * 2, none⟩ (n + 1 - i) (cap - i) (n - i) 99 cs ((cs.take (n * 2)).drop (i * 2)) H.drew (by rw [hi1]; exact (Nat.min_eq_right (by omega)).trans (by omega)) hlen1
  (fun j u hj => by
   have h9 : Own [] ((g, EC 99 cs) :: L) R w0 w := H.weak EX.ec
   have h8 : cs[i * 2 + j]? = some u := by
    rw [List.getElem?_drop, List.getElem?_take] at hj
    split at hj
    · exact hj
    · cases hj
   rw [Addr.add_lit]
   have y1 := h9.get List.mem_cons_self (i * 2 + j) (List.getElem?_eq_some_iff.1 h8).1
   exact y1.trans h8) (by rw [hlen1, hc]; omega) (fun u hu => h2 u (List.mem_of_mem_drop hu))
 have hl2 : (over cs (i1 * 2) ((cs.take (n * 2)).drop (i * 2))).length = cap * 2 := by rw [over_len (by rw [hlen1, hc]; omega)]; exact hc
 obtain ⟨w3, r3, hw3⟩ := copy_run 81 81 3 99 2 Tryz.underlying81 sz99 g (i * 2) (n + 1 - i) (cap - i) ⟨gv, 0, none⟩ 1 1 1 99 (over cs (i1 * 2) ((cs.take (n * 2)).drop (i * 2))) [u1, u2] hw2 (Nat.min_eq_left (by omega)) rfl
  (fun j u hj => by
   have y1 := hw2.get (List.mem_cons_of_mem _ hv) 0 (by simp)
   have y2 := hw2.get (List.mem_cons_of_mem _ hv) 1 (by simp)
   rcases j with _ | _ | j
   · simp at hj; subst hj; exact y1
   · simp at hj; subst hj; exact y2
   · simp at hj) (by rw [hl2]; simp only [List.length_cons, List.length_nil]; omega) h1
 have HW3 := As.mk hw3
 have hl3 : (over (over cs (i1 * 2) ((cs.take (n * 2)).drop (i * 2))) (i * 2) [u1, u2]).length = cap * 2 := by rw [over_len (by rw [hl2]; simp only [List.length_cons, List.length_nil]; omega)]; exact hl2
 have HL := As.mk (And.intro hlen1 (And.intro hl2 hl3))
 have HI1 := As.mk hi1
 have e1 : IntKind.i64.wrap ((i : Int) + 1) = (i1 : Int) := by rw [iw64 _ (by omega) (by omega)]; omega
 have e1' : (i : Int) + 1 = (i1 : Int) := by omega
 have e1w : IntKind.i64.wrap (i1 : Int) = (i1 : Int) := iw64 _ (by omega) (by omega)
 have e2 : ((i1 : Int) ≤ (n : Int) + 1) = True := eq_true (by omega)
 have e3 : (cap = i1) = False := eq_false (by omega)
 have e4 : (cap = i) = False := eq_false (by omega)
 have e5 : ((i : Int) ≤ (n : Int) + 1) = True := eq_true (by omega)
 have e6 : (0 : Int) ≤ (i1 : Int) := by omega
 have e7 : cap ≤ 9223372036854775807 := by unfold maxLen at hcm; omega
 have c1 : ((i : Int) = (n : Int)) = False := eq_false (by omega)
 have c2 : (i = n) = False := eq_false (by omega)
 have c3 : ((cap : Int) < (n : Int) + 1) = False := eq_false (by omega)
 clear H hw2 hw3 hi1 hov hog hlen1 hl2 hl3 hcur hovl
 go_enter Tryz.func120, Tryz.ntmps120
 go_wp2_with (simp only [HOV.out])
 refine rgn [(0, 1), (1, 1), (2, 1), (3, 1), (4, 1), (5, 1), (6, 1), (7, 1), (8, 3)] [8] (fun W => True) (by kernel_rfl) (by kernel_rfl) (fun _ _ _ d _ h => by cases d <;> exact h) trivial ?_
 iterate 8 (refine Run.pu (v := ?_) (a' := ?_) rfl rfl (Or.inl ⟨by rfl, ?_⟩) ?_ ?_; rotate_left 2; (focus (intro W; go_simp; with_reducible rfl)); (focus (simp only [Act.put, zq4, zq5, zq6]; rfl)))
 refine Run.la rfl (fun K hK => ?_)
 simp only [zq1, zq2, zq3]
 go_wp2_with fail
 refine hK.out _ _ ?_
 clear hK K
 refine Run.nil ?_
 go_wp2_with fail
 go_ret
 refine ⟨_, rfl, OwnS.ofWhole HW3.out (by omega) hcm HL.out.2.2 ?_⟩
 obtain ⟨g1, g2, g3⟩ := HL.out
 have t1 := over_take (A := over cs (i1 * 2) ((cs.take (n * 2)).drop (i * 2))) (ns := [u1, u2]) (o := i * 2) (by rw [g2]; omega)
 have t2 : (over cs (i1 * 2) ((cs.take (n * 2)).drop (i * 2))).take (i * 2) = cs.take (i * 2) := by
  unfold over
  rw [List.append_assoc, List.take_append_of_le_length (by rw [List.length_take, hc, HI1.out]; omega), List.take_take, Nat.min_eq_left (by rw [HI1.out]; omega)]
 rw [t2] at t1
 have t3 : (over cs (i1 * 2) ((cs.take (n * 2)).drop (i * 2))).take ((n + 1) * 2) = cs.take (i1 * 2) ++ (cs.take (n * 2)).drop (i * 2) := by
  have h9 := over_take (A := cs) (ns := (cs.take (n * 2)).drop (i * 2)) (o := i1 * 2) (by rw [hc, HI1.out]; omega)
  rw [g1, show i1 * 2 + (n - i) * 2 = (n + 1) * 2 by rw [HI1.out]; omega] at h9
  exact h9
 have hi2 : i * 2 + [u1, u2].length = i1 * 2 := by rw [HI1.out]; simp; omega
 have t4 : ∀ (A : List Value), A.length = cap * 2 → (over A (i * 2) [u1, u2]).take ((n + 1) * 2) = A.take (i * 2) ++ [u1, u2] ++ (A.take ((n + 1) * 2)).drop (i1 * 2) := by
  intro A hA
  unfold over
  rw [List.take_append, List.take_of_length_le (by rw [List.length_append, List.length_take, hA, Nat.min_eq_left (by omega), hi2, HI1.out]; omega), List.length_append, List.length_take, hA, Nat.min_eq_left (by omega), hi2, List.take_drop]
  congr 3
  rw [HI1.out]; omega
 rw [t4 _ g2, t2, t3]
 have t5 : (cs.take (n * 2)).take (i * 2) = cs.take (i * 2) := by rw [List.take_take, Nat.min_eq_left (by omega)]
 have t6 : (cs.take (i1 * 2) ++ (cs.take (n * 2)).drop (i * 2)).drop (i1 * 2) = (cs.take (n * 2)).drop (i * 2) := by
  have hl : (cs.take (i1 * 2)).length = i1 * 2 := by rw [List.length_take, hc, HI1.out]; omega
  rw [List.drop_append, hl, Nat.sub_self, List.drop_of_length_le (by omega)]
  rfl
 rw [t5, t6]
/-- a mark is put in -/
theorem slices_Insert (L : List (Nat × (Obj → Prop))) (R : World → Prop) (w0 w : World) (v : Value) (n i gv : Nat) (xs : List Value) (u1 u2 : Value) (H : OwnS [] L R w0 w 99 2 v n xs) (hv : (gv, EC 99 [u1, u2]) ∈ L) (hi : i ≤ n) (hn : n ≤ 100000) (h1 : ∀ u ∈ [u1, u2], u.oneCell' = true) (h2 : ∀ u ∈ xs, u.oneCell' = true) :
 Calls Tryz.prog 120 #[v, .int .i64 i, .slice (some ⟨gv, 0, none⟩) 1 1] w fun e w' => ∃ v', e = .returned v' ∧ OwnS [] L R w0 w' 99 2 v' (n + 1) (xs.take (i * 2) ++ [u1, u2] ++ xs.drop (i * 2)) := by
 have hxl := H.1
 rcases Nat.eq_or_lt_of_le hi with rfl | hi
 · rw [List.take_of_length_le (by omega), List.drop_of_length_le (by omega), List.append_nil]
   exact Insert_end L R w0 w v i gv xs u1 u2 H hv hn h1
 · obtain ⟨g, cap, cs, rfl, hnc, hcm, hcl, hct, hw⟩ := H.whole (by omega)
   rcases Nat.eq_or_lt_of_le hnc with e | hlt
   · have hcs : cs = xs := by rw [← hct, List.take_of_length_le (by omega)]
     subst hcs
     exact Insert_grow L R w0 w g cap n i gv cs u1 u2 hw hcl e hi hv hn h1 h2
   · subst hct
     exact Insert_shift L R w0 w g cap n i gv cs u1 u2 hw hcl hlt hcm hi hv hn h1 h2
end Go.Proofs.YtmookafmdonopaaGreat.Top
