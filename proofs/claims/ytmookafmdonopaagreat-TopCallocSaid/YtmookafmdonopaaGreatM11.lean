/- slots.Lowest walked. -/
import Derived.Test.YtmookafmdonopaaGreatM10
import Derived.Laws.CopyRow
import Derived.Lib.AppendZerosOnto
import Derived.Lib.Overlaps
/- slots.Lowest walked. -/
namespace Go.Proofs.YtmookafmdonopaaGreat.Top
open Go Go.RowKit
set_option linter.unusedVariables false
set_option linter.unusedSimpArgs false
attribute [local go_sem] max2_int min2_int max_two min_two max_three

set_option maxHeartbeats 1000000 in
theorem slots_Lowest (v : Value) (L n k : Nat) (b : Nat → Bool) (w : World) (h : TrR w v L (fun k => n / 2 ^ k) (fun k => lvs (n / 2 ^ k) (bk b k))) (hk : k < L) (hn1 : 1 ≤ n / 2 ^ k) (hn : n ≤ 4096) :
    Calls Tryz.prog 111 #[.agg #[v], .int .i64 k] w fun e w' => FZr (n / 2 ^ k) (bk b k) e ∧ Below w.heap.size w w' := by
  obtain ⟨g, c, rfl⟩ := h.ge
  have hb := h.below (box_below w (.cells #[.slice (some ⟨g, 0, none⟩) L c] 80))
  obtain ⟨g2, c2, hv2, hc2, hk2⟩ := hb
  injection hv2 with e1 e2 e3
  injection e1 with e1
  injection e1 with e1 _ _
  subst e1
  subst e3
  obtain ⟨z1, A, d, e, z2, z3⟩ := hk2 k hk
  have hs4 : n / 2 ^ k ≤ 4096 := Nat.le_trans (Nat.div_le_self _ _) hn
  obtain ⟨sz, hsz⟩ : ∃ sz, sz = n / 2 ^ k := ⟨_, rfl⟩
  replace z1 : (w.alloc (.cells #[.slice (some ⟨g, 0, none⟩) L c] 80)).cell? ⟨g, k * 2, none⟩ = some (.int .i64 (sz : Int)) := by rw [z1, hsz]
  have z3' : Lev (w.alloc (.cells #[.slice (some ⟨g, 0, none⟩) L c] 80)) (.slice A d e) (lvs sz (bk b k)) := by rw [hsz]; exact z3
  rw [← hsz] at hn1 hs4 ⊢
  have HF := As.mk (tree_FirstZero sz (bk b k) A d e _ z3' hn1 hs4)
  have hk2' : (L ≤ k) = False := eq_false (by omega)
  have hk3' : ((L : Int) ≤ (k : Int)) = False := eq_false (by omega)
  clear h hk2 z3 z3' hsz
  go_enter Tryz.func111, Tryz.ntmps111
  go_wp2_with fail
  refine HF.out.mono ?_
  rintro e w1 ⟨⟨v, ok, rfl, hz⟩, hb⟩
  have HB := As.mk (below_trans1 hb)
  have HZ := As.mk hz
  clear HF hb hz
  go_wp2
  refine bodyPost_ret (v := .tuple #[.int .i64 v, .bool ok]) (by simp [results, Tryz.f111, go_sem, *]) rfl ?_
  exact ⟨⟨_, _, rfl, HZ.out⟩, HB.out⟩
end Go.Proofs.YtmookafmdonopaaGreat.Top
/- Blocks that are known whole; copy between slices of two cells each; append of zeros. -/
namespace Go.Proofs.YtmookafmdonopaaGreat.Top
open Go Go.RowKit
set_option linter.unusedVariables false
set_option linter.unusedSimpArgs false
attribute [local go_sem] max2_int min2_int max_two min_two max_three

/-- a block that is known whole -/
def EX (e : TypeId) (cs : List Value) : Obj → Prop := fun o => o = .cells cs.toArray e (0, 0)
theorem EX.ec {e : TypeId} {cs : List Value} (o : Obj) (h : EX e cs o) : EC e cs o := ⟨cs.toArray, [], h, by simp⟩
theorem Own.known {X : List Nat} {L : List (Nat × (Obj → Prop))} {R : World → Prop} {w0 w : World} {g : Nat} {p q : Obj → Prop} {o : Obj} (h : Own X ((g, p) :: L) R w0 w) (ho : w.heap[g]? = some o) (hq : q o) : Own X ((g, q) :: L) R w0 w := by
  refine ⟨h.nd, fun a r hm => ?_, fun a r hm => ?_, h.ro, h.upd⟩
  · rcases List.mem_cons.1 hm with e | hm
    · injection e with e1 e2
      subst e1; subst e2
      exact ⟨o, ho, hq⟩
    · exact h.at_ _ _ (List.mem_cons_of_mem _ hm)
  · rcases List.mem_cons.1 hm with e | hm
    · injection e with e1 e2
      subst e1
      exact h.ok _ _ List.mem_cons_self
    · exact h.ok _ _ (List.mem_cons_of_mem _ hm)
/-- an appended slice's block, known whole -/
theorem OwnS.whole {X : List Nat} {L : List (Nat × (Obj → Prop))} {R : World → Prop} {w0 w : World} {e size n : Nat} {v : Value} {xs : List Value} (h : OwnS X L R w0 w e size v n xs) (hn : 0 < n) :
    ∃ g cap cs, v = .slice (some ⟨g, 0, none⟩) n cap ∧ n ≤ cap ∧ cap ≤ maxLen ∧ cs.length = cap * size ∧ cs.take (n * size) = xs ∧ Own X ((g, EX e cs) :: L) R w0 w := by
  rcases h.2 with ⟨_, h0, _⟩ | ⟨g, cap, rfl, hg, h3⟩
  · omega
  · obtain ⟨o, ho, cur, rfl, a1, a2, a3, a4⟩ := h3.at_ _ _ List.mem_cons_self
    exact ⟨g, cap, cur.toList, rfl, a1, a2, by simpa using a3, a4, h3.known ho (by show _ = _; simp)⟩
/-- .. and back -/
theorem OwnS.ofWhole {L : List (Nat × (Obj → Prop))} {R : World → Prop} {w0 w : World} {e size n g cap : Nat} {cs xs : List Value} (h : Own [] ((g, EX e cs) :: L) R w0 w) (h1 : n ≤ cap) (h2 : cap ≤ maxLen) (h3 : cs.length = cap * size) (h4 : cs.take (n * size) = xs) :
    OwnS [] L R w0 w e size (.slice (some ⟨g, 0, none⟩) n cap) n xs := by
  refine ⟨?_, Or.inr ⟨g, cap, rfl, ?_, h.weak fun o ho => ⟨cs.toArray, ho, h1, h2, by simpa using h3, by simpa using h4⟩⟩⟩
  · rw [← h4, List.length_take, h3]
    exact Nat.min_eq_left (Nat.mul_le_mul_right _ h1)
  · rcases h.ok _ _ List.mem_cons_self with h5 | h5
    · simp at h5
    · exact h5
/-- a callee's new row -/
theorem OwnS.ofRow {L : List (Nat × (Obj → Prop))} {R : World → Prop} {w0 w w1 : World} {e size n : Nat} {v : Value} {xs : List Value} (h : Own [] L R w0 w) (hb : Below w.heap.size w w1) (k : w1.ownsRow w.heap.size e size v n xs) : OwnS [] L R w0 w1 e size v n xs := by
  refine ⟨k.1, ?_⟩
  rcases k.2 with ⟨h1, h2⟩ | ⟨g, cap, cur, h1, h2, h3, a1, a2, a3, a4⟩
  · exact Or.inl ⟨h1, h2, h.below hb⟩
  · exact Or.inr ⟨g, cap, h1, Nat.le_trans h.size h2, h.add hb h2 h3 ⟨cur, rfl, a1, a2, a3, a4⟩⟩
theorem Own.setRow {X : List Nat} {L : List (Nat × (Obj → Prop))} {R : World → Prop} {w0 w : World} {e g : Nat} {cs cs' : List Value} (h : Own X ((g, EX e cs) :: L) R w0 w) : Own X ((g, EX e cs') :: L) R w0 (w.setRow g cs'.toArray) := by
  obtain ⟨o, ho, hx⟩ := h.at_ _ _ List.mem_cons_self
  rw [show o = .cells cs.toArray e (0, 0) from hx] at ho
  exact h.put (q := EX e cs') 0 rfl rfl rfl rfl (by simp [World.setRow]) (fun k _ hne => setRow_other w g k _ hne) (setRow_heap w g _ cs'.toArray e (0, 0) ho) rfl
/-- cells laid over others -/
def over (cs : List Value) (o : Nat) (ns : List Value) : List Value := cs.take o ++ ns ++ cs.drop (o + ns.length)
theorem over_len {cs ns : List Value} {o : Nat} (h : o + ns.length ≤ cs.length) : (over cs o ns).length = cs.length := by simp [over]; omega
theorem run_copy_n (P : Program) (w : World) (dT sT ty elem : TypeId) (sz : Nat) (g o dLen dCap : Nat) (a : Addr) (sLen sCap : Nat) (cur : Array Value) (t : TypeId) (cs : List Value)
    (hu : P.underlying dT = some (.slice elem)) (hs : (P.info? elem).map (·.size) = some sz)
    (hg : w.heap[g]? = some (.cells cur t (0, 0))) (hn : cs.length = Nat.min sLen dLen * sz)
    (hsrc : ∀ j v, cs[j]? = some v → w.cell? (a.add j) = some v) (hfit : o + cs.length ≤ cur.size) (h1 : ∀ v ∈ cs, v.oneCell' = true) :
    (Builtin.copy_ #[dT, sT] ty #[.slice (some ⟨g, o, none⟩) dLen dCap, .slice (some a) sLen sCap]).run P w =
      .ok (goInt (Nat.min sLen dLen)) (w.setRow g (cur.toList.take o ++ cs ++ cur.toList.drop (o + cs.length)).toArray) := by
  have hl := run_loadCells_list (P := P) w a cs hsrc
  have hst := run_storeCells_at P g o t cs 0 cur w hg (by simpa using hfit) h1
  cases hq : P.info? elem with
  | none => simp [hq] at hs
  | some i =>
    have hi : i.size = sz := by simpa [hq] using hs
    simp only [Nat.add_zero] at hst
    simp [Builtin.copy_, run_underlying hu, Builtin.lenOf, Builtin.firstCells, sizeOf, typeInfo, hq, hi, ← hn, hl, hst]
section
variable {P : Program} {ops : Array Oper} {Q : Exit → Act → World → Prop} {rest : List Oper} {o : Oper} {a : Act} {X : List Nat} {L : List (Nat × (Obj → Prop))} {R : World → Prop} {w0 w : World}
/-- copy into a block of the walk's own -/
theorem go_copy (hgd : o.guard = none) (d s : Operand) (dT sT : TypeId) (ho : o.op = .call { callee := .builtin .copy, args := #[d, s], argTypes := #[dT, sT] })
    (elem sz : Nat) (hu : P.underlying dT = some (.slice elem)) (hsz : (P.info? elem).map (·.size) = some sz)
    (g off dLen dCap : Nat) (ad : Addr) (sLen sCap : Nat) (hd : a.eval d = .slice (some ⟨g, off, none⟩) dLen dCap) (hs : a.eval s = .slice (some ad) sLen sCap)
    (e : TypeId) (cs ns : List Value) (H : Own X ((g, EX e cs) :: L) R w0 w) (hn : ns.length = Nat.min sLen dLen * sz)
    (hsrc : ∀ j v, ns[j]? = some v → w.cell? (ad.add j) = some v) (hfit : off + ns.length ≤ cs.length) (h1 : ∀ v ∈ ns, v.oneCell' = true)
    (h : ∀ w1, Own X ((g, EX e (over cs off ns)) :: L) R w0 w1 → wpList P ops Q rest (a.put o.dst (goInt (Nat.min sLen dLen))) w1) : wpList P ops Q (o :: rest) a w := by
  refine wpList_plain hgd fun K hK => ?_
  obtain ⟨x, hx, hxx⟩ := H.at_ _ _ List.mem_cons_self
  rw [show x = .cells cs.toArray e (0, 0) from hxx] at hx
  have hrun := run_copy_n P w dT sT o.type elem sz g off dLen dCap ad sLen sCap cs.toArray e ns hu hsz hx hn hsrc (by simpa using hfit) h1
  unfold Oper.wp
  simp [execOp, ho, resolve, invoke, builtin, hd, hs, hrun, Result.andThen]
  have h5 := h _ (H.setRow (cs' := over cs off ns))
  simp only [over] at h5
  simp only [List.append_assoc] at h5
  exact hK _ _ h5
/-- append of zeros where there is no room -/
theorem go_appz (hgd : o.guard = none) (s x : Operand) (t tn : TypeId) (ho : o.op = .call { callee := .builtin .append, args := #[s, x], argTypes := #[t, tn] })
    (e : TypeId) (z : Value) (size bytes : Nat) (kq kn : IntKind) (ht : P.underlying t = some (.slice e)) (htn : P.underlying tn = some (.int kn)) (hinfo : (P.info? e).map (fun i => (i.zero, i.size, i.bytes)) = some (some z, size, bytes)) (hz : z.cells.size = size) (hs0 : 0 < size)
    (ad : Addr) (sLen sCap : Nat) (olds : List Value) (hs : a.eval s = .slice (some ad) sLen sCap) (hl : olds.length = sLen * size) (hold : ∀ j u, olds[j]? = some u → w.cell? (ad.add j) = some u)
    (k : Nat) (K : Int) (hK : K = (k : Int)) (hx : a.eval x = .int kq K) (h0 : 0 < k) (hg : sCap < sLen + k) (hlen : (sLen + k) * bytes ≤ 140737488355328) (hc : sCap ≤ sLen + k) (h63 : sLen + k ≤ maxLen)
    (H : Own X L R w0 w)
    (h : ∀ g cap cs w1, sLen + k ≤ cap → cap ≤ maxLen → cs.length = cap * size → cs.take (sLen * size) = olds → w.heap.size ≤ g → Own X ((g, EX e cs) :: L) R w0 w1 → Below w.heap.size w w1 → wpList P ops Q rest (a.put o.dst (.slice (some ⟨g, 0, none⟩) (sLen + k) cap)) w1) : wpList P ops Q (o :: rest) a w := by
  obtain ⟨i0, hi, hzz⟩ := Option.map_eq_some_iff.1 hinfo
  simp only [Prod.mk.injEq] at hzz
  obtain ⟨hz0, hz1, hz2⟩ := hzz
  subst hK
  refine wpList_plain hgd fun K hK => ?_
  have hold2 : (Builtin.firstCells i0.size sLen (.slice (some ad) sLen sCap)).run P w.drew = .ok olds.toArray w.drew := by
    rw [hz1]
    exact run_firstCells_some w.drew size sLen ad sLen sCap olds (by rw [hl]) hold
  have hfit := growslice_fits hg hlen
  have hb : k * bytes ≤ 281474976710656 := by
    have h9 : k * bytes ≤ (sLen + k) * bytes := Nat.mul_le_mul_right _ (by omega)
    omega
  have hrun := Lib.run_append_grow_zeros w t tn o.type e i0 z kq kn ht htn hi hz0 (some ad) sLen sCap olds hold2 k h0 (by omega) hg (by unfold maxLen at h63; omega) (by rw [hz2]; exact hb) (by rw [hz2]; exact hfit)
  have hge := grownCap_ge w (sLen + k) sCap e
  have hle := grownCap_le_maxLen w (sLen + k) sCap e h63
  obtain ⟨G, hG⟩ : ∃ G, G = grownCap w (sLen + k) sCap e := ⟨_, rfl⟩
  rw [← hG] at hrun hge hle
  have hlz : ∀ m, (Builtin.zeroCells z.cells m).size = m * size := by intro m; rw [← hz]; simp [Builtin.zeroCells]
  obtain ⟨row, hrow⟩ : ∃ row, row = olds.toArray ++ Builtin.zeroCells z.cells k ++ Builtin.zeroCells z.cells (G - (sLen + k)) := ⟨_, rfl⟩
  rw [← hrow] at hrun
  have hrl : row.size = G * size := by
    rw [hrow, Array.size_append, Array.size_append, hlz, hlz, List.size_toArray, hl, ← Nat.add_mul, ← Nat.add_mul]
    congr 1
    omega
  have h5 := h w.heap.size G row.toList (w.drew.alloc (.cells row e)) hge hle (by simpa using hrl) (by
    rw [hrow]
    simp only [Array.toList_append, List.append_assoc]
    rw [List.take_append_of_le_length (by rw [hl]; exact Nat.le_refl _), ← hl]
    exact List.take_length ..) (Nat.le_refl _) (H.drew.alloc (x := .cells row e) (p := EX e row.toList) (by simp [EX])) ((drew_below w).alloc (Nat.le_refl _) _)
  unfold Oper.wp
  simp [execOp, ho, resolve, invoke, builtin, hs, hx, hrun, Result.andThen]
  exact hK _ _ h5
end
end Go.Proofs.YtmookafmdonopaaGreat.Top
/- side.find walked: a binary search among marks. -/
namespace Go.Proofs.YtmookafmdonopaaGreat.Top
open Go Go.RowKit
set_option linter.unusedVariables false
set_option linter.unusedSimpArgs false
attribute [local go_sem] max2_int min2_int max_two min_two max_three

/-- marks: where, which class -/
abbrev Mk := Nat × Nat
def marksV (l : List Mk) : List Value := l.flatMap fun p => [.int .i64 (p.1 : Int), .int .i64 (p.2 : Int)]
def Sorted (l : List Mk) : Prop := l.Pairwise fun a b => a.1 < b.1
theorem marksV_len (l : List Mk) : (marksV l).length = l.length * 2 := by
  induction l with
  | nil => rfl
  | cons a r ih => simp only [marksV, List.flatMap_cons, List.length_append, List.length_cons] at ih ⊢; simp at ih ⊢; omega
theorem marksV_at (l : List Mk) (i : Nat) (p : Mk) (h : l[i]? = some p) : (marksV l)[i * 2]? = some (.int .i64 (p.1 : Int)) ∧ (marksV l)[i * 2 + 1]? = some (.int .i64 (p.2 : Int)) := by
  induction l generalizing i with
  | nil => simp at h
  | cons a r ih =>
    cases i with
    | zero =>
      simp at h
      subst h
      exact ⟨rfl, rfl⟩
    | succ i =>
      have h2 := ih i (by simpa using h)
      have e : marksV (a :: r) = .int .i64 (a.1 : Int) :: .int .i64 (a.2 : Int) :: marksV r := rfl
      rw [e, show (i + 1) * 2 = i * 2 + 1 + 1 by omega]
      simp only [List.getElem?_cons_succ]
      exact h2
/-- how many lie ahead of a place -/
def posM (l : List Mk) (x : Nat) : Nat := l.countP fun p => decide (p.1 < x)
def hasM (l : List Mk) (x : Nat) : Bool := l.any fun p => decide (p.1 = x)
theorem posM_le (l : List Mk) (x : Nat) : posM l x ≤ l.length := List.countP_le_length
theorem posM_spec (l : List Mk) (x : Nat) (hs : Sorted l) : ∀ i p, l[i]? = some p → (p.1 < x ↔ i < posM l x) := by
  induction l with
  | nil => intro i p h; simp at h
  | cons a r ih =>
    intro i p h
    have hr := ih (List.pairwise_cons.1 hs).2
    have ha := (List.pairwise_cons.1 hs).1
    unfold posM
    by_cases hx : a.1 < x
    · rw [List.countP_cons_of_pos (by simpa using hx)]
      cases i with
      | zero => simp at h; subst h; simp [hx]
      | succ i =>
        have h2 := hr i p (by simpa using h)
        rw [h2]
        unfold posM
        omega
    · have h0 : r.countP (fun p => decide (p.1 < x)) = 0 := by
        rw [List.countP_eq_zero]
        intro q hq
        have := ha q hq
        simp; omega
      rw [List.countP_cons_of_neg (by simpa using hx), h0]
      refine ⟨fun h3 => ?_, fun h3 => by omega⟩
      exfalso
      cases i with
      | zero => simp at h; subst h; exact hx h3
      | succ i =>
        have h4 : p ∈ r := List.mem_of_getElem? (by simpa using h)
        have := ha p h4
        omega
theorem hasM_at (l : List Mk) (x : Nat) (hs : Sorted l) : hasM l x = true ↔ ∃ p, l[posM l x]? = some p ∧ p.1 = x := by
  unfold hasM
  rw [List.any_eq_true]
  constructor
  · rintro ⟨p, hp, hx⟩
    obtain ⟨i, hi⟩ := List.mem_iff_getElem?.1 hp
    have hx' : p.1 = x := by simpa using hx
    have h1 := posM_spec l x hs i p hi
    have hi2 : posM l x ≤ i := by have : ¬ i < posM l x := fun h => by have := h1.2 h; omega
                                  omega
    have hil := (List.getElem?_eq_some_iff.1 hi).1
    obtain ⟨q, hq⟩ : ∃ q, l[posM l x]? = some q := ⟨l[posM l x], List.getElem?_eq_getElem (by omega)⟩
    rcases Nat.eq_or_lt_of_le hi2 with h3 | h3
    · exact ⟨p, by rw [h3]; exact hi, hx'⟩
    · exfalso
      have hq2 := posM_spec l x hs _ q hq
      have hlt : q.1 < p.1 := by
        have := List.pairwise_iff_getElem.1 hs (posM l x) i (by omega) hil h3
        rw [List.getElem?_eq_getElem (by omega)] at hq hi
        injection hq with hq
        injection hi with hi
        rw [← hq, ← hi]
        exact this
      have := hq2.1 (by omega)
      omega
  · rintro ⟨p, hp, hx⟩
    exact ⟨p, List.mem_of_getElem? hp, by simpa using hx⟩
def cmpI (a x : Nat) : Int := if a < x then -1 else if a = x then 0 else 1
theorem mark_cmp (a k x : Nat) (w : World) : Calls Tryz.prog 122 #[.agg #[.int .i64 a, .int .i64 k], .int .i64 x] w fun e w' => e = .returned (.int .i64 (cmpI a x)) ∧ Below w.heap.size w w' := by
  have HB := As.mk (box_below w (.cells #[.int .i64 a, .int .i64 k] 99))
  unfold cmpI
  go_enter Tryz.func122, Tryz.ntmps122
  go_wp2
  all_goals (go_ret; exact ⟨rfl, box_below _ _⟩)
theorem Row.cell {w : World} {A : Option Addr} {n c : Nat} {cs : List Value} (h : Row w (.slice A n c) n cs) (hne : 0 < cs.length) : ∃ b o, A = some ⟨b, o, none⟩ ∧ n ≤ c ∧ ∀ i u, cs[i]? = some u → w.cell? ⟨b, o + i, none⟩ = some u := by
  obtain ⟨A', c', hv, hc, hr⟩ := h
  injection hv with h1 h2 h3
  subst h1; subst h3
  rcases hr with rfl | ⟨b, o, hA, hcell⟩
  · simp at hne
  · exact ⟨b, o, hA, hc, hcell⟩
set_option maxHeartbeats 1000000 in
theorem search (A : Option Addr) (c : Nat) (l : List Mk) (x : Nat) (w : World) (h : Row w (.slice A l.length c) l.length (marksV l)) (hs : Sorted l) (hl : l.length ≤ 100000) :
    Calls Tryz.prog 121 #[.slice A l.length c, .int .i64 x, .func (.func 122) #[] #[]] w fun e w' => e = .returned (.tuple #[.int .i64 (posM l x), .bool (hasM l x)]) ∧ Below w.heap.size w w' := by
  have H := As.mk h
  have hple := posM_le l x
  have PS := As.mk (posM_spec l x hs)
  have HM := As.mk (hasM_at l x hs)
  have hlen := marksV_len l
  have HLEN := As.mk hlen
  obtain ⟨n, hn⟩ : ∃ n, n = l.length := ⟨_, rfl⟩
  have HN := As.mk hn
  rw [← hn] at H hple hl ⊢
  obtain ⟨p, hp⟩ : ∃ p, p = posM l x := ⟨_, rfl⟩
  rw [← hp] at PS HM hple ⊢
  obtain ⟨fd, hfd⟩ : ∃ fd, fd = hasM l x := ⟨_, rfl⟩
  rw [← hfd] at HM ⊢
  clear h hs hn hp hfd hlen
  go_enter Tryz.func121, Tryz.ntmps121
  go_wp2_with fail
  go_loopw [9, 10] (fun a b wr => ∃ lo hi : Nat, a = .int .i64 (lo : Int) ∧ b = .int .i64 (hi : Int) ∧ lo ≤ p ∧ p ≤ hi ∧ hi ≤ n ∧ Below w.heap.size w wr) (fun a b _ => (intOf b).toNat - (intOf a).toNat)
  case atStart => exact ⟨0, n, rfl, rfl, Nat.zero_le _, hple, Nat.le_refl _, Below.refl _ _⟩
  case round =>
    obtain ⟨lo, hi, rfl, rfl, h1, h2, h3, hb⟩ := hrel
    have HB := As.mk hb
    clear hb
    by_cases hlt : lo < hi
    · obtain ⟨m, hm⟩ : ∃ m, m = (lo + hi) / 2 := ⟨_, rfl⟩
      have hm1 : ((lo : Int) + (hi : Int)) / 2 = (m : Int) := by omega
      have hm2 : m < n := by omega
      have hm3 : lo ≤ m := by omega
      have hm4 : m < hi := by omega
      obtain ⟨q, hq⟩ : ∃ q, l[m]? = some q := ⟨l[m]'(by have := HN.out; omega), List.getElem?_eq_getElem _⟩
      obtain ⟨c1, c2⟩ := marksV_at l m q hq
      obtain ⟨b, o, rfl, hnc, hcell⟩ := H.out.cell (by rw [HLEN.out]; have := HN.out; omega)
      have z1 := cell_below HB.out (hcell _ _ c1)
      have z2 := cell_below HB.out (hcell _ _ c2)
      rw [← Nat.add_assoc] at z2
      have hps := PS.out m q hq
      have hlm : ((lo : Int) < (hi : Int)) = True := eq_true (by omega)
      have HC := As.mk (fun W => mark_cmp q.1 q.2 x W)
      obtain ⟨q1, q2⟩ := q
      simp only at z1 z2 hps HC
      have HM1 := As.mk hm
      clear hq c1 c2 hcell hm
      by_cases hc : q1 < x
      · have hcv : (cmpI q1 x < 0) = True := eq_true (by unfold cmpI; rw [if_pos hc]; decide)
        have hmp := hps.1 hc
        clear hps
        go_wp2_with fail
        refine (HC.out _).mono ?_
        rintro e w2 ⟨rfl, hb2⟩
        have HB2 := As.mk (HB.out.trans (hb2.mono HB.out.size))
        clear hb2
        go_wp2_with fail
        go_roundw
        case rel => exact ⟨m + 1, hi, by go_num, rfl, by omega, h2, h3, HB2.out⟩
        case measure => simp [intOf]; omega
      · have hcv : (cmpI q1 x < 0) = False := eq_false (by unfold cmpI; rw [if_neg hc]; split <;> decide)
        have hmp : ¬ m < p := fun h => hc (hps.2 h)
        clear hps
        go_wp2_with fail
        refine (HC.out _).mono ?_
        rintro e w2 ⟨rfl, hb2⟩
        have HB2 := As.mk (HB.out.trans (hb2.mono HB.out.size))
        clear hb2
        go_wp2_with fail
        go_roundw
        case rel => exact ⟨lo, m, rfl, rfl, h1, by omega, by omega, HB2.out⟩
        case measure => simp [intOf]; omega
    · have e1 : lo = p := by omega
      have e2 : hi = p := by omega
      subst e1
      subst e2
      by_cases hpn : hi < n
      · obtain ⟨q, hq⟩ : ∃ q, l[hi]? = some q := ⟨l[hi]'(by have := HN.out; omega), List.getElem?_eq_getElem _⟩
        obtain ⟨c1, c2⟩ := marksV_at l hi q hq
        obtain ⟨b, o, rfl, hnc, hcell⟩ := H.out.cell (by rw [HLEN.out]; have := HN.out; omega)
        have z1 := cell_below HB.out (hcell _ _ c1)
        have z2 := cell_below HB.out (hcell _ _ c2)
        rw [← Nat.add_assoc] at z2
        have HC := As.mk (fun W => mark_cmp q.1 q.2 x W)
        have hfd : fd = decide (cmpI q.1 x = 0) := by
          apply bool_ext
          rw [HM.out, hq, decide_eq_true_iff]
          unfold cmpI
          constructor
          · rintro ⟨p', e, hx⟩
            injection e with e
            subst e
            rw [if_neg (by omega), if_pos hx]
          · intro h
            refine ⟨q, rfl, ?_⟩
            split at h
            · cases h
            · split at h
              · assumption
              · cases h
        obtain ⟨q1, q2⟩ := q
        simp only at z1 z2 HC hfd
        have hll : ((hi : Int) < (n : Int)) = True := eq_true (by omega)
        subst hfd
        obtain ⟨cv, hcv⟩ : ∃ cv, cv = cmpI q1 x := ⟨_, rfl⟩
        rw [← hcv] at HC
        have HCV := As.mk hcv
        clear hq c1 c2 hcell hcv
        go_wp2_with fail
        refine (HC.out _).mono ?_
        rintro e w2 ⟨rfl, hb2⟩
        have HB2 := As.mk (HB.out.trans (hb2.mono HB.out.size))
        clear hb2
        go_wp2_with fail
        have e : (cv == 0) = decide (cmpI q1 x = 0) := by rw [HCV.out]; rfl
        exact bodyPost_ret (v := .tuple #[.int .i64 hi, .bool (decide (cmpI q1 x = 0))]) (by rw [← e]; simp [results, Tryz.f121, go_sem]) rfl ⟨rfl, HB2.out⟩
      · have hfd : fd = false := by
          cases fd with
          | false => rfl
          | true =>
            obtain ⟨p', e, _⟩ := HM.out.1 rfl
            have := (List.getElem?_eq_some_iff.1 e).1
            have := HN.out
            omega
        subst hfd
        have hll : ((hi : Int) < (n : Int)) = False := eq_false (by omega)
        go_wp2_with fail
        exact bodyPost_ret (v := .tuple #[.int .i64 hi, .bool false]) (by simp [results, Tryz.f121, go_sem]) rfl ⟨rfl, HB.out⟩
theorem side_find (A : Option Addr) (c : Nat) (l : List Mk) (x : Nat) (w : World) (h : Row w (.slice A l.length c) l.length (marksV l)) (hs : Sorted l) (hl : l.length ≤ 100000) :
    Calls Tryz.prog 114 #[.slice A l.length c, .int .i64 x] w fun e w' => e = .returned (.tuple #[.int .i64 (posM l x), .bool (hasM l x)]) ∧ Below w.heap.size w w' := by
  have HS := As.mk (search A c l x w h hs hl)
  obtain ⟨p, hp⟩ : ∃ p, p = posM l x := ⟨_, rfl⟩
  obtain ⟨fd, hfd⟩ : ∃ fd, fd = hasM l x := ⟨_, rfl⟩
  obtain ⟨n, hn⟩ : ∃ n, n = l.length := ⟨_, rfl⟩
  rw [← hp, ← hfd, ← hn] at HS
  rw [← hp, ← hfd, ← hn]
  clear h hs hp hfd hl hn
  go_enter Tryz.func114, Tryz.ntmps114
  go_wp2_with fail
  refine HS.out.mono ?_
  rintro e w2 ⟨rfl, hb⟩
  have HB := As.mk hb
  clear hb HS
  go_wp2
  exact bodyPost_ret (v := .tuple #[.int .i64 p, .bool fd]) (by simp [results, Tryz.f114, go_sem]) rfl ⟨rfl, HB.out⟩
end Go.Proofs.YtmookafmdonopaaGreat.Top
