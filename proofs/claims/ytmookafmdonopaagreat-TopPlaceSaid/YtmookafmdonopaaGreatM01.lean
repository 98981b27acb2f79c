/- Words of this session for the statements on the whole heap: what a walk's own blocks hold (Own), what is only read. -/
import Derived.Test.YtmookafmdonopaaGreatProg
import Derived.Below
import Derived.Deep.Draws
import Derived.Deep.AppendLies
import Derived.Maps.AppendAt
import Derived.OwnWalk
import Derived.Laws.BytesArg
import Derived.Laws.MakeOwn
import Derived.Laws.OwnMore
import Derived.Deep.OwnRows
import Derived.Tactics
import Derived.Lib.ConvBytes
import Derived.Laws.Slices
import Derived.WalkKit
import Derived.KernelRfl
import Derived.RowKit3
import Derived.Deep.LoopGhost
import Derived.Deep.QuietTactic
import Derived.BigQuiet
import Derived.WideLaws
import Derived.Deep.DeepCutAuto
import Derived.Deep.CutBlock
import Derived.Deep.RegionHeld3
import Derived.Laws.Rows
import Derived.ArgAppend
import Derived.Laws.IdiomCopy
import Derived.OrdersHeld
import Derived.RowKit
import Derived.Outline
import Derived.OpenShut
import Derived.Lib.SliceRun
import Derived.StillTailTactics
/- Words of this session for the statements on the whole heap: what a walk's own blocks hold (Own), what is only read. -/
namespace Go.Proofs.YtmookafmdonopaaGreat.Top
open Go Go.RowKit
set_option linter.unusedVariables false
set_option linter.unusedSimpArgs false

theorem zq1 {α : Type} {xs : List α} {i : Nat} (h : i < xs.toArray.size) : xs.toArray[i] = xs[i]'(by simpa using h) := rfl
theorem zq2 {α : Type} (a : α) (l : List α) (i : Nat) (h : i + 1 < (a :: l).length) : getElem (a :: l) (i + 1) h = getElem l i (Nat.lt_of_succ_lt_succ h) := rfl
theorem zq3 {α : Type} (a : α) (l : List α) (h : 0 < (a :: l).length) : getElem (a :: l) 0 h = a := rfl
theorem zq4 {α : Type} (l : List α) (i : Nat) (a : α) : l.toArray.setIfInBounds i a = (l.set i a).toArray := List.setIfInBounds_toArray l i a
theorem zq5 {α : Type} {x : α} {xs : List α} {a : α} : (x :: xs).set 0 a = a :: xs := rfl
theorem zq6 {α : Type} {x : α} {xs : List α} {i : Nat} {a : α} : (x :: xs).set (i + 1) a = x :: xs.set i a := rfl

/-- A fact that the walk's simp does not look into. -/
structure As (p : Prop) : Prop where mk :: (out : p)

/-- But for the blocks of X the elder blocks are as they were. -/
structure Upd (X : List Nat) (w w' : World) : Prop where
 os : w'.os = w.os
 tape : w'.tape = w.tape
 output : w'.output = w.output
 size : w.heap.size ≤ w'.heap.size
 block : ∀ k, k < w.heap.size → k ∉ X → w'.heap[k]? = w.heap[k]?
namespace Upd
theorem refl (X : List Nat) (w : World) : Upd X w w := ⟨rfl, rfl, rfl, Nat.le_refl _, fun _ _ _ => rfl⟩
theorem trans {X : List Nat} {a b c : World} (h : Upd X a b) (k : Upd X b c) : Upd X a c :=
 ⟨k.os.trans h.os, k.tape.trans h.tape, k.output.trans h.output, Nat.le_trans h.size k.size, fun i hi hx => (k.block i (Nat.lt_of_lt_of_le hi h.size) hx).trans (h.block i hi hx)⟩
theorem below {X : List Nat} {w w' : World} (h : Below w.heap.size w w') : Upd X w w' := ⟨h.os, h.tape, h.output, h.size, fun k hk _ => h.block k hk⟩
theorem toBelow {w w' : World} (h : Upd [] w w') : Below w.heap.size w w' := ⟨h.os, h.tape, h.output, h.size, fun k hk => h.block k hk (by simp)⟩
theorem mono {X Y : List Nat} {w w' : World} (h : Upd X w w') (hx : ∀ k, k ∈ X → k ∈ Y) : Upd Y w w' := ⟨h.os, h.tape, h.output, h.size, fun k hk hn => h.block k hk (fun hm => hn (hx k hm))⟩
end Upd

/-- A block of cells that begin with cs. -/
def EC (e : TypeId) (cs : List Value) : Obj → Prop := fun o => ∃ cur sp, o = .cells cur e (0, 0) ∧ cur.toList = cs ++ sp

/-- What a walk knows: its own blocks (L: new since w0, or of X), what is only read (R: it lies in none of these), all else is as it was. -/
structure Own (X : List Nat) (L : List (Nat × (Obj → Prop))) (R : World → Prop) (w0 w : World) : Prop where
 nd : (L.map Prod.fst).Nodup
 at_ : ∀ g p, (g, p) ∈ L → ∃ o, w.heap[g]? = some o ∧ p o
 ok : ∀ g p, (g, p) ∈ L → g ∈ X ∨ w0.heap.size ≤ g
 ro : ∀ W : World, (∀ k, k < w.heap.size → w0.heap.size ≤ k → k ∉ L.map Prod.fst → W.heap[k]? = w.heap[k]?) → R W
 upd : Upd X w0 w

section
variable {X : List Nat} {L L' : List (Nat × (Obj → Prop))} {R R' : World → Prop} {w0 w w1 : World} {g o i e : Nat} {p : Obj → Prop} {cs : List Value} {u : Value}
theorem heap_lt {k : Nat} {x : Obj} (h : w.heap[k]? = some x) : k < w.heap.size := (Array.getElem?_eq_some_iff.1 h).1
theorem alloc_size (w : World) (o : Obj) : (w.alloc o).heap.size = w.heap.size + 1 := by simp
theorem alloc_new (w : World) (o : Obj) : (w.alloc o).heap[w.heap.size]? = some o := heap_alloc_new w o
theorem alloc_old (w : World) (o : Obj) {k : Nat} (h : k < w.heap.size) : (w.alloc o).heap[k]? = w.heap[k]? := by
 show (w.heap.push o)[k]? = _
 rw [Array.getElem?_push, if_neg (by omega)]
namespace Own
theorem start (w : World) : Own X [] (fun _ => True) w w := ⟨by simp, by simp, by simp, fun _ _ => trivial, Upd.refl _ _⟩
theorem lt (h : Own X L R w0 w) (hm : (g, p) ∈ L) : g < w.heap.size := by
 obtain ⟨o, ho, _⟩ := h.at_ g p hm
 exact heap_lt ho
theorem now (h : Own X L R w0 w) : R w := h.ro w (fun _ _ _ _ => rfl)
theorem size (h : Own X L R w0 w) : w0.heap.size ≤ w.heap.size := h.upd.size
theorem notin (h : Own X L R w0 w) (ho : g < w0.heap.size) (hx : g ∉ X) : g ∉ L.map Prod.fst := by
 intro hm
 obtain ⟨⟨a, q⟩, h1, rfl⟩ := List.mem_map.1 hm
 rcases h.ok a q h1 with h2 | h2
 · exact hx h2
 · exact absurd ho (Nat.not_lt.2 h2)
theorem fresh (h : Own X L R w0 w) (hg : w.heap.size ≤ g) : g ∉ L.map Prod.fst := by
 intro hm
 obtain ⟨⟨a, q⟩, h1, rfl⟩ := List.mem_map.1 hm
 exact absurd (h.lt h1) (Nat.not_lt.2 hg)
/-- new blocks, and no elder one that is written -/
theorem below (h : Own X L R w0 w) (hb : Below w.heap.size w w1) : Own X L R w0 w1 := by
 refine ⟨h.nd, fun g p hm => ?_, h.ok, fun W hW => h.ro W fun k hk hx hl => ?_, h.upd.trans (Upd.below hb)⟩
 · obtain ⟨o, ho, hp⟩ := h.at_ g p hm
   exact ⟨o, (hb.block g (heap_lt ho)).trans ho, hp⟩
 · exact (hW k (Nat.lt_of_lt_of_le hk hb.size) hx hl).trans (hb.block k hk)
theorem drewN (h : Own X L R w0 w) (n : Nat) : Own X L R w0 (w.drewN n) := h.below ⟨rfl, rfl, rfl, Nat.le_refl _, fun _ _ => rfl⟩
theorem drew (h : Own X L R w0 w) : Own X L R w0 w.drew := h.drewN 1
/-- a block of a callee's making is the walk's own from here on -/
theorem add (h : Own X L R w0 w) (hb : Below w.heap.size w w1) (hg : w.heap.size ≤ g) {x : Obj} (hx : w1.heap[g]? = some x) (hp : p x) : Own X ((g, p) :: L) R w0 w1 := by
 have h1 := h.below hb
 refine ⟨List.nodup_cons.2 ⟨h.fresh hg, h.nd⟩, fun a q hm => ?_, fun a q hm => ?_, fun W hW => ?_, h1.upd⟩
 · rcases List.mem_cons.1 hm with e | hm
   · injection e with e1 e2
     subst e1; subst e2
     exact ⟨x, hx, hp⟩
   · exact h1.at_ a q hm
 · rcases List.mem_cons.1 hm with e | hm
   · injection e with e1 e2
     subst e1
     exact Or.inr (Nat.le_trans h.size hg)
   · exact h.ok a q hm
 · refine h.ro W fun k hk hx hl => ?_
   refine (hW k (Nat.lt_of_lt_of_le hk hb.size) hx ?_).trans (hb.block k hk)
   intro hm
   rcases List.mem_cons.1 hm with e | hm
   · have e' : k = g := e
     omega
   · exact hl hm
theorem alloc (h : Own X L R w0 w) {x : Obj} (hp : p x) : Own X ((w.heap.size, p) :: L) R w0 (w.alloc x) :=
 h.add ((Below.refl _ _).alloc (Nat.le_refl _) _) (Nat.le_refl _) (alloc_new w x) hp
theorem box (h : Own X L R w0 w) (cs : Array Value) (e : TypeId) : Own X ((w.heap.size, EC e cs.toList) :: L) R w0 (w.alloc (.cells cs e)) :=
 h.alloc ⟨cs, [], rfl, by simp⟩
/-- fewer of them, in another order -/
theorem sub (h : Own X L R w0 w) (hn : (L'.map Prod.fst).Nodup) (hs : ∀ x, x ∈ L' → x ∈ L) : Own X L' R w0 w :=
 ⟨hn, fun g p hm => h.at_ g p (hs _ hm), fun g p hm => h.ok g p (hs _ hm), fun W hW => h.ro W fun k hk hx hl => hW k hk hx (fun hm => hl (by
  obtain ⟨y, h1, h2⟩ := List.mem_map.1 hm
  exact List.mem_map.2 ⟨y, hs y h1, h2⟩)), h.upd⟩
theorem drop (h : Own X ((g, p) :: L) R w0 w) : Own X L R w0 w := h.sub (List.nodup_cons.1 h.nd).2 (fun _ hm => List.mem_cons_of_mem _ hm)
theorem drop2 {q : Obj → Prop} {g2 : Nat} (h : Own X ((g, p) :: (g2, q) :: L) R w0 w) : Own X ((g, p) :: L) R w0 w := by
 have h1 := List.nodup_cons.1 h.nd
 refine h.sub (List.nodup_cons.2 ⟨fun hm => h1.1 (List.mem_cons_of_mem _ hm), (List.nodup_cons.1 h1.2).2⟩) (fun x hm => ?_)
 rcases List.mem_cons.1 hm with e | hm
 · exact e ▸ List.mem_cons_self
 · exact List.mem_cons_of_mem _ (List.mem_cons_of_mem _ hm)
theorem swap {q : Obj → Prop} {g2 : Nat} (h : Own X ((g, p) :: (g2, q) :: L) R w0 w) : Own X ((g2, q) :: (g, p) :: L) R w0 w := by
 have h1 := List.nodup_cons.1 h.nd
 have h2 := List.nodup_cons.1 h1.2
 refine h.sub (List.nodup_cons.2 ⟨?_, List.nodup_cons.2 ⟨fun hm => h1.1 (List.mem_cons_of_mem _ hm), h2.2⟩⟩) (fun x hm => ?_)
 · intro hm
   rcases List.mem_cons.1 hm with e | hm
   · exact h1.1 (by rw [show g = g2 from e.symm]; exact List.mem_cons_self)
   · exact h2.1 hm
 · rcases List.mem_cons.1 hm with e | hm
   · exact e ▸ List.mem_cons_of_mem _ List.mem_cons_self
   · rcases List.mem_cons.1 hm with e | hm
     · exact e ▸ List.mem_cons_self
     · exact List.mem_cons_of_mem _ (List.mem_cons_of_mem _ hm)
/-- more that is only read -/
theorem reads (h : Own X L R w0 w) (hr : ∀ W : World, (∀ k, k < w.heap.size → w0.heap.size ≤ k → k ∉ L.map Prod.fst → W.heap[k]? = w.heap[k]?) → R' W) : Own X L (fun W => R W ∧ R' W) w0 w :=
 ⟨h.nd, h.at_, h.ok, fun W hW => ⟨h.ro W hW, hr W hW⟩, h.upd⟩
theorem imp (h : Own X L R w0 w) (hr : ∀ W, R W → R' W) : Own X L R' w0 w := ⟨h.nd, h.at_, h.ok, fun W hW => hr W (h.ro W hW), h.upd⟩
/-- a callee's result that is only read, in blocks of its making -/
theorem result (h : Own X L R w0 w) (hb : Below w.heap.size w w1) (hr : ∀ W : World, (∀ k, w.heap.size ≤ k → k < w1.heap.size → W.heap[k]? = w1.heap[k]?) → R' W) : Own X L (fun W => R W ∧ R' W) w0 w1 :=
 (h.below hb).reads fun W hW => hr W fun k hk hlt => hW k hlt (Nat.le_trans h.size hk) (fun hm => h.fresh hk hm)
theorem get (h : Own X L R w0 w) (hm : (g, EC e cs) ∈ L) (o : Nat) (ho : o < cs.length) : w.cell? ⟨g, o, none⟩ = cs[o]? := by
 obtain ⟨x, hx, cur, sp, rfl, hc⟩ := h.at_ _ _ hm
 have h1 : w.cell? ⟨g, o, none⟩ = cur[o]? := by simp [World.cell?, hx]
 rw [h1, ← Array.getElem?_toList, hc, List.getElem?_append_left ho]
theorem frozen (h : Own X L R w0 w) (hm : (g, EC e cs) ∈ L) (o : Nat) : w.frozen? ⟨g, o, none⟩ = false := by
 obtain ⟨x, hx, cur, sp, rfl, hc⟩ := h.at_ _ _ hm
 simp [World.frozen?, hx]
/-- an elder block of another's -/
theorem old (h : Own X L R w0 w) {k : Nat} (hk : k < w0.heap.size) (hx : k ∉ X) : w.heap[k]? = w0.heap[k]? := h.upd.block k hk hx
theorem toBelow (h : Own [] L R w0 w) : Below w0.heap.size w0 w := h.upd.toBelow
/-- block number i of the list is turned, and no other one -/
theorem put {q : Obj → Prop} (h : Own X L R w0 w) (i : Nat) (hi : L[i]? = some (g, p)) (ho : w1.os = w.os) (ht : w1.tape = w.tape) (hu : w1.output = w.output) (hs : w.heap.size ≤ w1.heap.size)
 (hk : ∀ k, k < w.heap.size → k ≠ g → w1.heap[k]? = w.heap[k]?) {x : Obj} (hx : w1.heap[g]? = some x) (hq : q x) : Own X (L.set i (g, q)) R w0 w1 := by
 have hil : i < L.length := (List.getElem?_eq_some_iff.1 hi).1
 have hie : L[i] = (g, p) := (List.getElem?_eq_some_iff.1 hi).2
 have hm : (g, p) ∈ L := hie ▸ List.getElem_mem hil
 have hmap : (L.set i (g, q)).map Prod.fst = L.map Prod.fst := by
  apply List.ext_getElem?
  intro j
  rw [List.getElem?_map, List.getElem?_map, List.getElem?_set]
  split
  · subst_vars
    rw [hi]
    rfl
  · rfl
 have hg : g ∈ X ∨ w0.heap.size ≤ g := h.ok g p hm
 have hgl : g ∈ L.map Prod.fst := List.mem_map.2 ⟨_, hm, rfl⟩
 have hother : ∀ a r, (a, r) ∈ L.set i (g, q) → (a = g ∧ r = q) ∨ (a ≠ g ∧ (a, r) ∈ L) := by
  intro a r hmem
  obtain ⟨j, hj⟩ := List.mem_iff_getElem?.1 hmem
  rw [List.getElem?_set] at hj
  split at hj
  · injection hj with hj
    injection hj with h1 h2
    exact Or.inl ⟨h1.symm, h2.symm⟩
  · rename_i hne
    refine Or.inr ⟨?_, List.mem_iff_getElem?.2 ⟨j, hj⟩⟩
    rintro rfl
    have hn := h.nd
    have h1 : (L.map Prod.fst)[i]? = some a := by rw [List.getElem?_map, hi]; rfl
    have h2 : (L.map Prod.fst)[j]? = some a := by rw [List.getElem?_map, hj]; rfl
    exact hne ((List.getElem?_inj (by simpa using hil) hn).1 (h1.trans h2.symm))
 refine ⟨by rw [hmap]; exact h.nd, fun a r hmem => ?_, fun a r hmem => ?_, fun W hW => h.ro W fun k hk' hxx hl => ?_, ?_⟩
 · rcases hother a r hmem with ⟨rfl, rfl⟩ | ⟨hne, hmem⟩
   · exact ⟨x, hx, hq⟩
   · obtain ⟨y, hy, hp⟩ := h.at_ a r hmem
     exact ⟨y, (hk a (heap_lt hy) hne).trans hy, hp⟩
 · rcases hother a r hmem with ⟨rfl, rfl⟩ | ⟨hne, hmem⟩
   · exact hg
   · exact h.ok a r hmem
 · have hkg : k ≠ g := fun e => hl (e ▸ hgl)
   exact (hW k (Nat.lt_of_lt_of_le hk' hs) hxx (by rw [hmap]; exact hl)).trans (hk k hk' hkg)
 · refine ⟨ho.trans h.upd.os, ht.trans h.upd.tape, hu.trans h.upd.output, Nat.le_trans h.upd.size hs, fun k hk' hxx => ?_⟩
   have hkg : k ≠ g := by
    rintro rfl
    rcases hg with hg | hg
    · exact hxx hg
    · omega
   exact (hk k (Nat.lt_of_lt_of_le hk' h.upd.size) hkg).trans (h.upd.block k hk' hxx)
/-- a store into block number i of the list -/
theorem set (h : Own X L R w0 w) (i : Nat) (hi : L[i]? = some (g, EC e cs)) (o : Nat) (u : Value) (ho : o < cs.length) : Own X (L.set i (g, EC e (cs.set o u))) R w0 (w.setCell ⟨g, o, none⟩ u) := by
 have hm : (g, EC e cs) ∈ L := List.mem_of_getElem? hi
 obtain ⟨x, hx, cur, sp, rfl, hc⟩ := h.at_ _ _ hm
 refine h.put i hi rfl rfl rfl (by simp [World.setCell]) (fun k _ hne => Below.heap_setCell w ⟨g, o, none⟩ u k hne) (x := .cells (cur.setIfInBounds o u) e (0, 0)) ?_ ⟨_, sp, rfl, ?_⟩
 · simp [World.setCell, Array.getElem?_modify, hx]
 · rw [Array.toList_setIfInBounds, hc, List.set_append_left _ _ ho]
end Own
end

/-- A slice that is read: its cells. -/
def Row (w : World) (v : Value) (n : Nat) (cs : List Value) : Prop :=
 ∃ A c, v = .slice A n c ∧ n ≤ c ∧ (cs = [] ∨ ∃ b o, A = some ⟨b, o, none⟩ ∧ ∀ i u, cs[i]? = some u → w.cell? ⟨b, o + i, none⟩ = some u)
/-- A slice of a callee's making (new since base), told by what it begins with. -/
def Fr (base : Nat) (w : World) (e : TypeId) (v : Value) (n : Nat) (cs : List Value) : Prop :=
 (n = 0 ∧ cs = [] ∧ ∃ A c, v = .slice A 0 c) ∨ ∃ g cap x, v = .slice (some ⟨g, 0, none⟩) n cap ∧ n ≤ cap ∧ base ≤ g ∧ w.heap[g]? = some x ∧ EC e cs x
section
variable {w w0 w1 : World} {v : Value} {n c e base sz : Nat} {cs : List Value} {A : Option Addr}
theorem cell_lt {a : Addr} {u : Value} (h : w.cell? a = some u) : a.block < w.heap.size := World.block_lt_of_cell? w a h
theorem cell_below {a : Addr} {u : Value} (hb : Below w.heap.size w w1) (h : w.cell? a = some u) : w1.cell? a = some u := (hb.cell (cell_lt h)).trans h
theorem Row.below (h : Row w v n cs) (hb : Below w.heap.size w w1) : Row w1 v n cs := by
 obtain ⟨A, c, hv, hc, hr⟩ := h
 refine ⟨A, c, hv, hc, hr.imp id ?_⟩
 rintro ⟨b, o, hA, hcell⟩
 exact ⟨b, o, hA, fun i u hu => cell_below hb (hcell i u hu)⟩
theorem Row.upd {X : List Nat} (h : Row w v n cs) (hb : Upd X w w1) (hX : ∀ c b o, v = .slice (some ⟨b, o, none⟩) n c → b ∉ X) : Row w1 v n cs := by
 obtain ⟨A, c, hv, hc, hr⟩ := h
 refine ⟨A, c, hv, hc, hr.imp id ?_⟩
 rintro ⟨b, o, hA, hcell⟩
 refine ⟨b, o, hA, fun i u hu => ?_⟩
 have h1 := hcell i u hu
 exact (World.cell?_of_block (w := w) (hb.block b (cell_lt h1) (hX c b o (by rw [hv, hA])))).trans h1
theorem Row.at_ (h : Row w (.slice A n c) n cs) (i : Nat) (hi : i < cs.length) : ∃ b o, A = some ⟨b, o, none⟩ ∧ w.cell? ⟨b, o + i, none⟩ = some (cs[i]'hi) := by
 obtain ⟨A', c', hv, hc, hr⟩ := h
 injection hv with h1 h2 h3
 subst h1
 rcases hr with rfl | ⟨b, o, hA, hcell⟩
 · simp at hi
 · exact ⟨b, o, hA, hcell i _ (List.getElem?_eq_getElem hi)⟩
theorem Row.le (h : Row w (.slice A n c) n cs) : n ≤ c := by
 obtain ⟨A', c', hv, hc, hr⟩ := h
 injection hv with h1 h2 h3
 omega
theorem Row.nil (w : World) (A : Option Addr) (c : Nat) : Row w (.slice A 0 c) 0 [] := ⟨A, c, rfl, Nat.zero_le _, Or.inl rfl⟩
theorem Fr.row (h : Fr base w e v n cs) {W : World} (hW : ∀ k, base ≤ k → k < w.heap.size → W.heap[k]? = w.heap[k]?) : Row W v n cs := by
 rcases h with ⟨rfl, rfl, A, c, rfl⟩ | ⟨g, cap, x, rfl, hc, hg, hx, cur, sp, rfl, hcur⟩
 · exact Row.nil _ _ _
 · refine ⟨_, _, rfl, hc, Or.inr ⟨g, 0, rfl, fun i u hu => ?_⟩⟩
   have h1 : W.cell? ⟨g, 0 + i, none⟩ = cur[0 + i]? := by simp [World.cell?, hW g hg (heap_lt hx), hx]
   rw [h1, Nat.zero_add, ← Array.getElem?_toList, hcur, List.getElem?_append_left (List.getElem?_eq_some_iff.1 hu).1]
   exact hu
theorem Fr.now (h : Fr base w e v n cs) : Row w v n cs := h.row fun _ _ _ => rfl
theorem Fr.lower {b2 : Nat} (h : Fr base w e v n cs) (hb : b2 ≤ base) : Fr b2 w e v n cs := by
 rcases h with h | ⟨g, cap, x, hv, hc, hg, hx⟩
 · exact Or.inl h
 · exact Or.inr ⟨g, cap, x, hv, hc, Nat.le_trans hb hg, hx⟩
theorem Fr.below (h : Fr base w e v n cs) (hb : Below w.heap.size w w1) : Fr base w1 e v n cs := by
 rcases h with h | ⟨g, cap, x, hv, hc, hg, hx, hr⟩
 · exact Or.inl h
 · exact Or.inr ⟨g, cap, x, hv, hc, hg, (hb.block g (heap_lt hx)).trans hx, hr⟩
theorem Fr.own (h : w.ownsRow base e sz v n cs) : Fr base w e v n cs := by
 rcases h.2 with ⟨rfl, rfl⟩ | ⟨g, cap, cur, rfl, hg, hx, hnc, _, _, ht⟩
 · refine Or.inl ⟨rfl, ?_, _, _, rfl⟩
   have := h.1
   rw [Nat.zero_mul] at this
   exact List.length_eq_zero_iff.1 this
 · exact Or.inr ⟨g, cap, _, rfl, hnc, hg, hx, cur, cur.toList.drop (n * sz), rfl, by rw [← ht, List.take_append_drop]⟩
theorem Fr.form (h : Fr base w e v n cs) (hn : 0 < n) : ∃ g cap x, v = .slice (some ⟨g, 0, none⟩) n cap ∧ n ≤ cap ∧ base ≤ g ∧ w.heap[g]? = some x ∧ EC e cs x := by
 rcases h with ⟨h, _⟩ | h
 · omega
 · exact h
/-- a row of the walk's own is told -/
theorem Own.fr {L : List (Nat × (Obj → Prop))} {R : World → Prop} {g : Nat} (h : Own [] L R w0 w) (hm : (g, EC e cs) ∈ L) {cap : Nat} (hc : n ≤ cap) : Fr w0.heap.size w e (.slice (some ⟨g, 0, none⟩) n cap) n cs := by
 obtain ⟨x, hx, hp⟩ := h.at_ _ _ hm
 refine Or.inr ⟨g, cap, x, rfl, hc, ?_, hx, hp⟩
 rcases h.ok _ _ hm with h1 | h1
 · simp at h1
 · exact h1
end

/-- a slice against nil -/
theorem eq_nil {P : Program} {t e : TypeId} (h : P.underlying t = some (.slice e)) (n c : Nat) : ∀ W : World, (binOp .eql t (.slice none n c) (.slice none 0 0)).run P W = .ok (.bool true) W := fun W => Lib.run_eql_slice_nil W t e none n c 0 0 h
theorem ne_nil {P : Program} {t e : TypeId} (h : P.underlying t = some (.slice e)) (a : Addr) (n c : Nat) : ∀ W : World, (binOp .eql t (.slice (some a) n c) (.slice none 0 0)).run P W = .ok (.bool false) W := fun W => Lib.run_eql_slice_nil W t e (some a) n c 0 0 h
theorem Row.nil_ {w : World} {n c : Nat} {cs : List Value} (h : Row w (.slice none n c) n cs) : cs = [] := by
 obtain ⟨A', c', hv, hc, hr⟩ := h
 injection hv with h1 h2 h3
 subst h1
 rcases hr with rfl | ⟨b, o, hA, hcell⟩
 · rfl
 · cases hA

/-- A slice of the walk's own that is appended to: nil, or at the head of a block of its own. -/
def ES (e : TypeId) (size n cap : Nat) (xs : List Value) : Obj → Prop := fun o => ∃ cur, o = .cells cur e (0, 0) ∧ n ≤ cap ∧ cap ≤ maxLen ∧ cur.size = cap * size ∧ cur.toList.take (n * size) = xs
def OwnS (X : List Nat) (L : List (Nat × (Obj → Prop))) (R : World → Prop) (w0 w : World) (e : TypeId) (size : Nat) (v : Value) (n : Nat) (xs : List Value) : Prop :=
 xs.length = n * size ∧ ((v = .slice none 0 0 ∧ n = 0 ∧ Own X L R w0 w) ∨ ∃ g cap, v = .slice (some ⟨g, 0, none⟩) n cap ∧ w0.heap.size ≤ g ∧ Own X ((g, ES e size n cap xs) :: L) R w0 w)
section
variable {X : List Nat} {L L' : List (Nat × (Obj → Prop))} {R R' : World → Prop} {w0 w w1 : World} {g e size n m : Nat} {p : Obj → Prop} {cs xs news : List Value} {v v1 : Value}
/-- a block that is given away -/
theorem Own.grown (h : Own X ((g, p) :: L) R w0 w) (hg : w.grownBy w1 (some g)) : Own X L R w0 w1 := by
 have hn := List.nodup_cons.1 h.nd
 refine ⟨hn.2, fun a q hm => ?_, fun a q hm => h.ok a q (List.mem_cons_of_mem _ hm), fun W hW => h.ro W fun k hk hx hl => ?_, ?_⟩
 · obtain ⟨o, ho, hp⟩ := h.at_ a q (List.mem_cons_of_mem _ hm)
   refine ⟨o, (hg.block a (heap_lt ho) ?_).trans ho, hp⟩
   intro e'
   injection e' with e'
   subst e'
   exact hn.1 (List.mem_map.2 ⟨_, hm, rfl⟩)
 · refine (hW k (Nat.lt_of_lt_of_le hk hg.size) hx (fun hm => hl (List.mem_cons_of_mem _ hm))).trans (hg.block k hk ?_)
   intro e'
   injection e' with e'
   subst e'
   exact hl List.mem_cons_self
 · refine ⟨hg.os.trans h.upd.os, hg.tape.trans h.upd.tape, hg.output.trans h.upd.output, Nat.le_trans h.upd.size hg.size, fun k hk hx => ?_⟩
   refine (hg.block k (Nat.lt_of_lt_of_le hk h.upd.size) ?_).trans (h.upd.block k hk hx)
   intro e'
   injection e' with e'
   subst e'
   rcases h.ok k p List.mem_cons_self with h1 | h1
   · exact hx h1
   · omega
theorem grown_none (hg : w.grownBy w1 none) : Below w.heap.size w w1 := ⟨hg.os, hg.tape, hg.output, hg.size, fun k hk => hg.block k hk (by simp)⟩
namespace OwnS
theorem nil (h : Own X L R w0 w) (e size : Nat) : OwnS X L R w0 w e size (.slice none 0 0) 0 [] := ⟨by simp, Or.inl ⟨rfl, rfl, h⟩⟩
theorem below (h : OwnS X L R w0 w e size v n xs) (hb : Below w.heap.size w w1) : OwnS X L R w0 w1 e size v n xs :=
 ⟨h.1, h.2.imp (fun h => ⟨h.1, h.2.1, h.2.2.below hb⟩) (fun ⟨g, cap, h1, h2, h3⟩ => ⟨g, cap, h1, h2, h3.below hb⟩)⟩
theorem drewN (h : OwnS X L R w0 w e size v n xs) (k : Nat) : OwnS X L R w0 (w.drewN k) e size v n xs := h.below ⟨rfl, rfl, rfl, Nat.le_refl _, fun _ _ => rfl⟩
theorem alloc (h : OwnS X L R w0 w e size v n xs) (o : Obj) : OwnS X L R w0 (w.alloc o) e size v n xs := h.below ((Below.refl _ _).alloc (Nat.le_refl _) _)
theorem own (h : OwnS X L R w0 w e size v n xs) : w.ownsRow w0.heap.size e size v n xs := by
 refine ⟨h.1, ?_⟩
 rcases h.2 with ⟨h1, h2, _⟩ | ⟨g, cap, h1, h2, h3⟩
 · exact Or.inl ⟨h1, h2⟩
 · obtain ⟨o, ho, cur, rfl, a1, a2, a3, a4⟩ := h3.at_ _ _ List.mem_cons_self
   exact Or.inr ⟨g, cap, cur, h1, h2, ho, a1, a2, a3, a4⟩
theorem rest (h : OwnS X L R w0 w e size v n xs) : Own X L R w0 w := by
 rcases h.2 with ⟨_, _, h⟩ | ⟨g, cap, h1, h2, h3⟩
 · exact h
 · exact h3.drop
theorem size_ (h : OwnS X L R w0 w e size v n xs) : w0.heap.size ≤ w.heap.size := h.rest.size
/-- behind an append -/
theorem app (h : OwnS X L R w0 w e size v n xs) (ho : w1.ownsRow w0.heap.size e size v1 m news) (hg : w.grownBy w1 v.ownBlock) (hat : v1.ownBlock = v.ownBlock ∨ v1.ownBlock = some w.heap.size) : OwnS X L R w0 w1 e size v1 m news := by
 refine ⟨ho.1, ?_⟩
 have hrest : Own X L R w0 w1 := by
  rcases h.2 with ⟨h1, _, h3⟩ | ⟨g, cap, h1, h2, h3⟩
  · subst h1
    exact h3.below (grown_none hg)
  · subst h1
    exact h3.grown hg
 rcases ho.2 with ⟨h1, h2⟩ | ⟨g1, cap1, cur, h1, h2, h3, a1, a2, a3, a4⟩
 · exact Or.inl ⟨h1, h2, hrest⟩
 · refine Or.inr ⟨g1, cap1, h1, h2, ?_⟩
   have hnew : g1 ∉ L.map Prod.fst := by
    subst h1
    simp only [Value.ownBlock, Option.some.injEq] at hat
    rcases hat with hat | hat
    · rcases h.2 with ⟨e1, _, h3⟩ | ⟨g, cap, e1, _, h3⟩
      · subst e1
        simp [Value.ownBlock] at hat
      · subst e1
        simp only [Value.ownBlock, Option.some.injEq] at hat
        rw [hat]
        exact (List.nodup_cons.1 h3.nd).1
    · rw [hat]
      exact h.rest.fresh (Nat.le_refl _)
   have hro : ∀ W : World, (∀ k, k < w1.heap.size → w0.heap.size ≤ k → k ∉ g1 :: L.map Prod.fst → W.heap[k]? = w1.heap[k]?) → R W := by
    intro W hW
    subst h1
    simp only [Value.ownBlock, Option.some.injEq] at hat
    rcases h.2 with ⟨e1, _, h5⟩ | ⟨g, cap, e1, _, h5⟩
    · subst e1
      have hb := grown_none hg
      refine h5.ro W fun k hk hx hl => (hW k (Nat.lt_of_lt_of_le hk hb.size) hx ?_).trans (hb.block k hk)
      intro hm
      rcases List.mem_cons.1 hm with e' | hm
      · rcases hat with hat | hat
        · simp [Value.ownBlock] at hat
        · omega
      · exact hl hm
    · subst e1
      refine h5.ro W fun k hk hx hl => ?_
      refine (hW k (Nat.lt_of_lt_of_le hk hg.size) hx ?_).trans (hg.block k hk ?_)
      · intro hm
        rcases List.mem_cons.1 hm with e' | hm
        · rcases hat with hat | hat
          · simp only [Value.ownBlock, Option.some.injEq] at hat
            exact hl (List.mem_cons.2 (Or.inl (by rw [e', hat])))
          · omega
        · exact hl (List.mem_cons_of_mem _ hm)
      · intro e'
        simp only [Value.ownBlock, Option.some.injEq] at e'
        exact hl (List.mem_cons.2 (Or.inl e'))
   refine ⟨List.nodup_cons.2 ⟨hnew, hrest.nd⟩, fun a q hm => ?_, fun a q hm => ?_, hro, hrest.upd⟩
   · rcases List.mem_cons.1 hm with e' | hm
     · injection e' with e1 e2
       subst e1; subst e2
       exact ⟨_, h3, cur, rfl, a1, a2, a3, a4⟩
     · exact hrest.at_ a q hm
   · rcases List.mem_cons.1 hm with e' | hm
     · injection e' with e1 e2
       subst e1
       exact Or.inr h2
     · exact hrest.ok a q hm
theorem made (h : Own X L R w0 w) {cur : Array Value} {cap : Nat} (h1 : n ≤ cap) (h2 : cap ≤ maxLen) (h3 : cur.size = cap * size) (h4 : cur.toList.take (n * size) = xs) : OwnS X L R w0 (w.alloc (.cells cur e)) e size (.slice (some ⟨w.heap.size, 0, none⟩) n cap) n xs :=
 ⟨by rw [← h4, List.length_take, Array.length_toList, h3]; exact Nat.min_eq_left (Nat.mul_le_mul_right _ h1), Or.inr ⟨_, cap, rfl, h.size, h.alloc ⟨cur, rfl, h1, h2, h3, h4⟩⟩⟩
theorem fr (h : OwnS X L R w0 w e size v n xs) : Fr w0.heap.size w e v n xs := Fr.own h.own
theorem row (h : OwnS X L R w0 w e size v n xs) : Row w v n xs := h.fr.now
end OwnS
end
section
variable {P : Program} {ops : Array Oper} {rest : List Oper} {o : Oper} {a : Act} {Q : Exit → Act → World → Prop} {X : List Nat} {L : List (Nat × (Obj → Prop))} {R : World → Prop} {w0 w : World}
/-- 'append(v, x...)', v of the walk's own; the new cells lie at ad. Behind 'at_builtin'. -/
theorem go_app (w0 : World) (hgd : o.guard = none) (s x : Operand) (t e : TypeId) (z : Value) (size bytes : Nat)
 (ho : o.op = .call { callee := .builtin .append, args := #[s, x], argTypes := #[t, t] })
 (ht : P.underlying t = some (.slice e)) (hinfo : (P.info? e).map (fun i => (i.zero, i.size, i.bytes)) = some (some z, size, bytes)) (hz : z.cells.size = size) (hs0 : 0 < size)
 (v : Value) (n : Nat) (xs : List Value) (hs : a.eval s = v) (ad : Addr) (m c : Nat) (news : List Value) (hx : a.eval x = .slice (some ad) m c)
 (H : OwnS X L R w0 w e size v n xs) (hl : news.length = m * size) (hnews : ∀ j u, news[j]? = some u → w.cell? (ad.add j) = some u) (h1 : ∀ u ∈ news, u.oneCell' = true) (h63 : n + m ≤ maxLen) (hlen : (n + m) * bytes ≤ 140737488355328)
 (h : ∀ v1 w1, OwnS X L R w0 w1 e size v1 (n + m) (xs ++ news) → wpList P ops Q rest (a.put o.dst v1) w1) :
 wpList P ops Q (o :: rest) a w := by
 obtain ⟨i0, hi, hzz⟩ := Option.map_eq_some_iff.1 hinfo
 simp only [Prod.mk.injEq] at hzz
 obtain ⟨hz0, hz1, hz2⟩ := hzz
 refine wpList_append_own_at w hgd s x t ho w0.heap.size e i0 z size bytes ht hi hz0 hz1 hz2 hz hs0 v n xs hs H.own ad m c news hx hl hnews h1 h63 hlen H.size_ ?_
 intro v1 w1 hown hg _ hat
 exact h v1 w1 (H.app hown hg hat)
end

theorem max2_int (k k' : IntKind) (x y : Int) : Builtin.max2 (.int k x) (.int k' y) = pure (.int k (max x y)) := by
 simp only [Builtin.max2, gt_iff_lt]
 congr 2
 by_cases h : x < y
 · rw [if_pos h]; omega
 · rw [if_neg h]; omega
theorem min2_int (k k' : IntKind) (x y : Int) : Builtin.min2 (.int k x) (.int k' y) = pure (.int k (min x y)) := by
 simp only [Builtin.min2]
 congr 2
 by_cases h : y < x
 · rw [if_pos h]; omega
 · rw [if_neg h]; omega
theorem max_two (ats : Array TypeId) (ty : TypeId) (a b : Value) : Builtin.max_ ats ty #[a, b] = (Builtin.max2 a b >>= fun s => pure s) := by simp only [Builtin.max_, List.foldlM_cons, List.foldlM_nil]
theorem min_two (ats : Array TypeId) (ty : TypeId) (a b : Value) : Builtin.min_ ats ty #[a, b] = (Builtin.min2 a b >>= fun s => pure s) := by simp only [Builtin.min_, List.foldlM_cons, List.foldlM_nil]
theorem max_three (ats : Array TypeId) (ty : TypeId) (a b c : Value) : Builtin.max_ ats ty #[a, b, c] = (Builtin.max2 a b >>= fun s => Builtin.max2 s c >>= fun s => pure s) := by simp only [Builtin.max_, List.foldlM_cons, List.foldlM_nil]

theorem below_trans1 {w w1 : World} {o : Obj} (hb : Below (w.alloc o).heap.size (w.alloc o) w1) : Below w.heap.size w w1 := ((Below.refl _ _).alloc (Nat.le_refl _) o).trans (hb.mono (by simp))
theorem box_cell {w w1 : World} {cs : Array Value} {T : TypeId} (hb : Below (w.alloc (.cells cs T)).heap.size (w.alloc (.cells cs T)) w1) (i : Nat) (u : Value) (h : cs[i]? = some u) : w1.cell? ⟨w.heap.size, i, none⟩ = some u := cell_below hb (by simp [h])
theorem ret_int {k : IntKind} {a b : Int} (h : a = b) : Ending.returned (.int k a) = .returned (.int k b) := by rw [h]
theorem Row.lit {W : World} {g n : Nat} {T : TypeId} (xs : List Value) (hg : g = W.heap.size) : Row (W.alloc (.cells xs.toArray T)) (.slice (some ⟨g, 0, none⟩) n n) n xs := by
 subst hg
 exact ⟨_, _, rfl, Nat.le_refl _, Or.inr ⟨_, 0, rfl, fun i u hu => by rw [Nat.zero_add]; simpa using hu⟩⟩
theorem beqF {x y : Int} (h : ¬ x = y) : (x == y) = false := beq_eq_false_iff_ne.mpr h
theorem beqT {x y : Int} (h : x = y) : (x == y) = true := by rw [h]; exact beq_self_eq_true y
/-- What there is. -/
structure Cf where
 (G N M L Page P H Seed : Nat)
def Cf.v (c : Cf) : Value := .agg #[.int .i64 c.G, .int .i64 c.N, .int .i64 c.M, .int .i64 c.L, .int .i64 c.Page, .int .i64 c.P, .int .i64 c.H, .int .i64 c.Seed]
structure Good (c : Cf) : Prop where
 pow : ∃ g pg k : Nat, c.G = 2 ^ g ∧ c.N = 2 ^ (g + c.L) ∧ c.Page = 2 ^ pg ∧ g ≤ pg ∧ 1 ≤ k ∧ c.M = k * (2 * max c.N c.Page)
 h : c.H = c.M + c.L * (c.M / 2)
 max_ : c.H ≤ 65536
 p : c.P ≤ 65536
 seed : c.Seed ≤ 255
namespace Good
variable {c : Cf}
theorem g1 (h : Good c) : 1 ≤ c.G := by
 obtain ⟨g, pg, k, h1, _⟩ := h.pow
 rw [h1]; exact Nat.one_le_two_pow
theorem p1 (h : Good c) : 1 ≤ c.Page := by
 obtain ⟨g, pg, k, _, _, h1, _⟩ := h.pow
 rw [h1]; exact Nat.one_le_two_pow
theorem n1 (h : Good c) : c.G ≤ c.N := by
 obtain ⟨g, pg, k, h1, h2, _⟩ := h.pow
 rw [h1, h2]; exact Nat.pow_le_pow_right (by decide) (by omega)
theorem gp (h : Good c) : c.G ≤ c.Page := by
 obtain ⟨g, pg, k, h1, _, h2, h3, _⟩ := h.pow
 rw [h1, h2]; exact Nat.pow_le_pow_right (by decide) h3
theorem m1 (h : Good c) : 2 * max c.N c.Page ≤ c.M := by
 obtain ⟨g, pg, k, _, _, _, _, h1, h2⟩ := h.pow
 rw [h2]; exact Nat.le_mul_of_pos_left _ h1
theorem hm (h : Good c) : c.M ≤ c.H := by rw [h.h]; omega
theorem bounds (h : Good c) : 1 ≤ c.G ∧ c.G ≤ c.N ∧ c.G ≤ c.Page ∧ 2 * c.N ≤ c.M ∧ 2 * c.Page ≤ c.M ∧ c.M ≤ c.H ∧ c.H ≤ 65536 := by
 have := h.m1
 exact ⟨h.g1, h.n1, h.gp, by omega, by omega, h.hm, h.max_⟩
end Good
end Go.Proofs.YtmookafmdonopaaGreat.Top
