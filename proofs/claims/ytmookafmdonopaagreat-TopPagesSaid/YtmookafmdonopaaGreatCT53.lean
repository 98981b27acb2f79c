/- A field of a loose struct. -/
import Derived.Test.YtmookafmdonopaaGreatCT51
import Derived.Test.YtmookafmdonopaaGreatCT52
namespace Go.Proofs.YtmookafmdonopaaGreat.Top
open Go Go.RowKit
set_option linter.unusedVariables false
set_option linter.unusedSimpArgs false
theorem fld34 (a0 a1 a2 a3 a4 a5 a6 a7 : Int) (w : World) : (Instr.field 34 (.agg #[.int .i64 a0, .int .i64 a1, .int .i64 a2, .int .i64 a3, .int .i64 a4, .int .i64 a5, .int .i64 a6, .int .i64 a7]) 1).run Tryz.prog w = .ok (.int .i64 a1) w := by
 simp [Instr.field, run_underlying Tryz.underlying34, asAgg, part]
section
variable {h x g e : Nat} {c : Cf} {s s2 : Hs} {mem mem2 : List Nat} {L : List (Nat × (Obj → Prop))} {R : World → Prop} {w0 w w1 : World} {cs : List Value}
theorem HW2.do_ (H : HW2 h x c s mem s2 mem2 L R w0 w) (iv : Iv c s) (o : Opp) (ok : OpOk o) :
 Calls Tryz.prog 16 #[.pointer (some ⟨h, 0, none⟩), o.v] w fun e w' => e = .returned (doP c s mem o).2.v ∧ ∃ mem', HW2 h x c (doP c s mem o).1 mem' s2 mem2 L R w0 w' ∧ DoMem c s mem o mem' := by
 obtain ⟨d2, a, b, c', H⟩ := H
 refine (heap_Do h c s mem _ _ w0 w o H iv ok).mono ?_
 rintro e w' ⟨he, m, hm, hd⟩
 exact ⟨he, m, ⟨d2, a, b, c', hm⟩, hd⟩
theorem HW2.box (H : HW2 h x c s mem s2 mem2 L R w0 w) (cs : Array Value) (e : TypeId) : HW2 h x c s mem s2 mem2 ((w.heap.size, EC e cs.toList) :: L) R w0 (w.alloc (.cells cs e)) := by
 obtain ⟨d2, a, b, c', H⟩ := H
 exact ⟨d2, a, b, c', (H.box cs e).perm List.perm_middle⟩
theorem HW2.rd (H : HW2 h x c s mem s2 mem2 L R w0 w) (hm : (g, EC e cs) ∈ L) (o : Nat) (ho : o < cs.length) : w.cell? ⟨g, o, none⟩ = cs[o]? := by
 obtain ⟨d2, a, b, c', H⟩ := H
 exact H.rd (List.mem_append_right _ hm) o ho
theorem HW2.toBelow (H : HW2 h x c s mem s2 mem2 L R w0 w) : Below w0.heap.size w0 w := by
 obtain ⟨d2, a, b, c', H⟩ := H
 exact H.toBelow
end
theorem ok_al {S A : Int} (hS : S ≤ 2 ^ 30) (hA : GoodA A) : OpOk ⟨3, 0, S, A, 0, 0⟩ := ⟨(by decide : (1 : Int) ≤ 3 ∧ (3 : Int) ≤ 10), hA, (by decide : (0 : Int) ≤ 2 ^ 30), hS, (by decide : (0 : Int) ≤ 0 ∧ (0 : Int) < 256)⟩
theorem al_all {c : Cf} {s : Hs} (iv : Iv c s) (ci : Ci c s.bl) (hP : c.H / c.Page ≤ c.P) {S m al : Nat} (hS : S ≤ c.N) (hm : m ≤ 7) (hal : al = 2 ^ m) (mem : List Nat) :
 ∃ s1 ax s2 ay, doP c s mem ⟨3, 0, S, al, 0, 0⟩ = (s1, ax) ∧ doP c s mem ⟨3, 0, S, (2 ^ (m - 1) : Nat), 0, 0⟩ = (s2, ay) ∧
  ((ax.err = 3 ∨ ax.err = 5) ∨ (∃ a ch a2 : Nat, ax.err = 0 ∧ ax.at_ = a ∧ ay.err = 0 ∧ ay.at_ = a2 ∧ a2 ≤ a ∧ a % al = 0 ∧ al ≤ ch ∧ S ≤ ch ∧ ch ≤ 65536 ∧ a ≤ 65536 ∧ Iv c s1 ∧ ∀ mem', doP c s1 mem' ⟨6, a, 0, 0, 0, 0⟩ = (s1, ⟨0, 0, (ch : Nat), 0, 0, 0, 0, 0⟩))) := by
 subst hal
 refine ⟨(alignedP c s S (2 ^ m : Nat)).1, (alignedP c s S (2 ^ m : Nat)).2, (alignedP c s S (2 ^ (m - 1) : Nat)).1, (alignedP c s S (2 ^ (m - 1) : Nat)).2, rfl, rfl, ?_⟩
 rcases al_plain iv ci hP hS hm with ⟨er, he, h⟩ | ⟨k, i, on', hp, h1, h2, h3, k', i', on'', h4, h5⟩
 · rw [h]; exact Or.inl he
 · rw [h1, h5]
   refine Or.inr ⟨i * 2 ^ k * c.G, c.G * 2 ^ k, i' * 2 ^ k' * c.G, rfl, rfl, rfl, rfl, h4, Nat.mod_eq_zero_of_dvd h3, h2, hp.ha, ?_, ?_, (hp.iv iv).1, fun mem' => ?_⟩
   · have := hp.fits; have := iv.good.bounds; omega
   · have := (hp.iv iv).2; have := iv.good.bounds; omega
   · have hb : bkAt c i k S ∈ (placed c s k S i on').bl := by
      show bkAt c i k S ∈ insB s.bl (bkAt c i k S)
      unfold insB
      exact List.mem_append_right _ List.mem_cons_self
     exact doP_usable (hp.iv iv).1 mem' hb
end Go.Proofs.YtmookafmdonopaaGreat.Top
