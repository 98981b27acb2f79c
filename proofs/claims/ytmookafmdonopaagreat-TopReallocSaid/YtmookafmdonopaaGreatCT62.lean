/- A byte that comes in; two heaps and what lies beside them; calls that are in order. -/
import Derived.Test.YtmookafmdonopaaGreatCT54
namespace Go.Proofs.YtmookafmdonopaaGreat.Top
open Go Go.RowKit
set_option linter.unusedVariables false
set_option linter.unusedSimpArgs false

theorem wf_u8' {u : Int} (h : (Lit.int .u8 u).wf = true) : ∃ n : Nat, u = (n : Int) ∧ n < 256 := by
 simp only [Lit.wf, Bool.and_eq_true, decide_eq_true_eq, show IntKind.u8.min = 0 from rfl, show IntKind.u8.max = 255 from rfl] at h
 exact ⟨u.toNat, by omega, by omega⟩
theorem HW2.range {h x g e : Nat} {c : Cf} {s s2 : Hs} {mem mem2 : List Nat} {L : List (Nat × (Obj → Prop))} {R : World → Prop} {w0 w : World} {cs : List Value} (H : HW2 h x c s mem s2 mem2 L R w0 w) (hm : (g, EC e cs) ∈ L) : w.rangeAt g 0 cs := by
 obtain ⟨d2, a, b, c', H⟩ := H
 exact H.range (List.mem_append_right _ hm)
theorem HW2.drop {h x g : Nat} {c : Cf} {s s2 : Hs} {mem mem2 : List Nat} {L : List (Nat × (Obj → Prop))} {R : World → Prop} {w0 w : World} {p : Obj → Prop} (H : HW2 h x c s mem s2 mem2 ((g, p) :: L) R w0 w) : HW2 h x c s mem s2 mem2 L R w0 w := by
 obtain ⟨d2, a, b, c', H⟩ := H
 exact ⟨d2, a, b, c', (H.perm List.perm_middle.symm).drop⟩
theorem ok_load {a i : Int} (hi : i ≤ 2 ^ 30) : OpOk ⟨7, a, 0, 0, i, 0⟩ := ⟨(by decide : (1 : Int) ≤ 7 ∧ (7 : Int) ≤ 10), Or.inl rfl, hi, (by decide : (0 : Int) ≤ 2 ^ 30), (by decide : (0 : Int) ≤ 0 ∧ (0 : Int) < 256)⟩
theorem size39_ : (Tryz.prog.info? 39).map (·.size) = some 8 := by kernel_rfl
theorem ok_cal {S N : Int} (hS : S ≤ 2 ^ 30) (hN : N ≤ 2 ^ 30) : OpOk ⟨2, 0, S, 0, N, 0⟩ := ⟨(by decide : (1 : Int) ≤ 2 ∧ (2 : Int) ≤ 10), Or.inl rfl, hN, hS, (by decide : (0 : Int) ≤ 0 ∧ (0 : Int) < 256)⟩
theorem ok_mal {S : Int} (hS : S ≤ 2 ^ 30) : OpOk ⟨1, 0, S, 0, 0, 0⟩ := ⟨(by decide : (1 : Int) ≤ 1 ∧ (1 : Int) ≤ 10), Or.inl rfl, (by decide : (0 : Int) ≤ 2 ^ 30), hS, (by decide : (0 : Int) ≤ 0 ∧ (0 : Int) < 256)⟩
end Go.Proofs.YtmookafmdonopaaGreat.Top
