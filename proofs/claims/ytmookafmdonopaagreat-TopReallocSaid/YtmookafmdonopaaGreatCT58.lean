/- Plainly: all that a Realloc against a Free and a Malloc comes to. -/
import Derived.Test.YtmookafmdonopaaGreatCT55
import Derived.Test.YtmookafmdonopaaGreatCT54
namespace Go.Proofs.YtmookafmdonopaaGreat.Top
open Go Go.RowKit
set_option linter.unusedVariables false
set_option linter.unusedSimpArgs false

theorem ok_re {a S : Int} (hS : S ≤ 2 ^ 30) : OpOk ⟨4, a, S, 0, 0, 0⟩ := ⟨(by decide : (1 : Int) ≤ 4 ∧ (4 : Int) ≤ 10), Or.inl rfl, (by decide : (0 : Int) ≤ 2 ^ 30), hS, (by decide : (0 : Int) ≤ 0 ∧ (0 : Int) < 256)⟩
theorem ok_fr {a : Int} : OpOk ⟨5, a, 0, 0, 0, 0⟩ := ⟨(by decide : (1 : Int) ≤ 5 ∧ (5 : Int) ≤ 10), Or.inl rfl, (by decide : (0 : Int) ≤ 2 ^ 30), (by decide : (0 : Int) ≤ 2 ^ 30), (by decide : (0 : Int) ≤ 0 ∧ (0 : Int) < 256)⟩
theorem doP_free {c : Cf} {s : Hs} (iv : Iv c s) (mem : List Nat) {b : Bk} (hb : b ∈ s.bl) : doP c s mem ⟨5, b.at_, 0, 0, 0, 0⟩ = (s.without b, An.no 0) := by
 show blockP c s mem ⟨5, b.at_, 0, 0, 0, 0⟩ = _
 unfold blockP
 simp only [blkAt_mem iv hb]
 rw [if_neg (by decide), if_pos trivial]
theorem doP_re {c : Cf} {s : Hs} (iv : Iv c s) (mem : List Nat) {b : Bk} (hb : b ∈ s.bl) (S : Int) : doP c s mem ⟨4, b.at_, S, 0, 0, 0⟩ = reallocP c s b S := by
 show blockP c s mem ⟨4, b.at_, S, 0, 0, 0⟩ = _
 unfold blockP
 simp only [blkAt_mem iv hb]
 rw [if_pos trivial]
theorem re_all {c : Cf} {s : Hs} (iv : Iv c s) {b : Bk} (hb : b ∈ s.bl) (S : Int) (mem : List Nat) :
 ∃ s1 ax s2, doP c s mem ⟨4, b.at_, S, 0, 0, 0⟩ = (s1, ax) ∧ (∀ m, doP c (s.without b) m ⟨1, 0, S, 0, 0, 0⟩ = (s2, ax)) ∧ Iv c s1 ∧ Iv c s2 ∧
  ((ax.err ≠ 0 ∧ s1 = s) ∨ (s1 = s2 ∧ ∃ a ch : Nat, ax = ⟨0, a, 0, 0, 0, 0, 0, 0⟩ ∧ a ≤ 65536 ∧ ch ≤ 65536 ∧ (∀ m, doP c s2 m ⟨6, a, 0, 0, 0, 0⟩ = (s2, ⟨0, 0, (ch : Nat), 0, 0, 0, 0, 0⟩)) ∧
   ∀ mem', DoMem c s mem ⟨4, b.at_, S, 0, 0, 0⟩ mem' → ∀ i : Nat, i < ch → i < b.ch c → doP c s2 mem' ⟨7, a, 0, 0, i, 0⟩ = (s2, ⟨0, 0, 0, ((mem.getD (b.at_ + i) 0 : Nat) : Int), 0, 0, 0, 0⟩))) := by
 obtain ⟨e1, e2, e3⟩ := realloc_as iv hb S
 have iw := (iv.without hb).1
 have hg := iv.good
 refine ⟨(reallocP c s b S).1, (reallocP c s b S).2, (alignedP c (s.without b) S 1).1, doP_re iv mem hb S, fun m => ?_, ?_, ?_, ?_⟩
 · rw [e1]; rfl
 · by_cases h0 : (reallocP c s b S).2.err = 0
   · rw [e3 h0]; exact asks_iv iw (adm_may iw GoodA.one)
   · rw [e2 h0]; exact iv
 · exact asks_iv iw (adm_may iw GoodA.one)
 · rcases asks_spec iw (adm_may iw (S := S) GoodA.one) with ⟨er, he, h⟩ | ⟨h0, k, a, i, on', h1, h2, hp, h⟩
   · have h3 : (reallocP c s b S).2.err ≠ 0 := by
      rw [e1]; show (asksP _ _ _ _ _).2.err ≠ 0; rw [h]; exact he
     exact Or.inl ⟨h3, e2 h3⟩
   · have h5 : alignedP c (s.without b) S 1 = (placed c (s.without b) k a i on', ⟨0, ((i * 2 ^ k * c.G : Nat) : Int), 0, 0, 0, 0, 0, 0⟩) := h
     have h3 : (reallocP c s b S).2.err = 0 := by
      rw [e1, h5]
     have hbk : bkAt c i k a ∈ (placed c (s.without b) k a i on').bl := by
      show bkAt c i k a ∈ insB (s.without b).bl (bkAt c i k a)
      unfold insB
      exact List.mem_append_right _ List.mem_cons_self
     have hi2 := (hp.iv iw).2
     have bd := hg.bounds
     refine Or.inr ⟨e3 h3, i * 2 ^ k * c.G, c.G * 2 ^ k, by rw [e1, h5], by omega, by omega, fun m => ?_, fun mem' hd j hj hj2 => ?_⟩
     · rw [h5]; exact doP_usable (hp.iv iw).1 m hbk
     · rw [h5]
       refine (doP_load (hp.iv iw).1 mem' hbk hj).trans ?_
       have h6 := ((hd.2.1 (by decide : (4 : Int) ≤ 4) (by decide : (4 : Int) ≤ 8)).1 b (blkAt_mem iv hb) rfl).2 h3 j (by
        rw [sum_without iv hb]
        show _ < min _ (adm c _ S 1).1
        rw [h1]
        omega)
       have h7 : (reallocP c s b S).2.at_.toNat = (bkAt c i k a).at_ := by
        rw [e1, h5]; rfl
       rw [h7] at h6
       rw [List.getD_eq_getElem?_getD, List.getD_eq_getElem?_getD, h6]
end Go.Proofs.YtmookafmdonopaaGreat.Top
