/- Two heaps: what is beside them, kept or let go. -/
import Derived.Test.YtmookafmdonopaaGreatCT57
namespace Go.Proofs.YtmookafmdonopaaGreat.Top
open Go Go.RowKit
set_option linter.unusedVariables false
set_option linter.unusedSimpArgs false
variable {h x : Nat} {c : Cf} {s s2 : Hs} {mem mem2 : List Nat} {L L' G : List (Nat × (Obj → Prop))} {R Rn : World → Prop} {w0 w w1 : World}

theorem HW2.opn2 (H : HW2 h x c s mem s2 mem2 L R w0 w) :
 ∃ (Q : List (Nat × (Obj → Prop))) (R' : World → Prop), Own [] (Q ++ L) (fun W => R W ∧ R' W) w0 w ∧ ∀ (L' : List (Nat × (Obj → Prop))) (Rn : World → Prop) (w' : World), Own [] (Q ++ L') (fun W => Rn W ∧ R' W) w0 w' → HW2 h x c s mem s2 mem2 L' Rn w0 w' := by
 obtain ⟨d2, a2, b2, c2, H⟩ := H
 obtain ⟨a, d, b1, b2', b3⟩ := H.opn
 refine ⟨hO h c s mem d ++ hO x c s2 mem2 d2, fun W => hR c s2 d2 W ∧ hR c s d W, ?_, fun L' Rn w' ho => ⟨d2, a2, b2, c2, HW.mk a b1 b2' ?_⟩⟩
 · rw [List.append_assoc]
   exact b3.imp fun W hW => ⟨hW.1.1, hW.1.2, hW.2⟩
 · rw [List.append_assoc] at ho
   exact ho.imp fun W hW => ⟨⟨hW.1, hW.2.1⟩, hW.2.2⟩
theorem HW2.below (H : HW2 h x c s mem s2 mem2 L R w0 w) (hb : Below w.heap.size w w1) : HW2 h x c s mem s2 mem2 L R w0 w1 := by
 obtain ⟨Q, R', h1, h2⟩ := H.opn2
 exact h2 _ _ _ (h1.below hb)
theorem HW2.now (H : HW2 h x c s mem s2 mem2 L R w0 w) : R w := by
 obtain ⟨Q, R', h1, h2⟩ := H.opn2
 exact h1.now.1
theorem HW2.imp (H : HW2 h x c s mem s2 mem2 L R w0 w) (hr : ∀ W, R W → Rn W) : HW2 h x c s mem s2 mem2 L Rn w0 w := by
 obtain ⟨Q, R', h1, h2⟩ := H.opn2
 exact h2 _ _ _ (h1.imp fun W hW => ⟨hr W hW.1, hW.2⟩)
theorem HW2.result (H : HW2 h x c s mem s2 mem2 L R w0 w) (hb : Below w.heap.size w w1) (hr : ∀ W : World, (∀ k, w.heap.size ≤ k → k < w1.heap.size → W.heap[k]? = w1.heap[k]?) → Rn W) : HW2 h x c s mem s2 mem2 L (fun W => R W ∧ Rn W) w0 w1 := by
 obtain ⟨Q, R', h1, h2⟩ := H.opn2
 exact h2 _ _ _ ((h1.result hb hr).imp fun W hW => ⟨⟨hW.1.1, hW.2⟩, hW.1.2⟩)
theorem HW2.perm (H : HW2 h x c s mem s2 mem2 L R w0 w) (hp : L'.Perm L) : HW2 h x c s mem s2 mem2 L' R w0 w := by
 obtain ⟨Q, R', h1, h2⟩ := H.opn2
 exact h2 _ _ _ (h1.permL (hp.append_left _))
theorem HW2.drew (H : HW2 h x c s mem s2 mem2 L R w0 w) : HW2 h x c s mem s2 mem2 L R w0 w.drew := H.below ⟨rfl, rfl, rfl, Nat.le_refl _, fun _ _ => rfl⟩
/-- a slice of one's own is kept, to be read alone -/
theorem HW2.keep {e sz n : Nat} {v : Value} {xs : List Value} (hs : SG w0 e sz v n xs G) (H : HW2 h x c s mem s2 mem2 (G ++ L) R w0 w) : HW2 h x c s mem s2 mem2 L (fun W => R W ∧ Row W v n xs) w0 w := by
 obtain ⟨Q, R', h1, h2⟩ := H.opn2
 have h3 : OwnS [] (Q ++ L) (fun W => R W ∧ R' W) w0 w e sz v n xs := by
  refine hs.join (h1.permL ?_)
  rw [← List.append_assoc, ← List.append_assoc]
  exact List.perm_append_comm.append_right _
 exact h2 _ _ _ (h3.freeze.imp fun W hW => ⟨⟨hW.1.1, hW.2⟩, hW.1.2⟩)
/-- the blocks of the first of two heaps -/
theorem HW2.blocks (H : HW2 h x c s mem s2 mem2 L R w0 w) (iv : Iv c s) :
 Calls Tryz.prog 17 #[.pointer (some ⟨h, 0, none⟩)] w fun e w' => ∃ (A : Option Addr) (cp : Nat), e = .returned (.slice A s.bl.length cp) ∧ HW2 h x c s mem s2 mem2 L (fun W => R W ∧ Row W (.slice A s.bl.length cp) s.bl.length (mbV (s.bl.map (Bk.mb c)))) w0 w' := by
 have H0 := H
 obtain ⟨d2, a2, b2, c2, H1⟩ := H
 refine (heap_Blocks h c s mem _ _ w0 w H1 iv).mono ?_
 rintro e w' ⟨v, rfl, hfr, hb⟩
 obtain ⟨A, cp, rfl⟩ := hfr.now.form
 exact ⟨A, cp, rfl, H0.result hb fun W hW => hfr.row hW⟩
/-- the bytes that were -/
def wasB (mem : List Nat) (a k : Nat) : List Value := (List.range k).map fun i => .int .u8 ((mem.getD (a + i) 0 : Nat) : Int)
theorem wasB_succ (mem : List Nat) (a k : Nat) : wasB mem a (k + 1) = wasB mem a k ++ [.int .u8 ((mem.getD (a + k) 0 : Nat) : Int)] := by
 simp [wasB, List.range_succ]
theorem wasB_at (mem : List Nat) (a : Nat) {n k : Nat} (h : k < n) : (wasB mem a n)[k]? = some (.int .u8 ((mem.getD (a + k) 0 : Nat) : Int)) := by
 simp [wasB, h]
theorem wasB_len (mem : List Nat) (a n : Nat) : (wasB mem a n).length = n := by simp [wasB]
theorem SG.nil (w0 : World) (e sz : Nat) : SG w0 e sz (.slice none 0 0) 0 [] [] := ⟨by simp, Or.inl ⟨rfl, rfl, rfl⟩⟩
end Go.Proofs.YtmookafmdonopaaGreat.Top
