/- tree.twin by hand: what its loop keeps. -/
import Derived.Test.YtgbkdmcbdilgaaaTreeHand3
namespace Go.Proofs.Ytgbkdmcbdilgaaa.PRankS
open Go.RowKit Go.Proofs.YtgbkdmcbdilgaaaW.PrintWords Go.Proofs.YtgbkdmcbdilgaaaW.PrintLast Go.Proofs.YtgbkdmcbdilgaaaW.PrintMore
set_option linter.unusedVariables false
set_option linter.unusedSimpArgs false

abbrev Hd := Option Addr × Nat × Nat
def hdEnc (p : Hd) : Value := .slice p.1 p.2.1 p.2.2
def hd : Kd Hd := Kd.scalar hdEnc (fun _ => rfl)
/-- the tree's box, the result's, the row of heads: the first k are told anew, each behind the one before -/
def TW (w W : World) (size : Int) (g n c : Nat) (h0 hs : List Hd) (lv : List (List Int)) (k : Nat) : Prop :=
  W.heap[w.heap.size]? = some (.cells #[.int .i64 size, .slice (some ⟨g, 0, none⟩) n c] 27 (0, 0)) ∧ W.heap[w.heap.size + 1]? = some (.cells #[.int .i64 0, .slice none 0 0] 27 (0, 0)) ∧ Below w.heap.size w W ∧ hs.length = n ∧ w.heap.size ≤ g ∧ hd.R 38 W w.heap.size (fun _ => True) (.slice (some ⟨g, 0, none⟩) n c) hs ∧ (∀ j, k ≤ j → hs[j]? = h0[j]?) ∧ ∃ N : Nat → Nat, g < N 0 ∧ (∀ j, j < k → N j ≤ N (j + 1)) ∧ N k ≤ W.heap.size ∧ ∀ j p, j < k → hs[j]? = some p → Kd.R (Kd.int .u64) 53 W w.heap.size (fun b => N j ≤ b ∧ b < N (j + 1)) (hdEnc p) (lv.getD j [])
theorem up_le (N : Nat → Nat) (k : Nat) (h : ∀ j, j < k → N j ≤ N (j + 1)) (i j : Nat) (hij : i ≤ j) (hj : j ≤ k) : N i ≤ N j := by
  obtain ⟨d, rfl⟩ := Nat.exists_eq_add_of_le hij
  induction d with
  | zero => exact Nat.le_refl _
  | succ d ih => exact Nat.le_trans (ih (by omega) (by omega)) (h (i + d) (by omega))
theorem TW.drewN {w W : World} {size : Int} {g n c : Nat} {h0 hs : List Hd} {lv : List (List Int)} {k : Nat} (h : TW w W size g n c h0 hs lv k) (m : Nat) : TW w (W.drewN m) size g n c h0 hs lv k := by
  obtain ⟨a1, a2, a3, a4, a5, a6, a7, N, a8, a9, a10, a11⟩ := h
  exact ⟨blk_drewN a1 m, blk_drewN a2 m, pw_below_drewN a3 m, a4, a5, Kd.R_drewN a6 m, a7, N, a8, a9, a10, fun j p hj hp => Kd.R_drewN (a11 j p hj hp) m⟩
theorem hd_typed {W : World} {base g n c : Nat} {hs : List Hd} (h : hd.R 38 W base (fun _ => True) (.slice (some ⟨g, 0, none⟩) n c) hs) (h0 : 0 < n) : g < W.heap.size ∧ ∃ cells, W.heap[g]? = some (.cells cells 38 (0, 0)) := by
  have hl := (Kd.R_reads' h).1
  obtain ⟨g', c', e, h1, h2, h3⟩ := Kd.R_form h (by omega)
  injection e with e _ _
  injection e with e
  injection e with e
  subst e
  exact ⟨h2, h3⟩
/-- a row is copied, its head put -/
theorem tw_step {w W w1 : World} {size : Int} {g n c : Nat} {h0 hs : List Hd} {lv : List (List Int)} {k : Nat} (h : TW w W size g n c h0 hs lv k) (hk : k < n) (q : Hd) (hR : Kd.R (Kd.int .u64) 53 w1 W.heap.size (fun _ => True) (hdEnc q) (lv.getD k [])) (hb : Below W.heap.size W w1) : TW w (w1.setCell ⟨g, k, none⟩ (hdEnc q)) size g n c h0 (hs.set k q) lv (k + 1) := by
  obtain ⟨a1, a2, a3, a4, a5, a6, a7, N, a8, a9, a10, a11⟩ := h
  obtain ⟨b1, cells, b2⟩ := hd_typed a6 (by omega)
  have hN := up_le N k a9
  have hw := below_size hb
  have hs1 : (w1.setCell ⟨g, k, none⟩ (hdEnc q)).heap.size = w1.heap.size := by simp
  have c2 := blk_below b2 hb
  have hp := Kd.R_putn (Kd.R_below a6 hb) (k : Int) q
  rw [Int.toNat_natCast] at hp
  refine ⟨blk_far (blk_below a1 hb) (p := ⟨g, k, none⟩) (blk_ne (blk_below a1 hb) c2 (by decide)) _, blk_far (blk_below a2 hb) (p := ⟨g, k, none⟩) (blk_ne (blk_below a2 hb) c2 (by decide)) _, (below_step a3 hb).setCell (p := ⟨g, k, none⟩) a5 _, by rw [List.length_set]; exact a4, a5, hp, fun j hj => by rw [List.getElem?_set_ne (by omega)]; exact a7 j (by omega), fun j => if j ≤ k then N j else w1.heap.size, ?_, fun j hj => ?_, ?_, fun j p hj hp => ?_⟩
  · show g < if 0 ≤ k then N 0 else w1.heap.size
    rw [if_pos (by omega)]
    exact a8
  · show (if j ≤ k then N j else w1.heap.size) ≤ (if j + 1 ≤ k then N (j + 1) else w1.heap.size)
    rw [if_pos (by omega)]
    by_cases hj2 : j + 1 ≤ k
    · rw [if_pos hj2]
      exact a9 j (by omega)
    · rw [if_neg hj2]
      have := hN j k (by omega) (Nat.le_refl _)
      omega
  · show (if k + 1 ≤ k then N (k + 1) else w1.heap.size) ≤ _
    rw [if_neg (by omega), hs1]
    exact Nat.le_refl _
  · show Kd.R (Kd.int .u64) 53 _ w.heap.size (fun b => (if j ≤ k then N j else w1.heap.size) ≤ b ∧ b < (if j + 1 ≤ k then N (j + 1) else w1.heap.size)) (hdEnc p) (lv.getD j [])
    rw [if_pos (show j ≤ k by omega)]
    have hgN : g < N j := Nat.lt_of_lt_of_le a8 (hN 0 j (Nat.zero_le _) (by omega))
    by_cases hjk : j < k
    · rw [if_pos (show j + 1 ≤ k by omega)]
      rw [List.getElem?_set_ne (by omega)] at hp
      exact Kd.R_far (Kd.R_below (a11 j p hjk hp) hb) (p := ⟨g, k, none⟩) (fun b hb2 => by show b ≠ g; omega) _
    · obtain rfl : j = k := by omega
      rw [if_neg (show ¬ j + 1 ≤ j by omega)]
      rw [List.getElem?_set_self (by omega)] at hp
      obtain rfl := Option.some.inj hp
      exact Kd.R_far (Kd.R_lower (Kd.R_mono (Kd.R_bound hR) (fun b hb2 => ⟨by omega, hb2.2.2.1⟩)) (below_size a3)) (p := ⟨g, j, none⟩) (fun b hb2 => by show b ≠ g; omega) _
/-- all are told anew: a tree of its own -/
theorem tw_end {w W : World} {size : Int} {g n c : Nat} {h0 hs : List Hd} {lv : List (List Int)} (h : TW w W size g n c h0 hs lv n) (hl : lv.length = n) : Kd.S (Kd.slice 53 (Kd.int .u64)) 38 W w.heap.size (fun _ => True) (.slice (some ⟨g, 0, none⟩) n c) lv := by
  obtain ⟨a1, a2, a3, a4, a5, a6, a7, N, a8, a9, a10, a11⟩ := h
  have hN := up_le N n a9
  have ho := Kd.own_of_R a6
  obtain ⟨f, hf⟩ := Kd.reps_tag (d := Kd.slice 53 (Kd.int .u64)) (w := W) (base := w.heap.size) (ok := fun k => True ∧ some k ≠ (Value.slice (some ⟨g, 0, none⟩) n c).ownBlock) (xs := lv) (inner := encs hdEnc hs) (fun j b => j < n ∧ N j ≤ b ∧ b < N (j + 1)) (fun i j b hi hj => by
      rcases Nat.lt_trichotomy i j with hij | hij | hij
      · have := hN (i + 1) j (by omega) (by omega)
        omega
      · exact hij
      · have := hN (j + 1) i (by omega) (by omega)
        omega) (fun j b hb => ⟨trivial, by
      have := hN 0 j (Nat.zero_le _) (by omega)
      simp only [Value.ownBlock]
      intro e
      injection e with e
      omega⟩) (by show (hs.map hdEnc).length = lv.length * 1; rw [List.length_map]; omega) (fun j x hx => by
      have hj : j < lv.length := (List.getElem?_eq_some_iff.1 hx).1
      have hj2 : hs[j]? = some hs[j] := List.getElem?_eq_getElem (by omega)
      have hr := a11 j _ (by omega) hj2
      have hx2 : lv.getD j [] = x := by rw [List.getD_eq_getElem?_getD, hx]; rfl
      rw [hx2] at hr
      have he : ((encs hdEnc hs).drop (j * (Kd.slice 53 (Kd.int .u64)).sz)).take (Kd.slice 53 (Kd.int .u64)).sz = [hdEnc hs[j]] := by
        show ((hs.map hdEnc).drop (j * 1)).take 1 = _
        rw [Nat.mul_one, List.drop_eq_getElem_cons (by rw [List.length_map]; omega), List.getElem_map]
        rfl
      rw [he]
      exact Kd.M_row (Kd.R_mono hr (fun b hb => ⟨by omega, hb.1, hb.2⟩)))
  refine ⟨f, fun _ _ => trivial, encs hdEnc hs, ?_, hf⟩
  rw [List.length_zipIdx, hl, ← a4]
  rw [← a4] at ho
  exact ho
/-- the heads that are copied -/
theorem heads_of {w : World} {A : Option Addr} {lv : List (List Int)} (h : Kd.C (Kd.slice 53 (Kd.int .u64)) w A lv.length lv) : ∃ hs : List Hd, hs.length = lv.length ∧ Kd.C (Kd.raw 1) w A (encs hdEnc hs).length ((encs hdEnc hs).map fun x => [x]) ∧ ∀ j, j < lv.length → ∃ Aj cj, hs[j]? = some (Aj, (lv.getD j []).length, cj) ∧ (lv.getD j []).length ≤ cj ∧ Kd.C (Kd.int .u64) w Aj (lv.getD j []).length (lv.getD j []) := by
  obtain ⟨vs, h1, h2, h3⟩ := raw_of h
  obtain ⟨un, hun⟩ : ∃ un : Value → Hd, ∀ A n c, un (.slice A n c) = (A, n, c) := ⟨fun v => match v with | .slice A n c => (A, n, c) | _ => (none, 0, 0), fun _ _ _ => rfl⟩
  have he : encs hdEnc (vs.map un) = vs := by
    apply List.ext_getElem?
    intro j
    rw [encs, List.getElem?_map, List.getElem?_map]
    by_cases hj : j < lv.length
    · obtain ⟨Aj, cj, e, _⟩ := h3 j hj
      rw [e]
      show some (hdEnc (un _)) = _
      rw [hun]
      rfl
    · rw [List.getElem?_eq_none (by omega)]
      rfl
  refine ⟨vs.map un, by rw [List.length_map]; exact h1, by rw [he]; exact h2, fun j hj => ?_⟩
  obtain ⟨Aj, cj, e, hle, hC⟩ := h3 j hj
  exact ⟨Aj, cj, by rw [List.getElem?_map, e]; show some (un _) = _; rw [hun], hle, hC⟩
end Go.Proofs.Ytgbkdmcbdilgaaa.PRankS
