/- Written by a program of this session (wip/tools/ext.py) out of the translation: Go functions told as Lean functions, with their walks; or the row of a law out of its plain part. Lean checks it. -/
import Derived.Test.YtgbkdmcbdilgaaaPRankSx0
import Derived.Test.YtgbkdmcbdilgaaaPRankSx4
namespace Go.Proofs.Ytgbkdmcbdilgaaa.PRankS
open Go.RowKit Go.Proofs.YtgbkdmcbdilgaaaW.PrintWords Go.Proofs.YtgbkdmcbdilgaaaW.PrintLast Go.Proofs.YtgbkdmcbdilgaaaW.PrintMore
attribute [local go_sem] max2_int min2_int max_two min_two max_three min_three max_four min_four   -- for this text's walks alone
set_option linter.unusedVariables false
set_option linter.unusedSimpArgs false

/-! ### hodmanref3_Made: function 19 -/
-- by hand
theorem made_info38 : (Try.prog.info? 38).map (fun i => (i.zero, i.size, i.bytes)) = some (some (.slice none 0 0), 1, 24) := by kernel_rfl
theorem made_info4 : (Try.prog.info? 4).map (fun i => (i.zero, i.size, i.bytes)) = some (some (.bool false), 1, 1) := by kernel_rfl
/-- the result's block, the tree's block, its levels; all else is as it was -/
def MI (w0 wr : World) (size : Int) (vL : Value) (lv : List (List Int)) (ok : Nat → Prop) : Prop :=
  wr.heap[w0.heap.size]? = some (.cells #[.int .i64 0, .slice none 0 0] 27 (0, 0)) ∧ wr.heap[w0.heap.size + 1]? = some (.cells #[.int .i64 size, vL] 27 (0, 0)) ∧ Kd.S (Kd.slice 53 (Kd.int .u64)) 38 wr w0.heap.size ok vL lv ∧ Below w0.heap.size w0 wr
theorem MI.drewN {w0 wr : World} {size : Int} {vL : Value} {lv : List (List Int)} {ok : Nat → Prop} (h : MI w0 wr size vL lv ok) (n : Nat) : MI w0 (wr.drewN n) size vL lv ok :=
  ⟨blk_drewN h.1 n, blk_drewN h.2.1 n, Kd.S_drewN h.2.2.1 n, pw_below_drewN h.2.2.2 n⟩
theorem MI.below {w0 wr w1 : World} {size : Int} {vL : Value} {lv : List (List Int)} {ok : Nat → Prop} (h : MI w0 wr size vL lv ok) (hb : Below wr.heap.size wr w1) : MI w0 w1 size vL lv ok :=
  ⟨blk_below h.1 hb, blk_below h.2.1 hb, Kd.S_below h.2.2.1 hb, below_step h.2.2.2 hb⟩
theorem MI.set {w0 wr : World} {size : Int} {vL : Value} {lv : List (List Int)} {ok : Nat → Prop} (h : MI w0 wr size vL lv ok) {g t : Nat} {cs : Array Value} (hg : wr.heap[g]? = some (.cells cs t (0, 0))) (ht : t ≠ 27) (hok : ∀ k, ok k → k ≠ g) (hb : w0.heap.size ≤ g) (i : Nat) (u : Value) : MI w0 (wr.setCell ⟨g, i, none⟩ u) size vL lv ok :=
  ⟨blk_far h.1 (p := ⟨g, i, none⟩) (blk_ne h.1 hg ht.symm) u, blk_far h.2.1 (p := ⟨g, i, none⟩) (blk_ne h.2.1 hg ht.symm) u, Kd.S_far h.2.2.1 (p := ⟨g, i, none⟩) hok u, h.2.2.2.setCell (p := ⟨g, i, none⟩) hb u⟩
theorem MI.mono {w0 wr : World} {size : Int} {vL : Value} {lv : List (List Int)} {ok ok' : Nat → Prop} (h : MI w0 wr size vL lv ok) (hok : ∀ k, ok k → ok' k) : MI w0 wr size vL lv ok' := ⟨h.1, h.2.1, Kd.S_mono h.2.2.1 hok, h.2.2.2⟩
/-- the bools: those that came in, or a row of the call's own -/
def BA (w0 wr : World) (A : Option Addr) (c : Nat) (b : List Bool) : Prop :=
  b.length ≤ c ∧ (Kd.C Kd.bool w0 A b.length b ∨ Kd.R Kd.bool 4 wr w0.heap.size (fun _ => True) (.slice A b.length c) b)
theorem BA.reads {w0 wr : World} {A : Option Addr} {c : Nat} {b : List Bool} (h : BA w0 wr A c b) (hb : Below w0.heap.size w0 wr) : Kd.C Kd.bool wr A b.length b := by
  rcases h.2 with h1 | h1
  · exact Kd.C_below h1 hb
  · exact (Kd.R_reads' h1).2.2
theorem BA.below {w0 wr w1 : World} {A : Option Addr} {c : Nat} {b : List Bool} (h : BA w0 wr A c b) (hb : Below wr.heap.size wr w1) : BA w0 w1 A c b :=
  ⟨h.1, h.2.imp id fun h1 => Kd.R_below h1 hb⟩
theorem BA.drewN {w0 wr : World} {A : Option Addr} {c : Nat} {b : List Bool} (h : BA w0 wr A c b) (n : Nat) : BA w0 (wr.drewN n) A c b :=
  ⟨h.1, h.2.imp id fun h1 => Kd.R_drewN h1 n⟩
theorem BA.set {w0 wr : World} {A : Option Addr} {c : Nat} {b : List Bool} (h : BA w0 wr A c b) {g t : Nat} {cs : Array Value} (hg : wr.heap[g]? = some (.cells cs t (0, 0))) (ht : t ≠ 4) (i : Nat) (u : Value) : BA w0 (wr.setCell ⟨g, i, none⟩ u) A c b :=
  ⟨h.1, h.2.imp id fun h1 => Kd.R_drop (Kd.R_far (Kd.R_far1 h1 rfl (Kd.R_ne h1 hg ht.symm)) (p := ⟨g, i, none⟩) (fun k hk => hk.2) _)⟩
/-- a row of the call's own is stored into: the row -/
theorem row_typed {w : World} {base g n c : Nat} {xs : List Int} (h : Kd.R (Kd.int .u64) 53 w base (fun _ => True) (.slice (some ⟨g, 0, none⟩) n c) xs) : ∃ cells, w.heap[g]? = some (.cells cells 53 (0, 0)) := Kd.R_typed h g rfl
/-- the bits of a row: what stands behind i steps -/
def fillTo (b : List Bool) (l : List Int) : Nat → List Int
  | 0 => l
  | i + 1 => if b.getD i true then (fillTo b l i).set (i / 64) (Go.bits .or .u64 (rd (fillTo b l i) ((i / 64 : Nat) : Int)) (shl .u64 1 ((i % 64 : Nat) : Int))) else fillTo b l i
theorem fillTo_len (b : List Bool) (l : List Int) (i : Nat) : (fillTo b l i).length = l.length := by
  induction i with
  | zero => rfl
  | succ i ih => unfold fillTo; split <;> simp [ih]
/-- which words are full -/
def fullTo (l : List Int) : Nat → List Bool
  | 0 => List.replicate l.length false
  | i + 1 => (fullTo l i).set i (rd l (i : Int) == 18446744073709551615)
theorem fullTo_len (l : List Int) (i : Nat) : (fullTo l i).length = l.length := by
  induction i with
  | zero => simp [fullTo]
  | succ i ih => simp [fullTo, ih]
def made_l : Nat → List Bool → List (List Int) → Option (List (List Int))
  | 0, _, _ => none
  | k + 1, b, lv =>
    let n := (b.length + 63) / 64
    let r := fillTo b (List.replicate n 0) (64 * n)
    if n = 1 then some (lv ++ [r]) else made_l k (fullTo r n) (lv ++ [r])
def hodmanref3_Made.f (a0 : Int) (l1 : List Bool) : Option (Int × List (List Int)) :=
  if a0 < 1 then some (0, []) else if a0 > 65536 then some (0, []) else if l1.length < 1 then some (0, []) else if l1.length > 100000 then none else (made_l 6 l1 []).map fun lv => (a0, lv)
theorem newrow_eq (n : Nat) (h1 : 1 ≤ n) (h2 : n ≤ 100000) : hodmanref3_NewRow.f (n : Int) = some (List.replicate ((n + 63) / 64) 0) := by
  have hd : Int.tdiv (n : Int) 64 = ((n / 64 : Nat) : Int) := rfl
  have hm : Int.tmod (n : Int) 64 = ((n % 64 : Nat) : Int) := rfl
  have w1 : wrap64 ((n / 64 : Nat) : Int) = ((n / 64 : Nat) : Int) := by unfold wrap64; omega
  have w2 : wrap64 (((n / 64 : Nat) : Int) + 1) = ((n / 64 + 1 : Nat) : Int) := by unfold wrap64; omega
  unfold hodmanref3_NewRow.f
  rw [if_neg (by omega), hm, hd, w1, w2]
  by_cases h : n % 64 = 0
  · rw [if_neg (by omega), if_pos (by omega), Int.toNat_natCast, if_pos (by omega), show (n + 63) / 64 = n / 64 from by omega]
  · rw [if_pos (by omega), if_pos (by omega), Int.toNat_natCast, if_pos (by omega), show (n + 63) / 64 = n / 64 + 1 from by omega]
theorem shl_forms (m : Nat) (sv : Int) (hm : m < 64) (h : shl .u64 1 (m : Int) = sv) : IntKind.u64.wrap (1 * 2 ^ min (m : Int).toNat 64) = sv ∧ IntKind.u64.wrap (2 ^ min (m : Int).toNat 64) = sv ∧ IntKind.u64.wrap (2 ^ m) = sv ∧ IntKind.u64.wrap (2 ^ min m 64) = sv := by
  have h1 : IntKind.u64.wrap (1 * 2 ^ min (m : Int).toNat 64) = sv := h
  have h2 := h1
  rw [Int.one_mul] at h2
  have h3 := h2
  rw [Int.toNat_natCast] at h3
  have h4 := h3
  rw [Nat.min_eq_left (by omega)] at h4
  exact ⟨h1, h2, h4, h3⟩
theorem fill_on (b : List Bool) (l : List Int) (j q m : Nat) (sv : Int) (hq : q = j / 64) (hm : m = j % 64) (hs : shl .u64 1 (m : Int) = sv) (hb : b.getD j true = true) : fillTo b l (j + 1) = (fillTo b l j).set q (Go.bits .or .u64 (rd (fillTo b l j) (q : Int)) sv) := by
  subst hq
  subst hm
  rw [fillTo, if_pos hb, hs]
theorem fill_off (b : List Bool) (l : List Int) (j : Nat) (hb : b.getD j true = false) : fillTo b l (j + 1) = fillTo b l j := by
  rw [fillTo, hb]
  rfl
theorem made_wrap (j : Nat) (h : j < 1000000) : wrap64 ((j : Int) + 1) = ((j + 1 : Nat) : Int) := by unfold wrap64; omega
theorem mi_new {w0 wr w1 : World} {size : Int} {vL : Value} {lv : List (List Int)} (h : MI w0 wr size vL lv (fun _ => True)) (hb : Below wr.heap.size wr w1) {g : Nat} (hg : wr.heap.size ≤ g) : MI w0 w1 size vL lv (fun k => True ∧ k ≠ g) := by
  have h1 : MI w0 wr size vL lv (fun k => True ∧ k ≠ g) := ⟨h.1, h.2.1, Kd.S_elderB h.2.2.1 g hg, h.2.2.2⟩
  exact h1.below hb
theorem mi_append {w0 wr w1 : World} {size : Int} {vL v1 : Value} {lv : List (List Int)} {g c6 n : Nat} {P : List Int} (hm : MI w0 wr size vL lv (fun k => True ∧ k ≠ g)) (hO : Kd.R (Kd.int .u64) 53 wr w0.heap.size (fun _ => True) (.slice (some ⟨g, 0, none⟩) n c6) P) (hs : Kd.S (Kd.slice 53 (Kd.int .u64)) 38 w1 w0.heap.size (fun _ => True) v1 (lv ++ [P])) (hb : Below w0.heap.size w0 w1) (hg : wr.grownBy w1 vL.ownBlock) :
    w1.cell? ⟨w0.heap.size + 1, 1, none⟩ = some vL ∧ w1.frozen? ⟨w0.heap.size + 1, 1, none⟩ = false ∧ MI w0 (w1.setCell ⟨w0.heap.size + 1, 1, none⟩ v1) size v1 (lv ++ [P]) (fun _ => True) ∧ Kd.R (Kd.int .u64) 53 (w1.setCell ⟨w0.heap.size + 1, 1, none⟩ v1) w0.heap.size (fun _ => True) (.slice (some ⟨g, 0, none⟩) n c6) P := by
  have b0 := blk_grown hm.1 hg (Kd.S_ne hm.2.2.1 hm.1 (by decide))
  have b1 := blk_grown hm.2.1 hg (Kd.S_ne hm.2.2.1 hm.2.1 (by decide))
  obtain ⟨cells, hcl⟩ := row_typed hO
  have r1 := Kd.R_grown1 hO rfl hg (fun e => Kd.S_ne hm.2.2.1 hcl (by decide) e.symm)
  refine ⟨blk_cell b1 1, blk_frozen b1 1, ⟨blk_far b0 (p := ⟨w0.heap.size + 1, 1, none⟩) (by simp) v1, blk_put b1 1 v1 rfl, Kd.S_set hs b1 (by decide) 1 v1, hb.setCell (p := ⟨w0.heap.size + 1, 1, none⟩) (Nat.le_succ _) v1⟩, ?_⟩
  exact Kd.R_drop (Kd.R_far (Kd.R_far1 r1 rfl (Kd.R_ne r1 b1 (by decide))) (p := ⟨w0.heap.size + 1, 1, none⟩) (fun k hk => hk.2) _)
theorem mi_done {w0 W : World} {size : Int} {v : Value} {lv : List (List Int)} (h : MI w0 W size v lv (fun _ => True)) (x y : Value) :
    Kd.S (Kd.slice 53 (Kd.int .u64)) 38 ((W.setCell ⟨w0.heap.size, 0, none⟩ x).setCell ⟨w0.heap.size, 1, none⟩ y) w0.heap.size (fun _ => True) v lv ∧ Below w0.heap.size w0 ((W.setCell ⟨w0.heap.size, 0, none⟩ x).setCell ⟨w0.heap.size, 1, none⟩ y) := by
  have s1 := Kd.S_set h.2.2.1 h.1 (by decide) 0 x
  have b1 := blk_set h.1 0 x
  have s2 := Kd.S_set s1 b1 (by decide) 1 y
  exact ⟨s2, (h.2.2.2.setCell (p := ⟨w0.heap.size, 0, none⟩) (Nat.le_refl _) x).setCell (p := ⟨w0.heap.size, 1, none⟩) (Nat.le_refl _) y⟩
theorem made_step (k : Nat) (b : List Bool) (lv : List (List Int)) (n : Nat) (hn : n = (b.length + 63) / 64) : made_l (k + 1) b lv = if n = 1 then some (lv ++ [fillTo b (List.replicate n 0) (64 * n)]) else made_l k (fullTo (fillTo b (List.replicate n 0) (64 * n)) n) (lv ++ [fillTo b (List.replicate n 0) (64 * n)]) := by
  subst hn
  rfl
theorem mi_cells {w0 W : World} {size : Int} {v : Value} {lv : List (List Int)} (h : MI w0 W size v lv (fun _ => True)) (x y : Value) :
    ((W.setCell ⟨w0.heap.size, 0, none⟩ x).setCell ⟨w0.heap.size, 1, none⟩ y).cell? ⟨w0.heap.size, 0, none⟩ = some x ∧ ((W.setCell ⟨w0.heap.size, 0, none⟩ x).setCell ⟨w0.heap.size, 1, none⟩ y).cell? ⟨w0.heap.size, 1, none⟩ = some y := by
  have b2 := blk_set (blk_set h.1 0 x) 1 y
  exact ⟨(blk_cell b2 0).trans rfl, (blk_cell b2 1).trans rfl⟩
theorem mi_bit {w0 W : World} {size : Int} {v : Value} {lv : List (List Int)} {g g8 n c6 c8 : Nat} {P : List Int} {bs : List Bool} (hO : Kd.R Kd.bool 4 W w0.heap.size (fun _ => True) (.slice (some ⟨g8, 0, none⟩) n c8) bs) (hM : MI w0 W size v lv (fun _ => True)) (hP : Kd.R (Kd.int .u64) 53 W w0.heap.size (fun _ => True) (.slice (some ⟨g, 0, none⟩) n c6) P) (hg : w0.heap.size ≤ g8) (j : Nat) (x : Bool) :
    Kd.R Kd.bool 4 (W.setCell ⟨g8, j, none⟩ (.bool x)) w0.heap.size (fun _ => True) (.slice (some ⟨g8, 0, none⟩) n c8) (bs.set j x) ∧ MI w0 (W.setCell ⟨g8, j, none⟩ (.bool x)) size v lv (fun _ => True) ∧ Kd.R (Kd.int .u64) 53 (W.setCell ⟨g8, j, none⟩ (.bool x)) w0.heap.size (fun _ => True) (.slice (some ⟨g, 0, none⟩) n c6) P := by
  obtain ⟨cells, hcl⟩ := Kd.R_typed hO g8 rfl
  have r1 := Kd.R_putn hO (j : Int) x
  rw [Int.toNat_natCast] at r1
  refine ⟨r1, ⟨blk_far hM.1 (p := ⟨g8, j, none⟩) (blk_ne hM.1 hcl (by decide)) _, blk_far hM.2.1 (p := ⟨g8, j, none⟩) (blk_ne hM.2.1 hcl (by decide)) _, Kd.S_set hM.2.2.1 hcl (by decide) j _, hM.2.2.2.setCell (p := ⟨g8, j, none⟩) hg _⟩, ?_⟩
  exact Kd.R_drop (Kd.R_far (Kd.R_far1 hP rfl (Kd.R_ne hP hcl (by decide))) (p := ⟨g8, j, none⟩) (fun k hk => hk.2) _)
theorem made_main (A0 : Option Addr) (c0 : Nat) (l1 : List Bool) (a0 : Int) (r : List (List Int)) (w : World) (hr0 : Kd.C Kd.bool w A0 l1.length l1) (hc0 : l1.length ≤ c0) (h1 : 1 ≤ a0) (h2 : a0 ≤ 65536) (h3 : 1 ≤ l1.length) (h4 : l1.length ≤ 100000) (h : made_l 6 l1 [] = some r) :
    Calls Try.prog 19 #[.int .i64 a0, .slice A0 l1.length c0] w fun e w' => ∃ v1_ : Value, e = .returned (.agg #[.int .i64 a0, v1_]) ∧ Kd.S (Kd.slice 53 (Kd.int .u64)) 38 w' w.heap.size (fun _ => True) v1_ r ∧ Below w.heap.size w w' := by
  have HR0 := Aside0.mk hr0
  have HC0 := Aside0.mk hc0
  have H0 := Aside0.mk h
  have HN1 := Aside0.mk h1
  have HN2 := Aside0.mk h2
  clear hr0 hc0 h
  have c1 := eq_false (show ¬ a0 < 1 by omega)
  have c1c := decide_eq_false (show ¬ a0 < 1 by omega)
  have c2 := eq_false (show ¬ a0 > 65536 by omega)
  have c2c := decide_eq_false (show ¬ a0 > 65536 by omega)
  have c3 := eq_false (show ¬ (l1.length : Int) < 1 by omega)
  have c3c := decide_eq_false (show ¬ (l1.length : Int) < 1 by omega)
  go_enter Try.func19, Try.ntmps19
  go_wp2
  have hm0 : MI w ((w.alloc (.cells #[.int .i64 0, .slice none 0 0] 27)).alloc (.cells #[.int .i64 a0, .slice none 0 0] 27)) a0 (.slice none 0 0) [] (fun _ => True) := by
    have e1 : (w.alloc (.cells #[.int .i64 0, .slice none 0 0] 27)).heap.size = w.heap.size + 1 := by simp
    refine ⟨blk_alloc (blk_new w _) _, ?_, Kd.S_nil _ _ _ _ _, ((Below.refl w.heap.size w).alloc (Nat.le_refl _) _).alloc (by simp) _⟩
    have h_ := blk_new (w.alloc (.cells #[.int .i64 0, .slice none 0 0] 27)) (.cells #[.int .i64 a0, .slice none 0 0] 27)
    rw [e1] at h_
    exact h_
  have HM0 := Aside0.mk hm0
  clear hm0 c1 c1c c2 c2c c3 c3c
  go_loopg [1] 6 (fun k v1 wr => ∃ (b : List Bool) (A : Option Addr) (c : Nat) (vL : Value) (lv : List (List Int)), v1 = .slice A b.length c ∧ 1 ≤ b.length ∧ b.length ≤ 100000 ∧ made_l k b lv = some r ∧ lv.length + k ≤ 6 ∧ BA w wr A c b ∧ MI w wr a0 vL lv (fun _ => True))
  case atStart => exact ⟨l1, A0, c0, _, [], rfl, h3, h4, H0.out, Nat.le_refl _, ⟨HC0.out, Or.inl HR0.out⟩, HM0.out⟩
  case round =>
    clear HR0 HC0 H0 HM0 h3 h4
    obtain ⟨b, A, c, vL, lv, rfl, hb1, hb2, hf, hlv, hba, hmi⟩ := hrel
    have HBA := Aside0.mk hba
    have HMI := Aside0.mk hmi
    have HF := Aside0.mk hf
    have HLV := Aside0.mk hlv
    clear hba hmi hf hlv
    cases gk with
    | zero => exact absurd HF.out (by simp [made_l])
    | succ k =>
      have hnr := Aside0.mk (newrow_eq b.length hb1 hb2)
      obtain ⟨n, hn⟩ : ∃ n, n = (b.length + 63) / 64 := ⟨_, rfl⟩
      have hn1 : 1 ≤ n := by omega
      have hn2 : n ≤ 2000 := by omega
      have HNE := Aside0.mk hn
      rw [← hn] at hnr
      clear hn
      go_wp2_with (first | (go_at_call 37; (with_reducible refine (hodmanref3_NewRow.calls (b.length : Int) _ _ hnr.out).mono ?_); rintro e w1 ⟨v6, rfl, ho, hb⟩; obtain ⟨g, c6, e6, hg1, hg2, _⟩ := Kd.R_form ho (by rw [List.length_replicate]; omega); subst e6; rw [List.length_replicate] at ho ⊢; have HO := Aside0.mk (Kd.R_lower ho (below_size HMI.out.2.2.2)); have HBA1 := Aside0.mk (HBA.out.below hb); have HMI1 := Aside0.mk ((HMI.out.below hb).mono (ok' := fun _ => True) (fun _ _ => trivial)); have HGL := Aside0.mk (Nat.le_trans (below_size HMI.out.2.2.2) hg1); have HMI2 := Aside0.mk (mi_new HMI.out hb hg1); clear ho hb hg1 hg2))
      clear HBA HMI
      go_loopg [7] (64 * n) (fun k v7 wr2 => ∃ j : Nat, v7 = .int .i64 (j : Int) ∧ k = 64 * n - j ∧ j ≤ 64 * n ∧ Kd.R (Kd.int .u64) 53 wr2 w.heap.size (fun _ => True) (.slice (some ⟨g, 0, none⟩) n c6) (fillTo b (List.replicate n 0) j) ∧ MI w wr2 a0 vL lv (fun k => True ∧ k ≠ g) ∧ BA w wr2 A c b)
      case atStart => exact ⟨0, rfl, rfl, Nat.zero_le _, HO.out, HMI2.out, HBA1.out⟩
      case round =>
        obtain ⟨j, rfl, hgk, hj, hO, hM, hA⟩ := hrel
        clear HO HMI1 HMI2 HBA1
        have HO := Aside0.mk hO
        have HM := Aside0.mk hM
        have HA := Aside0.mk hA
        have HG := Aside0.mk hgk
        clear hO hM hA hgk
        by_cases c1 : j < 64 * n
        · have c1b := eq_true (show (j : Int) < 64 * (n : Int) by omega)
          have c1c := decide_eq_true (show (j : Int) < 64 * (n : Int) by omega)
          obtain ⟨q, hqe⟩ : ∃ q, q = j / 64 := ⟨_, rfl⟩
          obtain ⟨m, hme⟩ : ∃ m, m = j % 64 := ⟨_, rfl⟩
          have hwq : wrap64 ((j : Int) / 64) = (q : Int) := by rw [hqe]; unfold wrap64; omega
          have hwm : Int.tmod (j : Int) 64 = (m : Int) := by rw [hme]; rfl
          obtain ⟨sv, hsv⟩ : ∃ sv, shl .u64 1 (m : Int) = sv := ⟨_, rfl⟩
          obtain ⟨hs1, hs2, hs3, hs4⟩ := shl_forms m sv (by omega) hsv
          have HSV := Aside0.mk hsv
          clear hsv
          have hm64 : m < 64 := by omega
          have HQ := Aside0.mk hqe
          have HMe := Aside0.mk hme
          obtain ⟨s1, s2⟩ := Kd.R_celln 0 HO.out (q : Int) (by omega) (by omega)
          rw [Int.toNat_natCast] at s1 s2
          have S1 := Aside0.mk s1
          have S2 := Aside0.mk s2
          clear s1 s2
          have hq : (q : Int) < (n : Int) := by omega
          clear hqe hme
          by_cases c2 : j < b.length
          · obtain ⟨ad, rfl, hx⟩ := Kd.at_bool (HA.out.reads HM.out.2.2.2) (j : Int) (by omega) (by omega)
            rw [Int.toNat_natCast] at hx
            have c2b := eq_false (show ¬ (j : Int) ≥ (b.length : Int) by omega)
            have c2c := decide_eq_false (show ¬ (j : Int) ≥ (b.length : Int) by omega)
            have c2d : (j : Int) < (b.length : Int) := by omega
            have hbe : b.getD j true = rdOf false b (j : Int) := by
              unfold rdOf
              rw [Int.toNat_natCast, List.getD_eq_getElem?_getD, List.getD_eq_getElem?_getD, List.getElem?_eq_getElem c2]
              rfl
            obtain ⟨bv, hbv⟩ : ∃ bv, bv = rdOf false b (j : Int) := ⟨_, rfl⟩
            rw [← hbv] at hx hbe
            clear hbv
            cases bv with
            | true =>
              have HBIT := Aside0.mk hbe
              clear hbe
              have s1 := S1.out
              go_wp2
              refine start_ (n := 14) (S := fun w' => w'.cell? ⟨g, q, none⟩ = some (.int .u64 (rd (fillTo b (List.replicate n 0) j) (q : Int)))) (ds := [13]) #[false, false, false, false, false, false, false, false, false, false, false, false, false, false] (by kernel_rfl) rfl rfl s1 (fun hHeld => ?_)
              refine pure_ (i := 0) (N := some 43) (v := ?_) (a' := ?_) #[true, false, false, false, false, false, false, false, false, false, false, false, false, false] rfl rfl (by kernel_rfl) (fun _ _ _ h => h) (Or.inl ⟨by rfl, ?_⟩) ?_ ?_
              rotate_left
              · intro w'
                go_simp
                with_reducible rfl
              rotate_left
              · simp only [Act.put, List.setIfInBounds_toArray, List.set_cons_zero, List.set_cons_succ, i64_w, i32_w]
                rfl
              refine pure_ (i := 1) (N := some 44) (v := ?_) (a' := ?_) #[true, true, false, false, false, false, false, false, false, false, false, false, false, false] rfl rfl (by kernel_rfl) (fun _ _ _ h => h) (Or.inl ⟨by rfl, ?_⟩) ?_ ?_
              rotate_left
              · intro w'
                go_simp
                with_reducible rfl
              rotate_left
              · simp only [Act.put, List.setIfInBounds_toArray, List.set_cons_zero, List.set_cons_succ, i64_w, i32_w]
                rfl
              refine pure_ (i := 2) (N := some 45) (v := ?_) (a' := ?_) #[true, true, true, false, false, false, false, false, false, false, false, false, false, false] rfl rfl (by kernel_rfl) (fun _ _ _ h => h) (Or.inl ⟨by rfl, ?_⟩) ?_ ?_
              rotate_left
              · intro w'
                go_simp
                with_reducible rfl
              rotate_left
              · simp only [Act.put, List.setIfInBounds_toArray, List.set_cons_zero, List.set_cons_succ, i64_w, i32_w]
                rfl
              refine pure_ (i := 3) (N := some 46) (v := ?_) (a' := ?_) #[true, true, true, true, false, false, false, false, false, false, false, false, false, false] rfl rfl (by kernel_rfl) (fun _ _ _ h => h) (Or.inl ⟨by rfl, ?_⟩) ?_ ?_
              rotate_left
              · intro w'
                go_simp
                with_reducible rfl
              rotate_left
              · simp only [Act.put, List.setIfInBounds_toArray, List.set_cons_zero, List.set_cons_succ, i64_w, i32_w]
                rfl
              refine pure_ (i := 4) (N := some 47) (v := ?_) (a' := ?_) #[true, true, true, true, true, false, false, false, false, false, false, false, false, false] rfl rfl (by kernel_rfl) (fun _ _ _ h => h) (Or.inl ⟨by rfl, ?_⟩) ?_ ?_
              rotate_left
              · intro w'
                go_simp
                with_reducible rfl
              rotate_left
              · simp only [Act.put, List.setIfInBounds_toArray, List.set_cons_zero, List.set_cons_succ, i64_w, i32_w]
                rfl
              refine pure_ (i := 5) (N := some 48) (v := ?_) (a' := ?_) #[true, true, true, true, true, true, false, false, false, false, false, false, false, false] rfl rfl (by kernel_rfl) (fun _ _ _ h => h) (Or.inl ⟨by rfl, ?_⟩) ?_ ?_
              rotate_left
              · intro w'
                go_simp
                with_reducible rfl
              rotate_left
              · simp only [Act.put, List.setIfInBounds_toArray, List.set_cons_zero, List.set_cons_succ, i64_w, i32_w]
                rfl
              refine pure_ (i := 6) (N := some 49) (v := ?_) (a' := ?_) #[true, true, true, true, true, true, true, false, false, false, false, false, false, false] rfl rfl (by kernel_rfl) (fun _ _ _ h => h) (Or.inl ⟨by rfl, ?_⟩) ?_ ?_
              rotate_left
              · intro w'
                go_simp
                with_reducible rfl
              rotate_left
              · simp only [Act.put, List.setIfInBounds_toArray, List.set_cons_zero, List.set_cons_succ, i64_w, i32_w]
                rfl
              refine take_ (i := 7) (N := some 50) (v := ?_) (a' := ?_) #[true, true, true, true, true, true, true, true, false, false, false, false, false, false] rfl rfl (by kernel_rfl) (fun _ _ _ h => h) (Or.inl ⟨by rfl, ?_⟩) hHeld ?_ ?_
              rotate_left
              · intro w' hw'_
                obtain hq1 := hw'_
                go_simp
                with_reducible rfl
              rotate_left
              · simp only [Act.put, List.setIfInBounds_toArray, List.set_cons_zero, List.set_cons_succ, i64_w, i32_w]
                rfl
              refine pure_ (i := 8) (N := some 51) (v := ?_) (a' := ?_) #[true, true, true, true, true, true, true, true, true, false, false, false, false, false] rfl rfl (by kernel_rfl) (fun _ _ _ h => h) (Or.inl ⟨by rfl, ?_⟩) ?_ ?_
              rotate_left
              · intro w'
                go_simp
                with_reducible rfl
              rotate_left
              · simp only [Act.put, List.setIfInBounds_toArray, List.set_cons_zero, List.set_cons_succ, i64_w, i32_w]
                rfl
              refine pure_ (i := 9) (N := some 52) (v := ?_) (a' := ?_) #[true, true, true, true, true, true, true, true, true, true, false, false, false, false] rfl rfl (by kernel_rfl) (fun _ _ _ h => h) (Or.inl ⟨by rfl, ?_⟩) ?_ ?_
              rotate_left
              · intro w'
                go_simp
                with_reducible rfl
              rotate_left
              · simp only [Act.put, List.setIfInBounds_toArray, List.set_cons_zero, List.set_cons_succ, i64_w, i32_w]
                rfl
              refine pure_ (i := 10) (N := some 53) (v := ?_) (a' := ?_) #[true, true, true, true, true, true, true, true, true, true, true, false, false, false] rfl rfl (by kernel_rfl) (fun _ _ _ h => h) (Or.inl ⟨by rfl, ?_⟩) ?_ ?_
              rotate_left
              · intro w'
                go_simp
                with_reducible rfl
              rotate_left
              · simp only [Act.put, List.setIfInBounds_toArray, List.set_cons_zero, List.set_cons_succ, i64_w, i32_w]
                rfl
              refine pure_ (i := 11) (N := some 54) (v := ?_) (a' := ?_) #[true, true, true, true, true, true, true, true, true, true, true, true, false, false] rfl rfl (by kernel_rfl) (fun _ _ _ h => h) (Or.inl ⟨by rfl, ?_⟩) ?_ ?_
              rotate_left
              · intro w'
                go_simp
                with_reducible rfl
              rotate_left
              · simp only [Act.put, List.setIfInBounds_toArray, List.set_cons_zero, List.set_cons_succ, i64_w, i32_w]
                rfl
              refine pure_ (i := 12) (N := some 55) (v := ?_) (a' := ?_) #[true, true, true, true, true, true, true, true, true, true, true, true, true, false] rfl rfl (by kernel_rfl) (fun _ _ _ h => h) (Or.inl ⟨by rfl, ?_⟩) ?_ ?_
              rotate_left
              · intro w'
                go_simp
                with_reducible rfl
              rotate_left
              · simp only [Act.put, List.setIfInBounds_toArray, List.set_cons_zero, List.set_cons_succ, i64_w, i32_w]
                rfl
              refine last_ (i := 13) (N := none) #[true, true, true, true, true, true, true, true, true, true, true, true, true, true] rfl rfl (by kernel_rfl) (by decide) (fun K hK => ?_)
              refine skip_ (w1 := wr.drew.setCell ⟨g, q, none⟩ (.int .u64 (Go.bits .or .u64 (rd (fillTo b (List.replicate n 0) j) (q : Int)) sv))) (by rfl) rfl ?_ ?_
              · have hq1 := hHeld
                have hq2 := S2.out
                go_simp
              refine hK.out _ _ ?_
              clear hK K
              refine done_ (by kernel_rfl) ?_
              obtain ⟨cells, hcl⟩ := row_typed HO.out
              have f1 := Kd.R_putn (Kd.R_drew HO.out) (q : Int) (Go.bits .or .u64 (rd (fillTo b (List.replicate n 0) j) (q : Int)) sv)
              rw [Int.toNat_natCast, ← fill_on b (List.replicate n 0) j q m sv HQ.out HMe.out HSV.out HBIT.out] at f1
              have F1 := Aside0.mk f1
              have F2 := Aside0.mk ((HM.out.drewN 1).set (g := g) hcl (by decide) (fun k hk => hk.2) HGL.out q (.int .u64 (Go.bits .or .u64 (rd (fillTo b (List.replicate n 0) j) (q : Int)) sv)))
              have F3 := Aside0.mk ((HA.out.drewN 1).set (g := g) hcl (by decide) q (.int .u64 (Go.bits .or .u64 (rd (fillTo b (List.replicate n 0) j) (q : Int)) sv)))
              clear f1 hcl
              go_wp2
              go_roundg (64 * n - (j + 1))
              case measure => have := HG.out; omega
              case rel => exact ⟨j + 1, by first | rfl | (rw [made_wrap j (by omega)]; done), rfl, by omega, F1.out, F2.out, F3.out⟩
            | false =>
              have hoff := Aside0.mk (fill_off b (List.replicate n 0) j hbe)
              clear hbe
              go_wp2
              go_roundg (64 * n - (j + 1))
              case measure => have := HG.out; omega
              case rel => exact ⟨j + 1, by first | rfl | (rw [made_wrap j (by omega)]; done), rfl, by omega, by rw [hoff.out]; exact HO.out, HM.out, HA.out⟩
          · have c2b := eq_true (show (j : Int) ≥ (b.length : Int) by omega)
            have c2c := decide_eq_true (show (j : Int) ≥ (b.length : Int) by omega)
            have s1 := S1.out
            have HBIT := Aside0.mk (show b.getD j true = true by rw [List.getD_eq_getElem?_getD, List.getElem?_eq_none (by omega)]; rfl)
            go_wp2
            refine start_ (n := 14) (S := fun w' => w'.cell? ⟨g, q, none⟩ = some (.int .u64 (rd (fillTo b (List.replicate n 0) j) (q : Int)))) (ds := [13]) #[false, false, false, false, false, false, false, false, false, false, false, false, false, false] (by kernel_rfl) rfl rfl s1 (fun hHeld => ?_)
            refine pure_ (i := 0) (N := some 43) (v := ?_) (a' := ?_) #[true, false, false, false, false, false, false, false, false, false, false, false, false, false] rfl rfl (by kernel_rfl) (fun _ _ _ h => h) (Or.inl ⟨by rfl, ?_⟩) ?_ ?_
            rotate_left
            · intro w'
              go_simp
              with_reducible rfl
            rotate_left
            · simp only [Act.put, List.setIfInBounds_toArray, List.set_cons_zero, List.set_cons_succ, i64_w, i32_w]
              rfl
            refine pure_ (i := 1) (N := some 44) (v := ?_) (a' := ?_) #[true, true, false, false, false, false, false, false, false, false, false, false, false, false] rfl rfl (by kernel_rfl) (fun _ _ _ h => h) (Or.inl ⟨by rfl, ?_⟩) ?_ ?_
            rotate_left
            · intro w'
              go_simp
              with_reducible rfl
            rotate_left
            · simp only [Act.put, List.setIfInBounds_toArray, List.set_cons_zero, List.set_cons_succ, i64_w, i32_w]
              rfl
            refine pure_ (i := 2) (N := some 45) (v := ?_) (a' := ?_) #[true, true, true, false, false, false, false, false, false, false, false, false, false, false] rfl rfl (by kernel_rfl) (fun _ _ _ h => h) (Or.inl ⟨by rfl, ?_⟩) ?_ ?_
            rotate_left
            · intro w'
              go_simp
              with_reducible rfl
            rotate_left
            · simp only [Act.put, List.setIfInBounds_toArray, List.set_cons_zero, List.set_cons_succ, i64_w, i32_w]
              rfl
            refine pure_ (i := 3) (N := some 46) (v := ?_) (a' := ?_) #[true, true, true, true, false, false, false, false, false, false, false, false, false, false] rfl rfl (by kernel_rfl) (fun _ _ _ h => h) (Or.inl ⟨by rfl, ?_⟩) ?_ ?_
            rotate_left
            · intro w'
              go_simp
              with_reducible rfl
            rotate_left
            · simp only [Act.put, List.setIfInBounds_toArray, List.set_cons_zero, List.set_cons_succ, i64_w, i32_w]
              rfl
            refine pure_ (i := 4) (N := some 47) (v := ?_) (a' := ?_) #[true, true, true, true, true, false, false, false, false, false, false, false, false, false] rfl rfl (by kernel_rfl) (fun _ _ _ h => h) (Or.inl ⟨by rfl, ?_⟩) ?_ ?_
            rotate_left
            · intro w'
              go_simp
              with_reducible rfl
            rotate_left
            · simp only [Act.put, List.setIfInBounds_toArray, List.set_cons_zero, List.set_cons_succ, i64_w, i32_w]
              rfl
            refine pure_ (i := 5) (N := some 48) (v := ?_) (a' := ?_) #[true, true, true, true, true, true, false, false, false, false, false, false, false, false] rfl rfl (by kernel_rfl) (fun _ _ _ h => h) (Or.inl ⟨by rfl, ?_⟩) ?_ ?_
            rotate_left
            · intro w'
              go_simp
              with_reducible rfl
            rotate_left
            · simp only [Act.put, List.setIfInBounds_toArray, List.set_cons_zero, List.set_cons_succ, i64_w, i32_w]
              rfl
            refine pure_ (i := 6) (N := some 49) (v := ?_) (a' := ?_) #[true, true, true, true, true, true, true, false, false, false, false, false, false, false] rfl rfl (by kernel_rfl) (fun _ _ _ h => h) (Or.inl ⟨by rfl, ?_⟩) ?_ ?_
            rotate_left
            · intro w'
              go_simp
              with_reducible rfl
            rotate_left
            · simp only [Act.put, List.setIfInBounds_toArray, List.set_cons_zero, List.set_cons_succ, i64_w, i32_w]
              rfl
            refine take_ (i := 7) (N := some 50) (v := ?_) (a' := ?_) #[true, true, true, true, true, true, true, true, false, false, false, false, false, false] rfl rfl (by kernel_rfl) (fun _ _ _ h => h) (Or.inl ⟨by rfl, ?_⟩) hHeld ?_ ?_
            rotate_left
            · intro w' hw'_
              obtain hq1 := hw'_
              go_simp
              with_reducible rfl
            rotate_left
            · simp only [Act.put, List.setIfInBounds_toArray, List.set_cons_zero, List.set_cons_succ, i64_w, i32_w]
              rfl
            refine pure_ (i := 8) (N := some 51) (v := ?_) (a' := ?_) #[true, true, true, true, true, true, true, true, true, false, false, false, false, false] rfl rfl (by kernel_rfl) (fun _ _ _ h => h) (Or.inl ⟨by rfl, ?_⟩) ?_ ?_
            rotate_left
            · intro w'
              go_simp
              with_reducible rfl
            rotate_left
            · simp only [Act.put, List.setIfInBounds_toArray, List.set_cons_zero, List.set_cons_succ, i64_w, i32_w]
              rfl
            refine pure_ (i := 9) (N := some 52) (v := ?_) (a' := ?_) #[true, true, true, true, true, true, true, true, true, true, false, false, false, false] rfl rfl (by kernel_rfl) (fun _ _ _ h => h) (Or.inl ⟨by rfl, ?_⟩) ?_ ?_
            rotate_left
            · intro w'
              go_simp
              with_reducible rfl
            rotate_left
            · simp only [Act.put, List.setIfInBounds_toArray, List.set_cons_zero, List.set_cons_succ, i64_w, i32_w]
              rfl
            refine pure_ (i := 10) (N := some 53) (v := ?_) (a' := ?_) #[true, true, true, true, true, true, true, true, true, true, true, false, false, false] rfl rfl (by kernel_rfl) (fun _ _ _ h => h) (Or.inl ⟨by rfl, ?_⟩) ?_ ?_
            rotate_left
            · intro w'
              go_simp
              with_reducible rfl
            rotate_left
            · simp only [Act.put, List.setIfInBounds_toArray, List.set_cons_zero, List.set_cons_succ, i64_w, i32_w]
              rfl
            refine pure_ (i := 11) (N := some 54) (v := ?_) (a' := ?_) #[true, true, true, true, true, true, true, true, true, true, true, true, false, false] rfl rfl (by kernel_rfl) (fun _ _ _ h => h) (Or.inl ⟨by rfl, ?_⟩) ?_ ?_
            rotate_left
            · intro w'
              go_simp
              with_reducible rfl
            rotate_left
            · simp only [Act.put, List.setIfInBounds_toArray, List.set_cons_zero, List.set_cons_succ, i64_w, i32_w]
              rfl
            refine pure_ (i := 12) (N := some 55) (v := ?_) (a' := ?_) #[true, true, true, true, true, true, true, true, true, true, true, true, true, false] rfl rfl (by kernel_rfl) (fun _ _ _ h => h) (Or.inl ⟨by rfl, ?_⟩) ?_ ?_
            rotate_left
            · intro w'
              go_simp
              with_reducible rfl
            rotate_left
            · simp only [Act.put, List.setIfInBounds_toArray, List.set_cons_zero, List.set_cons_succ, i64_w, i32_w]
              rfl
            refine last_ (i := 13) (N := none) #[true, true, true, true, true, true, true, true, true, true, true, true, true, true] rfl rfl (by kernel_rfl) (by decide) (fun K hK => ?_)
            refine skip_ (w1 := wr.drew.setCell ⟨g, q, none⟩ (.int .u64 (Go.bits .or .u64 (rd (fillTo b (List.replicate n 0) j) (q : Int)) sv))) (by rfl) rfl ?_ ?_
            · have hq1 := hHeld
              have hq2 := S2.out
              go_simp
            refine hK.out _ _ ?_
            clear hK K
            refine done_ (by kernel_rfl) ?_
            obtain ⟨cells, hcl⟩ := row_typed HO.out
            have f1 := Kd.R_putn (Kd.R_drew HO.out) (q : Int) (Go.bits .or .u64 (rd (fillTo b (List.replicate n 0) j) (q : Int)) sv)
            rw [Int.toNat_natCast, ← fill_on b (List.replicate n 0) j q m sv HQ.out HMe.out HSV.out HBIT.out] at f1
            have F1 := Aside0.mk f1
            have F2 := Aside0.mk ((HM.out.drewN 1).set (g := g) hcl (by decide) (fun k hk => hk.2) HGL.out q (.int .u64 (Go.bits .or .u64 (rd (fillTo b (List.replicate n 0) j) (q : Int)) sv)))
            have F3 := Aside0.mk ((HA.out.drewN 1).set (g := g) hcl (by decide) q (.int .u64 (Go.bits .or .u64 (rd (fillTo b (List.replicate n 0) j) (q : Int)) sv)))
            clear f1 hcl
            go_wp2
            go_roundg (64 * n - (j + 1))
            case measure => have := HG.out; omega
            case rel => exact ⟨j + 1, by first | rfl | (rw [made_wrap j (by omega)]; done), rfl, by omega, F1.out, F2.out, F3.out⟩
        · obtain rfl : j = 64 * n := by omega
          have c1b := eq_false (show ¬ ((64 * n : Nat) : Int) < 64 * (n : Int) by omega)
          have c1c := decide_eq_false (show ¬ ((64 * n : Nat) : Int) < 64 * (n : Int) by omega)
          have s1 := blk_cell HM.out.2.1 1
          have s2 := blk_frozen HM.out.2.1 1
          obtain ⟨P, hP⟩ : ∃ P, P = fillTo b (List.replicate n 0) (64 * n) := ⟨_, rfl⟩
          rw [← hP] at HO
          have HP := Aside0.mk hP
          clear hP
          obtain ⟨cells, hcl⟩ := row_typed HO.out
          have HOKP := Aside0.mk (Kd.S_ne HM.out.2.2.1 hcl (by decide))
          clear hcl
          by_cases c3 : n = 1
          · subst c3
            go_wp2_with (first | (at_builtin; refine Kd.S_append (Kd.slice 53 (Kd.int .u64)) (w0 := w) w.heap.size rfl (.tmp 57) (.tmp 59) 25 38 (.slice none 0 0) 24 rfl Try.underlying25 made_info38 rfl (by decide) (by omega) vL lv P [.slice (some ⟨g, 0, none⟩) 1 c6] (fun _ => True) (fun k => k = g) rfl rfl (Kd.M_row (Kd.R_reok rfl HO.out (fun k hk => (Option.some.inj hk).symm))) (fun k hk => ⟨trivial, by rw [hk]; exact HOKP.out⟩) (fun _ _ => trivial) HM.out.2.2.1 HM.out.2.2.2 (below_size HM.out.2.2.2) (by have := HLV.out; omega) ?_; intro v1 w1 hs hb hg _; obtain ⟨A7, c7, e7⟩ := Kd.S_slice hs; rw [List.length_append, List.length_singleton] at e7; subst e7; obtain ⟨t1, t2, t3, t4⟩ := mi_append HM.out HO.out hs hb hg; have T3 := Aside0.mk t3; have T4 := Aside0.mk t4; have u1 := blk_cell t3.2.1 0; have u2 := blk_cell t3.2.1 1; have u3 := blk_cell t3.1 0; have u4 := blk_cell t3.1 1; have u5 := blk_frozen t3.1 0; have u6 := blk_frozen t3.1 1; clear hs hb hg t3 t4 s1 s2))
            have hr : r = lv ++ [P] := by
              have h_ := HF.out
              rw [made_step k b lv 1 HNE.out, if_pos rfl] at h_
              rw [HP.out]
              exact (Option.some.inj h_).symm
            subst hr
            obtain ⟨x1, x2⟩ := mi_cells T3.out (.int .i64 a0) (.slice A7 (lv.length + 1) c7)
            obtain ⟨x3, x4⟩ := mi_done T3.out (.int .i64 a0) (.slice A7 (lv.length + 1) c7)
            exact bodyPost_ret (v := .agg #[.int .i64 a0, .slice A7 (lv.length + 1) c7]) (by simp [results, Try.results19, go_sem, x1, x2]) rfl ⟨_, rfl, x3, x4⟩
          · have c3b := eq_false (show ¬ (n : Int) = 1 by omega)
            have c3c : ((n : Int) == 1) = false := beq_eq_false_iff_ne.mpr (by omega)
            go_wp2_with (first | (at_builtin; refine Kd.S_append (Kd.slice 53 (Kd.int .u64)) (w0 := w) w.heap.size rfl (.tmp 57) (.tmp 59) 25 38 (.slice none 0 0) 24 rfl Try.underlying25 made_info38 rfl (by decide) (by omega) vL lv P [.slice (some ⟨g, 0, none⟩) n c6] (fun _ => True) (fun k => k = g) rfl rfl (Kd.M_row (Kd.R_reok rfl HO.out (fun k hk => (Option.some.inj hk).symm))) (fun k hk => ⟨trivial, by rw [hk]; exact HOKP.out⟩) (fun _ _ => trivial) HM.out.2.2.1 HM.out.2.2.2 (below_size HM.out.2.2.2) (by have := HLV.out; omega) ?_; intro v1 w1 hs hb hg _; obtain ⟨A7, c7, e7⟩ := Kd.S_slice hs; rw [List.length_append, List.length_singleton] at e7; subst e7; obtain ⟨t1, t2, t3, t4⟩ := mi_append HM.out HO.out hs hb hg; have T3 := Aside0.mk t3; have T4 := Aside0.mk t4; clear hs hb hg t3 t4 s1 s2) | ((with_reducible refine gate_dst (N := 68) rfl ?_); refine Kd.R_make Kd.bool _ 4 rfl (N := 68) rfl 42 _ _ rfl (n : Int) rfl rfl Try.underlying42 (.bool false) 1 made_info4 rfl (by decide) (by omega) false (ok := fun _ => True) (okp := fun _ => True) rfl (fun _ hk => hk) trivial (by omega) (by omega) (Below.refl _ _) (Nat.le_refl _) ?_; intro v8 w3 ho hb hg_ hnew_; clear hg_ hnew_; rw [Int.toNat_natCast] at ho; obtain ⟨g8, c8, e8, hg8, _, _⟩ := Kd.R_form ho (by rw [List.length_replicate]; omega); subst e8; rw [List.length_replicate] at ho ⊢; have HGL8 := Aside0.mk (Nat.le_trans (below_size T3.out.2.2.2) hg8); have HO8 := Aside0.mk (Kd.R_lower ho (below_size T3.out.2.2.2)); have HM8 := Aside0.mk (T3.out.below hb); have HP8 := Aside0.mk (Kd.R_below T4.out hb); clear ho hb hg8 T3 T4))
            have hpl : P.length = n := by rw [HP.out, fillTo_len, List.length_replicate]
            have HPL := Aside0.mk hpl
            have hr := HF.out
            rw [made_step k b lv n HNE.out, if_neg c3, ← HP.out] at hr
            have HF2 := Aside0.mk hr
            clear hr hpl c3b c3c c1b c1c
            go_loopg [8] n (fun k2 v8 wr3 => ∃ j : Nat, v8 = .int .i64 (j : Int) ∧ k2 = n - j ∧ j ≤ n ∧ Kd.R Kd.bool 4 wr3 w.heap.size (fun _ => True) (.slice (some ⟨g8, 0, none⟩) n c8) (fullTo P j) ∧ MI w wr3 a0 (.slice A7 (lv.length + 1) c7) (lv ++ [P]) (fun _ => True) ∧ Kd.R (Kd.int .u64) 53 wr3 w.heap.size (fun _ => True) (.slice (some ⟨g, 0, none⟩) n c6) P)
            case atStart => exact ⟨0, rfl, rfl, Nat.zero_le _, by rw [fullTo, HPL.out]; exact HO8.out, HM8.out, HP8.out⟩
            case round =>
              obtain ⟨j, rfl, hgk2, hj2, hO8, hM8, hP8⟩ := hrel
              clear HO8 HM8 HP8
              have HO8 := Aside0.mk hO8
              have HM8 := Aside0.mk hM8
              have HP8 := Aside0.mk hP8
              have HG8 := Aside0.mk hgk2
              clear hO8 hM8 hP8 hgk2
              by_cases c4 : j < n
              · have c4b := eq_true c4
                have c4c := decide_eq_true c4
                obtain ⟨s1, s2⟩ := Kd.R_celln 0 HP8.out (j : Int) (by omega) (by omega)
                obtain ⟨s3, s4⟩ := Kd.R_celln false HO8.out (j : Int) (by omega) (by omega)
                rw [Int.toNat_natCast] at s1 s2 s3 s4
                obtain ⟨f1, f2, f3⟩ := mi_bit HO8.out HM8.out HP8.out HGL8.out j (rd P (j : Int) == 18446744073709551615)
                rw [← fullTo] at f1
                have F1 := Aside0.mk f1
                have F2 := Aside0.mk f2
                have F3 := Aside0.mk f3
                clear f1 f2 f3
                go_wp2
                go_roundg (n - (j + 1))
                case measure => have := HG8.out; omega
                case rel => exact ⟨j + 1, by first | rfl | (rw [made_wrap j (by omega)]; done), rfl, by omega, F1.out, F2.out, F3.out⟩
              · obtain rfl : j = n := by omega
                have c4b := eq_false c4
                have c4c := decide_eq_false c4
                go_wp2
                go_roundg k
                case measure => omega
                case rel => exact ⟨fullTo P j, some ⟨g8, 0, none⟩, c8, _, lv ++ [P], by rw [fullTo_len, HPL.out], by rw [fullTo_len, HPL.out]; exact hn1, by rw [fullTo_len, HPL.out]; omega, HF2.out, by rw [List.length_append, List.length_singleton]; have := HLV.out; omega, ⟨by rw [fullTo_len, HPL.out]; exact (Kd.R_reads' HO8.out).2.1, Or.inr (by rw [fullTo_len, HPL.out]; exact HO8.out)⟩, HM8.out⟩
theorem made_early (A0 : Option Addr) (c0 n1 : Nat) (a0 : Int) (w : World) (h : a0 < 1 ∨ a0 > 65536 ∨ n1 < 1) :
    Calls Try.prog 19 #[.int .i64 a0, .slice A0 n1 c0] w fun e w' => ∃ v1_ : Value, e = .returned (.agg #[.int .i64 0, v1_]) ∧ Kd.S (Kd.slice 53 (Kd.int .u64)) 38 w' w.heap.size (fun _ => True) v1_ [] ∧ Below w.heap.size w w' := by
  have HB := Aside0.mk (((Below.refl w.heap.size w).alloc (Nat.le_refl _) (.cells #[.int .i64 0, .slice none 0 0] 27)).alloc (by simp) (.cells #[.int .i64 a0, .slice none 0 0] 27))
  have HH := Aside0.mk h
  clear h
  by_cases c1 : a0 < 1
  · have c1b := eq_true c1
    have c1c := decide_eq_true c1
    go_enter Try.func19, Try.ntmps19
    go_wp2
    exact bodyPost_ret (v := .agg #[.int .i64 0, .slice none 0 0]) (by simp [results, Try.results19, go_sem]) rfl ⟨_, rfl, Kd.S_nil _ _ _ _ _, by first | exact HB.out | exact (HB.out.setCell (p := ⟨w.heap.size, 0, none⟩) (Nat.le_refl _) _).setCell (p := ⟨w.heap.size, 1, none⟩) (Nat.le_refl _) _⟩
  · have c1b := eq_false c1
    have c1c := decide_eq_false c1
    by_cases c2 : a0 > 65536
    · have c2b := eq_true c2
      have c2c := decide_eq_true c2
      go_enter Try.func19, Try.ntmps19
      go_wp2
      exact bodyPost_ret (v := .agg #[.int .i64 0, .slice none 0 0]) (by simp [results, Try.results19, go_sem]) rfl ⟨_, rfl, Kd.S_nil _ _ _ _ _, by first | exact HB.out | exact (HB.out.setCell (p := ⟨w.heap.size, 0, none⟩) (Nat.le_refl _) _).setCell (p := ⟨w.heap.size, 1, none⟩) (Nat.le_refl _) _⟩
    · have c2b := eq_false c2
      have c2c := decide_eq_false c2
      have c3 : n1 < 1 := by have := HH.out; omega
      obtain rfl : n1 = 0 := by omega
      clear c3
      go_enter Try.func19, Try.ntmps19
      go_wp2
      exact bodyPost_ret (v := .agg #[.int .i64 0, .slice none 0 0]) (by simp [results, Try.results19, go_sem]) rfl ⟨_, rfl, Kd.S_nil _ _ _ _ _, by first | exact HB.out | exact (HB.out.setCell (p := ⟨w.heap.size, 0, none⟩) (Nat.le_refl _) _).setCell (p := ⟨w.heap.size, 1, none⟩) (Nat.le_refl _) _⟩
theorem hodmanref3_Made.calls (a0 : Int) (A1 : Option Addr) (c1 : Nat) (l1 : List Bool) (r1 : Int) (r2 : List (List Int)) (w : World) (hr1 : Kd.C Kd.bool w A1 l1.length l1) (hc1 : l1.length ≤ c1) (h : hodmanref3_Made.f a0 l1 = some (r1, r2)) :
    Calls Try.prog 19 #[.int .i64 a0, .slice A1 l1.length c1] w fun e w' => ∃ v1_ : Value, e = .returned (.agg #[.int .i64 r1, v1_]) ∧ Kd.S (Kd.slice 53 (Kd.int .u64)) 38 w' w.heap.size (fun _ => True) v1_ r2 ∧ Below w.heap.size w w' := by
  unfold hodmanref3_Made.f at h
  by_cases e1 : a0 < 1
  · rw [if_pos e1] at h
    simp only [Option.some.injEq, Prod.mk.injEq] at h
    obtain ⟨rfl, rfl⟩ := h
    exact made_early A1 c1 _ a0 w (Or.inl e1)
  · rw [if_neg e1] at h
    by_cases e2 : a0 > 65536
    · rw [if_pos e2] at h
      simp only [Option.some.injEq, Prod.mk.injEq] at h
      obtain ⟨rfl, rfl⟩ := h
      exact made_early A1 c1 _ a0 w (Or.inr (Or.inl e2))
    · rw [if_neg e2] at h
      by_cases e3 : l1.length < 1
      · rw [if_pos e3] at h
        simp only [Option.some.injEq, Prod.mk.injEq] at h
        obtain ⟨rfl, rfl⟩ := h
        exact made_early A1 c1 _ a0 w (Or.inr (Or.inr e3))
      · rw [if_neg e3] at h
        by_cases e4 : l1.length > 100000
        · rw [if_pos e4] at h
          cases h
        · rw [if_neg e4] at h
          obtain ⟨lv, hlv, hp⟩ := Option.map_eq_some_iff.1 h
          simp only [Prod.mk.injEq] at hp
          obtain ⟨rfl, rfl⟩ := hp
          exact made_main A1 c1 l1 a0 lv w hr1 hc1 (by omega) (by omega) (by omega) (by omega) hlv
end Go.Proofs.Ytgbkdmcbdilgaaa.PRankS
