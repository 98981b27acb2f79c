/- tree.put and tree.sums (one bit) by hand. -/
import Derived.Test.YtgbkdmcbdilgaaaTreeHand5
namespace Go.Proofs.Ytgbkdmcbdilgaaa.PRankS
open Go.RowKit Go.Proofs.YtgbkdmcbdilgaaaW.PrintWords Go.Proofs.YtgbkdmcbdilgaaaW.PrintLast Go.Proofs.YtgbkdmcbdilgaaaW.PrintMore
set_option linter.unusedVariables false
set_option linter.unusedSimpArgs false

/-- a walk that touches words alone, of blocks from base on -/
def Fr (base : Nat) (w w' : World) : Prop := Below base w w' ∧ ∀ (b : Nat) (cs : Array Value), w.heap[b]? = some (Obj.cells cs 27 (0, 0)) → w'.heap[b]? = some (Obj.cells cs 27 (0, 0))
theorem Fr.refl (base : Nat) (w : World) : Fr base w w := ⟨Below.refl _ _, fun _ _ h => h⟩
theorem Fr.trans {base : Nat} {a b c : World} (h : Fr base a b) (k : Fr base b c) : Fr base a c := ⟨h.1.trans k.1, fun g cs hg => k.2 g cs (h.2 g cs hg)⟩
theorem Fr.below {base : Nat} {a b c : World} (h : Fr base a b) (hle : base ≤ b.heap.size) (hb : Below b.heap.size b c) : Fr base a c := ⟨h.1.trans (hb.mono hle), fun g cs hg => blk_below (h.2 g cs hg) hb⟩
theorem Fr.alloc {base : Nat} {a b : World} (h : Fr base a b) (hle : base ≤ b.heap.size) (o : Obj) : Fr base a (b.alloc o) := ⟨h.1.alloc hle o, fun g cs hg => blk_alloc (h.2 g cs hg) o⟩
theorem Fr.put {base : Nat} {a b : World} (h : Fr base a b) {g : Nat} {cells : Array Value} (hg : b.heap[g]? = some (.cells cells 53 (0, 0))) (hb : base ≤ g) (i : Nat) (u : Value) : Fr base a (b.setCell ⟨g, i, none⟩ u) :=
  ⟨h.1.setCell (p := ⟨g, i, none⟩) hb u, fun g' cs hg' => blk_far (h.2 g' cs hg') (p := ⟨g, i, none⟩) (blk_ne (h.2 g' cs hg') hg (by decide)) u⟩
theorem Fr.size {base : Nat} {a b : World} (h : Fr base a b) : a.heap.size ≤ b.heap.size := h.1.size
/-- the same numbers of words, the same lowest level -/
def Like (lv lv' : List (List Int)) : Prop := lv'.length = lv.length ∧ (∀ j, (lv'.getD j []).length = (lv.getD j []).length) ∧ lv'.getD 0 [] = lv.getD 0 []
theorem Like.refl (lv : List (List Int)) : Like lv lv := ⟨rfl, fun _ => rfl, rfl⟩
theorem Like.trans {a b c : List (List Int)} (h : Like a b) (k : Like b c) : Like a c := ⟨k.1.trans h.1, fun j => (k.2.1 j).trans (h.2.1 j), k.2.2.trans h.2.2⟩
theorem like_set (lv : List (List Int)) (k i : Nat) (u : Int) (hk : 1 ≤ k) : Like lv (lv.set k ((lv.getD k []).set i u)) := by
  refine ⟨List.length_set, fun j => ?_, ?_⟩
  · by_cases h : j = k
    · subst h
      by_cases hj : j < lv.length
      · have h1 : (lv.set j ((lv.getD j []).set i u)).getD j [] = (lv.getD j []).set i u := by rw [List.getD_eq_getElem?_getD, List.getElem?_set_self hj]; rfl
        rw [h1, List.length_set]
      · rw [List.set_eq_of_length_le (by omega)]
    · have h1 : (lv.set k ((lv.getD k []).set i u)).getD j [] = lv.getD j [] := by rw [List.getD_eq_getElem?_getD, List.getElem?_set_ne (by omega), ← List.getD_eq_getElem?_getD]
      rw [h1]
  · rw [List.getD_eq_getElem?_getD, List.getElem?_set_ne (by omega), ← List.getD_eq_getElem?_getD]
set_option maxHeartbeats 4000000 in
theorem tree_put_none (size : Int) (A : Option Addr) (c : Nat) (lv : List (List Int)) (k i : Nat) (u : Int) (w : World) (base : Nat) (hS : Kd.S (Kd.slice 53 (Kd.int .u64)) 38 w base (fun _ => True) (.slice A lv.length c) lv) (hk : k < lv.length) (hi : (lv.getD k []).length ≤ i) :
    Calls Try.prog 45 #[.agg #[.int .i64 size, .slice A lv.length c], .int .i64 (k : Int), .int .i64 (i : Int), .int .u64 u] w fun e w' => e = .returned (.tuple #[]) ∧ w' = w.alloc (.cells #[.int .i64 size, .slice A lv.length c] 27) := by
  obtain ⟨g, cg, eg, hg1, hg2, _⟩ := Kd.S_form hS (by omega)
  injection eg with eA _ ec
  subst eA
  subst ec
  obtain ⟨oki, cs, hcl, hM, hcell, hoki, hH⟩ := Kd.S_lend (Kd.S_alloc hS (.cells #[.int .i64 size, .slice (some ⟨g, 0, none⟩) lv.length c] 27)) [] (k : Int) (by omega) (by omega)
  rw [Int.toNat_natCast] at hM hcell
  obtain ⟨v, rfl, hR⟩ := hM
  obtain ⟨A2, c2, rfl⟩ := Kd.R_slice hR
  have s1 := hcell 0 _ rfl
  have hkk : k * (Kd.slice 53 (Kd.int .u64)).sz + 0 = k := by show k * 1 + 0 = k; omega
  rw [hkk] at s1
  obtain ⟨n2, hn2⟩ : ∃ n2, n2 = (lv.getD k []).length := ⟨_, rfl⟩
  rw [← hn2] at s1 hi
  clear hS hH hoki hR hcl hn2 hcell
  have hk2 : (k : Int) < (lv.length : Int) := by omega
  have hi2 := eq_false (show ¬ (i : Int) < (n2 : Int) by omega)
  have hi3 := decide_eq_false (show ¬ (i : Int) < (n2 : Int) by omega)
  go_enter Try.func45, Try.ntmps45
  go_wp2
  go_end0
  exact ⟨rfl, rfl⟩
theorem tree_put_any (size : Int) (A : Option Addr) (c : Nat) (lv : List (List Int)) (k i : Nat) (u : Int) (w : World) (base : Nat) (hS : Kd.S (Kd.slice 53 (Kd.int .u64)) 38 w base (fun _ => True) (.slice A lv.length c) lv) (hk : k < lv.length) (hb : base ≤ w.heap.size) :
    Calls Try.prog 45 #[.agg #[.int .i64 size, .slice A lv.length c], .int .i64 (k : Int), .int .i64 (i : Int), .int .u64 u] w fun e w' => e = .returned (.tuple #[]) ∧ Fr base w w' ∧ Kd.S (Kd.slice 53 (Kd.int .u64)) 38 w' base (fun _ => True) (.slice A lv.length c) (if i < (lv.getD k []).length then lv.set k ((lv.getD k []).set i u) else lv) := by
  by_cases h : i < (lv.getD k []).length
  · rw [if_pos h]
    refine (tree_put_calls size A c lv k i u w base hS hk h).mono ?_
    rintro e w' ⟨rfl, g2, h1, ⟨cells, h2⟩, rfl, h3⟩
    exact ⟨rfl, ((Fr.refl base w).alloc hb _).put (blk_alloc h2 _) h1 _ _, h3⟩
  · rw [if_neg h]
    refine (tree_put_none size A c lv k i u w base hS hk (by omega)).mono ?_
    rintro e w' ⟨rfl, rfl⟩
    exact ⟨rfl, (Fr.refl base w).alloc hb _, Kd.S_alloc hS _⟩
/-- a word of a tree; one that is not there is full -/
def atw (lv : List (List Int)) (k i : Nat) : Int := if k < lv.length ∧ i < (lv.getD k []).length then rd (lv.getD k []) (i : Int) else 18446744073709551615
theorem at_eq (size : Int) (lv : List (List Int)) (k i : Nat) : tree_at.f size lv (k : Int) (i : Int) = some (atw lv k i) := by
  unfold tree_at.f atw
  by_cases h1 : k < lv.length
  · rw [if_neg (show ¬ (k : Int) ≥ (lv.length : Int) by omega), if_neg (show ¬ (i : Int) < 0 by omega), if_pos (show (0 : Int) ≤ (k : Int) by omega), if_pos (show (k : Int) < (lv.length : Int) by omega)]
    have he : rd_L1 lv (k : Int) = lv.getD k [] := by unfold rd_L1; rfl
    rw [he]
    by_cases h2 : i < (lv.getD k []).length
    · rw [if_neg (by omega), if_pos (by omega), if_pos (by omega), if_pos ⟨h1, h2⟩]
    · rw [if_pos (by omega), if_neg (fun h => h2 h.2)]
  · rw [if_pos (by omega), if_neg (fun h => h1 h.1)]
theorem tree_at_w (size : Int) (A : Option Addr) (c n : Nat) (lv : List (List Int)) (k i : Nat) (w : World) (base : Nat) (hS : Kd.S (Kd.slice 53 (Kd.int .u64)) 38 w base (fun _ => True) (.slice A n c) lv) :
    Calls Try.prog 44 #[.agg #[.int .i64 size, .slice A n c], .int .i64 (k : Int), .int .i64 (i : Int)] w fun e w' => e = .returned (.int .u64 (atw lv k i)) ∧ Below w.heap.size w w' := by
  obtain ⟨rfl, h1, h2⟩ := Kd.S_reads' hS
  exact tree_at.calls size A c lv k i _ w h2 h1 (at_eq size lv k i)
theorem tree_put_w (size : Int) (A : Option Addr) (c n : Nat) (lv : List (List Int)) (k i : Nat) (u : Int) (w : World) (base : Nat) (hS : Kd.S (Kd.slice 53 (Kd.int .u64)) 38 w base (fun _ => True) (.slice A n c) lv) (hk : k < n) (hb : base ≤ w.heap.size) :
    Calls Try.prog 45 #[.agg #[.int .i64 size, .slice A n c], .int .i64 (k : Int), .int .i64 (i : Int), .int .u64 u] w fun e w' => e = .returned (.tuple #[]) ∧ Fr base w w' ∧ Kd.S (Kd.slice 53 (Kd.int .u64)) 38 w' base (fun _ => True) (.slice A n c) (if i < (lv.getD k []).length then lv.set k ((lv.getD k []).set i u) else lv) := by
  obtain ⟨rfl, h1, h2⟩ := Kd.S_reads' hS
  exact tree_put_any size A c lv k i u w base hS hk hb
theorem like_if (lv : List (List Int)) (k i : Nat) (u : Int) (hk : 1 ≤ k) (P : Prop) [Decidable P] : Like lv (if P then lv.set k ((lv.getD k []).set i u) else lv) := by
  split
  · exact like_set lv k i u hk
  · exact Like.refl lv
set_option maxHeartbeats 8000000 in
theorem tree_sums_calls (size : Int) (A : Option Addr) (c : Nat) (lv : List (List Int)) (k q : Nat) (w : World) (base : Nat) (hS : Kd.S (Kd.slice 53 (Kd.int .u64)) 38 w base (fun _ => True) (.slice A lv.length c) lv) (hk : k < lv.length) (hk1 : 1 ≤ k) (hkm : lv.length ≤ 1000) (hq : q ≤ 100000) (hb : base ≤ w.heap.size) :
    Calls Try.prog 46 #[.agg #[.int .i64 size, .slice A lv.length c], .int .i64 (k : Int), .int .i64 (q : Int), .int .i64 (q : Int)] w fun e w' => e = .returned (.tuple #[]) ∧ Fr base w w' ∧ ∃ lv', Like lv lv' ∧ Kd.S (Kd.slice 53 (Kd.int .u64)) 38 w' base (fun _ => True) (.slice A lv.length c) lv' := by
  obtain ⟨n, hn⟩ : ∃ n, n = lv.length := ⟨_, rfl⟩
  rw [← hn] at hS hk hkm ⊢
  have HN := Aside0.mk hn
  have hF := (Fr.refl base w).alloc hb (.cells #[.int .i64 size, .slice A n c] 27)
  have hS1 := Kd.S_alloc hS (.cells #[.int .i64 size, .slice A n c] 27)
  have hB1 := blk_new w (.cells #[.int .i64 size, .slice A n c] 27)
  have HS := Aside0.mk hS1
  have HF := Aside0.mk hF
  have HB := Aside0.mk hB1
  have HBASE := Aside0.mk hb
  obtain ⟨qd, hqd⟩ : ∃ qd, qd = q / 64 := ⟨_, rfl⟩
  obtain ⟨m, hme⟩ : ∃ m, m = q % 64 := ⟨_, rfl⟩
  have hwq : (q : Int) / 64 = (qd : Int) := by rw [hqd]; omega
  have hwm : Int.tmod (q : Int) 64 = (m : Int) := by rw [hme]; rfl
  obtain ⟨k1, hk1e⟩ : ∃ k1, k1 = k - 1 := ⟨_, rfl⟩
  have hwk : (k : Int) - 1 = (k1 : Int) := by rw [hk1e]; omega
  clear hk1e
  clear hS hS1 hF hB1 hn hb hqd
  have hm64 : m < 64 := by omega
  clear hme
  go_enter Try.func46, Try.ntmps46
  go_wp2
  go_loopg [8] 1 (fun t v8 wr => ∃ (j : Nat) (l1 : List (List Int)), v8 = .int .i64 ((q + j : Nat) : Int) ∧ t = 1 - j ∧ j ≤ 1 ∧ Like lv l1 ∧ wr.heap[w.heap.size]? = some (.cells #[.int .i64 size, .slice A n c] 27 (0, 0)) ∧ Fr base w wr ∧ Kd.S (Kd.slice 53 (Kd.int .u64)) 38 wr base (fun _ => True) (.slice A n c) l1)
  case atStart => exact ⟨0, lv, rfl, rfl, Nat.zero_le _, Like.refl lv, HB.out, HF.out, HS.out⟩
  case round =>
    clear HS HF HB
    obtain ⟨j, l1, hv8, hgk, hj, hL, hB, hF, hS⟩ := hrel
    have HG := Aside0.mk hgk
    have HL := Aside0.mk hL
    have HB := Aside0.mk hB
    have HF := Aside0.mk hF
    have HS := Aside0.mk hS
    have HLN := Aside0.mk (show l1.length = n by rw [hL.1]; exact HN.out.symm)
    clear hgk hL hF hS
    have z1 := blk_cell hB 0
    have z2 := blk_cell hB 1
    clear hB
    by_cases c1 : j = 0
    · subst c1
      replace hv8 := (show _ = Value.int .i64 (q : Int) from hv8)
      subst hv8
      have c1b := eq_true (show (q : Int) ≤ (q : Int) by omega)
      have c1c := decide_eq_true (show (q : Int) ≤ (q : Int) by omega)
      have HBS := Aside0.mk (Nat.le_trans HBASE.out HF.out.size)
      obtain ⟨a2, ha2⟩ : ∃ a2, a2 = atw l1 k1 q := ⟨_, rfl⟩
      by_cases c2 : a2 = 18446744073709551615
      · have c2b := eq_true c2
        have c2c := decide_eq_true c2
        have c2d : (a2 == 18446744073709551615) = true := beq_iff_eq.mpr c2
        clear c2
        go_wp2_with (first | (go_at_call 44; (with_reducible refine (tree_at_w size A c n l1 k qd _ base HS.out).mono ?_); rintro e w1 ⟨rfl, hb⟩; have HS1 := Aside0.mk (Kd.S_below HS.out hb); have HF1 := Aside0.mk (HF.out.below HBS.out hb); have hB1 := blk_below HB.out hb; have z3 := blk_cell hB1 0; have z4 := blk_cell hB1 1; have HB1 := Aside0.mk hB1; clear hb hB1) | (go_at_call 44; (with_reducible refine (tree_at_w size A c n l1 k1 q _ base HS1.out).mono ?_); rintro e w2 ⟨rfl, hb⟩; rw [← ha2]; have HS2 := Aside0.mk (Kd.S_below HS1.out hb); have HF2 := Aside0.mk (HF1.out.below (Nat.le_trans HBASE.out HF1.out.size) hb); have hB2 := blk_below HB1.out hb; have z5 := blk_cell hB2 0; have z6 := blk_cell hB2 1; have HB2 := Aside0.mk hB2; clear hb hB2) | (go_at_call 45; (with_reducible refine (tree_put_w size A c n l1 k qd _ _ base HS2.out hk (Nat.le_trans HBASE.out HF2.out.size)).mono ?_); rintro e w3 ⟨rfl, hF3, hS3⟩; have HS3 := Aside0.mk hS3; have HF3 := Aside0.mk (HF2.out.trans hF3); have HB3 := Aside0.mk (hF3.2 _ _ HB2.out); clear hF3 hS3))
        go_roundg 0
        case measure => have := HG.out; omega
        case rel => exact ⟨1, _, by first | rfl | (rw [tree_wrap q (by omega)]; done), rfl, Nat.le_refl _, HL.out.trans (like_if l1 k qd _ hk1 _), HB3.out, HF3.out, HS3.out⟩
      · have c2b := eq_false c2
        have c2c := decide_eq_false c2
        have c2d : (a2 == 18446744073709551615) = false := beq_eq_false_iff_ne.mpr c2
        clear c2
        go_wp2_with (first | (go_at_call 44; (with_reducible refine (tree_at_w size A c n l1 k qd _ base HS.out).mono ?_); rintro e w1 ⟨rfl, hb⟩; have HS1 := Aside0.mk (Kd.S_below HS.out hb); have HF1 := Aside0.mk (HF.out.below HBS.out hb); have hB1 := blk_below HB.out hb; have z3 := blk_cell hB1 0; have z4 := blk_cell hB1 1; have HB1 := Aside0.mk hB1; clear hb hB1) | (go_at_call 44; (with_reducible refine (tree_at_w size A c n l1 k1 q _ base HS1.out).mono ?_); rintro e w2 ⟨rfl, hb⟩; rw [← ha2]; have HS2 := Aside0.mk (Kd.S_below HS1.out hb); have HF2 := Aside0.mk (HF1.out.below (Nat.le_trans HBASE.out HF1.out.size) hb); have hB2 := blk_below HB1.out hb; have z5 := blk_cell hB2 0; have z6 := blk_cell hB2 1; have HB2 := Aside0.mk hB2; clear hb hB2) | (go_at_call 45; (with_reducible refine (tree_put_w size A c n l1 k qd _ _ base HS2.out hk (Nat.le_trans HBASE.out HF2.out.size)).mono ?_); rintro e w3 ⟨rfl, hF3, hS3⟩; have HS3 := Aside0.mk hS3; have HF3 := Aside0.mk (HF2.out.trans hF3); have HB3 := Aside0.mk (hF3.2 _ _ HB2.out); clear hF3 hS3))
        go_roundg 0
        case measure => have := HG.out; omega
        case rel => exact ⟨1, _, by first | rfl | (rw [tree_wrap q (by omega)]; done), rfl, Nat.le_refl _, HL.out.trans (like_if l1 k qd _ hk1 _), HB3.out, HF3.out, HS3.out⟩
    · obtain rfl : j = 1 := by omega
      subst hv8
      have c1b := eq_false (show ¬ ((q + 1 : Nat) : Int) ≤ (q : Int) by omega)
      have c1c := decide_eq_false (show ¬ ((q + 1 : Nat) : Int) ≤ (q : Int) by omega)
      go_wp2
      go_end0
      exact ⟨rfl, HF.out, l1, HL.out, HS.out⟩
end Go.Proofs.Ytgbkdmcbdilgaaa.PRankS
