/- Small functions on rows: pin.Count, slices.Clone. -/
import Derived.Test.YtmookafmdonopaaGreatM01
import Derived.Laws.BitsLemmas
/- Small functions on rows: pin.Count, slices.Clone. -/
namespace Go.Proofs.YtmookafmdonopaaGreat.Top
open Go Go.RowKit
set_option linter.unusedVariables false
set_option linter.unusedSimpArgs false

def cntT (l : List Bool) : Nat := (l.filter id).length
theorem cntT_snoc (l : List Bool) (b : Bool) : cntT (l ++ [b]) = cntT l + if b then 1 else 0 := by
 unfold cntT; rw [List.filter_append]; cases b <;> simp
theorem cntT_take (l : List Bool) (k : Nat) (h : k < l.length) : cntT (l.take (k + 1)) = cntT (l.take k) + if l[k] then 1 else 0 := by
 rw [List.take_succ_eq_append_getElem h, cntT_snoc]
theorem cntT_le (l : List Bool) : cntT l ≤ l.length := by unfold cntT; exact List.length_filter_le _ _
theorem pin_Count (A : Option Addr) (c : Nat) (l : List Bool) (w : World) (h : Row w (.slice A l.length c) l.length (l.map Value.bool)) (hl : l.length ≤ 1000000) :
 Calls Tryz.prog 24 #[.slice A l.length c] w fun e w' => e = .returned (.int .i64 (cntT l)) ∧ w' = w := by
 go_enter Tryz.func24, Tryz.ntmps24
 go_wp2
 go_loop [2, 7] (fun s i => ∃ k : Nat, k ≤ l.length ∧ s = .int .i64 (cntT (l.take k) : Nat) ∧ i = .int .i64 (k : Nat)) (fun _ i => l.length - (intOf i).toNat)
 case atStart => exact ⟨0, Nat.zero_le _, rfl, rfl⟩
 case round =>
  obtain ⟨k, hk, rfl, rfl⟩ := hrel
  have H := As.mk h
  have hle := cntT_le (l.take k)
  rw [List.length_take] at hle
  clear h
  by_cases hlt : k < l.length
  · obtain ⟨b, o, rfl, hx⟩ := H.out.at_ k (by simpa using hlt)
    rw [List.getElem_map] at hx
    have HT := As.mk (cntT_take l k hlt)
    obtain ⟨y, hy⟩ : ∃ y, y = l[k] := ⟨_, rfl⟩
    rw [← hy] at hx HT
    clear hy
    cases y
    all_goals
     go_wp2
     go_round
     case rel => exact ⟨k + 1, hlt, by rw [HT.out]; go_num, by go_num⟩
     case measure => simp [intOf]; omega
  · have e : k = l.length := by omega
    subst e
    go_wp2
    go_ret
    exact ⟨rfl, rfl⟩

theorem info3 : (Tryz.prog.info? 3).map (fun i => (i.zero, i.size, i.bytes)) = some (some (.int .i64 0), 1, 8) := by kernel_rfl
theorem info4 : (Tryz.prog.info? 4).map (fun i => (i.zero, i.size, i.bytes)) = some (some (.bool false), 1, 1) := by kernel_rfl
theorem info5 : (Tryz.prog.info? 5).map (fun i => (i.zero, i.size, i.bytes)) = some (some (.int .u8 0), 1, 1) := by kernel_rfl
theorem info39 : (Tryz.prog.info? 39).map (fun i => (i.zero, i.size, i.bytes)) = some (some (.agg #[(.int .i64 0), (.int .i64 0), (.int .i64 0), (.int .u8 0), (.int .i64 0), (.int .i64 0), (.int .i64 0), (.int .i64 0)]), 8, 64) := by kernel_rfl
theorem info42 : (Tryz.prog.info? 42).map (fun i => (i.zero, i.size, i.bytes)) = some (some (.agg #[(.int .i64 0), (.int .i64 0), (.int .i64 0), (.int .i64 0), (.int .i64 0), (.int .u8 0)]), 6, 48) := by kernel_rfl
theorem info48 : (Tryz.prog.info? 48).map (fun i => (i.zero, i.size, i.bytes)) = some (some (.agg #[(.int .i64 0), (.int .i64 0), (.int .i64 0)]), 3, 24) := by kernel_rfl
theorem info99 : (Tryz.prog.info? 99).map (fun i => (i.zero, i.size, i.bytes)) = some (some (.agg #[(.int .i64 0), (.int .i64 0)]), 2, 16) := by kernel_rfl
theorem info132 : (Tryz.prog.info? 132).map (fun i => (i.zero, i.size, i.bytes)) = some (some (.agg #[(.int .i64 0), (.slice none 0 0)]), 2, 32) := by kernel_rfl
theorem info149 : (Tryz.prog.info? 149).map (fun i => (i.zero, i.size, i.bytes)) = some (some (.int .u64 0), 1, 8) := by kernel_rfl
theorem info150 : (Tryz.prog.info? 150).map (fun i => (i.zero, i.size, i.bytes)) = some (some (.slice none 0 0), 1, 24) := by kernel_rfl
theorem clone_46 (A : Option Addr) (c n : Nat) (cs : List Value) (w : World) (h : Row w (.slice A n c) n cs) (hn : cs.length = n * 1) (h1 : ∀ u ∈ cs, u.oneCell' = true) (hl : n ≤ 1000000) :
 Calls Tryz.prog 46 #[.slice A n c] w fun e w' => ∃ v, e = .returned v ∧ w'.ownsRow w.heap.size 4 1 v n cs ∧ Below w.heap.size w w' := by
 rcases A with _ | ad
 · have e := h.nil_
   subst e
   have hn0 : n = 0 := by have := hn; simp only [List.length_nil] at this; omega
   subst hn0
   have hsp := eq_nil Tryz.underlying56 0 c
   go_enter Tryz.func46, Tryz.ntmps46
   go_wp2
   go_ret
   exact ⟨_, rfl, World.ownsRow_nil _ _ _ _, Below.refl _ _⟩
 · have hsp := ne_nil Tryz.underlying56 ad n c
   obtain ⟨A, c2, hv, hc, hr⟩ := h
   injection hv with e1 e2 e3
   subst e1; subst e3
   have hcell : ∀ j u, cs[j]? = some u → (w.alloc (.cells #[] 4)).cell? (ad.add j) = some u := by
    intro j u hu
    rcases hr with rfl | ⟨b, o, hA, hcell⟩
    · simp at hu
    · injection hA with hA
      subst hA
      have h1 := hcell j u hu
      have h2 : (⟨b, o, none⟩ : Addr).add j = ⟨b, o + j, none⟩ := by unfold Addr.add; split <;> simp_all
      rw [h2]
      exact cell_below ((Below.refl _ _).alloc (Nat.le_refl _) _) h1
   have HC := As.mk hcell
   have H1 := As.mk h1
   clear h1
   have HO : OwnS [] [] (fun _ => True) w (w.alloc (.cells #[] 4))  4 1 (.slice (some ⟨w.heap.size, 0, none⟩) 0 0) 0 [] := OwnS.made (Own.start w) (Nat.le_refl _) (by simp [maxLen]) rfl rfl
   have HO := As.mk HO
   clear hcell hr
   go_enter Tryz.func46, Tryz.ntmps46
   go_wp2_with (at_builtin; refine go_app w rfl _ _ 56 4 _ 1 1 rfl Tryz.underlying56 info4 rfl (by decide) (.slice (some ⟨w.heap.size, 0, none⟩) 0 0) 0 [] rfl ad n c cs rfl HO.out hn HC.out H1.out (by simp [maxLen]; omega) (by omega) ?_; intro v1 w1 hw1; have HW := As.mk hw1; clear hw1)
   go_ret
   refine ⟨_, rfl, ?_, HW.out.rest.toBelow⟩
   have h2 := HW.out.own
   rw [Nat.zero_add] at h2
   exact h2
theorem clone_47 (A : Option Addr) (c n : Nat) (cs : List Value) (w : World) (h : Row w (.slice A n c) n cs) (hn : cs.length = n * 1) (h1 : ∀ u ∈ cs, u.oneCell' = true) (hl : n ≤ 1000000) :
 Calls Tryz.prog 47 #[.slice A n c] w fun e w' => ∃ v, e = .returned v ∧ w'.ownsRow w.heap.size 5 1 v n cs ∧ Below w.heap.size w w' := by
 rcases A with _ | ad
 · have e := h.nil_
   subst e
   have hn0 : n = 0 := by have := hn; simp only [List.length_nil] at this; omega
   subst hn0
   have hsp := eq_nil Tryz.underlying22 0 c
   go_enter Tryz.func47, Tryz.ntmps47
   go_wp2
   go_ret
   exact ⟨_, rfl, World.ownsRow_nil _ _ _ _, Below.refl _ _⟩
 · have hsp := ne_nil Tryz.underlying22 ad n c
   obtain ⟨A, c2, hv, hc, hr⟩ := h
   injection hv with e1 e2 e3
   subst e1; subst e3
   have hcell : ∀ j u, cs[j]? = some u → (w.alloc (.cells #[] 5)).cell? (ad.add j) = some u := by
    intro j u hu
    rcases hr with rfl | ⟨b, o, hA, hcell⟩
    · simp at hu
    · injection hA with hA
      subst hA
      have h1 := hcell j u hu
      have h2 : (⟨b, o, none⟩ : Addr).add j = ⟨b, o + j, none⟩ := by unfold Addr.add; split <;> simp_all
      rw [h2]
      exact cell_below ((Below.refl _ _).alloc (Nat.le_refl _) _) h1
   have HC := As.mk hcell
   have H1 := As.mk h1
   clear h1
   have HO : OwnS [] [] (fun _ => True) w (w.alloc (.cells #[] 5))  5 1 (.slice (some ⟨w.heap.size, 0, none⟩) 0 0) 0 [] := OwnS.made (Own.start w) (Nat.le_refl _) (by simp [maxLen]) rfl rfl
   have HO := As.mk HO
   clear hcell hr
   go_enter Tryz.func47, Tryz.ntmps47
   go_wp2_with (at_builtin; refine go_app w rfl _ _ 22 5 _ 1 1 rfl Tryz.underlying22 info5 rfl (by decide) (.slice (some ⟨w.heap.size, 0, none⟩) 0 0) 0 [] rfl ad n c cs rfl HO.out hn HC.out H1.out (by simp [maxLen]; omega) (by omega) ?_; intro v1 w1 hw1; have HW := As.mk hw1; clear hw1)
   go_ret
   refine ⟨_, rfl, ?_, HW.out.rest.toBelow⟩
   have h2 := HW.out.own
   rw [Nat.zero_add] at h2
   exact h2
theorem clone_113 (A : Option Addr) (c n : Nat) (cs : List Value) (w : World) (h : Row w (.slice A n c) n cs) (hn : cs.length = n * 2) (h1 : ∀ u ∈ cs, u.oneCell' = true) (hl : n ≤ 1000000) :
 Calls Tryz.prog 113 #[.slice A n c] w fun e w' => ∃ v, e = .returned v ∧ w'.ownsRow w.heap.size 99 2 v n cs ∧ Below w.heap.size w w' := by
 rcases A with _ | ad
 · have e := h.nil_
   subst e
   have hn0 : n = 0 := by have := hn; simp only [List.length_nil] at this; omega
   subst hn0
   have hsp := eq_nil Tryz.underlying81 0 c
   go_enter Tryz.func113, Tryz.ntmps113
   go_wp2
   go_ret
   exact ⟨_, rfl, World.ownsRow_nil _ _ _ _, Below.refl _ _⟩
 · have hsp := ne_nil Tryz.underlying81 ad n c
   obtain ⟨A, c2, hv, hc, hr⟩ := h
   injection hv with e1 e2 e3
   subst e1; subst e3
   have hcell : ∀ j u, cs[j]? = some u → (w.alloc (.cells #[] 99)).cell? (ad.add j) = some u := by
    intro j u hu
    rcases hr with rfl | ⟨b, o, hA, hcell⟩
    · simp at hu
    · injection hA with hA
      subst hA
      have h1 := hcell j u hu
      have h2 : (⟨b, o, none⟩ : Addr).add j = ⟨b, o + j, none⟩ := by unfold Addr.add; split <;> simp_all
      rw [h2]
      exact cell_below ((Below.refl _ _).alloc (Nat.le_refl _) _) h1
   have HC := As.mk hcell
   have H1 := As.mk h1
   clear h1
   have HO : OwnS [] [] (fun _ => True) w (w.alloc (.cells #[] 99))  99 2 (.slice (some ⟨w.heap.size, 0, none⟩) 0 0) 0 [] := OwnS.made (Own.start w) (Nat.le_refl _) (by simp [maxLen]) rfl rfl
   have HO := As.mk HO
   clear hcell hr
   go_enter Tryz.func113, Tryz.ntmps113
   go_wp2_with (at_builtin; refine go_app w rfl _ _ 81 99 _ 2 16 rfl Tryz.underlying81 info99 rfl (by decide) (.slice (some ⟨w.heap.size, 0, none⟩) 0 0) 0 [] rfl ad n c cs rfl HO.out hn HC.out H1.out (by simp [maxLen]; omega) (by omega) ?_; intro v1 w1 hw1; have HW := As.mk hw1; clear hw1)
   go_ret
   refine ⟨_, rfl, ?_, HW.out.rest.toBelow⟩
   have h2 := HW.out.own
   rw [Nat.zero_add] at h2
   exact h2
theorem clone_133 (A : Option Addr) (c n : Nat) (cs : List Value) (w : World) (h : Row w (.slice A n c) n cs) (hn : cs.length = n * 1) (h1 : ∀ u ∈ cs, u.oneCell' = true) (hl : n ≤ 1000000) :
 Calls Tryz.prog 133 #[.slice A n c] w fun e w' => ∃ v, e = .returned v ∧ w'.ownsRow w.heap.size 150 1 v n cs ∧ Below w.heap.size w w' := by
 rcases A with _ | ad
 · have e := h.nil_
   subst e
   have hn0 : n = 0 := by have := hn; simp only [List.length_nil] at this; omega
   subst hn0
   have hsp := eq_nil Tryz.underlying130 0 c
   go_enter Tryz.func133, Tryz.ntmps133
   go_wp2
   go_ret
   exact ⟨_, rfl, World.ownsRow_nil _ _ _ _, Below.refl _ _⟩
 · have hsp := ne_nil Tryz.underlying130 ad n c
   obtain ⟨A, c2, hv, hc, hr⟩ := h
   injection hv with e1 e2 e3
   subst e1; subst e3
   have hcell : ∀ j u, cs[j]? = some u → (w.alloc (.cells #[] 150)).cell? (ad.add j) = some u := by
    intro j u hu
    rcases hr with rfl | ⟨b, o, hA, hcell⟩
    · simp at hu
    · injection hA with hA
      subst hA
      have h1 := hcell j u hu
      have h2 : (⟨b, o, none⟩ : Addr).add j = ⟨b, o + j, none⟩ := by unfold Addr.add; split <;> simp_all
      rw [h2]
      exact cell_below ((Below.refl _ _).alloc (Nat.le_refl _) _) h1
   have HC := As.mk hcell
   have H1 := As.mk h1
   clear h1
   have HO : OwnS [] [] (fun _ => True) w (w.alloc (.cells #[] 150))  150 1 (.slice (some ⟨w.heap.size, 0, none⟩) 0 0) 0 [] := OwnS.made (Own.start w) (Nat.le_refl _) (by simp [maxLen]) rfl rfl
   have HO := As.mk HO
   clear hcell hr
   go_enter Tryz.func133, Tryz.ntmps133
   go_wp2_with (at_builtin; refine go_app w rfl _ _ 130 150 _ 1 24 rfl Tryz.underlying130 info150 rfl (by decide) (.slice (some ⟨w.heap.size, 0, none⟩) 0 0) 0 [] rfl ad n c cs rfl HO.out hn HC.out H1.out (by simp [maxLen]; omega) (by omega) ?_; intro v1 w1 hw1; have HW := As.mk hw1; clear hw1)
   go_ret
   refine ⟨_, rfl, ?_, HW.out.rest.toBelow⟩
   have h2 := HW.out.own
   rw [Nat.zero_add] at h2
   exact h2
theorem clone_134 (A : Option Addr) (c n : Nat) (cs : List Value) (w : World) (h : Row w (.slice A n c) n cs) (hn : cs.length = n * 1) (h1 : ∀ u ∈ cs, u.oneCell' = true) (hl : n ≤ 1000000) :
 Calls Tryz.prog 134 #[.slice A n c] w fun e w' => ∃ v, e = .returned v ∧ w'.ownsRow w.heap.size 149 1 v n cs ∧ Below w.heap.size w w' := by
 rcases A with _ | ad
 · have e := h.nil_
   subst e
   have hn0 : n = 0 := by have := hn; simp only [List.length_nil] at this; omega
   subst hn0
   have hsp := eq_nil Tryz.underlying150 0 c
   go_enter Tryz.func134, Tryz.ntmps134
   go_wp2
   go_ret
   exact ⟨_, rfl, World.ownsRow_nil _ _ _ _, Below.refl _ _⟩
 · have hsp := ne_nil Tryz.underlying150 ad n c
   obtain ⟨A, c2, hv, hc, hr⟩ := h
   injection hv with e1 e2 e3
   subst e1; subst e3
   have hcell : ∀ j u, cs[j]? = some u → (w.alloc (.cells #[] 149)).cell? (ad.add j) = some u := by
    intro j u hu
    rcases hr with rfl | ⟨b, o, hA, hcell⟩
    · simp at hu
    · injection hA with hA
      subst hA
      have h1 := hcell j u hu
      have h2 : (⟨b, o, none⟩ : Addr).add j = ⟨b, o + j, none⟩ := by unfold Addr.add; split <;> simp_all
      rw [h2]
      exact cell_below ((Below.refl _ _).alloc (Nat.le_refl _) _) h1
   have HC := As.mk hcell
   have H1 := As.mk h1
   clear h1
   have HO : OwnS [] [] (fun _ => True) w (w.alloc (.cells #[] 149))  149 1 (.slice (some ⟨w.heap.size, 0, none⟩) 0 0) 0 [] := OwnS.made (Own.start w) (Nat.le_refl _) (by simp [maxLen]) rfl rfl
   have HO := As.mk HO
   clear hcell hr
   go_enter Tryz.func134, Tryz.ntmps134
   go_wp2_with (at_builtin; refine go_app w rfl _ _ 150 149 _ 1 8 rfl Tryz.underlying150 info149 rfl (by decide) (.slice (some ⟨w.heap.size, 0, none⟩) 0 0) 0 [] rfl ad n c cs rfl HO.out hn HC.out H1.out (by simp [maxLen]; omega) (by omega) ?_; intro v1 w1 hw1; have HW := As.mk hw1; clear hw1)
   go_ret
   refine ⟨_, rfl, ?_, HW.out.rest.toBelow⟩
   have h2 := HW.out.own
   rw [Nat.zero_add] at h2
   exact h2
end Go.Proofs.YtmookafmdonopaaGreat.Top
/- Whole numbers: calc.Log, Up, Add, Round, Mul. -/
namespace Go.Proofs.YtmookafmdonopaaGreat.Top
open Go Go.RowKit
set_option linter.unusedVariables false
set_option linter.unusedSimpArgs false
attribute [local go_sem] max2_int min2_int max_two min_two max_three

theorem w64 (x : Int) (h1 : -9223372036854775808 ≤ x) (h2 : x < 9223372036854775808) : wrap64 x = x := by unfold wrap64; omega
theorem iw64 (x : Int) (h1 : -9223372036854775808 ≤ x) (h2 : x < 9223372036854775808) : IntKind.i64.wrap x = x := by rw [IntKind.wrap_i64]; omega
theorem i64_bits (a b : Nat) (ha : a < 2 ^ 62) (hb : b < 2 ^ 62) : Go.bits .and .i64 (a : Int) (b : Int) = ((a &&& b : Nat) : Int) ∧ Go.bits .or .i64 (a : Int) (b : Int) = ((a ||| b : Nat) : Int) :=
 bits_nat .i64 62 (by decide) (fun n h0 h1 => iw64 n (by omega) (by have : (2 : Int) ^ 62 = 4611686018427387904 := (by decide); omega)) a b ha hb
theorem i64_xor (a b : Nat) (ha : a < 2 ^ 62) (hb : b < 2 ^ 62) : Go.bits .xor .i64 (a : Int) (b : Int) = ((a ^^^ b : Nat) : Int) := by
 have h1 : a % 2 ^ 64 = a := Nat.mod_eq_of_lt (by omega)
 have h2 : b % 2 ^ 64 = b := Nat.mod_eq_of_lt (by omega)
 have h3 := Nat.xor_lt_two_pow ha hb
 have h4 : (BitVec.ofNat 64 a ^^^ BitVec.ofNat 64 b).toNat = a ^^^ b := by rw [BitVec.toNat_xor, BitVec.toNat_ofNat, BitVec.toNat_ofNat, h1, h2]
 have h5 := iw64 ((a ^^^ b : Nat) : Int) (by omega) (by omega)
 rw [← h4] at h5 ⊢
 exact h5
/-- the least power of two from v on -/
def upN (v : Nat) : Nat := if v ≤ 1 then 1 else 2 ^ (Nat.log2 (v - 1) + 1)
theorem upN_eq {v p j : Nat} (hp : p = 2 ^ j) (h1 : v ≤ p) (h2 : p < 2 * v) : p = upN v := by
 unfold upN
 split
 · omega
 · subst hp
   cases j with
   | zero => simp at h1; omega
   | succ j =>
    rw [Nat.pow_succ] at h1 h2 ⊢
    have h3 : Nat.log2 (v - 1) = j := (Nat.log2_eq_iff (by omega)).2 ⟨by omega, by rw [Nat.pow_succ]; omega⟩
    rw [h3, Nat.pow_succ]
theorem upN_spec (v : Nat) (h : 1 ≤ v) : ∃ j, upN v = 2 ^ j ∧ v ≤ upN v ∧ upN v < 2 * v := by
 unfold upN
 split
 · exact ⟨0, rfl, by omega, by omega⟩
 · refine ⟨_, rfl, ?_, ?_⟩
   · have := (Nat.log2_lt (n := v - 1) (k := Nat.log2 (v - 1) + 1) (by omega)).1 (Nat.lt_succ_self _)
     omega
   · have := Nat.log2_self_le (n := v - 1) (by omega)
     rw [Nat.pow_succ]
     omega
theorem calc_Log_pow (m : Nat) (w : World) (h : m ≤ 30) :
 Calls Tryz.prog 44 #[.int .i64 ((2 ^ m : Nat) : Int)] w fun e w' => e = .returned (.tuple #[.int .i64 (m : Int), .bool true]) ∧ w' = w := by
 have hb : Go.bits .and .i64 ((2 ^ m : Nat) : Int) (((2 ^ m : Nat) : Int) - 1) = 0 := by
  have : ∀ m : Nat, m ≤ 30 → Go.bits .and .i64 ((2 ^ m : Nat) : Int) (((2 ^ m : Nat) : Int) - 1) = 0 := by decide
  exact this m h
 have hp : 1 ≤ 2 ^ m := Nat.one_le_two_pow
 have hp2 : 2 ^ m ≤ 2 ^ 30 := Nat.pow_le_pow_right (by decide) h
 obtain ⟨v, hv⟩ : ∃ v, v = 2 ^ m := ⟨_, rfl⟩
 rw [← hv] at hb hp hp2 ⊢
 have HV := As.mk hv
 clear hv
 go_enter Tryz.func44, Tryz.ntmps44
 go_wp2
 clear hb
 go_loop [0, 2] (fun a b => ∃ j k : Nat, j + k = m ∧ a = .int .i64 ((2 ^ j : Nat) : Int) ∧ b = .int .i64 (k : Int)) (fun a _ => (intOf a).toNat)
 case atStart => exact ⟨m, 0, by omega, by rw [HV.out], rfl⟩
 case round =>
  obtain ⟨j, k, hjk, rfl, rfl⟩ := hrel
  cases j with
  | zero =>
   go_wp2
   go_ret2
   have e : k = m := by omega
   exact ⟨by rw [e]; rfl, rfl⟩
  | succ j =>
   have hj2 : 2 ^ j ≤ 2 ^ 30 := Nat.pow_le_pow_right (by decide) (by omega)
   have hj1 : 1 ≤ 2 ^ j := Nat.one_le_two_pow
   obtain ⟨u, hu⟩ : ∃ u, u = 2 ^ j := ⟨_, rfl⟩
   have HU := As.mk hu
   rw [Nat.pow_succ, ← hu]
   rw [← hu] at hj1 hj2
   clear hu
   have hd : ((u * 2 : Nat) : Int) / 2 = (u : Int) := by omega
   have hg : ((u * 2 : Nat) : Int) > 1 := by omega
   go_wp2
   go_round
   case rel => exact ⟨j, k + 1, by omega, by rw [← HU.out], by go_num⟩
   case measure => simp [intOf]; omega
theorem calc_Log_no (v : Int) (w : World) (h : v = 0 ∨ v = 3) :
 Calls Tryz.prog 44 #[.int .i64 v] w fun e w' => e = .returned (.tuple #[.int .i64 0, .bool false]) ∧ w' = w := by
 have hb : Go.bits .and .i64 3 2 = 2 := by decide
 rcases h with rfl | rfl
 all_goals
  go_enter Tryz.func44, Tryz.ntmps44
  go_wp2
  go_ret2
  exact ⟨rfl, rfl⟩
theorem calc_Up (v : Nat) (w : World) (h1 : 1 ≤ v) (h2 : v ≤ 2 ^ 30) :
 Calls Tryz.prog 55 #[.int .i64 (v : Int)] w fun e w' => e = .returned (.tuple #[.int .i64 (upN v : Int), .bool true]) ∧ w' = w := by
 go_enter Tryz.func55, Tryz.ntmps55
 go_wp2
 go_loop [4] (fun a => ∃ j p : Nat, As (p = 2 ^ j) ∧ p < 2 * v ∧ 1 ≤ p ∧ a = .int .i64 (p : Int)) (fun a => v - (intOf a).toNat)
 case atStart => exact ⟨0, 1, ⟨rfl⟩, by omega, by omega, rfl⟩
 case round =>
  obtain ⟨j, p, HP, hp2, hp1, rfl⟩ := hrel
  by_cases hlt : p < v
  · go_wp2
    go_round
    case rel => exact ⟨j + 1, p * 2, ⟨by rw [HP.out, Nat.pow_succ]⟩, by omega, by omega, by go_num⟩
    case measure => simp [intOf]; omega
  · have HE := As.mk (upN_eq HP.out (by omega) hp2)
    go_wp2
    go_ret2
    exact ⟨by rw [← HE.out]; rfl, rfl⟩
theorem calc_Add (a b : Nat) (w : World) (h1 : a ≤ 2 ^ 40) (h2 : b ≤ 2 ^ 40) :
 Calls Tryz.prog 76 #[.int .i64 (a : Int), .int .i64 (b : Int)] w fun e w' => e = .returned (.tuple #[.int .i64 ((a : Int) + b), .bool true]) ∧ w' = w := by
 have c1 : IntKind.u64.wrap (a : Int) = a := by unfold IntKind.wrap; simp [IntKind.bits, IntKind.signed]; omega
 have c2 : IntKind.u64.wrap (b : Int) = b := by unfold IntKind.wrap; simp [IntKind.bits, IntKind.signed]; omega
 have x1 : Go.bits .xor .i64 (a : Int) ((a : Int) + b) = ((a ^^^ (a + b) : Nat) : Int) := i64_xor a (a + b) (by omega) (by omega)
 have x2 : Go.bits .xor .i64 (b : Int) ((a : Int) + b) = ((b ^^^ (a + b) : Nat) : Int) := i64_xor b (a + b) (by omega) (by omega)
 have y1 := Nat.xor_lt_two_pow (n := 62) (x := a) (y := a + b) (by omega) (by omega)
 have y2 := Nat.xor_lt_two_pow (n := 62) (x := b) (y := a + b) (by omega) (by omega)
 have x3 := (i64_bits (a ^^^ (a + b)) (b ^^^ (a + b)) y1 y2).1
 obtain ⟨q, hq⟩ : ∃ q : Nat, q = (a ^^^ (a + b)) &&& (b ^^^ (a + b)) := ⟨_, rfl⟩
 have hn : ¬ Go.bits .and .i64 (Go.bits .xor .i64 (a : Int) ((a : Int) + b)) (Go.bits .xor .i64 (b : Int) ((a : Int) + b)) < 0 := by rw [x1, x2, x3]; omega
 clear x1 x2 y1 y2 x3 hq
 go_enter Tryz.func76, Tryz.ntmps76
 go_wp2
 go_ret2
 exact ⟨rfl, rfl⟩
/-- the least multiple of m from v on -/
def rndN (v m : Nat) : Nat := if v % m = 0 then v else v - v % m + m
theorem calc_Round (v m : Nat) (w : World) (h1 : v ≤ 2 ^ 30) (h2 : 1 ≤ m) (h3 : m ≤ 2 ^ 30) :
 Calls Tryz.prog 56 #[.int .i64 (v : Int), .int .i64 (m : Int)] w fun e w' => e = .returned (.tuple #[.int .i64 (rndN v m : Int), .bool true]) ∧ w' = w := by
 have hlt := Nat.mod_lt v h2
 have hle := Nat.mod_le v m
 have ht : Int.tmod (v : Int) (m : Int) = ((v % m : Nat) : Int) := rfl
 have hm : (v : Int) % (m : Int) = ((v % m : Nat) : Int) := by omega
 have HR : rndN v m = if v % m = 0 then v else v - v % m + m := rfl
 obtain ⟨q, hq⟩ : ∃ q, q = v % m := ⟨_, rfl⟩
 rw [← hq] at hlt hle ht hm HR
 clear hq
 by_cases h0 : q = 0
 · rw [if_pos h0] at HR
   have HR := As.mk HR
   subst h0
   go_enter Tryz.func56, Tryz.ntmps56
   go_wp2
   go_ret2
   exact ⟨by rw [HR.out]; rfl, rfl⟩
 · rw [if_neg h0] at HR
   have HS := As.mk (show (v : Int) + ((m - q : Nat) : Int) = ((v - q + m : Nat) : Int) by omega)
   have HR := As.mk HR
   have h0' : ¬ (q : Int) = 0 := by omega
   have hq : (m : Int) - (q : Int) = ((m - q : Nat) : Int) := by omega
   go_enter Tryz.func56, Tryz.ntmps56
   go_wp2_with (go_at_call 76; (with_reducible refine (calc_Add v (m - q) _ (by omega) (by omega)).mono ?_); rintro e w' ⟨rfl, rfl⟩)
   go_ret2
   exact ⟨by rw [HR.out, ← HS.out]; rfl, rfl⟩
theorem calc_Mul (a b : Nat) (w : World) (h1 : a ≤ 2 ^ 30) (h2 : b ≤ 2 ^ 30) :
 Calls Tryz.prog 86 #[.int .i64 (a : Int), .int .i64 (b : Int)] w fun e w' => e = .returned (.tuple #[.int .i64 ((a * b : Nat) : Int), .bool true]) ∧ w' = w := by
 have c1 : IntKind.u64.wrap (a : Int) = a := by unfold IntKind.wrap; simp [IntKind.bits, IntKind.signed]; omega
 have c2 : IntKind.u64.wrap (b : Int) = b := by unfold IntKind.wrap; simp [IntKind.bits, IntKind.signed]; omega
 by_cases ha : a = 0
 · subst ha
   go_enter Tryz.func86, Tryz.ntmps86
   go_wp2
   go_ret2
   exact ⟨by rw [Nat.zero_mul]; rfl, rfl⟩
 · by_cases hb : b = 0
   · subst hb
     have ha' : ¬ (a : Int) = 0 := by omega
     go_enter Tryz.func86, Tryz.ntmps86
     go_wp2
     go_ret2
     exact ⟨by rw [Nat.mul_zero]; rfl, rfl⟩
   · have hab : a * b ≤ 2 ^ 30 * 2 ^ 30 := Nat.mul_le_mul h1 h2
     have hq : a * b / b = a := Nat.mul_div_cancel _ (by omega)
     have hm : (a : Int) * (b : Int) = ((a * b : Nat) : Int) := by rw [Int.natCast_mul]
     obtain ⟨p, hp⟩ : ∃ p, p = a * b := ⟨_, rfl⟩
     rw [← hp] at hab hq hm ⊢
     have hd : (p : Int) / (b : Int) = (a : Int) := by rw [← hq]; rfl
     have c3 : IntKind.u64.wrap (p : Int) = p := by unfold IntKind.wrap; simp [IntKind.bits, IntKind.signed]; omega
     clear hp hq
     have n1 := beqF (show ¬ (a : Int) = 0 by omega)
     have n2 := beqF (show ¬ (b : Int) = 0 by omega)
     have n3 := beqF (show ¬ (a : Int) = -1 by omega)
     have n4 := beqF (show ¬ (b : Int) = -1 by omega)
     go_enter Tryz.func86, Tryz.ntmps86
     go_wp2
     go_ret2
     exact ⟨rfl, rfl⟩
/-- what is charged -/
def chg (c : Cf) (s a : Int) : Int × Int :=
 if a = 0 ∨ a = 3 ∨ a > c.N then (0, 3) else if s < 0 ∨ s > c.N then (0, 4) else ((upN (max (max s a) c.G).toNat : Nat), 0)
def GoodA (a : Int) : Prop := a = 0 ∨ a = 3 ∨ ∃ m : Nat, m ≤ 20 ∧ a = ((2 ^ m : Nat) : Int)
theorem box_below (w : World) (o : Obj) : Below w.heap.size w (w.alloc o) := (Below.refl _ _).alloc (Nat.le_refl _) _
theorem class_Charge (c : Cf) (hg : Good c) (s a : Int) (w : World) (ha : GoodA a) :
 Calls Tryz.prog 84 #[c.v, .int .i64 s, .int .i64 a] w fun e w' => e = .returned (.tuple #[.int .i64 (chg c s a).1, .int .i64 (chg c s a).2]) ∧ Below w.heap.size w w' := by
 obtain ⟨b1, b2, b3, b4, b5, b6, b7⟩ := hg.bounds
 rw [Cf.v]
 rcases ha with ha | ha | ⟨m, hm, ha⟩
 · have e : chg c s a = (0, 3) := by unfold chg; rw [if_pos (Or.inl ha)]
   rw [e]
   subst ha
   clear e
   go_enter Tryz.func84, Tryz.ntmps84
   go_wp2_with (go_at_call 44; (with_reducible refine (calc_Log_no 0 _ (Or.inl rfl)).mono ?_); rintro e w' ⟨rfl, rfl⟩)
   go_ret2
   exact ⟨rfl, box_below _ _⟩
 · have e : chg c s a = (0, 3) := by unfold chg; rw [if_pos (Or.inr (Or.inl ha))]
   rw [e]
   subst ha
   clear e
   go_enter Tryz.func84, Tryz.ntmps84
   go_wp2_with (go_at_call 44; (with_reducible refine (calc_Log_no 3 _ (Or.inr rfl)).mono ?_); rintro e w' ⟨rfl, rfl⟩)
   go_ret2
   exact ⟨rfl, box_below _ _⟩
 · have h1 : 1 ≤ 2 ^ m := Nat.one_le_two_pow
   obtain ⟨u, hu⟩ : ∃ u, u = 2 ^ m := ⟨_, rfl⟩
   have HU := As.mk hu
   rw [← hu] at ha h1
   subst ha
   clear hu
   have hl := HU.out ▸ calc_Log_pow m
   have HL := As.mk hl
   clear hl
   have n0 : ¬ (u : Int) = 0 := by omega
   have n3 : ¬ (u : Int) = 3 := by
    intro e
    have h3 : 2 ^ m = 3 := by have := HU.out; omega
    rcases m with _ | m
    · simp at h3
    · rw [Nat.pow_succ] at h3; omega
   by_cases c1 : u > c.N
   · have e : chg c s u = (0, 3) := by unfold chg; rw [if_pos (by omega)]
     rw [e]
     clear e
     go_enter Tryz.func84, Tryz.ntmps84
     go_wp2_with (go_at_call 44; (with_reducible refine (HL.out _ (by omega)).mono ?_); rintro e w' ⟨rfl, rfl⟩)
     go_ret2
     exact ⟨rfl, box_below _ _⟩
   · by_cases c2 : s < 0 ∨ s > c.N
     · have e : chg c s u = (0, 4) := by unfold chg; rw [if_neg (by omega), if_pos c2]
       rw [e]
       clear e
       rcases c2 with c2 | c2
       all_goals
        go_enter Tryz.func84, Tryz.ntmps84
        go_wp2_with (go_at_call 44; (with_reducible refine (HL.out _ (by omega)).mono ?_); rintro e w' ⟨rfl, rfl⟩)
        go_ret2
        exact ⟨rfl, box_below _ _⟩
     · have E := As.mk (show chg c s u = (((upN (max (max s u) c.G).toNat : Nat) : Int), 0) by unfold chg; rw [if_neg (by omega), if_neg c2])
       have x1 : 0 ≤ s := by omega
       have x2 : s ≤ c.N := by omega
       obtain ⟨v, hv⟩ : ∃ v : Nat, (v : Int) = max (max s u) c.G := ⟨(max (max s u) c.G).toNat, by omega⟩
       have HV := As.mk hv
       have hv1 : 1 ≤ v := by omega
       have hv2 : v ≤ 2 ^ 30 := by omega
       have hv3 := hv.symm
       clear hv c2
       go_enter Tryz.func84, Tryz.ntmps84
       go_wp2_with (first | (go_at_call 44; (with_reducible refine (HL.out _ (by omega)).mono ?_); rintro e w' ⟨rfl, rfl⟩) | (go_at_call 55; (with_reducible refine (calc_Up v _ hv1 hv2).mono ?_); rintro e w' ⟨rfl, rfl⟩))
       go_ret2
       exact ⟨by rw [E.out, ← HV.out, Int.toNat_natCast]; rfl, box_below _ _⟩
theorem chg_bd (c : Cf) (hg : Good c) (s a : Int) (ha : GoodA a) : 0 ≤ (chg c s a).1 ∧ (chg c s a).1 ≤ 2 ^ 30 := by
 obtain ⟨b1, b2, b3, b4, b5, b6, b7⟩ := hg.bounds
 unfold chg
 split
 · exact ⟨by decide, by decide⟩
 · split
   · exact ⟨by decide, by decide⟩
   · obtain ⟨j, _, h2, h3⟩ := upN_spec (max (max s a) c.G).toNat (by omega)
     refine ⟨by simp, ?_⟩
     show ((upN (max (max s a) c.G).toNat : Nat) : Int) ≤ _
     omega
/-- who is let in -/
def adm (c : Cf) (live s a : Int) : Int × Int := if (chg c s a).2 ≠ 0 then (0, (chg c s a).2) else if live + (chg c s a).1 > c.M then (0, 5) else ((chg c s a).1, 0)
theorem admit_New (c : Cf) (hg : Good c) (live : Nat) (s a : Int) (w : World) (ha : GoodA a) (hl : live ≤ 2 ^ 30) :
 Calls Tryz.prog 68 #[c.v, .int .i64 live, .int .i64 s, .int .i64 a] w fun e w' => e = .returned (.tuple #[.int .i64 (adm c live s a).1, .int .i64 (adm c live s a).2]) ∧ Below w.heap.size w w' := by
 obtain ⟨b1, b2, b3, b4, b5, b6, b7⟩ := hg.bounds
 have HC := As.mk (fun w => class_Charge c hg s a w ha)
 obtain ⟨d1, d2⟩ := chg_bd c hg s a ha
 have hA : adm c live s a = if (chg c s a).2 ≠ 0 then (0, (chg c s a).2) else if live + (chg c s a).1 > c.M then (0, 5) else ((chg c s a).1, 0) := rfl
 obtain ⟨r, hr⟩ : ∃ r, r = chg c s a := ⟨_, rfl⟩
 rw [← hr] at HC d1 d2 hA
 clear hr
 obtain ⟨r1, r2⟩ := r
 obtain ⟨q, rfl⟩ : ∃ q : Nat, r1 = (q : Int) := ⟨r1.toNat, by simp at d1 ⊢; omega⟩
 simp only [] at HC d1 d2 hA
 rw [Cf.v] at HC ⊢
 have hcase : (∃ n : (r2 == 0) = false, adm c live s a = (0, r2)) ∨ (r2 = 0 ∧ (live : Int) + q > c.M ∧ adm c live s a = (0, 5)) ∨ (r2 = 0 ∧ ¬ (live : Int) + q > c.M ∧ adm c live s a = ((q : Int), 0)) := by
  by_cases c1 : r2 = 0
  · subst c1
    rw [if_neg (by simp)] at hA
    by_cases c2 : (live : Int) + q > c.M
    · rw [if_pos c2] at hA; exact Or.inr (Or.inl ⟨rfl, c2, hA⟩)
    · rw [if_neg c2] at hA; exact Or.inr (Or.inr ⟨rfl, c2, hA⟩)
  · rw [if_pos c1] at hA; exact Or.inl ⟨beqF c1, hA⟩
 clear hA
 rcases hcase with ⟨c1, hA⟩ | ⟨rfl, c1, hA⟩ | ⟨rfl, c1, hA⟩
 all_goals
  rw [hA]
  clear hA
  go_enter Tryz.func68, Tryz.ntmps68
  go_wp2_with (first | (go_at_call 84; (with_reducible refine (HC.out _).mono ?_); rintro e w1 ⟨rfl, hb⟩; have HB := As.mk (below_trans1 hb); have z1 := cell_below hb (show (w.alloc _).cell? ⟨w.heap.size, 2, none⟩ = some (.int .i64 c.M) by simp); clear hb) | (go_at_call 76; (with_reducible refine (calc_Add live q _ (by omega) (by omega)).mono ?_); rintro e w' ⟨rfl, rfl⟩))
  go_ret2
  exact ⟨rfl, HB.out⟩
theorem admit_Anew (c : Cf) (hg : Good c) (live old : Nat) (s : Int) (w : World) (ho : old ≤ live) (hl : live ≤ 2 ^ 30) :
 Calls Tryz.prog 87 #[c.v, .int .i64 live, .int .i64 old, .int .i64 s] w fun e w' => e = .returned (.tuple #[.int .i64 (adm c ((live - old : Nat) : Int) s 1).1, .int .i64 (adm c ((live - old : Nat) : Int) s 1).2]) ∧ Below w.heap.size w w' := by
 have HC := As.mk (fun w => admit_New c hg (live - old) s 1 w (Or.inr (Or.inr ⟨0, by decide, rfl⟩)) (by omega))
 have hs : (live : Int) - (old : Int) = ((live - old : Nat) : Int) := by omega
 rw [Cf.v] at HC ⊢
 go_enter Tryz.func87, Tryz.ntmps87
 go_wp2_with (first | (go_at_call 68; (with_reducible refine (HC.out _).mono ?_); rintro e w1 ⟨rfl, hb⟩; have HB := As.mk (below_trans1 hb); clear hb))
 go_ret2
 exact ⟨rfl, HB.out⟩
/-- so many of so much -/
def prd (c : Cf) (n s : Int) : Int × Int := if n < 0 ∨ s < 0 then (0, 2) else if n * s > c.N then (0, 4) else (n * s, 0)
theorem class_Product (c : Cf) (n s : Int) (w : World) (hn : n ≤ 2 ^ 30) (hs : s ≤ 2 ^ 30) :
 Calls Tryz.prog 71 #[c.v, .int .i64 n, .int .i64 s] w fun e w' => e = .returned (.tuple #[.int .i64 (prd c n s).1, .int .i64 (prd c n s).2]) ∧ Below w.heap.size w w' := by
 rw [Cf.v]
 by_cases c1 : n < 0 ∨ s < 0
 · have e : prd c n s = (0, 2) := by unfold prd; rw [if_pos c1]
   rw [e]
   clear e
   rcases c1 with c1 | c1
   all_goals
    go_enter Tryz.func71, Tryz.ntmps71
    go_wp2
    all_goals
     go_ret2
     exact ⟨rfl, box_below _ _⟩
 · obtain ⟨a, rfl⟩ : ∃ a : Nat, n = (a : Int) := ⟨n.toNat, by omega⟩
   obtain ⟨b, rfl⟩ : ∃ b : Nat, s = (b : Int) := ⟨s.toNat, by omega⟩
   have hm : (a : Int) * (b : Int) = ((a * b : Nat) : Int) := by rw [Int.natCast_mul]
   have hcase : (((a * b : Nat) : Int) > c.N ∧ prd c a b = (0, 4)) ∨ (¬ ((a * b : Nat) : Int) > c.N ∧ prd c a b = (((a * b : Nat) : Int), 0)) := by
    have hP : prd c a b = if (a : Int) * b > c.N then (0, 4) else ((a : Int) * b, 0) := by unfold prd; rw [if_neg c1]
    rw [hm] at hP
    by_cases c2 : ((a * b : Nat) : Int) > c.N
    · rw [if_pos c2] at hP; exact Or.inl ⟨c2, hP⟩
    · rw [if_neg c2] at hP; exact Or.inr ⟨c2, hP⟩
   have HM := As.mk (fun w => calc_Mul a b w (by omega) (by omega))
   obtain ⟨p, hp⟩ : ∃ p, p = a * b := ⟨_, rfl⟩
   rw [← hp] at HM hcase
   clear hp hm c1
   have x1 : ¬ (a : Int) < 0 := by omega
   have x2 : ¬ (b : Int) < 0 := by omega
   rcases hcase with ⟨c2, e⟩ | ⟨c2, e⟩
   all_goals
    rw [e]
    clear e
    go_enter Tryz.func71, Tryz.ntmps71
    go_wp2_with (first | (go_at_call 86; (with_reducible refine (HM.out _).mono ?_); rintro e w1 ⟨rfl, rfl⟩))
    go_ret2
    exact ⟨rfl, box_below _ _⟩
def many (c : Cf) (live n s : Int) : Int × Int := if (prd c n s).2 ≠ 0 then (0, (prd c n s).2) else adm c live (prd c n s).1 1
theorem admit_Many (c : Cf) (hg : Good c) (live : Nat) (n s : Int) (w : World) (hl : live ≤ 2 ^ 30) (hn : n ≤ 2 ^ 30) (hs : s ≤ 2 ^ 30) :
 Calls Tryz.prog 70 #[c.v, .int .i64 live, .int .i64 n, .int .i64 s] w fun e w' => e = .returned (.tuple #[.int .i64 (many c live n s).1, .int .i64 (many c live n s).2]) ∧ Below w.heap.size w w' := by
 have HP := As.mk (fun w => class_Product c n s w hn hs)
 have HN := As.mk (fun w => admit_New c hg live (prd c n s).1 1 w (Or.inr (Or.inr ⟨0, by decide, rfl⟩)) hl)
 have hA : many c live n s = if (prd c n s).2 ≠ 0 then (0, (prd c n s).2) else adm c live (prd c n s).1 1 := rfl
 obtain ⟨r, hr⟩ : ∃ r, r = prd c n s := ⟨_, rfl⟩
 rw [← hr] at HP HN hA
 clear hr
 obtain ⟨r1, r2⟩ := r
 simp only [] at HP HN hA
 rw [Cf.v] at HP HN ⊢
 have hcase : (∃ _ : (r2 == 0) = false, many c live n s = (0, r2)) ∨ (r2 = 0 ∧ many c live n s = adm c live r1 1) := by
  by_cases c1 : r2 = 0
  · subst c1; rw [if_neg (by simp)] at hA; exact Or.inr ⟨rfl, hA⟩
  · rw [if_pos c1] at hA; exact Or.inl ⟨beqF c1, hA⟩
 clear hA
 rcases hcase with ⟨c1, hA⟩ | ⟨rfl, hA⟩
 all_goals
  rw [hA]
  clear hA
  go_enter Tryz.func70, Tryz.ntmps70
  go_wp2_with (first | (go_at_call 71; (with_reducible refine (HP.out _).mono ?_); rintro e w1 ⟨rfl, hb⟩; have HB := As.mk (below_trans1 hb); have z0 := box_cell hb 0 _ rfl; have z1 := box_cell hb 1 _ rfl; have z2 := box_cell hb 2 _ rfl; have z3 := box_cell hb 3 _ rfl; have z4 := box_cell hb 4 _ rfl; have z5 := box_cell hb 5 _ rfl; have z6 := box_cell hb 6 _ rfl; have z7 := box_cell hb 7 _ rfl; clear hb) | (go_at_call 68; (with_reducible refine (HN.out _).mono ?_); rintro e w2 ⟨rfl, hb⟩; have HB2 := As.mk (HB.out.trans (hb.mono HB.out.size)); clear hb))
  go_ret2
  exact ⟨rfl, by first | exact HB2.out | exact HB.out⟩
end Go.Proofs.YtmookafmdonopaaGreat.Top
/- conf.Shift, class.Class, pin.Pages, junk.Byte, conf.within, conf.Of. -/
namespace Go.Proofs.YtmookafmdonopaaGreat.Top
open Go Go.RowKit
set_option linter.unusedVariables false
set_option linter.unusedSimpArgs false
attribute [local go_sem] max2_int min2_int max_two min_two max_three

theorem conf_Shift (c : Cf) (hg : Good c) (k : Nat) (w : World) (hk : k ≤ c.L) :
 Calls Tryz.prog 18 #[c.v, .int .i64 ((c.G * 2 ^ k : Nat) : Int)] w fun e w' => e = .returned (.tuple #[.int .i64 k, .bool true]) ∧ Below w.heap.size w w' := by
 obtain ⟨b1, b2, b3, b4, b5, b6, b7⟩ := hg.bounds
 obtain ⟨g, pg, kk, h1, h2, _⟩ := hg.pow
 have hn : c.G * 2 ^ k ≤ c.N := by rw [h1, h2, ← Nat.pow_add]; exact Nat.pow_le_pow_right (by decide) (by omega)
 have hk30 : k ≤ 30 := by
  rcases Nat.lt_or_ge 30 k with h | h
  · have : 2 ^ 31 ≤ 2 ^ k := Nat.pow_le_pow_right (by decide) h
    have : 2 ^ k ≤ c.G * 2 ^ k := Nat.le_mul_of_pos_left _ (by omega)
    omega
  · exact h
 have HL := As.mk (fun w => calc_Log_pow k w hk30)
 have hd : c.G * 2 ^ k / c.G = 2 ^ k := Nat.mul_div_cancel_left _ (by omega)
 have hm : c.G * 2 ^ k % c.G = 0 := Nat.mul_mod_right _ _
 have hge : c.G ≤ c.G * 2 ^ k := Nat.le_mul_of_pos_right _ (Nat.two_pow_pos k)
 have hu2 : 2 ^ k ≤ 2 ^ 30 := Nat.pow_le_pow_right (by decide) hk30
 obtain ⟨u, hu⟩ : ∃ u, u = 2 ^ k := ⟨_, rfl⟩
 rw [← hu] at hu2
 obtain ⟨q, hq⟩ : ∃ q, q = c.G * 2 ^ k := ⟨_, rfl⟩
 rw [← hq] at hd hm hn hge ⊢
 rw [← hu] at hd HL
 clear hq hu
 have d1 : (q : Int) / (c.G : Int) = (u : Int) := by rw [← hd]; rfl
 have d2 : Int.tmod (q : Int) (c.G : Int) = 0 := by show ((q % c.G : Nat) : Int) = 0; rw [hm]; rfl
 have d3 : (q : Int) % (c.G : Int) = 0 := by show ((q % c.G : Nat) : Int) = 0; rw [hm]; rfl
 clear hd hm h1 h2
 rw [Cf.v]
 go_enter Tryz.func18, Tryz.ntmps18
 go_wp2_with (first | (go_at_call 44; (with_reducible refine (HL.out _).mono ?_); rintro e w1 ⟨rfl, rfl⟩))
 go_ret2
 exact ⟨rfl, box_below _ _⟩
theorem class_Class (c : Cf) (hg : Good c) (k : Nat) (w : World) (hk : k ≤ c.L) :
 Calls Tryz.prog 102 #[c.v, .int .i64 ((c.G * 2 ^ k : Nat) : Int)] w fun e w' => e = .returned (.tuple #[.int .i64 k, .bool true]) ∧ Below w.heap.size w w' := by
 have HS := As.mk (fun w => conf_Shift c hg k w hk)
 rw [Cf.v] at HS ⊢
 obtain ⟨q, hq⟩ : ∃ q, q = c.G * 2 ^ k := ⟨_, rfl⟩
 rw [← hq] at HS ⊢
 clear hq
 go_enter Tryz.func102, Tryz.ntmps102
 go_wp2_with (first | (go_at_call 18; (with_reducible refine (HS.out _).mono ?_); rintro e w1 ⟨rfl, hb⟩; have HB := As.mk (below_trans1 hb); clear hb))
 go_ret2
 exact ⟨rfl, HB.out⟩
theorem pin_Pages (page at_ n : Nat) (w : World) (h1 : 1 ≤ page) (h2 : 1 ≤ n) (h3 : at_ ≤ 2 ^ 30) (h4 : n ≤ 2 ^ 30) (h5 : page ≤ 2 ^ 30) :
 Calls Tryz.prog 26 #[.int .i64 page, .int .i64 at_, .int .i64 n] w fun e w' => e = .returned (.tuple #[.int .i64 ((at_ / page : Nat) : Int), .int .i64 (((at_ + n - 1) / page + 1 : Nat) : Int)]) ∧ ∃ nq, w' = w.drewN nq := by
 have d1 : (at_ : Int) / (page : Int) = ((at_ / page : Nat) : Int) := rfl
 have e1 : (at_ : Int) + (n : Int) - 1 = ((at_ + n - 1 : Nat) : Int) := by omega
 have d2 : ((at_ + n - 1 : Nat) : Int) / (page : Int) = (((at_ + n - 1) / page : Nat) : Int) := rfl
 have l1 : (at_ + n - 1) / page ≤ at_ + n - 1 := Nat.div_le_self _ _
 have e2 : (((at_ + n - 1) / page : Nat) : Int) + 1 = (((at_ + n - 1) / page + 1 : Nat) : Int) := by omega
 have hn0 := beqF (show ¬ (n : Int) = 0 by omega)
 have l2 : at_ / page ≤ at_ := Nat.div_le_self _ _
 obtain ⟨x, hx⟩ : ∃ x, x = at_ / page := ⟨_, rfl⟩
 obtain ⟨z, hz⟩ : ∃ z, z = at_ + n - 1 := ⟨_, rfl⟩
 obtain ⟨y, hy⟩ : ∃ y, y = (at_ + n - 1) / page := ⟨_, rfl⟩
 rw [← hx] at d1 l2 ⊢
 rw [← hy] at d2 l1 e2 ⊢
 rw [← hz] at e1 d2 l1
 have hz2 : z ≤ 2 ^ 31 := by omega
 have HE := As.mk e2
 clear hx hy hz e2
 go_enter Tryz.func26, Tryz.ntmps26
 go_wp2
 go_quiet (fail)
 go_wp2
 go_ret2
 exact ⟨by rw [← HE.out]; rfl, _, rfl⟩
/-- what stands in a fresh page -/
def jb (seed page i : Nat) : Nat := (seed + 31 * page + 7 * i + 1) % 256
theorem junk_Byte (seed page i : Nat) (w : World) (h1 : seed ≤ 2 ^ 30) (h2 : page ≤ 2 ^ 30) (h3 : i ≤ 2 ^ 30) :
 Calls Tryz.prog 104 #[.int .i64 seed, .int .i64 page, .int .i64 i] w fun e w' => e = .returned (.int .u8 (jb seed page i : Int)) ∧ w' = w := by
 go_enter Tryz.func104, Tryz.ntmps104
 go_wp2
 go_ret
 exact ⟨ret_int (by unfold jb; omega), rfl⟩
def within (xs : List Int) : Bool := xs.all fun x => decide (1 ≤ x ∧ x ≤ 65536)
theorem conf_within (xs : List Int) (A : Option Addr) (c : Nat) (w : World) (h : Row w (.slice A xs.length c) xs.length (xs.map (Value.int .i64))) (hl : xs.length ≤ 1000) :
 Calls Tryz.prog 54 #[.slice A xs.length c] w fun e w' => e = .returned (.bool (within xs)) ∧ w' = w := by
 go_enter Tryz.func54, Tryz.ntmps54
 go_wp2
 go_loop [7] (fun i => ∃ k : Nat, k ≤ xs.length ∧ i = .int .i64 (k : Int) ∧ As (∀ j, j < k → ∀ x, xs[j]? = some x → 1 ≤ x ∧ x ≤ 65536)) (fun i => xs.length - (intOf i).toNat)
 case atStart => exact ⟨0, Nat.zero_le _, rfl, ⟨fun j hj => absurd hj (Nat.not_lt_zero _)⟩⟩
 case round =>
  obtain ⟨k, hk, rfl, HA⟩ := hrel
  have H := As.mk h
  clear h
  by_cases hlt : k < xs.length
  · obtain ⟨b, o, rfl, hx⟩ := H.out.at_ k (by simpa using hlt)
    rw [List.getElem_map] at hx
    obtain ⟨y, hy⟩ : ∃ y, y = xs[k] := ⟨_, rfl⟩
    rw [← hy] at hx
    have HY := As.mk hy
    clear hy
    by_cases c1 : 1 ≤ y ∧ y ≤ 65536
    · obtain ⟨c1, c2⟩ := c1
      go_wp2
      go_round
      case rel =>
       refine ⟨k + 1, hlt, by go_num, ⟨fun j hj x hx' => ?_⟩⟩
       rcases Nat.lt_or_ge j k with h1 | h1
       · exact HA.out j h1 x hx'
       · have e : j = k := by omega
         subst e
         rw [List.getElem?_eq_getElem hlt] at hx'
         injection hx' with hx'
         rw [← hx', ← HY.out]
         exact ⟨c1, c2⟩
      case measure => simp [intOf]; omega
    · have HF : As (within xs = false) := ⟨by
       unfold within
       rw [Bool.eq_false_iff]
       intro ht
       have := List.all_eq_true.1 ht _ (List.getElem_mem hlt)
       rw [← HY.out] at this
       exact c1 (of_decide_eq_true this)⟩
      have c2 : y < 1 ∨ 65536 < y := by omega
      rcases c2 with c2 | c2
      all_goals
       go_wp2
       all_goals
        go_ret
        exact ⟨by rw [HF.out]; rfl, rfl⟩
  · have e : k = xs.length := by omega
    subst e
    have HT : As (within xs = true) := ⟨by
     unfold within
     rw [List.all_eq_true]
     intro x hx
     obtain ⟨j, hj⟩ := List.mem_iff_getElem?.1 hx
     exact decide_eq_true (HA.out j (List.getElem?_eq_some_iff.1 hj).1 x hj)⟩
    go_wp2
    go_ret
    exact ⟨by rw [HT.out]; rfl, rfl⟩
end Go.Proofs.YtmookafmdonopaaGreat.Top
