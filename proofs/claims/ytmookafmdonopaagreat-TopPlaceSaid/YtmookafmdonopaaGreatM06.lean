/- word.Mask, LowOne, LowZero walked. -/
import Derived.Test.YtmookafmdonopaaGreatM05
import Derived.Test.YtmookafmdonopaaGreatM04
/- word.Mask, LowOne, LowZero walked. -/
namespace Go.Proofs.YtmookafmdonopaaGreat.Top
open Go Go.RowKit
set_option linter.unusedVariables false
set_option linter.unusedSimpArgs false
attribute [local go_sem] max2_int min2_int max_two min_two max_three

theorem word_Mask_0 (i : Nat) (w : World) (hi : i < 64) :
 Calls Tryz.prog 108 #[.int .i64 i, .int .i64 0] w fun e w' => e = .returned (.int .u64 0) ∧ w' = w := by
 go_enter Tryz.func108, Tryz.ntmps108
 go_wp2
 go_ret
 exact ⟨rfl, rfl⟩
theorem mask_val (i n : Nat) (h : i + n ≤ 64) (h64 : n < 64) : IntKind.u64.wrap (IntKind.u64.wrap (IntKind.u64.wrap (2 ^ n) - 1) * 2 ^ i) = (wb (rng i n) : Int) := by
 have h1 : (2 : Int) ^ n = ((2 ^ n : Nat) : Int) := by rw [Int.natCast_pow]; rfl
 have h2 : (2 : Int) ^ i = ((2 ^ i : Nat) : Int) := by rw [Int.natCast_pow]; rfl
 have h3 : 2 ^ n ≤ 2 ^ 63 := Nat.pow_le_pow_right (by decide) (by omega)
 have h4 := Nat.two_pow_pos n
 have h5 : ((2 ^ n : Nat) : Int) - 1 = ((2 ^ n - 1 : Nat) : Int) := by omega
 rw [h1, h2, wu64 _ (by omega), h5, wu64 _ (by omega), ← Int.natCast_mul, mask_shl i n h]
 exact wu64 _ (wb_lt _)
theorem mask_hi (i : Nat) (hi : i < 64) : IntKind.u64.wrap (18446744073709551615 * 2 ^ i) = (wb (rng i 64) : Int) := by
 have h2 : (2 : Int) ^ i = ((2 ^ i : Nat) : Int) := by rw [Int.natCast_pow]; rfl
 have h1 : (2 ^ 64 - 1) * 2 ^ i % 18446744073709551616 = wb (rng i 64) := by
  refine wb_ext (Nat.mod_lt _ (by decide)) fun t ht => ?_
  rw [show (18446744073709551616 : Nat) = 2 ^ 64 from rfl, Nat.testBit_mod_two_pow, Nat.mul_comm, Nat.testBit_two_pow_mul, Nat.testBit_two_pow_sub_one]
  unfold rng
  by_cases h1 : i ≤ t
  · simp [h1, ht, show t - i < 64 by omega, show t < i + 64 by omega]
  · simp [h1]
 have h3 : IntKind.u64.wrap (((2 ^ 64 - 1) * 2 ^ i : Nat) : Int) = (((2 ^ 64 - 1) * 2 ^ i % 18446744073709551616 : Nat) : Int) := by
  unfold IntKind.wrap
  simp only [IntKind.bits, IntKind.signed]
  rfl
 rw [h1] at h3
 rw [h2, ← h3, Int.natCast_mul]
 rfl
theorem word_Mask (i n : Nat) (w : World) (hi : i < 64) (hn : 1 ≤ n) (h : i + n ≤ 64) :
 Calls Tryz.prog 108 #[.int .i64 i, .int .i64 n] w fun e w' => e = .returned (.int .u64 (wb (rng i n) : Int)) ∧ w' = w := by
 by_cases h64 : n < 64
 · go_enter Tryz.func108, Tryz.ntmps108
   go_wp2
   go_ret
   exact ⟨ret_int (mask_val i n h h64), rfl⟩
 · obtain rfl : n = 64 := by omega
   obtain rfl : i = 0 := by omega
   go_enter Tryz.func108, Tryz.ntmps108
   go_wp2
   go_ret
   exact ⟨ret_int (mask_hi 0 hi), rfl⟩
theorem word_Mask_64 (i : Nat) (w : World) (hi : i < 64) :
 Calls Tryz.prog 108 #[.int .i64 i, .int .i64 64] w fun e w' => e = .returned (.int .u64 (wb (rng i 64) : Int)) ∧ w' = w := by
 go_enter Tryz.func108, Tryz.ntmps108
 go_wp2
 go_ret
 exact ⟨ret_int (mask_hi i hi), rfl⟩
/-- one step of the search: h bits are looked at -/
theorem low_and (u h : Nat) (hu : u < 18446744073709551616) (hh : h < 64) : Go.bits .and .u64 (u : Int) ((2 ^ h - 1 : Nat) : Int) = ((u % 2 ^ h : Nat) : Int) := by
 have h1 : 2 ^ h ≤ 2 ^ 63 := Nat.pow_le_pow_right (by decide) (by omega)
 rw [(u64_nat u (2 ^ h - 1) hu (by omega)).1, Nat.and_two_pow_sub_one_eq_mod]
theorem word_LowOne_0 (w : World) : Calls Tryz.prog 135 #[.int .u64 0] w fun e w' => e = .returned (.int .i64 64) ∧ w' = w := by
 go_enter Tryz.func135, Tryz.ntmps135
 go_wp2
 go_ret
 exact ⟨rfl, rfl⟩
/-- where the search stands -/
def LowAt (u0 h n : Nat) (u e : Nat) : Prop := u = u0 / 2 ^ n ∧ n + e ≤ 64 ∧ (∀ t, t < n → u0.testBit t = false) ∧ u % 2 ^ e ≠ 0
theorem LowAt.yes {u0 n u h : Nat} (H : LowAt u0 h n u (h + h)) (hz : u % 2 ^ h = 0) : LowAt u0 h (n + h) (u / 2 ^ h) h := by
 obtain ⟨h1, h2, h3, h4⟩ := H
 refine ⟨by rw [h1, Nat.div_div_eq_div_mul, ← Nat.pow_add], by omega, fun t ht => ?_, fun hc => h4 ?_⟩
 · rcases Nat.lt_or_ge t n with h5 | h5
   · exact h3 t h5
   · have h6 : u.testBit (t - n) = false := by
      have h7 : (u % 2 ^ h).testBit (t - n) = false := by rw [hz]; simp
      rw [Nat.testBit_mod_two_pow, decide_eq_true (show t - n < h by omega), Bool.true_and] at h7
      exact h7
     rw [h1, ← Nat.shiftRight_eq_div_pow, Nat.testBit_shiftRight] at h6
     rw [show n + (t - n) = t by omega] at h6
     exact h6
 · have h5 := Nat.div_add_mod u (2 ^ h)
   have h6 := Nat.div_add_mod (u / 2 ^ h) (2 ^ h)
   rw [hc, Nat.add_zero] at h6
   rw [hz, Nat.add_zero, ← h6, ← Nat.mul_assoc, ← Nat.pow_add] at h5
   rw [← h5]
   exact Nat.mul_mod_right _ _
theorem LowAt.no {u0 n u h : Nat} (H : LowAt u0 h n u (h + h)) (hz : ¬ u % 2 ^ h = 0) : LowAt u0 h n u h := by
 obtain ⟨h1, h2, h3, h4⟩ := H
 exact ⟨h1, by omega, h3, hz⟩
theorem LowAt.done {u0 n u : Nat} {f : Nat → Bool} (h0 : u0 = wb f) (H : LowAt u0 0 n u 1) : low f = n := by
 obtain ⟨h1, h2, h3, h4⟩ := H
 subst h0
 refine low_eq (by omega) (fun s hs => by rw [← wb_bit f s (by omega)]; exact h3 s hs) (fun _ => ?_)
 have h5 : u.testBit 0 = true := by rw [Nat.testBit_zero]; simp; omega
 rw [h1, ← Nat.shiftRight_eq_div_pow, Nat.testBit_shiftRight, Nat.add_zero, wb_bit f n (by omega)] at h5
 exact h5
set_option maxHeartbeats 1000000 in
theorem word_LowOne_1 (f : Nat → Bool) (w : World) (h0 : wb f ≠ 0) :
 Calls Tryz.prog 135 #[.int .u64 (wb f : Int)] w fun e w' => e = .returned (.int .i64 (low f : Int)) ∧ w' = w := by
 have hl := wb_lt f
 obtain ⟨u0, hu0⟩ : ∃ u, u = wb f := ⟨_, rfl⟩
 have HF := As.mk hu0
 rw [← hu0] at h0 hl ⊢
 have HS := As.mk (show LowAt u0 0 0 u0 64 from ⟨by simp, by omega, fun t ht => by omega, by rw [Nat.mod_eq_of_lt hl]; exact h0⟩)
 have hz := beqF (show ¬ (u0 : Int) = 0 by omega)
 clear hu0
 go_enter Tryz.func135, Tryz.ntmps135
 go_wp2
 go_loop [0, 2, 3] (fun a b c => ∃ j u n : Nat, j ≤ 6 ∧ a = .int .u64 (u : Int) ∧ b = .int .i64 (n : Int) ∧ c = .int .u64 ((32 / 2 ^ j : Nat) : Int) ∧ u < 18446744073709551616 ∧ LowAt u0 0 n u (64 / 2 ^ j)) (fun _ _ c => (intOf c).toNat)
 case atStart => exact ⟨0, u0, 0, by omega, rfl, rfl, rfl, hl, HS.out⟩
 case round =>
  clear HS hz
  obtain ⟨j, u, n, hj, rfl, rfl, rfl, hu, H⟩ := hrel
  match j, hj, H with
  | 0, _, H =>
   replace H : LowAt u0 0 n u (32 + 32) := H
   have hA : Go.bits .and .u64 (u : Int) 4294967295 = ((u % 4294967296 : Nat) : Int) := low_and u 32 hu (by decide)
   have hd : (u : Int) / 4294967296 = ((u / 4294967296 : Nat) : Int) := rfl
   have hq := Nat.div_le_self u 4294967296
   have HY := As.mk (fun hz => H.yes (h := 32) hz)
   have HN := As.mk (fun hz => H.no (h := 32) hz)
   have hn : n ≤ 64 := by have := H.2.1; omega
   obtain ⟨q, hqq⟩ : ∃ q, q = u / 4294967296 := ⟨_, rfl⟩
   obtain ⟨r, hr⟩ : ∃ r, r = u % 4294967296 := ⟨_, rfl⟩
   have HQ := As.mk hqq
   have HR := As.mk hr
   rw [← hr] at hA
   rw [← hqq] at hd hq
   clear H hqq hr
   by_cases hz : r = 0
   · subst hz
     go_wp2
     go_round
     case rel => exact ⟨1, q, n + 32, by omega, rfl, by go_num, rfl, by omega, by rw [HQ.out]; exact HY.out HR.out.symm⟩
     case measure => simp [intOf]
   · have hz2 := beqF (show ¬ (r : Int) = 0 by omega)
     go_wp2
     go_round
     case rel => exact ⟨1, u, n, by omega, rfl, rfl, rfl, hu, HN.out (by rw [← HR.out]; exact hz)⟩
     case measure => simp [intOf]
  | 1, _, H =>
   replace H : LowAt u0 0 n u (16 + 16) := H
   have hA : Go.bits .and .u64 (u : Int) 65535 = ((u % 65536 : Nat) : Int) := low_and u 16 hu (by decide)
   have hd : (u : Int) / 65536 = ((u / 65536 : Nat) : Int) := rfl
   have hq := Nat.div_le_self u 65536
   have HY := As.mk (fun hz => H.yes (h := 16) hz)
   have HN := As.mk (fun hz => H.no (h := 16) hz)
   have hn : n ≤ 64 := by have := H.2.1; omega
   obtain ⟨q, hqq⟩ : ∃ q, q = u / 65536 := ⟨_, rfl⟩
   obtain ⟨r, hr⟩ : ∃ r, r = u % 65536 := ⟨_, rfl⟩
   have HQ := As.mk hqq
   have HR := As.mk hr
   rw [← hr] at hA
   rw [← hqq] at hd hq
   clear H hqq hr
   by_cases hz : r = 0
   · subst hz
     go_wp2
     go_round
     case rel => exact ⟨2, q, n + 16, by omega, rfl, by go_num, rfl, by omega, by rw [HQ.out]; exact HY.out HR.out.symm⟩
     case measure => simp [intOf]
   · have hz2 := beqF (show ¬ (r : Int) = 0 by omega)
     go_wp2
     go_round
     case rel => exact ⟨2, u, n, by omega, rfl, rfl, rfl, hu, HN.out (by rw [← HR.out]; exact hz)⟩
     case measure => simp [intOf]
  | 2, _, H =>
   replace H : LowAt u0 0 n u (8 + 8) := H
   have hA : Go.bits .and .u64 (u : Int) 255 = ((u % 256 : Nat) : Int) := low_and u 8 hu (by decide)
   have hd : (u : Int) / 256 = ((u / 256 : Nat) : Int) := rfl
   have hq := Nat.div_le_self u 256
   have HY := As.mk (fun hz => H.yes (h := 8) hz)
   have HN := As.mk (fun hz => H.no (h := 8) hz)
   have hn : n ≤ 64 := by have := H.2.1; omega
   obtain ⟨q, hqq⟩ : ∃ q, q = u / 256 := ⟨_, rfl⟩
   obtain ⟨r, hr⟩ : ∃ r, r = u % 256 := ⟨_, rfl⟩
   have HQ := As.mk hqq
   have HR := As.mk hr
   rw [← hr] at hA
   rw [← hqq] at hd hq
   clear H hqq hr
   by_cases hz : r = 0
   · subst hz
     go_wp2
     go_round
     case rel => exact ⟨3, q, n + 8, by omega, rfl, by go_num, rfl, by omega, by rw [HQ.out]; exact HY.out HR.out.symm⟩
     case measure => simp [intOf]
   · have hz2 := beqF (show ¬ (r : Int) = 0 by omega)
     go_wp2
     go_round
     case rel => exact ⟨3, u, n, by omega, rfl, rfl, rfl, hu, HN.out (by rw [← HR.out]; exact hz)⟩
     case measure => simp [intOf]
  | 3, _, H =>
   replace H : LowAt u0 0 n u (4 + 4) := H
   have hA : Go.bits .and .u64 (u : Int) 15 = ((u % 16 : Nat) : Int) := low_and u 4 hu (by decide)
   have hd : (u : Int) / 16 = ((u / 16 : Nat) : Int) := rfl
   have hq := Nat.div_le_self u 16
   have HY := As.mk (fun hz => H.yes (h := 4) hz)
   have HN := As.mk (fun hz => H.no (h := 4) hz)
   have hn : n ≤ 64 := by have := H.2.1; omega
   obtain ⟨q, hqq⟩ : ∃ q, q = u / 16 := ⟨_, rfl⟩
   obtain ⟨r, hr⟩ : ∃ r, r = u % 16 := ⟨_, rfl⟩
   have HQ := As.mk hqq
   have HR := As.mk hr
   rw [← hr] at hA
   rw [← hqq] at hd hq
   clear H hqq hr
   by_cases hz : r = 0
   · subst hz
     go_wp2
     go_round
     case rel => exact ⟨4, q, n + 4, by omega, rfl, by go_num, rfl, by omega, by rw [HQ.out]; exact HY.out HR.out.symm⟩
     case measure => simp [intOf]
   · have hz2 := beqF (show ¬ (r : Int) = 0 by omega)
     go_wp2
     go_round
     case rel => exact ⟨4, u, n, by omega, rfl, rfl, rfl, hu, HN.out (by rw [← HR.out]; exact hz)⟩
     case measure => simp [intOf]
  | 4, _, H =>
   replace H : LowAt u0 0 n u (2 + 2) := H
   have hA : Go.bits .and .u64 (u : Int) 3 = ((u % 4 : Nat) : Int) := low_and u 2 hu (by decide)
   have hd : (u : Int) / 4 = ((u / 4 : Nat) : Int) := rfl
   have hq := Nat.div_le_self u 4
   have HY := As.mk (fun hz => H.yes (h := 2) hz)
   have HN := As.mk (fun hz => H.no (h := 2) hz)
   have hn : n ≤ 64 := by have := H.2.1; omega
   obtain ⟨q, hqq⟩ : ∃ q, q = u / 4 := ⟨_, rfl⟩
   obtain ⟨r, hr⟩ : ∃ r, r = u % 4 := ⟨_, rfl⟩
   have HQ := As.mk hqq
   have HR := As.mk hr
   rw [← hr] at hA
   rw [← hqq] at hd hq
   clear H hqq hr
   by_cases hz : r = 0
   · subst hz
     go_wp2
     go_round
     case rel => exact ⟨5, q, n + 2, by omega, rfl, by go_num, rfl, by omega, by rw [HQ.out]; exact HY.out HR.out.symm⟩
     case measure => simp [intOf]
   · have hz2 := beqF (show ¬ (r : Int) = 0 by omega)
     go_wp2
     go_round
     case rel => exact ⟨5, u, n, by omega, rfl, rfl, rfl, hu, HN.out (by rw [← HR.out]; exact hz)⟩
     case measure => simp [intOf]
  | 5, _, H =>
   replace H : LowAt u0 0 n u (1 + 1) := H
   have hA : Go.bits .and .u64 (u : Int) 1 = ((u % 2 : Nat) : Int) := low_and u 1 hu (by decide)
   have hd : (u : Int) / 2 = ((u / 2 : Nat) : Int) := rfl
   have hq := Nat.div_le_self u 2
   have HY := As.mk (fun hz => H.yes (h := 1) hz)
   have HN := As.mk (fun hz => H.no (h := 1) hz)
   have hn : n ≤ 64 := by have := H.2.1; omega
   obtain ⟨q, hqq⟩ : ∃ q, q = u / 2 := ⟨_, rfl⟩
   obtain ⟨r, hr⟩ : ∃ r, r = u % 2 := ⟨_, rfl⟩
   have HQ := As.mk hqq
   have HR := As.mk hr
   rw [← hr] at hA
   rw [← hqq] at hd hq
   clear H hqq hr
   by_cases hz : r = 0
   · subst hz
     go_wp2
     go_round
     case rel => exact ⟨6, q, n + 1, by omega, rfl, by go_num, rfl, by omega, by rw [HQ.out]; exact HY.out HR.out.symm⟩
     case measure => simp [intOf]
   · have hz2 := beqF (show ¬ (r : Int) = 0 by omega)
     go_wp2
     go_round
     case rel => exact ⟨6, u, n, by omega, rfl, rfl, rfl, hu, HN.out (by rw [← HR.out]; exact hz)⟩
     case measure => simp [intOf]
  | 6, _, H =>
   have HD := As.mk (LowAt.done HF.out H)
   clear H
   go_wp2
   go_ret
   exact ⟨by rw [HD.out]; rfl, rfl⟩
theorem wb_zero {f : Nat → Bool} (h : wb f = 0) : low f = 64 :=
 low_eq (Nat.le_refl _) (fun s hs => by rw [← wb_bit f s hs, h]; simp) (fun h => absurd h (by decide))
theorem word_LowOne (f : Nat → Bool) (w : World) : Calls Tryz.prog 135 #[.int .u64 (wb f : Int)] w fun e w' => e = .returned (.int .i64 (low f : Int)) ∧ w' = w := by
 by_cases h : wb f = 0
 · rw [h, wb_zero h]; exact word_LowOne_0 w
 · exact word_LowOne_1 f w h
theorem word_LowZero (f : Nat → Bool) (w : World) : Calls Tryz.prog 129 #[.int .u64 (wb f : Int)] w fun e w' => e = .returned (.int .i64 (low (fun t => !f t) : Int)) ∧ w' = w := by
 have hn := u64_not f
 replace hn : Go.bits .xor .u64 IntKind.u64.max (wb f : Int) = (wb (fun t => !f t) : Int) := hn
 have hs : IntKind.u64.signed = false := rfl
 have HL := As.mk (fun w => word_LowOne (fun t => !f t) w)
 obtain ⟨u, hu⟩ : ∃ u, u = wb (fun t => !f t) := ⟨_, rfl⟩
 rw [← hu] at hn HL
 clear hu
 go_enter Tryz.func129, Tryz.ntmps129
 go_wp2_with (first | (go_at_call 135; (with_reducible refine (HL.out _).mono ?_); rintro e w3 ⟨rfl, rfl⟩))
 go_ret
 exact ⟨rfl, rfl⟩
end Go.Proofs.YtmookafmdonopaaGreat.Top
/- Trees of bits: what they are (bits, words, a sum); tree.level, tree.New walked. -/
namespace Go.Proofs.YtmookafmdonopaaGreat.Top
open Go Go.RowKit
set_option linter.unusedVariables false
set_option linter.unusedSimpArgs false
attribute [local go_sem] max2_int min2_int max_two min_two max_three

section
variable {P : Program} {ops : Array Oper} {rest : List Oper} {o : Oper} {a : Act} {Q : Exit → Act → World → Prop} {X : List Nat} {L : List (Nat × (Obj → Prop))} {R : World → Prop} {w0 w : World}
/-- 'make([]T, n)', T of one cell. Behind 'at_make'. -/
theorem go_make (hg : o.guard = none) (l c : Operand) (t e : TypeId) (z : Value) (bytes : Nat) (hop : o.op = Op.makeSlice t l c)
 (ht : P.underlying t = some (.slice e)) (hinfo : (P.info? e).map (fun i => (i.zero, i.size, i.bytes)) = some (some z, 1, bytes)) (hz : z.cells = #[z])
 (kl kc : IntKind) (A C : Int) (n : Nat) (hl : a.eval l = .int kl A) (hc : a.eval c = .int kc C) (hA : A = (n : Int)) (hC : C = (n : Int)) (hb : bytes * n ≤ 281474976710656) (hm : n ≤ maxLen)
 (H : Own X L R w0 w)
 (h : ∀ w1, Own X ((w.heap.size, EC e (List.replicate n z)) :: L) R w0 w1 → Below w.heap.size w w1 → wpList P ops Q rest (a.put o.dst (.slice (some ⟨w.heap.size, 0, none⟩) n n)) w1) :
 wpList P ops Q (o :: rest) a w := by
 obtain ⟨i0, hi, hzz⟩ := Option.map_eq_some_iff.1 hinfo
 simp only [Prod.mk.injEq] at hzz
 obtain ⟨hz0, hz1, hz2⟩ := hzz
 refine wpList_make_full w hg l c t hop w.heap.size e i0 z 1 ht hi hz0 hz1 kl kc A C n hl hc hA hC (by rw [hz2]; exact hb) hm (Nat.le_refl _) ?_
 intro w1 ho hgr
 have hb1 := grown_none hgr
 rw [hz, Nat.mul_one, toList_madeCells_one] at ho
 rcases ho.2 with ⟨h1, _⟩ | ⟨g, cap, cur, h1, hg1, hx, a1, a2, a3, a4⟩
 · simp at h1
 · injection h1 with h2 h3 h4
   injection h2 with h2
   injection h2 with h2 _ _
   subst h2
   exact h w1 (H.add hb1 (Nat.le_refl _) hx ⟨cur, cur.toList.drop (n * 1), rfl, by rw [← a4, List.take_append_drop]⟩) hb1
end
def fullW : Nat := 18446744073709551615
def nW (size : Nat) : Nat := (size - 1) / 64 + 1
/-- word j -/
def twF (size : Nat) (b : Nat → Bool) (j : Nat) : Nat → Bool := fun t => decide (size ≤ j * 64 + t) || b (j * 64 + t)
def tw (size : Nat) (b : Nat → Bool) (j : Nat) : Nat := wb (twF size b j)
def lv0 (size : Nat) (b : Nat → Bool) : List Nat := (List.range (nW size)).map (tw size b)
/-- which words are full -/
def swF (size : Nat) (b : Nat → Bool) : Nat → Bool := fun j => decide (nW size ≤ j) || decide (tw size b j = fullW)
def lvs (size : Nat) (b : Nat → Bool) : List (List Nat) := if size ≤ 64 then [lv0 size b] else [lv0 size b, [wb (swF size b)]]
def wordsV (l : List Nat) : List Value := l.map fun (u : Nat) => Value.int .u64 (u : Int)
/-- A tree's levels, read. -/
def Lev (w : World) (v : Value) (lv : List (List Nat)) : Prop :=
 ∃ hs : List Value, hs.length = lv.length ∧ Row w v lv.length hs ∧ ∀ (j : Nat) (h : Value) (l : List Nat), hs[j]? = some h → lv[j]? = some l → Row w h l.length (wordsV l)
def LevF (base : Nat) (w : World) (v : Value) (lv : List (List Nat)) : Prop := ∀ W : World, (∀ k, base ≤ k → k < w.heap.size → W.heap[k]? = w.heap[k]?) → Lev W v lv
theorem lv0_len (size : Nat) (b : Nat → Bool) : (lv0 size b).length = nW size := by simp [lv0]
theorem lv0_at (size : Nat) (b : Nat → Bool) (j : Nat) (h : j < nW size) : (lv0 size b)[j]? = some (tw size b j) := by
 unfold lv0; rw [List.getElem?_map, List.getElem?_range h]; rfl
theorem lv0_new (size : Nat) (h : 1 ≤ size) : wordsV (lv0 size fun _ => false) = if size % 64 = 0 then List.replicate (nW size) (.int .u64 0) else (List.replicate (nW size) (.int .u64 0)).set (nW size - 1) (.int .u64 (wb (rng (size % 64) 64) : Int)) := by
 apply List.ext_getElem?
 intro j
 have hn : nW size = (size - 1) / 64 + 1 := rfl
 rcases Nat.lt_or_ge j (nW size) with hj | hj
 · have h1 : (wordsV (lv0 size fun _ => false))[j]? = some (.int .u64 (tw size (fun _ => false) j : Int)) := by
    unfold wordsV; rw [List.getElem?_map, lv0_at size _ j hj]; rfl
   rw [h1]
   by_cases hm : size % 64 = 0
   · rw [if_pos hm, List.getElem?_replicate, if_pos hj]
     have : tw size (fun _ => false) j = 0 := by
      symm
      refine wb_ext (by decide) fun t ht => ?_
      simp [twF]
      omega
     rw [this]
     rfl
   · rw [if_neg hm, List.getElem?_set]
     by_cases e : nW size - 1 = j
     · rw [if_pos e, if_pos (by simp; omega)]
       have : tw size (fun _ => false) j = wb (rng (size % 64) 64) := by
        refine wb_congr fun t ht => ?_
        simp only [twF, rng, Bool.or_false]
        have h3 : (t < size % 64 + 64) := by omega
        simp only [h3, decide_true, Bool.and_true]
        congr 1
        simp only [eq_iff_iff]
        omega
       rw [this]
     · rw [if_neg e, List.getElem?_replicate, if_pos hj]
       have : tw size (fun _ => false) j = 0 := by
        symm
        refine wb_ext (by decide) fun t ht => ?_
        simp [twF]
        omega
       rw [this]
       rfl
 · rw [List.getElem?_eq_none (by simp [wordsV, lv0_len]; omega)]
   split
   · rw [List.getElem?_eq_none (by simp; omega)]
   · rw [List.getElem?_eq_none (by simp; omega)]
theorem tree_level (size : Nat) (w : World) (h1 : 1 ≤ size) (h2 : size ≤ 65536) :
 Calls Tryz.prog 94 #[.int .i64 size] w fun e w' => ∃ v, e = .returned v ∧ Fr w.heap.size w' 149 v (nW size) (wordsV (lv0 size fun _ => false)) ∧ Below w.heap.size w w' := by
 have HN := As.mk (lv0_new size h1)
 have e1 : (size : Int) - 1 = ((size - 1 : Nat) : Int) := by omega
 have e2 : ((size - 1 : Nat) : Int) / 64 = (((size - 1) / 64 : Nat) : Int) := rfl
 have hn : nW size = (size - 1) / 64 + 1 := rfl
 have e3 : (((size - 1) / 64 : Nat) : Int) + 1 = (nW size : Int) := by rw [hn]; rfl
 have e4 : Int.tmod (size : Int) 64 = ((size % 64 : Nat) : Int) := rfl
 have e5 : (size : Int) % 64 = ((size % 64 : Nat) : Int) := rfl
 have hr : size % 64 < 64 := Nat.mod_lt _ (by decide)
 have hnb : nW size ≤ 1024 := by omega
 have hn1 : 1 ≤ nW size := by omega
 obtain ⟨n, hnn⟩ : ∃ n, n = nW size := ⟨_, rfl⟩
 obtain ⟨r, hrr⟩ : ∃ r, r = size % 64 := ⟨_, rfl⟩
 obtain ⟨s1, hs1⟩ : ∃ r, r = size - 1 := ⟨_, rfl⟩
 obtain ⟨q, hq⟩ : ∃ r, r = (size - 1) / 64 := ⟨_, rfl⟩
 rw [← hnn] at HN e3 hnb hn1 ⊢
 rw [← hrr] at HN e4 e5 hr
 rw [← hq] at e3
 rw [← hq, ← hs1] at e2
 rw [← hs1] at e1
 have hs1b : s1 ≤ 65536 := by omega
 have hqb : q ≤ 65536 := by omega
 clear hn hnn hrr hs1 hq
 have HS := As.mk (Own.start (X := []) w)
 by_cases hr0 : r = 0
 · subst hr0
   go_enter Tryz.func94, Tryz.ntmps94
   go_wp2_with (first | (at_make; refine go_make rfl _ _ 150 149 (.int .u64 0) 8 rfl Tryz.underlying150 info149 rfl _ _ _ _ n rfl rfl (by first | rfl | omega) (by first | rfl | omega) (by omega) (by simp only [maxLen]; omega) HS.out ?_; intro w1 ho hb; have HO := As.mk ho; clear ho hb))
   go_ret
   have h9 := HN.out
   first | rw [if_pos rfl] at h9 | rw [if_pos trivial] at h9
   exact ⟨_, rfl, by rw [h9]; exact HO.out.fr List.mem_cons_self (Nat.le_refl _), HO.out.toBelow⟩
 · have hr1 : ¬ (r : Int) = 0 := by omega
   have e6 : (n : Int) - 1 = ((n - 1 : Nat) : Int) := by omega
   obtain ⟨n1, hn1e⟩ : ∃ n1, n1 = n - 1 := ⟨_, rfl⟩
   rw [← hn1e] at e6 HN
   have hlt : (n1 : Int) < (n : Int) := by omega
   have HL := As.mk (show n1 < (List.replicate n (Value.int .u64 0)).length by simp; omega)
   clear hn1e
   have HM := As.mk (fun w => word_Mask_64 r w hr)
   go_enter Tryz.func94, Tryz.ntmps94
   go_wp2_with (first | (at_make; refine go_make rfl _ _ 150 149 (.int .u64 0) 8 rfl Tryz.underlying150 info149 rfl _ _ _ _ n rfl rfl (by first | rfl | omega) (by first | rfl | omega) (by omega) (by simp only [maxLen]; omega) HS.out ?_; intro w1 ho hb; have HO := As.mk ho; have z1 := ho.get List.mem_cons_self n1 HL.out; rw [List.getElem?_eq_getElem HL.out] at z1; have z2 := ho.frozen (o := n1) List.mem_cons_self; clear ho hb) | (go_at_call 108; (with_reducible refine (HM.out _).mono ?_); rintro e w3 ⟨rfl, rfl⟩))
   go_ret
   have h9 := HN.out
   rw [if_neg hr0] at h9
   have h8 := HO.out.set 0 rfl n1 (.int .u64 (wb (rng r 64) : Int)) HL.out
   exact ⟨_, rfl, by rw [h9]; exact h8.fr List.mem_cons_self (Nat.le_refl _), h8.toBelow⟩
end Go.Proofs.YtmookafmdonopaaGreat.Top
/- tree.New walked. -/
namespace Go.Proofs.YtmookafmdonopaaGreat.Top
open Go Go.RowKit
set_option linter.unusedVariables false
set_option linter.unusedSimpArgs false
attribute [local go_sem] max2_int min2_int max_two min_two max_three

def noB : Nat → Bool := fun _ => false
def lvsA (size : Nat) : List (List Nat) := [lv0 size noB, lv0 (nW size) noB]
theorem tw_new_not_full (size j : Nat) (h : j < nW size) (h1 : 1 ≤ size) : ¬ tw size noB j = fullW := by
 intro e
 have h2 : wb (twF size noB j) = wb (fun _ => true) := by rw [wb_full]; exact e
 have h3 := wb_inj h2 0 (by decide)
 unfold nW at h
 simp [twF, noB] at h3
 omega
theorem lvsA_2 (size : Nat) (h1 : 64 < size) (h2 : size ≤ 4096) : lvs size noB = lvsA size := by
 unfold lvs lvsA
 rw [if_neg (by omega)]
 have hn : nW size = (size - 1) / 64 + 1 := rfl
 have h3 : nW (nW size) = 1 := by
  show (nW size - 1) / 64 + 1 = 1
  omega
 have h4 : lv0 (nW size) noB = [tw (nW size) noB 0] := by unfold lv0; rw [h3]; rfl
 rw [h4]
 congr 3
 refine wb_congr fun t ht => ?_
 unfold swF twF
 rcases Nat.lt_or_ge t (nW size) with h5 | h5
 · simp [tw_new_not_full size t h5 (by omega), noB]
 · simp [noB, h5]
theorem lvsA_1 (size : Nat) (h1 : size ≤ 64) : lvs size noB = [lv0 size noB] := by unfold lvs; rw [if_pos h1]
/-- what the levels' heads lead to -/
def RkL (lv : List (List Nat)) (k : Nat) (hs : List Value) (W : World) : Prop := hs.length = k ∧ ∀ (j : Nat) (h : Value) (l : List Nat), hs[j]? = some h → lv[j]? = some l → Row W h l.length (wordsV l)
theorem RkL.snoc {lv : List (List Nat)} {k : Nat} {hs : List Value} {W : World} {v : Value} {l : List Nat} (h : RkL lv k hs W) (hl : lv[k]? = some l) (hv : Row W v l.length (wordsV l)) : RkL lv (k + 1) (hs ++ [v]) W := by
 obtain ⟨h1, h2⟩ := h
 refine ⟨by rw [List.length_append, h1]; rfl, fun j x y hj hy => ?_⟩
 rcases Nat.lt_or_ge j k with h3 | h3
 · rw [List.getElem?_append_left (by omega)] at hj
   exact h2 j x y hj hy
 · rw [List.getElem?_append_right (by omega)] at hj
   have e : j = k := by
    have := (List.getElem?_eq_some_iff.1 hj).1
    simp at this
    omega
   subst e
   rw [h1, Nat.sub_self] at hj
   simp at hj
   rw [hl] at hy
   injection hy with hy
   subst hy; subst hj
   exact hv
theorem OwnS.imp {X : List Nat} {L : List (Nat × (Obj → Prop))} {R R' : World → Prop} {w0 w : World} {e size n : Nat} {v : Value} {xs : List Value} (h : OwnS X L R w0 w e size v n xs) (hr : ∀ W, R W → R' W) : OwnS X L R' w0 w e size v n xs :=
 ⟨h.1, h.2.imp (fun h => ⟨h.1, h.2.1, h.2.2.imp hr⟩) (fun ⟨g, cap, h1, h2, h3⟩ => ⟨g, cap, h1, h2, h3.imp hr⟩)⟩
theorem OwnS.result {X : List Nat} {L : List (Nat × (Obj → Prop))} {R R' : World → Prop} {w0 w w1 : World} {e size n : Nat} {v : Value} {xs : List Value} (h : OwnS X L R w0 w e size v n xs) (hb : Below w.heap.size w w1) (hr : ∀ W : World, (∀ k, w.heap.size ≤ k → k < w1.heap.size → W.heap[k]? = w1.heap[k]?) → R' W) : OwnS X L (fun W => R W ∧ R' W) w0 w1 e size v n xs :=
 ⟨h.1, h.2.imp (fun h => ⟨h.1, h.2.1, h.2.2.result hb hr⟩) (fun ⟨g, cap, h1, h2, h3⟩ => ⟨g, cap, h1, h2, h3.result hb hr⟩)⟩
theorem OwnS.drew {X : List Nat} {L : List (Nat × (Obj → Prop))} {R : World → Prop} {w0 w : World} {e size n : Nat} {v : Value} {xs : List Value} (h : OwnS X L R w0 w e size v n xs) : OwnS X L R w0 w.drew e size v n xs := h.drewN 1
theorem OwnS.slice {X : List Nat} {L : List (Nat × (Obj → Prop))} {R : World → Prop} {w0 w : World} {e size n : Nat} {v : Value} {xs : List Value} (h : OwnS X L R w0 w e size v n xs) : ∃ A c, v = .slice A n c := by
 rcases h.2 with ⟨rfl, rfl, _⟩ | ⟨g, cap, rfl, _⟩
 · exact ⟨_, _, rfl⟩
 · exact ⟨_, _, rfl⟩
theorem Fr.slice {base : Nat} {w : World} {e n : Nat} {v : Value} {cs : List Value} (h : Fr base w e v n cs) : ∃ A c, v = .slice A n c := by
 rcases h with ⟨rfl, _, A, c, rfl⟩ | ⟨g, cap, x, rfl, _⟩
 · exact ⟨_, _, rfl⟩
 · exact ⟨_, _, rfl⟩
theorem Fr.one {base : Nat} {w : World} {e n : Nat} {v : Value} {cs : List Value} (h : Fr base w e v n cs) : v.oneCell' = true := by
 rcases h with ⟨_, _, A, c, rfl⟩ | ⟨g, cap, x, rfl, _⟩ <;> rfl
/-- The levels of a new tree, told. -/
theorem OwnS.lev {X : List Nat} {L : List (Nat × (Obj → Prop))} {w0 w : World} {v : Value} {lv : List (List Nat)} {hs : List Value} {n : Nat} (h : OwnS X L (RkL lv n hs) w0 w 150 1 v n hs) (hn : lv.length = n) : LevF w0.heap.size w v lv := by
 intro W hW
 have h1 := h.fr.row hW
 have h2 : RkL lv n hs W := by
  rcases h.2 with ⟨_, _, h3⟩ | ⟨g, cap, _, _, h3⟩
  · exact h3.ro W fun k hk h0 _ => hW k h0 hk
  · exact h3.ro W fun k hk h0 _ => hW k h0 hk
 exact ⟨hs, by rw [h2.1, hn], by rw [hn]; exact h1, h2.2⟩
set_option maxHeartbeats 1000000 in
theorem tree_New (size : Nat) (w : World) (h1 : 1 ≤ size) (h2 : size ≤ 4096) :
 Calls Tryz.prog 77 #[.int .i64 size] w fun e w' => ∃ v, e = .returned (.agg #[.int .i64 size, v]) ∧ LevF w.heap.size w' v (lvs size noB) ∧ Below w.heap.size w w' := by
 have hs0 : OwnS [] [(w.heap.size, EC 132 [.int .i64 size, .slice none 0 0])] (RkL (lvsA size) 0 []) w (w.alloc (.cells #[.int .i64 size, .slice none 0 0] 132)) 150 1 (.slice none 0 0) 0 [] :=
  OwnS.nil (((Own.start (X := []) w).imp (R' := RkL (lvsA size) 0 []) (fun W _ => ⟨rfl, fun j h l hj => by simp at hj⟩)).box #[.int .i64 size, .slice none 0 0] 132) 150 1
 have HS := As.mk hs0
 clear hs0
 go_enter Tryz.func77, Tryz.ntmps77
 go_wp2
 go_loopw [3] (fun x wr => ∃ (k : Nat) (hv : Value) (hs : List Value), k ≤ 1 ∧ (k = 1 → 64 < size) ∧ x = .int .i64 ((if k = 0 then size else nW size : Nat) : Int) ∧ OwnS [] [(w.heap.size, EC 132 [.int .i64 size, hv])] (RkL (lvsA size) k hs) w wr 150 1 hv k hs) (fun x _ => (intOf x).toNat)
 case atStart => exact ⟨0, _, [], by omega, by omega, rfl, HS.out⟩
 case round =>
  clear HS
  obtain ⟨k, hv, hs, hk, hk1, rfl, ho⟩ := hrel
  have HO := As.mk ho
  obtain ⟨n, hn⟩ : ∃ n, n = if k = 0 then size else nW size := ⟨_, rfl⟩
  have HN := As.mk hn
  have hwn : nW size = (size - 1) / 64 + 1 := rfl
  have hn1 : 1 ≤ n := by rw [hn]; split <;> omega
  have hn2 : n ≤ 4096 := by rw [hn]; split <;> omega
  have hn64 : 64 < n → k = 0 := by
   intro h
   rw [hn] at h
   split at h
   · assumption
   · omega
  have hlA : (lvsA size)[k]? = some (lv0 n noB) := by
   rw [hn]
   rcases (show k = 0 ∨ k = 1 by omega) with rfl | rfl <;> rfl
  rw [← hn]
  have HLA := As.mk hlA
  have H64 := As.mk hn64
  have HK1 := As.mk hk1
  have z0 := ho.rest.get List.mem_cons_self 0 (by simp)
  have z1 := ho.rest.get List.mem_cons_self 1 (by simp)
  have Z1 := As.mk z1
  clear ho hn hlA hn64 hk1 hwn
  go_wp2
  refine rgn [(0, 1), (1, 0), (2, 1), (3, 2), (4, 2), (5, 2), (6, 1), (7, 3)] [7] (fun W => W.cell? ⟨w.heap.size, 1, none⟩ = some hv) (by kernel_rfl) (by kernel_rfl) (fun _ _ _ d _ h => by cases d <;> exact h) Z1.out ?_
  refine Run.pu (v := ?_) (a' := ?_) rfl rfl (Or.inl ⟨by rfl, ?_⟩) ?_ ?_; rotate_left 2; (focus (intro W; go_simp; with_reducible rfl)); (focus (simp only [Act.put, zq4, zq5, zq6]; rfl))
  refine Run.rd (v := ?_) (a' := ?_) rfl rfl (Or.inl ⟨by rfl, ?_⟩) ?_ ?_; rotate_left 2; (focus (intro W hW; go_simp; with_reducible rfl)); (focus (simp only [Act.put, zq4, zq5, zq6]; rfl))
  refine Run.pu (v := ?_) (a' := ?_) rfl rfl (Or.inl ⟨by rfl, ?_⟩) ?_ ?_; rotate_left 2; (focus (intro W; go_simp; with_reducible rfl)); (focus (simp only [Act.put, zq4, zq5, zq6]; rfl))
  refine Run.ef rfl (fun K hK => ?_)
  simp only [zq1, zq2, zq3]
  go_wp2_with fail
  refine (tree_level n _ hn1 (by omega)).mono ?_
  rintro e w1 ⟨v, rfl, hf, hb⟩
  obtain ⟨Av, cv, rfl⟩ := hf.slice
  have HO1 := As.mk (HO.out.drew.result (R' := fun W => Row W (.slice Av (nW n) cv) (nW n) (wordsV (lv0 n noB))) hb (fun W hW => hf.row hW))
  clear hf hb HO
  go_wp2
  refine hK.out _ _ (HO1.out.rest.get List.mem_cons_self 1 (by simp)) ?_
  clear hK K
  refine Run.ef rfl (fun K hK => ?_)
  simp only [zq1, zq2, zq3]
  go_wp2
  refine hK.out _ _ ((HO1.out.alloc _).rest.get List.mem_cons_self 1 (by simp)) ?_
  clear hK K
  refine Run.ef rfl (fun K hK => ?_)
  simp only [zq1, zq2, zq3]
  refine go_app w rfl _ _ 130 150 _ 1 24 rfl Tryz.underlying130 info150 rfl (by decide) hv k hs rfl ⟨w1.heap.size, 0, none⟩ 1 1 [.slice Av (nW n) cv] rfl (HO1.out.alloc _) rfl (news _) (by intro u hu; rw [List.mem_singleton.1 hu]; rfl) (by simp [maxLen]; omega) (by omega) ?_
  intro v1 w2 hw2
  obtain ⟨A1, cq, rfl⟩ := hw2.slice
  have HW := As.mk hw2
  clear hw2
  go_wp2
  refine hK.out _ _ (HW.out.rest.get List.mem_cons_self 1 (by simp)) ?_
  clear hK K
  refine Run.pu (v := ?_) (a' := ?_) rfl rfl (Or.inl ⟨by rfl, ?_⟩) ?_ ?_; rotate_left 2; (focus (intro W; go_simp; with_reducible rfl)); (focus (simp only [Act.put, zq4, zq5, zq6]; rfl))
  refine Run.la rfl (fun K hK => ?_)
  simp only [zq1, zq2, zq3]
  have z2 := HW.out.rest.get List.mem_cons_self 1 (by simp)
  have z3 := HW.out.rest.frozen (o := 1) List.mem_cons_self
  go_wp2
  refine hK.out _ _ ?_
  clear hK K z2 z3
  refine Run.nil ?_
  have h5 := HW.out.set 0 rfl 1 (.slice A1 (k + 1) cq) (by simp)
  have h6 : OwnS [] [(w.heap.size, EC 132 [.int .i64 size, (.slice A1 (k + 1) cq)])] (RkL (lvsA size) (k + 1) (hs ++ [.slice Av (nW n) cv])) w (w2.setCell ⟨w.heap.size, 1, none⟩ (.slice A1 (k + 1) cq)) 150 1 (.slice A1 (k + 1) cq) (k + 1) (hs ++ [.slice Av (nW n) cv]) := h5.imp fun W hW => hW.1.snoc HLA.out (by rw [lv0_len]; exact hW.2)
  generalize w2.setCell ⟨w.heap.size, 1, none⟩ (.slice A1 (k + 1) cq) = W3 at h6 ⊢
  have H6 := As.mk h6
  have y0 := h6.rest.get List.mem_cons_self 0 (by simp)
  have y1 := h6.rest.get List.mem_cons_self 1 (by simp)
  have y2 := h6.rest.frozen (o := 0) List.mem_cons_self
  have y3 := h6.rest.frozen (o := 1) List.mem_cons_self
  clear h5 h6 HW HO1 z0 z1 Z1
  by_cases c1 : n ≤ 64
  · go_wp2
    have H7 := (H6.out.set 0 rfl 0 (.int .i64 size) (by simp)).set 0 rfl 1 (.slice A1 (k + 1) cq) (by simp)
    have hlen : lvs size noB = (lvsA size).take (k + 1) := by
     rcases (show k = 0 ∨ k = 1 by omega) with e | e
     · subst e
       have hn := HN.out
       rw [if_pos rfl] at hn
       rw [lvsA_1 size (by omega)]
       rfl
     · subst e
       rw [lvsA_2 size (HK1.out rfl) h2]
       rfl
    have hlv := (H7.imp (R' := RkL (lvs size noB) (k + 1) (hs ++ [.slice Av (nW n) cv])) (fun W hW => ⟨hW.1, fun j h l hj hl => hW.2 j h l hj (by
     rw [hlen, List.getElem?_take] at hl
     split at hl
     · exact hl
     · cases hl)⟩)).lev (by rw [hlen, List.length_take]; show min (k + 1) 2 = k + 1; omega)
    exact bodyPost_ret (v := .agg #[.int .i64 size, .slice A1 (k + 1) cq]) (by simp [results, Tryz.results77, go_sem, y0, y1, y2, y3]) rfl ⟨_, rfl, hlv, H7.rest.toBelow⟩
  · have hk0 : k = 0 := H64.out (by omega)
    subst hk0
    have hn := HN.out
    rw [if_pos rfl] at hn
    subst hn
    go_wp2
    go_roundw
    case rel => exact ⟨1, _, _, by omega, fun _ => by omega, by rw [if_neg (by omega)]; exact congrArg (Value.int .i64) (by show ((n : Int) - 1) / 64 + 1 = (((n - 1) / 64 + 1 : Nat) : Int); omega), H6.out⟩
    case measure => simp [intOf]; omega
end Go.Proofs.YtmookafmdonopaaGreat.Top
/- tree.at, tree.Has walked. -/
namespace Go.Proofs.YtmookafmdonopaaGreat.Top
open Go Go.RowKit
set_option linter.unusedVariables false
set_option linter.unusedSimpArgs false
attribute [local go_sem] max2_int min2_int max_two min_two max_three

theorem Lev.below {w w1 : World} {v : Value} {lv : List (List Nat)} (h : Lev w v lv) (hb : Below w.heap.size w w1) : Lev w1 v lv := by
 obtain ⟨hs, h1, h2, h3⟩ := h
 exact ⟨hs, h1, h2.below hb, fun j x l hj hl => (h3 j x l hj hl).below hb⟩
theorem Row.form {w : World} {v : Value} {n : Nat} {cs : List Value} (h : Row w v n cs) : ∃ A c, v = .slice A n c := by
 obtain ⟨A, c, hv, _⟩ := h
 exact ⟨A, c, hv⟩
theorem Row.len {w : World} {A : Option Addr} {c n m : Nat} {cs : List Value} (h : Row w (.slice A n c) m cs) : n = m := by
 obtain ⟨A', c', hv, _⟩ := h
 injection hv
theorem Lev.len {w : World} {A : Option Addr} {c n : Nat} {lv : List (List Nat)} (h : Lev w (.slice A n c) lv) : n = lv.length := by
 obtain ⟨hs, h1, h2, h3⟩ := h
 exact h2.len
/-- a level's head, and a word -/
theorem Lev.at_ {w : World} {A : Option Addr} {n c : Nat} {lv : List (List Nat)} (h : Lev w (.slice A n c) lv) (k : Nat) (hk : k < lv.length) :
 ∃ b o A2 c2, A = some ⟨b, o, none⟩ ∧ w.cell? ⟨b, o + k, none⟩ = some (.slice A2 lv[k].length c2) ∧ Row w (.slice A2 lv[k].length c2) lv[k].length (wordsV lv[k]) := by
 obtain ⟨hs, h1, h2, h3⟩ := h
 have hn := h2.len
 subst hn
 obtain ⟨b, o, hA, hc⟩ := h2.at_ k (by omega)
 have h4 := h3 k hs[k] lv[k] (List.getElem?_eq_getElem _) (List.getElem?_eq_getElem _)
 obtain ⟨A2, c2, hv⟩ := h4.form
 rw [hv] at hc h4
 exact ⟨b, o, A2, c2, hA, hc, h4⟩
/-- a word; one that is not there is full -/
def atW (lv : List (List Nat)) (k i : Nat) : Nat := ((lv.getD k []).getD i fullW)
theorem tree_at (size : Int) (A : Option Addr) (n c : Nat) (lv : List (List Nat)) (k i : Nat) (w : World) (h : Lev w (.slice A n c) lv) :
 Calls Tryz.prog 125 #[.agg #[.int .i64 size, .slice A n c], .int .i64 k, .int .i64 i] w fun e w' => e = .returned (.int .u64 (atW lv k i : Int)) ∧ Below w.heap.size w w' := by
 have hn := h.len
 subst hn
 have h' := h.below (box_below w (.cells #[.int .i64 size, .slice A lv.length c] 132))
 by_cases hk : k < lv.length
 · obtain ⟨b, o, A2, c2, rfl, z1, hr⟩ := h'.at_ k hk
   have e1 : lv.getD k [] = lv[k] := by rw [List.getD_eq_getElem?_getD, List.getElem?_eq_getElem hk]; rfl
   have e2 : atW lv k i = lv[k].getD i fullW := by unfold atW; rw [e1]
   rw [e2]
   obtain ⟨l, hl⟩ : ∃ l, l = lv[k] := ⟨_, rfl⟩
   rw [← hl] at hr z1 ⊢
   have hk1 : ¬ (k : Int) ≥ (lv.length : Int) := by omega
   by_cases hi : i < l.length
   · obtain ⟨b2, o2, rfl, z2⟩ := hr.at_ i (by simpa [wordsV] using hi)
     have e3 : l.getD i fullW = l[i] := by rw [List.getD_eq_getElem?_getD, List.getElem?_eq_getElem hi]; rfl
     rw [e3]
     have e4 : (wordsV l)[i]'(by simpa [wordsV] using hi) = .int .u64 (l[i] : Int) := by simp [wordsV]
     rw [e4] at z2
     obtain ⟨u, hu⟩ : ∃ u, u = l[i] := ⟨_, rfl⟩
     rw [← hu] at z2 ⊢
     have hi1 : ¬ (i : Int) ≥ (l.length : Int) := by omega
     have hk2 : (k : Int) < (lv.length : Int) := by omega
     have hi2 : (i : Int) < (l.length : Int) := by omega
     clear h h' e1 e2 hl hr e3 e4 hu
     go_enter Tryz.func125, Tryz.ntmps125
     go_wp2
     go_ret
     exact ⟨rfl, box_below _ _⟩
   · have e3 : l.getD i fullW = fullW := by rw [List.getD_eq_getElem?_getD, List.getElem?_eq_none (by omega)]; rfl
     rw [e3]
     have hi1 : (i : Int) ≥ (l.length : Int) := by omega
     have hk2 : (k : Int) < (lv.length : Int) := by omega
     clear h h' e1 e2 hl hr e3
     go_enter Tryz.func125, Tryz.ntmps125
     go_wp2
     go_ret
     exact ⟨rfl, box_below _ _⟩
 · have e1 : atW lv k i = fullW := by
    have e0 : lv.getD k [] = [] := by rw [List.getD_eq_getElem?_getD, List.getElem?_eq_none (by omega)]; rfl
    unfold atW
    rw [e0]
    rfl
   rw [e1]
   have hk1 : (k : Int) ≥ (lv.length : Int) := by omega
   clear h h' e1
   go_enter Tryz.func125, Tryz.ntmps125
   go_wp2
   go_ret
   exact ⟨rfl, box_below _ _⟩
theorem lvs_at0 (size : Nat) (b : Nat → Bool) (j : Nat) (h : j < nW size) : atW (lvs size b) 0 j = tw size b j := by
 unfold atW
 have e : (lvs size b).getD 0 [] = lv0 size b := by unfold lvs; split <;> rfl
 rw [e, List.getD_eq_getElem?_getD, lv0_at size b j h]
 rfl
theorem tree_at_0 (size : Nat) (b : Nat → Bool) (A : Option Addr) (n c : Nat) (j : Nat) (w : World) (h : Lev w (.slice A n c) (lvs size b)) (hj : j < nW size) :
 Calls Tryz.prog 125 #[.agg #[.int .i64 size, .slice A n c], .int .i64 0, .int .i64 j] w fun e w' => e = .returned (.int .u64 (tw size b j : Int)) ∧ Below w.heap.size w w' :=
 lvs_at0 size b j hj ▸ tree_at (size : Int) A n c (lvs size b) 0 j w h
theorem bit_test (u t : Nat) : (decide (u / 2 ^ t % 2 = 1)) = u.testBit t := by
 rw [Nat.testBit_eq_decide_div_mod_eq]
theorem has_val (u m : Nat) (hu : u < 18446744073709551616) : (Go.bits .and .u64 ((u : Int) / 2 ^ m) 1 == 1) = u.testBit m := by
 have h2 : (2 : Int) ^ m = ((2 ^ m : Nat) : Int) := by rw [Int.natCast_pow]; rfl
 have h3 : (u : Int) / ((2 ^ m : Nat) : Int) = ((u / 2 ^ m : Nat) : Int) := rfl
 have h4 := low_and (u / 2 ^ m) 1 (Nat.lt_of_le_of_lt (Nat.div_le_self _ _) hu) (by decide)
 have h5 : Go.bits .and .u64 ((u / 2 ^ m : Nat) : Int) 1 = ((u / 2 ^ m % 2 : Nat) : Int) := h4
 rw [h2, h3, h5, ← bit_test]
 by_cases h6 : u / 2 ^ m % 2 = 1
 · rw [h6]; rfl
 · have h7 : u / 2 ^ m % 2 = 0 := by omega
   rw [h7]; rfl
theorem ret_bool {a b : Bool} (h : a = b) : Ending.returned (.bool a) = .returned (.bool b) := by rw [h]
theorem tree_Has (size : Nat) (b : Nat → Bool) (A : Option Addr) (n c : Nat) (i : Nat) (w : World) (h : Lev w (.slice A n c) (lvs size b)) (h1 : 1 ≤ size) (h2 : size ≤ 65536) (hi2 : i ≤ 2 ^ 30) :
 Calls Tryz.prog 128 #[.agg #[.int .i64 size, .slice A n c], .int .i64 i] w fun e w' => e = .returned (.bool (decide (i < size) && b i)) ∧ Below w.heap.size w w' := by
 by_cases hi : i < size
 · have hw : nW size = (size - 1) / 64 + 1 := rfl
   have hq : i / 64 < nW size := by omega
   have HA := As.mk (tree_at_0 size b A n c (i / 64) _ (h.below (box_below w (.cells #[.int .i64 size, .slice A n c] 132))) hq)
   have hb : b i = (tw size b (i / 64)).testBit (i % 64) := by
    unfold tw
    rw [wb_bit _ _ (Nat.mod_lt _ (by decide))]
    unfold twF
    have e : i / 64 * 64 + i % 64 = i := by omega
    rw [e, decide_eq_false (by omega), Bool.false_or]
   have hlt := wb_lt (twF size b (i / 64))
   rw [decide_eq_true hi, Bool.true_and, hb]
   have hu : tw size b (i / 64) < 18446744073709551616 := hlt
   obtain ⟨u, hue⟩ : ∃ u, u = tw size b (i / 64) := ⟨_, rfl⟩
   rw [← hue] at HA hu ⊢
   have d1 : (i : Int) / 64 = ((i / 64 : Nat) : Int) := rfl
   have d2 : (i : Int) % 64 = ((i % 64 : Nat) : Int) := rfl
   have hq2 : i / 64 ≤ 2 ^ 30 := by omega
   have hm : i % 64 < 64 := Nat.mod_lt _ (by decide)
   obtain ⟨q, hqe⟩ : ∃ q, q = i / 64 := ⟨_, rfl⟩
   obtain ⟨m, hme⟩ : ∃ m, m = i % 64 := ⟨_, rfl⟩
   rw [← hqe] at HA d1 hq2
   rw [← hme] at d2 hm ⊢
   have hi0 : (i : Int) ≥ 0 := by omega
   have his : (i : Int) < (size : Int) := by omega
   clear hb hlt hue hqe hme hq hw h hi
   go_enter Tryz.func128, Tryz.ntmps128
   go_wp2_with (first | (go_at_call 125; (with_reducible refine HA.out.mono ?_); rintro e w1 ⟨rfl, hb⟩; have HB := As.mk (below_trans1 hb); clear hb))
   go_ret
   exact ⟨ret_bool (has_val u m hu), HB.out⟩
 · rw [decide_eq_false hi, Bool.false_and]
   have hi0 : (i : Int) ≥ 0 := by omega
   have his : ¬ (i : Int) < (size : Int) := by omega
   go_enter Tryz.func128, Tryz.ntmps128
   go_wp2
   go_ret
   exact ⟨rfl, box_below _ _⟩
end Go.Proofs.YtmookafmdonopaaGreat.Top
