/- conf.Of: what there is to be. -/
import Derived.Test.YtmookafmdonopaaGreatM02
/- conf.Of: what there is to be. -/
namespace Go.Proofs.YtmookafmdonopaaGreat.Top
open Go Go.RowKit
set_option linter.unusedVariables false
set_option linter.unusedSimpArgs false
attribute [local go_sem] max2_int min2_int max_two min_two max_three

/-- What is asked for. -/
structure Rw where
 (g l m p b s : Int)
def Rw.v (r : Rw) : Value := .agg #[.int .i64 r.g, .int .i64 r.l, .int .i64 r.m, .int .i64 r.p, .int .i64 r.b, .int .i64 r.s]
def Rw.ok (r : Rw) : Prop := within [r.g, r.l, r.m, r.p] = true ∧ 0 ≤ r.b ∧ r.b ≤ 65536 ∧ 0 ≤ r.s ∧ r.s ≤ 255
instance (r : Rw) : Decidable r.ok := by unfold Rw.ok; exact inferInstance
def ofP (r : Rw) : Cf :=
 let G := upN r.g.toNat
 let N := upN (max r.l.toNat G)
 let Pg := upN (max r.p.toNat G)
 let M := rndN r.m.toNat (2 * max N Pg)
 let L := Nat.log2 (N / G)
 ⟨G, N, M, L, Pg, r.b.toNat, M + L * (M / 2), r.s.toNat⟩
def Cf.zero : Cf := ⟨0, 0, 0, 0, 0, 0, 0, 0⟩
def confOf (r : Rw) : Cf × Int := if r.ok ∧ (ofP r).H ≤ 65536 then (ofP r, 0) else (Cf.zero, 1)
theorem rndN_spec (v m : Nat) (hm : 1 ≤ m) (hv : 1 ≤ v) : ∃ k, 1 ≤ k ∧ rndN v m = k * m ∧ v ≤ rndN v m ∧ rndN v m < v + m := by
 unfold rndN
 have h1 := Nat.div_add_mod v m
 have h2 := Nat.mod_lt v hm
 have h3 := Nat.zero_le (v / m)
 split
 · rename_i h
   refine ⟨v / m, ?_, ?_, Nat.le_refl _, by omega⟩
   · rcases Nat.eq_zero_or_pos (v / m) with h0 | h0
     · rw [h0, h, Nat.mul_zero] at h1; omega
     · exact h0
   · rw [Nat.mul_comm]; omega
 · refine ⟨v / m + 1, by omega, ?_, by omega, by omega⟩
   rw [Nat.add_mul, Nat.one_mul, Nat.mul_comm (v / m)]
   omega
theorem within4 {a b c d : Int} (h : within [a, b, c, d] = true) : (1 ≤ a ∧ a ≤ 65536) ∧ (1 ≤ b ∧ b ≤ 65536) ∧ (1 ≤ c ∧ c ≤ 65536) ∧ (1 ≤ d ∧ d ≤ 65536) := by
 simpa [within] using h
theorem ofP_good (r : Rw) (h : r.ok) (hH : (ofP r).H ≤ 65536) : Good (ofP r) := by
 obtain ⟨h1, h2, h3, h4, h5⟩ := h
 obtain ⟨⟨a1, a2⟩, ⟨b1, b2⟩, ⟨c1, c2⟩, ⟨d1, d2⟩⟩ := within4 h1
 obtain ⟨g, e1, e2, e3⟩ := upN_spec r.g.toNat (by omega)
 obtain ⟨n, f1, f2, f3⟩ := upN_spec (max r.l.toNat (upN r.g.toNat)) (by omega)
 obtain ⟨pg, i1, i2, i3⟩ := upN_spec (max r.p.toNat (upN r.g.toNat)) (by omega)
 have hgn : g ≤ n := (Nat.pow_le_pow_iff_right (a := 2) (by decide)).1 (by rw [← e1, ← f1]; omega)
 have hgp : g ≤ pg := (Nat.pow_le_pow_iff_right (a := 2) (by decide)).1 (by rw [← e1, ← i1]; omega)
 obtain ⟨k, k1, k2, _⟩ := rndN_spec r.m.toNat (2 * max (upN (max r.l.toNat (upN r.g.toNat))) (upN (max r.p.toNat (upN r.g.toNat)))) (by omega) (by omega)
 have hL : (ofP r).L = n - g := by
  show Nat.log2 (upN (max r.l.toNat (upN r.g.toNat)) / upN r.g.toNat) = n - g
  rw [f1, e1, Nat.pow_div hgn (by decide), Nat.log2_two_pow]
 refine ⟨⟨g, pg, k, e1, ?_, i1, hgp, k1, k2⟩, rfl, hH, ?_, ?_⟩
 · rw [hL]
   show upN (max r.l.toNat (upN r.g.toNat)) = _
   rw [f1]
   congr 1
   omega
 · show r.b.toNat ≤ _; omega
 · show r.s.toNat ≤ _; omega
set_option maxHeartbeats 1000000 in
theorem conf_Of_no (r : Rw) (w : World) (h : ¬ r.ok) :
 Calls Tryz.prog 33 #[r.v] w fun e w' => e = .returned (.tuple #[Cf.zero.v, .int .i64 1]) ∧ Below w.heap.size w w' := by
 obtain ⟨g, l, m, p, b, s⟩ := r
 have HW : As (∀ A c w, Row w (.slice A 4 c) 4 [.int .i64 g, .int .i64 l, .int .i64 m, .int .i64 p] → Calls Tryz.prog 54 #[.slice A 4 c] w fun e w' => e = .returned (.bool (within [g, l, m, p])) ∧ w' = w) := ⟨fun A c w h => conf_within [g, l, m, p] A c w h (by simp)⟩
 rw [Rw.v, Cf.zero, Cf.v]
 obtain ⟨wi, hwi⟩ : ∃ x, x = within [g, l, m, p] := ⟨_, rfl⟩
 have hcase : wi = false ∨ (wi = true ∧ b < 0) ∨ (wi = true ∧ 0 ≤ b ∧ 65536 < b) ∨ (wi = true ∧ 0 ≤ b ∧ b ≤ 65536 ∧ s < 0) ∨ (wi = true ∧ 0 ≤ b ∧ b ≤ 65536 ∧ 0 ≤ s ∧ 255 < s) := by
  cases hw : wi with
  | false => exact Or.inl rfl
  | true =>
   have h' : ¬ (within [g, l, m, p] = true ∧ 0 ≤ b ∧ b ≤ 65536 ∧ 0 ≤ s ∧ s ≤ 255) := h
   rw [← hwi, hw] at h'
   simp only [true_and] at h' ⊢
   omega
 rw [← hwi] at HW
 clear h hwi
 rcases hcase with rfl | ⟨rfl, c1⟩ | ⟨rfl, c0, c1⟩ | ⟨rfl, c0, c1, c2⟩ | ⟨rfl, c0, c1, c2, c3⟩
 all_goals
  go_enter Tryz.func33, Tryz.ntmps33
  go_wp2_with (first | (go_at_call 54; (with_reducible refine (HW.out _ _ _ (Row.lit _ (by simp))).mono ?_); rintro e w1 ⟨rfl, rfl⟩))
  exact bodyPost_ret (v := .tuple #[.agg #[.int .i64 0, .int .i64 0, .int .i64 0, .int .i64 0, .int .i64 0, .int .i64 0, .int .i64 0, .int .i64 0], .int .i64 1]) (by simp [results, Tryz.results33, go_sem]) rfl ⟨rfl, (((Below.refl _ _).alloc (Nat.le_refl _) _).alloc (by simp) _).alloc (by simp; omega) _⟩
theorem mul_le_of {a b : Nat} (ha : a ≤ 18) (hb : b ≤ 2 ^ 20) : a * b ≤ 18 * 2 ^ 20 := Nat.mul_le_mul ha hb
set_option maxHeartbeats 1000000 in
theorem conf_Of_ok (r : Rw) (w : World) (h : r.ok) :
 Calls Tryz.prog 33 #[r.v] w fun e w' => e = .returned (.tuple #[(confOf r).1.v, .int .i64 (confOf r).2]) ∧ Below w.heap.size w w' := by
 have HO := As.mk h
 obtain ⟨h1, h2, h3, h4, h5⟩ := h
 have HC := As.mk (show confOf r = if (ofP r).H ≤ 65536 then (ofP r, 0) else (Cf.zero, 1) by unfold confOf; by_cases hh : (ofP r).H ≤ 65536 <;> simp [hh, HO.out])
 have HP := As.mk (show ofP r = ofP r from rfl)
 obtain ⟨g, l, m, p, b, s⟩ := r
 simp only [] at h1 h2 h3 h4 h5
 obtain ⟨⟨a1, a2⟩, ⟨b1, b2⟩, ⟨c1, c2⟩, ⟨d1, d2⟩⟩ := within4 h1
 have HW : As (∀ A c w, Row w (.slice A 4 c) 4 [.int .i64 g, .int .i64 l, .int .i64 m, .int .i64 p] → Calls Tryz.prog 54 #[.slice A 4 c] w fun e w' => e = .returned (.bool true) ∧ w' = w) := ⟨fun A c w h => h1 ▸ conf_within [g, l, m, p] A c w h (by simp)⟩
 clear h1 HO
 obtain ⟨g, rfl⟩ : ∃ n : Nat, g = (n : Int) := ⟨g.toNat, by omega⟩
 obtain ⟨l, rfl⟩ : ∃ n : Nat, l = (n : Int) := ⟨l.toNat, by omega⟩
 obtain ⟨m, rfl⟩ : ∃ n : Nat, m = (n : Int) := ⟨m.toNat, by omega⟩
 obtain ⟨p, rfl⟩ : ∃ n : Nat, p = (n : Int) := ⟨p.toNat, by omega⟩
 obtain ⟨b, rfl⟩ : ∃ n : Nat, b = (n : Int) := ⟨b.toNat, by omega⟩
 obtain ⟨s, rfl⟩ : ∃ n : Nat, s = (n : Int) := ⟨s.toNat, by omega⟩
 have hof : ofP ⟨g, l, m, p, b, s⟩ = (let G := upN g; let N := upN (max l G); let Pg := upN (max p G); let M := rndN m (2 * max N Pg); let L := Nat.log2 (N / G); ⟨G, N, M, L, Pg, b, M + L * (M / 2), s⟩) := rfl
 simp only [] at hof
 obtain ⟨jg, e1, e2, e3⟩ := upN_spec g (by omega)
 obtain ⟨G, hG⟩ : ∃ G, G = upN g := ⟨_, rfl⟩
 have HG := As.mk (fun w => hG ▸ calc_Up g w (by omega) (by omega))
 rw [← hG] at hof e1 e2 e3
 clear hG
 obtain ⟨xn, hxn⟩ : ∃ x, x = max l G := ⟨_, rfl⟩
 obtain ⟨xp, hxp⟩ : ∃ x, x = max p G := ⟨_, rfl⟩
 rw [← hxn, ← hxp] at hof
 obtain ⟨jn, f1, f2, f3⟩ := upN_spec xn (by omega)
 obtain ⟨N, hN⟩ : ∃ N, N = upN xn := ⟨_, rfl⟩
 have HN := As.mk (fun w => hN ▸ calc_Up xn w (by omega) (by omega))
 rw [← hN] at hof f1 f2 f3
 clear hN
 obtain ⟨jp, i1, i2, i3⟩ := upN_spec xp (by omega)
 obtain ⟨Pg, hPg⟩ : ∃ N, N = upN xp := ⟨_, rfl⟩
 have HPg := As.mk (fun w => hPg ▸ calc_Up xp w (by omega) (by omega))
 rw [← hPg] at hof i1 i2 i3
 clear hPg
 obtain ⟨y, hy⟩ : ∃ y, y = 2 * max N Pg := ⟨_, rfl⟩
 rw [← hy] at hof
 obtain ⟨k, k1, k2, k3, k4⟩ := rndN_spec m y (by omega) (by omega)
 obtain ⟨M, hM⟩ : ∃ M, M = rndN m y := ⟨_, rfl⟩
 have HM := As.mk (fun w => hM ▸ calc_Round m y w (by omega) (by omega) (by omega))
 rw [← hM] at hof k3 k4
 clear hM k2
 have hgn : jg ≤ jn := (Nat.pow_le_pow_iff_right (a := 2) (by decide)).1 (by rw [← e1, ← f1]; omega)
 have hq : N / G = 2 ^ (jn - jg) := by rw [f1, e1, Nat.pow_div hgn (by decide)]
 have hjn : jn < 18 := (Nat.pow_lt_pow_iff_right (a := 2) (by decide)).1 (by rw [← f1]; omega)
 have hL : Nat.log2 (N / G) = jn - jg := by rw [hq, Nat.log2_two_pow]
 have HL := As.mk (fun w => hq ▸ calc_Log_pow (jn - jg) w (by omega))
 rw [hL] at hof
 obtain ⟨L, hLe⟩ : ∃ L, L = jn - jg := ⟨_, rfl⟩
 rw [← hLe] at hof HL hq
 have hL18 : L ≤ 18 := by omega
 have hqn : N / G ≤ N := Nat.div_le_self _ _
 have hdv : (N : Int) / (G : Int) = ((N / G : Nat) : Int) := rfl
 obtain ⟨q, hqq⟩ : ∃ q, q = N / G := ⟨_, rfl⟩
 rw [← hqq] at HL hdv hqn
 obtain ⟨m2, hm2⟩ : ∃ m2, m2 = M / 2 := ⟨_, rfl⟩
 rw [← hm2] at hof
 have hlm := mul_le_of (a := L) (b := m2) hL18 (by omega)
 have hlmi : (L : Int) * (m2 : Int) = ((L * m2 : Nat) : Int) := by rw [Int.natCast_mul]
 obtain ⟨lm, hlmE⟩ : ∃ lm, lm = L * m2 := ⟨_, rfl⟩
 rw [← hlmE] at hof hlmi hlm
 have z1 : max (l : Int) (G : Int) = (xn : Int) := by omega
 have z2 : max (p : Int) (G : Int) = (xp : Int) := by omega
 have z3 : max (N : Int) (Pg : Int) * 2 = (y : Int) := by omega
 have z4 : (M : Int) / 2 = (m2 : Int) := by omega
 have z5 : M ≤ 2 ^ 20 := by omega
 have z6 : y ≤ 2 ^ 20 := by omega
 have HOF := As.mk hof
 have hGz : 1 ≤ G := by omega
 have hN18 : N ≤ 2 ^ 18 := by omega
 have hG18 : G ≤ 2 ^ 18 := by omega
 have hP18 : Pg ≤ 2 ^ 18 := by omega
 have hm2b : m2 ≤ 2 ^ 20 := by omega
 have hR : ∃ C : Cf, ∃ e : Int, confOf ⟨g, l, m, p, b, s⟩ = (C, e) ∧ ((M + lm ≤ 65536 ∧ C = ⟨G, N, M, L, Pg, b, M + lm, s⟩ ∧ e = 0) ∨ (65536 < M + lm ∧ C = Cf.zero ∧ e = 1)) := by
  have h0 := HC.out
  rw [HOF.out] at h0
  by_cases hh : M + lm ≤ 65536
  · rw [if_pos hh] at h0
    exact ⟨_, _, h0, Or.inl ⟨hh, rfl, rfl⟩⟩
  · rw [if_neg hh] at h0
    exact ⟨_, _, h0, Or.inr ⟨by omega, rfl, rfl⟩⟩
 obtain ⟨C, e, hR1, hR2⟩ := hR
 rw [hR1]
 clear hof HC HP e1 e2 e3 f1 f2 f3 i1 i2 i3 hxn hxp hy k1 k3 k4 hgn hq hjn hL hLe hqq hm2 hlmE HOF hR1
 rw [Rw.v]
 rcases hR2 with ⟨c0, rfl, rfl⟩ | ⟨c0, rfl, rfl⟩
 all_goals
  go_enter Tryz.func33, Tryz.ntmps33
  go_wp2_with (first | (go_at_call 54; (with_reducible refine (HW.out _ _ _ (Row.lit _ (by simp))).mono ?_); rintro e w1 ⟨rfl, rfl⟩))
  refine (HG.out _).mono ?_
  rintro e w1 ⟨rfl, rfl⟩
  go_wp2_with fail
  refine (HN.out _).mono ?_
  rintro e w1 ⟨rfl, rfl⟩
  go_wp2_with fail
  refine (HPg.out _).mono ?_
  rintro e w1 ⟨rfl, rfl⟩
  go_wp2_with fail
  refine (HM.out _).mono ?_
  rintro e w1 ⟨rfl, rfl⟩
  go_wp2_with fail
  refine (HL.out _).mono ?_
  rintro e w1 ⟨rfl, rfl⟩
  go_wp2_with fail
  first
   | exact bodyPost_ret (v := .tuple #[.agg #[.int .i64 G, .int .i64 N, .int .i64 M, .int .i64 L, .int .i64 Pg, .int .i64 b, .int .i64 ((M : Int) + lm), .int .i64 s], .int .i64 0]) (by simp [results, Tryz.results33, go_sem]) rfl ⟨rfl, ((((Below.refl _ _).alloc (Nat.le_refl _) _).alloc (by simp) _).alloc (by simp; omega) _).alloc (by simp; omega) _⟩
   | exact bodyPost_ret (v := .tuple #[.agg #[.int .i64 0, .int .i64 0, .int .i64 0, .int .i64 0, .int .i64 0, .int .i64 0, .int .i64 0, .int .i64 0], .int .i64 1]) (by simp [results, Tryz.results33, go_sem]) rfl ⟨rfl, ((((Below.refl _ _).alloc (Nat.le_refl _) _).alloc (by simp) _).alloc (by simp; omega) _).alloc (by simp; omega) _⟩
theorem conf_Of (r : Rw) (w : World) :
 Calls Tryz.prog 33 #[r.v] w fun e w' => e = .returned (.tuple #[(confOf r).1.v, .int .i64 (confOf r).2]) ∧ Below w.heap.size w w' := by
 by_cases h : r.ok
 · exact conf_Of_ok r w h
 · have e : confOf r = (Cf.zero, 1) := by unfold confOf; rw [if_neg (fun hh => h hh.1)]
   rw [e]
   exact conf_Of_no r w h
theorem confOf_good (r : Rw) : ((confOf r).2 = 0 ∧ Good (confOf r).1) ∨ (confOf r).2 = 1 := by
 unfold confOf
 by_cases h : r.ok ∧ (ofP r).H ≤ 65536
 · rw [if_pos h]; exact Or.inl ⟨rfl, ofP_good r h.1 h.2⟩
 · rw [if_neg h]; exact Or.inr rfl
end Go.Proofs.YtmookafmdonopaaGreat.Top
/- The reference's numbers walked: hodmanref1. -/
namespace Go.Proofs.YtmookafmdonopaaGreat.Top
open Go Go.RowKit
set_option linter.unusedVariables false
set_option linter.unusedSimpArgs false
attribute [local go_sem] max2_int min2_int max_two min_two max_three

section
variable {α : Type} {x a b c d e f : α} {l : List α}
theorem me0 : x ∈ x :: l := List.mem_cons_self
theorem me1 : x ∈ a :: x :: l := List.mem_cons_of_mem _ me0
theorem me2 : x ∈ a :: b :: x :: l := List.mem_cons_of_mem _ me1
theorem me3 : x ∈ a :: b :: c :: x :: l := List.mem_cons_of_mem _ me2
theorem me4 : x ∈ a :: b :: c :: d :: x :: l := List.mem_cons_of_mem _ me3
theorem me5 : x ∈ a :: b :: c :: d :: e :: x :: l := List.mem_cons_of_mem _ me4
theorem me6 : x ∈ a :: b :: c :: d :: e :: f :: x :: l := List.mem_cons_of_mem _ me5
end
/-- one block comes to the front -/
theorem Own.front {X : List Nat} {L : List (Nat × (Obj → Prop))} {R : World → Prop} {w0 w : World} {x : Nat × (Obj → Prop)} (h : Own X L R w0 w) (i : Nat) (hi : L[i]? = some x) : Own X (x :: L.eraseIdx i) R w0 w := by
 obtain ⟨hl, hx⟩ := List.getElem?_eq_some_iff.1 hi
 have hp : (x :: L.eraseIdx i).Perm L := by
  rw [List.eraseIdx_eq_take_drop_succ]
  refine List.perm_middle.symm.trans ?_
  rw [← hx, List.getElem_cons_drop, List.take_append_drop]
 exact h.sub ((hp.map Prod.fst).nodup_iff.2 h.nd) fun y hy => hp.mem_iff.1 hy
theorem ref_Log_pow (m : Nat) (w : World) (h : m ≤ 30) :
 Calls Tryz.prog 48 #[.int .i64 ((2 ^ m : Nat) : Int)] w fun e w' => e = .returned (.tuple #[.int .i64 (m : Int), .bool true]) ∧ w' = w := by
 have hp : 1 ≤ 2 ^ m := Nat.one_le_two_pow
 have hp2 : 2 ^ m ≤ 2 ^ 30 := Nat.pow_le_pow_right (by decide) h
 obtain ⟨v, hv⟩ : ∃ v, v = 2 ^ m := ⟨_, rfl⟩
 rw [← hv] at hp hp2 ⊢
 have HV := As.mk hv
 clear hv
 go_enter Tryz.func48, Tryz.ntmps48
 go_wp2
 go_loop [4, 5] (fun a b => ∃ k p : Nat, As (p = 2 ^ k) ∧ k ≤ m ∧ a = .int .i64 (p : Int) ∧ b = .int .i64 (k : Int)) (fun _ b => 63 - (intOf b).toNat)
 case atStart => exact ⟨0, 1, ⟨rfl⟩, by omega, rfl, rfl⟩
 case round =>
  obtain ⟨k, p, HP, hk, rfl, rfl⟩ := hrel
  by_cases hkm : k = m
  · subst hkm
    have hpv : p = v := by rw [HP.out, HV.out]
    subst hpv
    go_wp2
    go_ret2
    exact ⟨rfl, rfl⟩
  · have hpv : p < v := by
     rw [HP.out, HV.out]
     exact Nat.pow_lt_pow_right (by decide) (by omega)
    have hne := beqF (show ¬ (p : Int) = (v : Int) by omega)
    go_wp2
    go_round
    case rel => exact ⟨k + 1, p * 2, ⟨by rw [HP.out, Nat.pow_succ]⟩, by omega, by go_num, by go_num⟩
    case measure => simp [intOf]; omega
theorem ref_Log_no (v : Int) (w : World) (h : v = 0 ∨ v = 3) :
 Calls Tryz.prog 48 #[.int .i64 v] w fun e w' => e = .returned (.tuple #[.int .i64 0, .bool false]) ∧ w' = w := by
 go_enter Tryz.func48, Tryz.ntmps48
 go_wp2
 go_loop [4, 5] (fun a b => ∃ k p : Nat, As (p = 2 ^ min k 62) ∧ p ≤ 4611686018427387904 ∧ 1 ≤ p ∧ k ≤ 63 ∧ a = .int .i64 (p : Int) ∧ b = .int .i64 (k : Int)) (fun _ b => 63 - (intOf b).toNat)
 case atStart => exact ⟨0, 1, ⟨rfl⟩, by omega, by omega, by omega, rfl, rfl⟩
 case round =>
  obtain ⟨k, p, HP, hp2, hp1, hk, rfl, rfl⟩ := hrel
  by_cases hk3 : k = 63
  · subst hk3
    go_wp2
    go_ret2
    exact ⟨rfl, rfl⟩
  · have hne : ((p : Int) == v) = false := by
     refine beqF fun e => ?_
     have h3 : p = 3 := by omega
     have h4 := HP.out
     rw [h3] at h4
     rcases hm : min k 62 with _ | q
     · rw [hm] at h4; simp at h4
     · rw [hm, Nat.pow_succ] at h4; omega
    by_cases hk2 : k < 62
    · have hlt : p * 2 ≤ 4611686018427387904 := by
       have h4 := HP.out
       have h5 : 2 ^ (min k 62 + 1) ≤ 2 ^ 62 := Nat.pow_le_pow_right (by decide) (by omega)
       rw [Nat.pow_succ, ← h4] at h5
       exact h5
      clear h
      go_wp2
      go_round
      case rel => exact ⟨k + 1, p * 2, ⟨by rw [HP.out, ← Nat.pow_succ]; congr 1; omega⟩, by omega, by omega, by omega, by go_num, by go_num⟩
      case measure => simp [intOf]; omega
    · clear h
      go_wp2
      go_round
      case rel => exact ⟨k + 1, p, ⟨by rw [HP.out]; congr 1; omega⟩, by omega, by omega, by omega, rfl, by go_num⟩
      case measure => simp [intOf]; omega
theorem ref_Up (v : Nat) (w : World) (h1 : 1 ≤ v) (h2 : v ≤ 2 ^ 30) :
 Calls Tryz.prog 49 #[.int .i64 (v : Int)] w fun e w' => e = .returned (.tuple #[.int .i64 (upN v : Int), .bool true]) ∧ w' = w := by
 go_enter Tryz.func49, Tryz.ntmps49
 go_wp2
 go_loop [4] (fun a => ∃ j p : Nat, As (p = 2 ^ j) ∧ p < 2 * v ∧ 1 ≤ p ∧ a = .int .i64 (p : Int)) (fun a => v - (intOf a).toNat)
 case atStart => exact ⟨0, 1, ⟨rfl⟩, by omega, by omega, rfl⟩
 case round =>
  obtain ⟨j, p, HP, hp2, hp1, rfl⟩ := hrel
  by_cases hlt : p < v
  · go_wp2
    go_round
    case rel => exact ⟨j + 1, p * 2, ⟨by rw [HP.out, Nat.pow_succ]⟩, by omega, by omega, by go_num⟩
    case measure => simp [intOf]; omega
  · have HE := As.mk (upN_eq HP.out (by omega) hp2)
    go_wp2
    go_ret2
    exact ⟨by rw [← HE.out]; rfl, rfl⟩
theorem ref_Add (a b : Nat) (w : World) (h1 : a ≤ 2 ^ 40) (h2 : b ≤ 2 ^ 40) :
 Calls Tryz.prog 95 #[.int .i64 (a : Int), .int .i64 (b : Int)] w fun e w' => e = .returned (.tuple #[.int .i64 ((a : Int) + b), .bool true]) ∧ w' = w := by
 by_cases hb : 0 < b
 all_goals
  go_enter Tryz.func95, Tryz.ntmps95
  go_wp2
  go_ret2
  exact ⟨rfl, rfl⟩
theorem ref_Round (v m : Nat) (w : World) (h1 : v ≤ 2 ^ 30) (h2 : 1 ≤ m) (h3 : m ≤ 2 ^ 30) :
 Calls Tryz.prog 78 #[.int .i64 (v : Int), .int .i64 (m : Int)] w fun e w' => e = .returned (.tuple #[.int .i64 (rndN v m : Int), .bool true]) ∧ w' = w := by
 have hlt := Nat.mod_lt v h2
 have hle := Nat.mod_le v m
 have ht : Int.tmod (v : Int) (m : Int) = ((v % m : Nat) : Int) := rfl
 have hm : (v : Int) % (m : Int) = ((v % m : Nat) : Int) := by omega
 have HR : rndN v m = if v % m = 0 then v else v - v % m + m := rfl
 obtain ⟨q, hq⟩ : ∃ q, q = v % m := ⟨_, rfl⟩
 rw [← hq] at hlt hle ht hm HR
 clear hq
 by_cases h0 : q = 0
 · rw [if_pos h0] at HR
   have HR := As.mk HR
   subst h0
   go_enter Tryz.func78, Tryz.ntmps78
   go_wp2
   go_ret2
   exact ⟨by rw [HR.out]; rfl, rfl⟩
 · rw [if_neg h0] at HR
   have HS := As.mk (show ((v - q : Nat) : Int) + (m : Int) = ((v - q + m : Nat) : Int) by omega)
   have HR := As.mk HR
   have h0' : ¬ (q : Int) = 0 := by omega
   have hq : (v : Int) - (q : Int) = ((v - q : Nat) : Int) := by omega
   go_enter Tryz.func78, Tryz.ntmps78
   go_wp2_with (go_at_call 95; (with_reducible refine (ref_Add (v - q) m _ (by omega) (by omega)).mono ?_); rintro e w' ⟨rfl, rfl⟩)
   go_ret2
   exact ⟨by rw [HR.out, ← HS.out]; rfl, rfl⟩
theorem ref_Mul (a b : Nat) (w : World) (h1 : a ≤ 2 ^ 30) (h2 : b ≤ 2 ^ 30) :
 Calls Tryz.prog 109 #[.int .i64 (a : Int), .int .i64 (b : Int)] w fun e w' => e = .returned (.tuple #[.int .i64 ((a * b : Nat) : Int), .bool true]) ∧ w' = w := by
 by_cases ha : a = 0
 · subst ha
   go_enter Tryz.func109, Tryz.ntmps109
   go_wp2
   go_ret2
   exact ⟨by rw [Nat.zero_mul]; rfl, rfl⟩
 · by_cases hb : b = 0
   · subst hb
     have ha' : ¬ (a : Int) = 0 := by omega
     go_enter Tryz.func109, Tryz.ntmps109
     go_wp2
     go_ret2
     exact ⟨by rw [Nat.mul_zero]; rfl, rfl⟩
   · have hab : a * b ≤ 2 ^ 30 * 2 ^ 30 := Nat.mul_le_mul h1 h2
     have hq : a * b / b = a := Nat.mul_div_cancel _ (by omega)
     have hm : (a : Int) * (b : Int) = ((a * b : Nat) : Int) := by rw [Int.natCast_mul]
     obtain ⟨p, hp⟩ : ∃ p, p = a * b := ⟨_, rfl⟩
     rw [← hp] at hab hq hm ⊢
     have hd : (p : Int) / (b : Int) = (a : Int) := by rw [← hq]; rfl
     clear hp hq
     have n1 := beqF (show ¬ (a : Int) = 0 by omega)
     have n2 := beqF (show ¬ (b : Int) = 0 by omega)
     have n3 := beqF (show ¬ (a : Int) = -1 by omega)
     have n4 := beqF (show ¬ (b : Int) = -1 by omega)
     go_enter Tryz.func109, Tryz.ntmps109
     go_wp2
     go_ret2
     exact ⟨rfl, rfl⟩
theorem ref_Charge (c : Cf) (hg : Good c) (s a : Int) (w : World) (ha : GoodA a) :
 Calls Tryz.prog 21 #[c.v, .int .i64 s, .int .i64 a] w fun e w' => e = .returned (.tuple #[.int .i64 (chg c s a).1, .int .i64 (chg c s a).2]) ∧ Below w.heap.size w w' := by
 obtain ⟨b1, b2, b3, b4, b5, b6, b7⟩ := hg.bounds
 rw [Cf.v]
 rcases ha with ha | ha | ⟨m, hm, ha⟩
 · have e : chg c s a = (0, 3) := by unfold chg; rw [if_pos (Or.inl ha)]
   rw [e]
   subst ha
   clear e
   go_enter Tryz.func21, Tryz.ntmps21
   go_wp2_with (go_at_call 48; (with_reducible refine (ref_Log_no 0 _ (Or.inl rfl)).mono ?_); rintro e w' ⟨rfl, rfl⟩)
   go_ret2
   exact ⟨rfl, box_below _ _⟩
 · have e : chg c s a = (0, 3) := by unfold chg; rw [if_pos (Or.inr (Or.inl ha))]
   rw [e]
   subst ha
   clear e
   go_enter Tryz.func21, Tryz.ntmps21
   go_wp2_with (go_at_call 48; (with_reducible refine (ref_Log_no 3 _ (Or.inr rfl)).mono ?_); rintro e w' ⟨rfl, rfl⟩)
   go_ret2
   exact ⟨rfl, box_below _ _⟩
 · have h1 : 1 ≤ 2 ^ m := Nat.one_le_two_pow
   obtain ⟨u, hu⟩ : ∃ u, u = 2 ^ m := ⟨_, rfl⟩
   have HU := As.mk hu
   rw [← hu] at ha h1
   subst ha
   clear hu
   have hl := HU.out ▸ ref_Log_pow m
   have HL := As.mk hl
   clear hl
   have n0 : ¬ (u : Int) = 0 := by omega
   have n3 : ¬ (u : Int) = 3 := by
    intro e
    have h3 : 2 ^ m = 3 := by have := HU.out; omega
    rcases m with _ | m
    · simp at h3
    · rw [Nat.pow_succ] at h3; omega
   by_cases c1 : u > c.N
   · have e : chg c s u = (0, 3) := by unfold chg; rw [if_pos (by omega)]
     rw [e]
     clear e
     go_enter Tryz.func21, Tryz.ntmps21
     go_wp2_with (go_at_call 48; (with_reducible refine (HL.out _ (by omega)).mono ?_); rintro e w' ⟨rfl, rfl⟩)
     go_ret2
     exact ⟨rfl, box_below _ _⟩
   · by_cases c2 : s < 0 ∨ s > c.N
     · have e : chg c s u = (0, 4) := by unfold chg; rw [if_neg (by omega), if_pos c2]
       rw [e]
       clear e
       rcases c2 with c2 | c2
       all_goals
        go_enter Tryz.func21, Tryz.ntmps21
        go_wp2_with (go_at_call 48; (with_reducible refine (HL.out _ (by omega)).mono ?_); rintro e w' ⟨rfl, rfl⟩)
        go_ret2
        exact ⟨rfl, box_below _ _⟩
     · have E := As.mk (show chg c s u = (((upN (max (max s u) c.G).toNat : Nat) : Int), 0) by unfold chg; rw [if_neg (by omega), if_neg c2])
       have x1 : 0 ≤ s := by omega
       have x2 : s ≤ c.N := by omega
       obtain ⟨v, hv⟩ : ∃ v : Nat, (v : Int) = max (max s u) c.G := ⟨(max (max s u) c.G).toNat, by omega⟩
       have HV := As.mk hv
       have hv1 : 1 ≤ v := by omega
       have hv2 : v ≤ 2 ^ 30 := by omega
       have hv3 := hv.symm
       clear hv c2
       go_enter Tryz.func21, Tryz.ntmps21
       go_wp2_with (first | (go_at_call 48; (with_reducible refine (HL.out _ (by omega)).mono ?_); rintro e w' ⟨rfl, rfl⟩) | (go_at_call 49; (with_reducible refine (ref_Up v _ hv1 hv2).mono ?_); rintro e w' ⟨rfl, rfl⟩))
       go_ret2
       exact ⟨by rw [E.out, ← HV.out, Int.toNat_natCast]; rfl, box_below _ _⟩
/-- who is let in, whatever is live -/
theorem adm_alt (c : Cf) (live s a : Int) : adm c live s a = if (chg c s a).2 ≠ 0 then (0, (chg c s a).2) else if live > c.M - (chg c s a).1 then (0, 5) else ((chg c s a).1, 0) := by
 unfold adm
 by_cases h : live + (chg c s a).1 > c.M
 · rw [if_pos h, if_pos (show live > c.M - (chg c s a).1 by omega)]
 · rw [if_neg h, if_neg (show ¬ live > c.M - (chg c s a).1 by omega)]
theorem ref_New (c : Cf) (hg : Good c) (live s a : Int) (w : World) (ha : GoodA a) :
 Calls Tryz.prog 25 #[c.v, .int .i64 live, .int .i64 s, .int .i64 a] w fun e w' => e = .returned (.tuple #[.int .i64 (adm c live s a).1, .int .i64 (adm c live s a).2]) ∧ Below w.heap.size w w' := by
 obtain ⟨b1, b2, b3, b4, b5, b6, b7⟩ := hg.bounds
 have HC := As.mk (fun w => ref_Charge c hg s a w ha)
 obtain ⟨d1, d2⟩ := chg_bd c hg s a ha
 have hA := adm_alt c live s a
 obtain ⟨r, hr⟩ : ∃ r, r = chg c s a := ⟨_, rfl⟩
 rw [← hr] at HC d1 d2 hA
 clear hr
 obtain ⟨r1, r2⟩ := r
 obtain ⟨q, rfl⟩ : ∃ q : Nat, r1 = (q : Int) := ⟨r1.toNat, by simp at d1 ⊢; omega⟩
 simp only [] at HC d1 d2 hA
 rw [Cf.v] at HC ⊢
 have hcase : (∃ n : (r2 == 0) = false, adm c live s a = (0, r2)) ∨ (r2 = 0 ∧ live > (c.M : Int) - q ∧ adm c live s a = (0, 5)) ∨ (r2 = 0 ∧ ¬ live > (c.M : Int) - q ∧ adm c live s a = ((q : Int), 0)) := by
  by_cases c1 : r2 = 0
  · subst c1
    rw [if_neg (by simp)] at hA
    by_cases c2 : live > (c.M : Int) - q
    · rw [if_pos c2] at hA; exact Or.inr (Or.inl ⟨rfl, c2, hA⟩)
    · rw [if_neg c2] at hA; exact Or.inr (Or.inr ⟨rfl, c2, hA⟩)
  · rw [if_pos c1] at hA; exact Or.inl ⟨beqF c1, hA⟩
 clear hA
 rcases hcase with ⟨c1, hA⟩ | ⟨rfl, c1, hA⟩ | ⟨rfl, c1, hA⟩
 all_goals
  rw [hA]
  clear hA
  go_enter Tryz.func25, Tryz.ntmps25
  go_wp2_with (first | (go_at_call 21; (with_reducible refine (HC.out _).mono ?_); rintro e w1 ⟨rfl, hb⟩; have HB := As.mk (below_trans1 hb); have z1 := cell_below hb (show (w.alloc _).cell? ⟨w.heap.size, 2, none⟩ = some (.int .i64 c.M) by simp); clear hb))
  go_ret2
  exact ⟨rfl, HB.out⟩
theorem ref_Anew (c : Cf) (hg : Good c) (live old s : Int) (w : World) :
 Calls Tryz.prog 83 #[c.v, .int .i64 live, .int .i64 old, .int .i64 s] w fun e w' => e = .returned (.tuple #[.int .i64 (adm c (wrap64 (live - old)) s 1).1, .int .i64 (adm c (wrap64 (live - old)) s 1).2]) ∧ Below w.heap.size w w' := by
 have HC := As.mk (fun w => ref_New c hg (wrap64 (live - old)) s 1 w (Or.inr (Or.inr ⟨0, by decide, rfl⟩)))
 rw [Cf.v] at HC ⊢
 go_enter Tryz.func83, Tryz.ntmps83
 go_wp2_with (first | (go_at_call 25; (with_reducible refine (HC.out _).mono ?_); rintro e w1 ⟨rfl, hb⟩; have HB := As.mk (below_trans1 hb); clear hb))
 go_ret2
 exact ⟨rfl, HB.out⟩
theorem ref_Product (c : Cf) (n s : Int) (w : World) (hn : n ≤ 2 ^ 30) (hs : s ≤ 2 ^ 30) :
 Calls Tryz.prog 96 #[c.v, .int .i64 n, .int .i64 s] w fun e w' => e = .returned (.tuple #[.int .i64 (prd c n s).1, .int .i64 (prd c n s).2]) ∧ Below w.heap.size w w' := by
 rw [Cf.v]
 by_cases c1 : n < 0 ∨ s < 0
 · have e : prd c n s = (0, 2) := by unfold prd; rw [if_pos c1]
   rw [e]
   clear e
   rcases c1 with c1 | c1
   all_goals
    go_enter Tryz.func96, Tryz.ntmps96
    go_wp2
    all_goals
     go_ret2
     exact ⟨rfl, box_below _ _⟩
 · obtain ⟨a, rfl⟩ : ∃ a : Nat, n = (a : Int) := ⟨n.toNat, by omega⟩
   obtain ⟨b, rfl⟩ : ∃ b : Nat, s = (b : Int) := ⟨s.toNat, by omega⟩
   have hm : (a : Int) * (b : Int) = ((a * b : Nat) : Int) := by rw [Int.natCast_mul]
   have hcase : (((a * b : Nat) : Int) > c.N ∧ prd c a b = (0, 4)) ∨ (¬ ((a * b : Nat) : Int) > c.N ∧ prd c a b = (((a * b : Nat) : Int), 0)) := by
    have hP : prd c a b = if (a : Int) * b > c.N then (0, 4) else ((a : Int) * b, 0) := by unfold prd; rw [if_neg c1]
    rw [hm] at hP
    by_cases c2 : ((a * b : Nat) : Int) > c.N
    · rw [if_pos c2] at hP; exact Or.inl ⟨c2, hP⟩
    · rw [if_neg c2] at hP; exact Or.inr ⟨c2, hP⟩
   have HM := As.mk (fun w => ref_Mul a b w (by omega) (by omega))
   obtain ⟨p, hp⟩ : ∃ p, p = a * b := ⟨_, rfl⟩
   rw [← hp] at HM hcase
   clear hp hm c1
   have x1 : ¬ (a : Int) < 0 := by omega
   have x2 : ¬ (b : Int) < 0 := by omega
   rcases hcase with ⟨c2, e⟩ | ⟨c2, e⟩
   all_goals
    rw [e]
    clear e
    go_enter Tryz.func96, Tryz.ntmps96
    go_wp2_with (first | (go_at_call 109; (with_reducible refine (HM.out _).mono ?_); rintro e w1 ⟨rfl, rfl⟩))
    go_ret2
    exact ⟨rfl, box_below _ _⟩
theorem ref_Many (c : Cf) (hg : Good c) (live n s : Int) (w : World) (hn : n ≤ 2 ^ 30) (hs : s ≤ 2 ^ 30) :
 Calls Tryz.prog 80 #[c.v, .int .i64 live, .int .i64 n, .int .i64 s] w fun e w' => e = .returned (.tuple #[.int .i64 (many c live n s).1, .int .i64 (many c live n s).2]) ∧ Below w.heap.size w w' := by
 have HP := As.mk (fun w => ref_Product c n s w hn hs)
 have HN := As.mk (fun w => ref_New c hg live (prd c n s).1 1 w (Or.inr (Or.inr ⟨0, by decide, rfl⟩)))
 have hA : many c live n s = if (prd c n s).2 ≠ 0 then (0, (prd c n s).2) else adm c live (prd c n s).1 1 := rfl
 obtain ⟨r, hr⟩ : ∃ r, r = prd c n s := ⟨_, rfl⟩
 rw [← hr] at HP HN hA
 clear hr
 obtain ⟨r1, r2⟩ := r
 simp only [] at HP HN hA
 rw [Cf.v] at HP HN ⊢
 have hcase : (∃ _ : (r2 == 0) = false, many c live n s = (0, r2)) ∨ (r2 = 0 ∧ many c live n s = adm c live r1 1) := by
  by_cases c1 : r2 = 0
  · subst c1; rw [if_neg (by simp)] at hA; exact Or.inr ⟨rfl, hA⟩
  · rw [if_pos c1] at hA; exact Or.inl ⟨beqF c1, hA⟩
 clear hA
 rcases hcase with ⟨c1, hA⟩ | ⟨rfl, hA⟩
 all_goals
  rw [hA]
  clear hA
  go_enter Tryz.func80, Tryz.ntmps80
  go_wp2_with (first | (go_at_call 96; (with_reducible refine (HP.out _).mono ?_); rintro e w1 ⟨rfl, hb⟩; have HB := As.mk (below_trans1 hb); have z0 := box_cell hb 0 _ rfl; have z1 := box_cell hb 1 _ rfl; have z2 := box_cell hb 2 _ rfl; have z3 := box_cell hb 3 _ rfl; have z4 := box_cell hb 4 _ rfl; have z5 := box_cell hb 5 _ rfl; have z6 := box_cell hb 6 _ rfl; have z7 := box_cell hb 7 _ rfl; clear hb) | (go_at_call 25; (with_reducible refine (HN.out _).mono ?_); rintro e w2 ⟨rfl, hb⟩; have HB2 := As.mk (HB.out.trans (hb.mono HB.out.size)); clear hb))
  go_ret2
  exact ⟨rfl, by first | exact HB2.out | exact HB.out⟩
theorem Good.lev {c : Cf} (hg : Good c) : c.L ≤ 15 := by
 obtain ⟨b1, b2, b3, b4, b5, b6, b7⟩ := hg.bounds
 obtain ⟨g, pg, kk, h1, h2, _⟩ := hg.pow
 have h3 : 2 ^ c.L ≤ 2 ^ (g + c.L) := Nat.pow_le_pow_right (by decide) (by omega)
 rw [← h2] at h3
 exact (Nat.pow_le_pow_iff_right (a := 2) (by decide)).1 (show 2 ^ c.L ≤ 2 ^ 15 by omega)
theorem ref_Size (c : Cf) (hg : Good c) (k : Nat) (w : World) (hk : k ≤ c.L) :
 Calls Tryz.prog 79 #[c.v, .int .i64 k] w fun e w' => e = .returned (.int .i64 ((c.G * 2 ^ k : Nat) : Int)) ∧ Below w.heap.size w w' := by
 obtain ⟨b1, b2, b3, b4, b5, b6, b7⟩ := hg.bounds
 obtain ⟨g, pg, kk, h1, h2, _⟩ := hg.pow
 have hn : ∀ j, j ≤ k → c.G * 2 ^ j ≤ 65536 := fun j hj => by
  have : c.G * 2 ^ j ≤ c.N := by rw [h1, h2, ← Nat.pow_add]; exact Nat.pow_le_pow_right (by decide) (by omega)
  omega
 have HN := As.mk hn
 have hl := hg.lev
 clear hn h1 h2
 rw [Cf.v]
 go_enter Tryz.func79, Tryz.ntmps79
 go_wp2
 go_loop [5, 6] (fun a b => ∃ j p : Nat, As (p = c.G * 2 ^ j) ∧ p ≤ 65536 ∧ j ≤ k ∧ a = .int .i64 (p : Int) ∧ b = .int .i64 (j : Int)) (fun _ b => k - (intOf b).toNat)
 case atStart => exact ⟨0, c.G, ⟨by simp⟩, by omega, by omega, rfl, rfl⟩
 case round =>
  obtain ⟨j, p, HP, hp2, hj, rfl, rfl⟩ := hrel
  by_cases hlt : j < k
  · have hp3 := HN.out (j + 1) (by omega)
    rw [Nat.pow_succ, ← Nat.mul_assoc, ← HP.out] at hp3
    go_wp2
    go_round
    case rel => exact ⟨j + 1, p * 2, ⟨by rw [HP.out, Nat.pow_succ, Nat.mul_assoc]⟩, by omega, by omega, by go_num, by go_num⟩
    case measure => simp [intOf]; omega
  · have e : j = k := by omega
    subst e
    go_wp2
    go_ret
    exact ⟨by rw [HP.out]; rfl, box_below _ _⟩
end Go.Proofs.YtmookafmdonopaaGreat.Top
