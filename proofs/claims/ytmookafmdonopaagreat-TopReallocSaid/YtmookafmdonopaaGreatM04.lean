/- The reference's configuration walked: hodmanref1.Of. -/
import Derived.Test.YtmookafmdonopaaGreatM03
import Derived.Test.YtmookafmdonopaaGreatM01
import Derived.Test.YtmookafmdonopaaGreatWLast
/- The reference's configuration walked: hodmanref1.Of. -/
namespace Go.Proofs.YtmookafmdonopaaGreat.Top
open Go Go.RowKit
set_option linter.unusedVariables false
set_option linter.unusedSimpArgs false
attribute [local go_sem] max2_int min2_int max_two min_two max_three

set_option maxRecDepth 100000 in
set_option maxHeartbeats 2000000 in
theorem ref_Of_ok (r : Rw) (w : World) (h : r.ok) :
 Calls Tryz.prog 58 #[r.v] w fun e w' => e = .returned (.tuple #[(confOf r).1.v, .int .i64 (confOf r).2]) ∧ Below w.heap.size w w' := by
 have HO := As.mk h
 obtain ⟨h1, h2, h3, h4, h5⟩ := h
 have HC := As.mk (show confOf r = if (ofP r).H ≤ 65536 then (ofP r, 0) else (Cf.zero, 1) by unfold confOf; by_cases hh : (ofP r).H ≤ 65536 <;> simp [hh, HO.out])
 have HP := As.mk (show ofP r = ofP r from rfl)
 obtain ⟨g, l, m, p, b, s⟩ := r
 simp only [] at h1 h2 h3 h4 h5
 obtain ⟨⟨a1, a2⟩, ⟨b1, b2⟩, ⟨c1, c2⟩, ⟨d1, d2⟩⟩ := within4 h1
 clear h1 HO
 obtain ⟨g, rfl⟩ : ∃ n : Nat, g = (n : Int) := ⟨g.toNat, by omega⟩
 obtain ⟨l, rfl⟩ : ∃ n : Nat, l = (n : Int) := ⟨l.toNat, by omega⟩
 obtain ⟨m, rfl⟩ : ∃ n : Nat, m = (n : Int) := ⟨m.toNat, by omega⟩
 obtain ⟨p, rfl⟩ : ∃ n : Nat, p = (n : Int) := ⟨p.toNat, by omega⟩
 obtain ⟨b, rfl⟩ : ∃ n : Nat, b = (n : Int) := ⟨b.toNat, by omega⟩
 obtain ⟨s, rfl⟩ : ∃ n : Nat, s = (n : Int) := ⟨s.toNat, by omega⟩
 have hof : ofP ⟨g, l, m, p, b, s⟩ = (let G := upN g; let N := upN (max l G); let Pg := upN (max p G); let M := rndN m (2 * max N Pg); let L := Nat.log2 (N / G); ⟨G, N, M, L, Pg, b, M + L * (M / 2), s⟩) := rfl
 simp only [] at hof
 obtain ⟨jg, e1, e2, e3⟩ := upN_spec g (by omega)
 obtain ⟨G, hG⟩ : ∃ G, G = upN g := ⟨_, rfl⟩
 have HG := As.mk (fun w => hG ▸ ref_Up g w (by omega) (by omega))
 rw [← hG] at hof e1 e2 e3
 clear hG
 obtain ⟨xn, hxn⟩ : ∃ x, x = max l G := ⟨_, rfl⟩
 obtain ⟨xp, hxp⟩ : ∃ x, x = max p G := ⟨_, rfl⟩
 rw [← hxn, ← hxp] at hof
 obtain ⟨jn, f1, f2, f3⟩ := upN_spec xn (by omega)
 obtain ⟨N, hN⟩ : ∃ N, N = upN xn := ⟨_, rfl⟩
 have HN := As.mk (fun w => hN ▸ ref_Up xn w (by omega) (by omega))
 rw [← hN] at hof f1 f2 f3
 clear hN
 obtain ⟨jp, i1, i2, i3⟩ := upN_spec xp (by omega)
 obtain ⟨Pg, hPg⟩ : ∃ N, N = upN xp := ⟨_, rfl⟩
 have HPg := As.mk (fun w => hPg ▸ ref_Up xp w (by omega) (by omega))
 rw [← hPg] at hof i1 i2 i3
 clear hPg
 obtain ⟨y, hy⟩ : ∃ y, y = 2 * max N Pg := ⟨_, rfl⟩
 rw [← hy] at hof
 obtain ⟨k, k1, k2, k3, k4⟩ := rndN_spec m y (by omega) (by omega)
 obtain ⟨M, hM⟩ : ∃ M, M = rndN m y := ⟨_, rfl⟩
 have HM := As.mk (fun w => hM ▸ ref_Round m y w (by omega) (by omega) (by omega))
 rw [← hM] at hof k3 k4
 clear hM k2
 have hgn : jg ≤ jn := (Nat.pow_le_pow_iff_right (a := 2) (by decide)).1 (by rw [← e1, ← f1]; omega)
 have hq : N / G = 2 ^ (jn - jg) := by rw [f1, e1, Nat.pow_div hgn (by decide)]
 have hjn : jn < 18 := (Nat.pow_lt_pow_iff_right (a := 2) (by decide)).1 (by rw [← f1]; omega)
 have hL : Nat.log2 (N / G) = jn - jg := by rw [hq, Nat.log2_two_pow]
 have HL := As.mk (fun w => hq ▸ ref_Log_pow (jn - jg) w (by omega))
 rw [hL] at hof
 obtain ⟨L, hLe⟩ : ∃ L, L = jn - jg := ⟨_, rfl⟩
 rw [← hLe] at hof HL hq
 have hL18 : L ≤ 18 := by omega
 have hqn : N / G ≤ N := Nat.div_le_self _ _
 have hdv : (N : Int) / (G : Int) = ((N / G : Nat) : Int) := rfl
 obtain ⟨q, hqq⟩ : ∃ q, q = N / G := ⟨_, rfl⟩
 rw [← hqq] at HL hdv hqn
 obtain ⟨m2, hm2⟩ : ∃ m2, m2 = M / 2 := ⟨_, rfl⟩
 rw [← hm2] at hof
 have hlm := mul_le_of (a := L) (b := m2) hL18 (by omega)
 have hlmi : (L : Int) * (m2 : Int) = ((L * m2 : Nat) : Int) := by rw [Int.natCast_mul]
 obtain ⟨lm, hlmE⟩ : ∃ lm, lm = L * m2 := ⟨_, rfl⟩
 rw [← hlmE] at hof hlmi hlm
 have z1 : max (l : Int) (G : Int) = (xn : Int) := by omega
 have z2 : max (p : Int) (G : Int) = (xp : Int) := by omega
 have z3 : max (N : Int) (Pg : Int) * 2 = (y : Int) := by omega
 have z4 : (M : Int) / 2 = (m2 : Int) := by omega
 have z5 : M ≤ 2 ^ 20 := by omega
 have z6 : y ≤ 2 ^ 20 := by omega
 have HOF := As.mk hof
 have hGz : 1 ≤ G := by omega
 have hN18 : N ≤ 2 ^ 18 := by omega
 have hG18 : G ≤ 2 ^ 18 := by omega
 have hP18 : Pg ≤ 2 ^ 18 := by omega
 have hm2b : m2 ≤ 2 ^ 20 := by omega
 have hR : ∃ C : Cf, ∃ e : Int, confOf ⟨g, l, m, p, b, s⟩ = (C, e) ∧ ((M + lm ≤ 65536 ∧ C = ⟨G, N, M, L, Pg, b, M + lm, s⟩ ∧ e = 0) ∨ (65536 < M + lm ∧ C = Cf.zero ∧ e = 1)) := by
  have h0 := HC.out
  rw [HOF.out] at h0
  by_cases hh : M + lm ≤ 65536
  · rw [if_pos hh] at h0
    exact ⟨_, _, h0, Or.inl ⟨hh, rfl, rfl⟩⟩
  · rw [if_neg hh] at h0
    exact ⟨_, _, h0, Or.inr ⟨by omega, rfl, rfl⟩⟩
 obtain ⟨C, e, hR1, hR2⟩ := hR
 rw [hR1]
 clear hof HC HP e1 e2 e3 f1 f2 f3 i1 i2 i3 hxn hxp hy k1 k3 k4 hgn hq hjn hL hLe hqq hm2 hlmE HOF hR1
 rw [Rw.v]
 have HDV := As.mk hdv
 obtain ⟨mx, hmx⟩ : ∃ mx : Nat, max (N : Int) (Pg : Int) = (mx : Int) := ⟨max N Pg, by omega⟩
 have hmy : y = 2 * mx := by omega
 have Z1 := As.mk z1
 have Z2 := As.mk z2
 have Z3 := As.mk (And.intro hmx (show (2 : Int) * (mx : Int) = (y : Int) by omega))
 have Z4 := As.mk (And.intro z4 hlmi)
 clear z1 z2 z3 z4 hmx hlmi hmy
 have g1 : (G = 0) = False := eq_false (by omega)
 have g2 : ((G : Int) = 0) = False := eq_false (by omega)
 have g3 : ((G : Int) == 0) = false := beqF (by omega)
 clear hdv
 have d1 : ((b : Int) < 0) = False := eq_false (by omega)
 have d2 : (65536 < (b : Int)) = False := eq_false (by omega)
 have d2' : (65536 < b) = False := eq_false (by omega)
 have d3 : ((s : Int) < 0) = False := eq_false (by omega)
 have d4 : (255 < (s : Int)) = False := eq_false (by omega)
 have d4' : (255 < s) = False := eq_false (by omega)
 have HO := As.mk ((((Own.start (X := []) w).box #[.int .i64 g, .int .i64 l, .int .i64 m, .int .i64 p, .int .i64 b, .int .i64 s] 25).box #[.int .i64 0, .int .i64 0, .int .i64 0, .int .i64 0, .int .i64 0, .int .i64 0, .int .i64 0, .int .i64 0] 34).box #[.int .i64 g, .int .i64 l, .int .i64 m, .int .i64 p] 3)
 go_enter Tryz.func58, Tryz.ntmps58
 go_wp2_with fail
 have ho := HO.out
 rw [World.size_alloc, World.size_alloc] at ho
 have HO0 := As.mk ho
 clear ho HO
 obtain ⟨w1, hw1⟩ : ∃ w1, w1 = (((w.alloc (.cells #[.int .i64 g, .int .i64 l, .int .i64 m, .int .i64 p, .int .i64 b, .int .i64 s] 25)).alloc (.cells #[.int .i64 0, .int .i64 0, .int .i64 0, .int .i64 0, .int .i64 0, .int .i64 0, .int .i64 0, .int .i64 0] 34)).alloc (.cells #[.int .i64 g, .int .i64 l, .int .i64 m, .int .i64 p] 3)) := ⟨_, rfl⟩
 rw [← hw1] at HO0 ⊢
 clear hw1
 have x0 := HO0.out.get me0 0 (by simp)
 have x1 := HO0.out.get me0 1 (by simp)
 have x2 := HO0.out.get me0 2 (by simp)
 have x3 := HO0.out.get me0 3 (by simp)
 go_loop [5] (fun i => ∃ k : Nat, k ≤ 4 ∧ i = .int .i64 (k : Int)) (fun i => 4 - (intOf i).toNat)
 case atStart => exact ⟨0, by omega, rfl⟩
 case round =>
  obtain ⟨k, hk, rfl⟩ := hrel
  have hk5 : k = 0 ∨ k = 1 ∨ k = 2 ∨ k = 3 ∨ k = 4 := by omega
  rcases hk5 with rfl | rfl | rfl | rfl | rfl
  rotate_left 4
  · clear x0 x1 x2 x3
    have r4 := HO0.out.get me2 4 (by simp)
    have r5 := HO0.out.get me2 5 (by simp)
    have HO1 := As.mk (HO0.out.box #[(.int .i64 0), (.int .i64 0), (.int .i64 0), (.int .i64 0), (.int .i64 0), (.int .i64 b), (.int .i64 0), (.int .i64 s)] 34)
    have r0 := HO1.out.get me3 0 (by simp)
    go_wp2_with fail
    obtain ⟨w2, hw2⟩ : ∃ w2, w2 = w1.alloc (.cells #[(.int .i64 0), (.int .i64 0), (.int .i64 0), (.int .i64 0), (.int .i64 0), (.int .i64 b), (.int .i64 0), (.int .i64 s)] 34) := ⟨_, rfl⟩
    obtain ⟨q1, hq1⟩ : ∃ q, q = w1.heap.size := ⟨_, rfl⟩
    rw [← hq1, ← hw2] at HO1
    simp only [← hq1, ← hw2]
    clear hw2 hq1 HO0 r0 r4 r5
    refine (HG.out _).mono ?_
    rintro e w3' ⟨rfl, hw3'⟩
    rw [hw3']
    clear hw3' w3'
    have s0_ := HO1.out.get me0 0 (by simp)
    have f0_ := HO1.out.frozen me0 0
    have HO2 := As.mk (HO1.out.set 0 rfl 0 (.int .i64 G) (by simp))
    simp only [zq6, zq5] at HO2
    have r1 := HO2.out.get me3 1 (by simp)
    have c0_ := HO2.out.get me0 0 (by simp)
    have z1 := Z1.out
    go_wp2_with fail
    clear z1
    obtain ⟨w3, hw3⟩ : ∃ w', w' = w2.setCell ⟨q1, 0, none⟩ (.int .i64 G) := ⟨_, rfl⟩
    rw [← hw3] at HO2
    simp only [← hw3]
    clear hw3 HO1 s0_ f0_ r1 c0_
    refine (HN.out _).mono ?_
    rintro e w4' ⟨rfl, hw4'⟩
    rw [hw4']
    clear hw4' w4'
    have s1_ := HO2.out.get me0 1 (by simp)
    have f1_ := HO2.out.frozen me0 1
    have HO3 := As.mk (HO2.out.set 0 rfl 1 (.int .i64 N) (by simp))
    simp only [zq6, zq5] at HO3
    have r3 := HO3.out.get me3 3 (by simp)
    have c0_ := HO3.out.get me0 0 (by simp)
    have z2 := Z2.out
    go_wp2_with fail
    clear z2
    obtain ⟨w4, hw4⟩ : ∃ w', w' = w3.setCell ⟨q1, 1, none⟩ (.int .i64 N) := ⟨_, rfl⟩
    rw [← hw4] at HO3
    simp only [← hw4]
    clear hw4 HO2 s1_ f1_ r3 c0_
    refine (HPg.out _).mono ?_
    rintro e w5' ⟨rfl, hw5'⟩
    rw [hw5']
    clear hw5' w5'
    have s4_ := HO3.out.get me0 4 (by simp)
    have f4_ := HO3.out.frozen me0 4
    have HO4 := As.mk (HO3.out.set 0 rfl 4 (.int .i64 Pg) (by simp))
    simp only [zq6, zq5] at HO4
    have r2 := HO4.out.get me3 2 (by simp)
    have c1_ := HO4.out.get me0 1 (by simp)
    have c4_ := HO4.out.get me0 4 (by simp)
    obtain ⟨z3, z3'⟩ := Z3.out
    go_wp2_with fail
    clear z3 z3'
    obtain ⟨w5, hw5⟩ : ∃ w', w' = w4.setCell ⟨q1, 4, none⟩ (.int .i64 Pg) := ⟨_, rfl⟩
    rw [← hw5] at HO4
    simp only [← hw5]
    clear hw5 HO3 s4_ f4_ r2 c1_ c4_
    refine (HM.out _).mono ?_
    rintro e w6' ⟨rfl, hw6'⟩
    rw [hw6']
    clear hw6' w6'
    have s2_ := HO4.out.get me0 2 (by simp)
    have f2_ := HO4.out.frozen me0 2
    have HO5 := As.mk (HO4.out.set 0 rfl 2 (.int .i64 M) (by simp))
    simp only [zq6, zq5] at HO5
    have c0_ := HO5.out.get me0 0 (by simp)
    have c1_ := HO5.out.get me0 1 (by simp)
    go_wp2_with fail
    obtain ⟨w6, hw6⟩ : ∃ w', w' = w5.setCell ⟨q1, 2, none⟩ (.int .i64 M) := ⟨_, rfl⟩
    rw [← hw6] at HO5
    simp only [← hw6]
    clear hw6 HO4 s2_ f2_ c0_ c1_
    rw [show wrap64 ((N : Int) / (G : Int)) = (q : Int) from by rw [HDV.out]; exact w64 _ (by omega) (by omega)]
    refine (HL.out _).mono ?_
    rintro e w7' ⟨rfl, hw7'⟩
    rw [hw7']
    clear hw7' w7'
    have s3_ := HO5.out.get me0 3 (by simp)
    have f3_ := HO5.out.frozen me0 3
    have HO6 := As.mk (HO5.out.set 0 rfl 3 (.int .i64 L) (by simp))
    simp only [zq6, zq5] at HO6
    have c2_ := HO6.out.get me0 2 (by simp)
    have c3_ := HO6.out.get me0 3 (by simp)
    have s6_ := HO6.out.get me0 6 (by simp)
    have f6_ := HO6.out.frozen me0 6
    have HO7 := As.mk (HO6.out.set 0 rfl 6 (.int .i64 ((M : Int) + lm)) (by simp))
    simp only [zq6, zq5] at HO7
    have e0_ := HO7.out.get me0 0 (by simp)
    have e1_ := HO7.out.get me0 1 (by simp)
    have e2_ := HO7.out.get me0 2 (by simp)
    have e3_ := HO7.out.get me0 3 (by simp)
    have e4_ := HO7.out.get me0 4 (by simp)
    have e5_ := HO7.out.get me0 5 (by simp)
    have e6_ := HO7.out.get me0 6 (by simp)
    have e7_ := HO7.out.get me0 7 (by simp)
    obtain ⟨z4, z5'⟩ := Z4.out
    have t0_ := HO7.out.get me2 0 (by simp)
    have g0_ := HO7.out.frozen me2 0
    have t1_ := HO7.out.get me2 1 (by simp)
    have g1_ := HO7.out.frozen me2 1
    have t2_ := HO7.out.get me2 2 (by simp)
    have g2_ := HO7.out.frozen me2 2
    have t3_ := HO7.out.get me2 3 (by simp)
    have g3_ := HO7.out.frozen me2 3
    have t4_ := HO7.out.get me2 4 (by simp)
    have g4_ := HO7.out.frozen me2 4
    have t5_ := HO7.out.get me2 5 (by simp)
    have g5_ := HO7.out.frozen me2 5
    have t6_ := HO7.out.get me2 6 (by simp)
    have g6_ := HO7.out.frozen me2 6
    have t7_ := HO7.out.get me2 7 (by simp)
    have g7_ := HO7.out.frozen me2 7
    rcases hR2 with ⟨c0, rfl, rfl⟩ | ⟨c0, rfl, rfl⟩
    · have c0' : (65536 < (M : Int) + (lm : Int)) = False := eq_false (by omega)
      go_wp2_with fail
      have HF := As.mk ((((((((HO7.out.set 2 rfl 0 (.int .i64 G) (by simp)).set 2 rfl 1 (.int .i64 N) (by simp)).set 2 rfl 2 (.int .i64 M) (by simp)).set 2 rfl 3 (.int .i64 L) (by simp)).set 2 rfl 4 (.int .i64 Pg) (by simp)).set 2 rfl 5 (.int .i64 b) (by simp)).set 2 rfl 6 (.int .i64 ((M : Int) + lm)) (by simp)).set 2 rfl 7 (.int .i64 s) (by simp))
      exact bodyPost_ret (v := .tuple #[.agg #[(.int .i64 G), (.int .i64 N), (.int .i64 M), (.int .i64 L), (.int .i64 Pg), (.int .i64 b), (.int .i64 ((M : Int) + lm)), (.int .i64 s)], .int .i64 0]) (by simp [results, Tryz.results58, go_sem, *]) rfl ⟨rfl, HF.out.toBelow⟩
    · have c0' : (65536 < (M : Int) + (lm : Int)) = True := eq_true (by omega)
      go_wp2_with fail
      have HF := As.mk ((((((((HO7.out.set 2 rfl 0 (.int .i64 0) (by simp)).set 2 rfl 1 (.int .i64 0) (by simp)).set 2 rfl 2 (.int .i64 0) (by simp)).set 2 rfl 3 (.int .i64 0) (by simp)).set 2 rfl 4 (.int .i64 0) (by simp)).set 2 rfl 5 (.int .i64 0) (by simp)).set 2 rfl 6 (.int .i64 0) (by simp)).set 2 rfl 7 (.int .i64 0) (by simp))
      exact bodyPost_ret (v := .tuple #[.agg #[(.int .i64 0), (.int .i64 0), (.int .i64 0), (.int .i64 0), (.int .i64 0), (.int .i64 0), (.int .i64 0), (.int .i64 0)], .int .i64 1]) (by simp [results, Tryz.results58, go_sem, *]) rfl ⟨rfl, HF.out.toBelow⟩
  all_goals
   go_wp2
   go_round
   case rel => first | exact ⟨1, by omega, rfl⟩ | exact ⟨2, by omega, rfl⟩ | exact ⟨3, by omega, rfl⟩ | exact ⟨4, by omega, rfl⟩
   case measure => simp [intOf]
end Go.Proofs.YtmookafmdonopaaGreat.Top
/- Regions that draw their order, walked once, by a plan: what only reads is taken first. -/
namespace Go.Proofs.YtmookafmdonopaaGreat.Top
open Go Go.RowKit Go.Proofs.YtmookafmdonopaaGreatW.PrintLast
set_option linter.unusedVariables false
set_option linter.unusedSimpArgs false

section
variable {P : Program} {ops : Array Oper} {Q : Exit → Act → World → Prop} {md : Region.Mode} {S : World → Prop} {ds : List Nat}

/-- 0: read where S holds; 1: yields anywhere; 2: carried out, S holds behind it; 3: carried out, nothing is shown (of ds) -/
def planOk (md : Region.Mode) (ops : Array Oper) (ds : List Nat) : Bool → List (Nat × Nat) → Array Bool → Bool
 | _, [], l => Region.ready md ops l == []
 | live, (i, k) :: p, l =>
  (ops[i]?).isSome && Region.noSelect ops && (match k with
  | 0 => live && Region.free md ops l i && (Region.ready md ops l).contains i && Region.closedB md ops l && Region.lastB md ops l ds i
  | 1 => Region.free md ops l i && (Region.ready md ops l).contains i
  | 2 => live && Region.ready md ops l == [i] && !ds.contains i
  | _ => Region.ready md ops l == [i] && ds.contains i) && planOk md ops ds (live && decide (k < 3)) p (l.setIfInBounds i true)

def Run (P : Program) (ops : Array Oper) (Q : Exit → Act → World → Prop) (S : World → Prop) : List (Nat × Nat) → Act → World → Prop
 | [], a, w => Q .normal a w
 | (i, 0) :: p, a, w => ∀ o, ops[i]? = some o → ∃ v, YieldsIf P ops S o v a ∧ Run P ops Q S p (a.put o.dst v) w
 | (i, 1) :: p, a, w => ∀ o, ops[i]? = some o → ∃ v, Yields P ops o v a ∧ Run P ops Q S p (a.put o.dst v) w
 | (i, 2) :: p, a, w => wpOp P ops Q i (fun a' w' => S w' ∧ Run P ops Q S p a' w') a w
 | (i, _) :: p, a, w => wpOp P ops Q i (fun a' w' => Run P ops Q S p a' w') a w

theorem run_sound (hQ : ∀ c a w d v, Q (.panic c) (Act.put a d v) w → Q (.panic c) a w) : ∀ (p : List (Nat × Nat)) (live : Bool) (l : Array Bool) (a : Act) (w : World) (fuel : Nat), p.length ≤ fuel → planOk md ops ds live p l = true → (live = true → S w) → Run P ops Q S p a w → wpAnyLast P md ops Q S ds fuel l a w
 | [], live, l, a, w, fuel, _, hok, hS, h => by
  simp only [planOk, beq_iff_eq] at hok
  exact wpAnyLast_done hok h fuel
 | (i, k) :: p, live, l, a, w, 0, hl, hok, hS, h => by simp at hl
 | (i, k) :: p, live, l, a, w, fuel + 1, hl, hok, hS, h => by
  have hl' : p.length ≤ fuel := by simp at hl; omega
  unfold planOk at hok
  rw [Bool.and_eq_true, Bool.and_eq_true, Bool.and_eq_true] at hok
  obtain ⟨⟨⟨h1, h2⟩, h3⟩, h4⟩ := hok
  obtain ⟨o, ho⟩ := Option.isSome_iff_exists.1 h1
  match k, h3, h4, h with
  | 0, h3, h4, h =>
   simp only [Bool.and_eq_true] at h3
   obtain ⟨⟨⟨⟨a1, a2⟩, a3⟩, a4⟩, a5⟩ := h3
   obtain ⟨v, hy, hr⟩ := h o ho
   exact wpAnyLast_take ho h2 a2 a3 a4 a5 (fun c a' w' hh => hQ c _ _ _ _ hh) hy (hS a1) (run_sound hQ p _ _ _ w fuel hl' h4 (fun hb => hS (by simpa using hb)) hr)
  | 1, h3, h4, h =>
   simp only [Bool.and_eq_true] at h3
   obtain ⟨v, hy, hr⟩ := h o ho
   exact wpAnyLast_any ho (Region.noSelect_spec h2) (fun c a' w' hh => hQ c _ _ _ _ hh) fuel l a w (Region.free_spec ho h3.1) (by simpa using h3.2) hy (run_sound hQ p _ _ _ w fuel hl' h4 (fun hb => hS (by simpa using hb)) hr)
  | 2, h3, h4, h =>
   simp only [Bool.and_eq_true, beq_iff_eq] at h3
   obtain ⟨⟨a1, a2⟩, a3⟩ := h3
   refine wpAnyLast_all a2 (by simp) fun j hj => ?_
   have e : j = i := by simpa using hj
   subst e
   refine wpOp_mono (fun a' w' hh => ?_) h
   exact ⟨fun _ _ => hh.1, run_sound hQ p _ _ _ w' fuel hl' h4 (fun _ => hh.1) hh.2⟩
  | k + 3, h3, h4, h =>
   simp only [Bool.and_eq_true, beq_iff_eq] at h3
   obtain ⟨a2, a3⟩ := h3
   refine wpAnyLast_all a2 (by simp) fun j hj => ?_
   have e : j = i := by simpa using hj
   subst e
   refine wpOp_mono (fun a' w' hh => ?_) h
   exact ⟨fun hn => absurd (by simpa using a3) hn, run_sound hQ p _ _ _ w' fuel hl' h4 (fun hb => by simp at hb; omega) hh⟩

/-- A region that draws its order: by a plan. -/
theorem rgn (p : List (Nat × Nat)) (ds : List Nat) (S : World → Prop) {id : Nat} {a : Act} {w : World} (hm : P.follows .mixedOrders = true) (hok : (decide (p.length = ops.size) && planOk .any ops ds true p (Array.replicate ops.size false)) = true)
 (hQ : ∀ c a w d v, Q (.panic c) (Act.put a d v) w → Q (.panic c) a w) (hS : S w.drew) (h : Run P ops Q S p a w.drew) : (Code.region id ops true).wp P Q a w := by
 rw [Bool.and_eq_true] at hok
 exact wp_region_last (S := S) (ds := ds) hm (run_sound hQ p true _ a _ _ (by have := of_decide_eq_true hok.1; omega) hok.2 (fun _ => hS) h)
namespace Run
theorem nil {a : Act} {w : World} (h : Q .normal a w) : Run P ops Q S [] a w := h
variable {p : List (Nat × Nat)} {i : Nat} {o : Oper} {N : Option Tmp} {a a' : Act} {w : World} {v : Value}
theorem rd (ho : ops[i]? = some o) (hN : o.dst = N) (hy : YieldsIf P ops S o v a) (ha : a.put N v = a') (h : Run P ops Q S p a' w) : Run P ops Q S ((i, 0) :: p) a w := by
 subst ha; subst hN
 intro o' ho'
 obtain rfl : o = o' := Option.some.inj (ho.symm.trans ho')
 exact ⟨v, hy, h⟩
theorem pu (ho : ops[i]? = some o) (hN : o.dst = N) (hy : Yields P ops o v a) (ha : a.put N v = a') (h : Run P ops Q S p a' w) : Run P ops Q S ((i, 1) :: p) a w := by
 subst ha; subst hN
 intro o' ho'
 obtain rfl : o = o' := Option.some.inj (ho.symm.trans ho')
 exact ⟨v, hy, h⟩
theorem wpOp_of_list {K : Act → World → Prop} (ho : ops[i]? = some o) (h : ∀ K' : Exit → Act → World → Prop, As (∀ a' w', K a' w' → K' .normal a' w') → wpList P ops K' [o] a w) : wpOp P ops Q i K a w := by
 have h1 := h (fun x a' w' => match x with
  | .normal => K a' w'
  | .panic c => Q (.panic c) a' w'
  | x => Q x a' w') ⟨fun a' w' h => h⟩
 unfold wpList at h1
 unfold wpOp
 simp only [ho]
 split at h1
 · rename_i hw
   rw [if_pos hw]
   rcases h1 with h1 | h1
   · refine Or.inl ?_
     unfold Oper.wp at *
     generalize (execOp a.eval o).run P w = r at *
     cases r with
     | ok n w' =>
      cases n <;> simp only [Oper.upon] at h1 ⊢ <;>
       first
        | exact h1
        | exact Calls.mono h1 (fun e w'' he => by cases e <;> exact he)
        | exact Rows.mono h1 (fun _ _ he => he)
     | halt x w' => cases x <;> simp only [Oper.upon] at h1 ⊢ <;> exact h1
   · exact Or.inr h1
 · rename_i hw
   rw [if_neg hw]
   exact h1
theorem ef (ho : ops[i]? = some o) (h : ∀ K' : Exit → Act → World → Prop, As (∀ a' w', S w' → Run P ops Q S p a' w' → K' .normal a' w') → wpList P ops K' [o] a w) : Run P ops Q S ((i, 2) :: p) a w :=
 wpOp_of_list ho fun K' hK => h K' ⟨fun a' w' h1 h2 => hK.out a' w' ⟨h1, h2⟩⟩
theorem la (ho : ops[i]? = some o) (h : ∀ K' : Exit → Act → World → Prop, As (∀ a' w', Run P ops Q S p a' w' → K' .normal a' w') → wpList P ops K' [o] a w) : Run P ops Q S ((i, 3) :: p) a w :=
 wpOp_of_list ho fun K' hK => h K' ⟨fun a' w' h1 => hK.out a' w' h1⟩
end Run
end
end Go.Proofs.YtmookafmdonopaaGreat.Top
/- hodmanplay's choices walked: Made, Num, Over, Raw, Size, Block. -/
namespace Go.Proofs.YtmookafmdonopaaGreat.Top
open Go Go.RowKit
set_option linter.unusedVariables false
set_option linter.unusedSimpArgs false
attribute [local go_sem] max2_int min2_int max_two min_two max_three

def byV (l : List Nat) : List Value := l.map fun (x : Nat) => Value.int .u8 (x : Int)
theorem byV_at (l : List Nat) (k m : Nat) (h : l[k]? = some m) : (byV l)[k]? = some (.int .u8 (m : Int)) := by simp [byV, h]
theorem byV_len (l : List Nat) : (byV l).length = l.length := by simp [byV]
/-- numbers from which choices are read -/
structure Bytes (w0 : World) (A : Option Addr) (n c : Nat) (bs : List Nat) : Prop where
 row : Row w0 (.slice A n c) n (byV bs)
 len : bs.length = n
 le : n ≤ 1000
 u8 : ∀ b ∈ bs, b < 256
/-- a row of the elder blocks -/
theorem Row.old {L : List (Nat × (Obj → Prop))} {R : World → Prop} {w0 w : World} {v : Value} {n : Nat} {cs : List Value} (h : Row w0 v n cs) (H : Own [] L R w0 w) : Row w v n cs := h.upd H.upd (fun _ _ _ _ => by simp)
/-- the choices' block -/
def PK (A : Option Addr) (n c j : Nat) : Obj → Prop := EC 73 [.slice A n c, .int .i64 (j : Int)]
theorem Row.cell' {w : World} {A : Option Addr} {n c : Nat} {cs : List Value} (h : Row w (.slice A n c) n cs) (hne : 0 < cs.length) : ∃ b o, A = some ⟨b, o, none⟩ ∧ n ≤ c ∧ ∀ i u, cs[i]? = some u → w.cell? ⟨b, o + i, none⟩ = some u := by
 obtain ⟨A', c', hv, hc, hr⟩ := h
 injection hv with h1 h2 h3
 subst h1
 rcases hr with rfl | ⟨b, o, hA, hcell⟩
 · simp at hne
 · exact ⟨b, o, hA, by omega, hcell⟩
set_option maxHeartbeats 1000000 in
theorem play_Num (L : List (Nat × (Obj → Prop))) (R : World → Prop) (w0 w : World) (p : Nat) (A : Option Addr) (n c j m : Nat) (bs : List Nat) (B : Bytes w0 A n c bs) (H : Own [] ((p, PK A n c j) :: L) R w0 w) (hj : j ≤ n) (hm : m ≤ 2 ^ 40) :
 Calls Tryz.prog 32 #[.pointer (some ⟨p, 0, none⟩), .int .i64 (m : Int)] w fun e w' => ∃ v j' : Nat, e = .returned (.int .i64 (v : Int)) ∧ (v = 0 ∨ v < m) ∧ j ≤ j' ∧ j' ≤ n ∧ Own [] ((p, PK A n c j') :: L) R w0 w' := by
 obtain ⟨hr, hl, hn, hu⟩ := B
 have z0 := H.get me0 0 (by simp)
 have z1 := H.get me0 1 (by simp)
 have HO := As.mk H
 by_cases h1 : n ≤ j
 · have c1 : ((n : Int) ≤ (j : Int)) = True := eq_true (by omega)
   clear hr hl hu H
   go_enter Tryz.func32, Tryz.ntmps32
   go_wp2_with fail
   go_quiet (fail)
   go_wp2_with fail
   go_ret
   exact ⟨0, j, rfl, Or.inl rfl, Nat.le_refl _, hj, by first | exact HO.out.drew | exact HO.out | exact HO.out.drewN _⟩
 · by_cases h2 : m < 1
   · have c1 : ((n : Int) ≤ (j : Int)) = False := eq_false (by omega)
     clear hr hl hu H
     go_enter Tryz.func32, Tryz.ntmps32
     go_wp2_with fail
     go_quiet (fail)
     go_wp2_with fail
     go_ret
     exact ⟨0, j, rfl, Or.inl rfl, Nat.le_refl _, hj, by first | exact HO.out.drew | exact HO.out | exact HO.out.drewN _⟩
   · have c1 : ((n : Int) ≤ (j : Int)) = False := eq_false (by omega)
     have c2 : ((m : Int) < 1) = False := eq_false (by omega)
     obtain ⟨b, hb⟩ : ∃ b, bs[j]? = some b := ⟨bs[j]'(by omega), List.getElem?_eq_getElem _⟩
     have hbu := hu b (List.mem_of_getElem? hb)
     have f1 := H.frozen (g := p) me0 1
     have e1 : ((j + 1 : Nat) : Int) - 1 = (j : Int) := by omega
     have e2 : Int.tmod (b : Int) (m : Int) = ((b % m : Nat) : Int) := rfl
     have e3 : (b : Int) % (m : Int) = ((b % m : Nat) : Int) := rfl
     have hlt := Nat.mod_lt b (show 0 < m by omega)
     have hle := Nat.mod_le b m
     obtain ⟨r, hr'⟩ : ∃ r, r = b % m := ⟨_, rfl⟩
     rw [← hr'] at e2 e3 hlt hle
     have d1 : (m = 0) = False := eq_false (by omega)
     have d2 : ((m : Int) = 0) = False := eq_false (by omega)
     have d3 : ((m : Int) == 0) = false := beqF (by omega)
     have HR := As.mk hr
     have HB := As.mk hb
     have hbl : 0 < (byV bs).length := by rw [byV_len]; omega
     clear hr hl hu H hb hr'
     go_enter Tryz.func32, Tryz.ntmps32
     go_wp2_with fail
     go_quiet (fail)
     go_wp2_with fail
     have HO1 := As.mk ((HO.out.drewN nq).set 0 rfl 1 (.int .i64 ((j : Int) + 1)) (by simp))
     simp only [zq6, zq5] at HO1
     obtain ⟨w1, hw1⟩ : ∃ w1, w1 = (w.drewN nq).setCell ⟨p, 1, none⟩ (.int .i64 ((j : Int) + 1)) := ⟨_, rfl⟩
     rw [← hw1] at HO1 ⊢
     clear hw1
     obtain ⟨b0, o0, rfl, hnc, hcell⟩ := (HR.out.old HO1.out).cell' hbl
     have y := hcell j _ (byV_at bs j b HB.out)
     have q0 := HO1.out.get me0 0 (by simp)
     have q1 := HO1.out.get me0 1 (by simp)
     clear hcell
     go_quiet (fail)
     go_wp2_with fail
     go_ret
     refine ⟨r, j + 1, by go_num, Or.inr hlt, by omega, by omega, ?_⟩
     exact HO1.out.drewN _
theorem play_Over (L : List (Nat × (Obj → Prop))) (R : World → Prop) (w0 w : World) (p : Nat) (A : Option Addr) (n c j : Nat) (H : Own [] ((p, PK A n c j) :: L) R w0 w) (hj : j ≤ n) (hn : n ≤ 1000) :
 Calls Tryz.prog 36 #[.pointer (some ⟨p, 0, none⟩)] w fun e w' => e = .returned (.bool (decide (n ≤ j))) ∧ Own [] ((p, PK A n c j) :: L) R w0 w' := by
 have z0 := H.get me0 0 (by simp)
 have z1 := H.get me0 1 (by simp)
 have HO := As.mk H
 have e1 : decide ((n : Int) ≤ (j : Int)) = decide (n ≤ j) := by simp
 clear H
 go_enter Tryz.func36, Tryz.ntmps36
 go_wp2_with fail
 go_quiet (fail)
 go_wp2_with fail
 go_ret
 exact ⟨by first | rfl | simp, HO.out.drewN _⟩
theorem play_Made (A : Option Addr) (n c : Nat) (w : World) :
 Calls Tryz.prog 11 #[.slice A n c] w fun e w' => e = .returned (.pointer (some ⟨w.heap.size, 0, none⟩)) ∧ w' = w.alloc (.cells #[.slice A n c, .int .i64 0] 73) := by
 go_enter Tryz.func11, Tryz.ntmps11
 go_wp2
 go_ret
 exact ⟨rfl, rfl⟩
/-- what is asked for, small -/
structure SmallR (r : Rw) : Prop where
 g : 1 ≤ r.g ∧ r.g ≤ 9
 l : 1 ≤ r.l ∧ r.l ≤ 108
 m : 1 ≤ r.m ∧ r.m ≤ 150
 p : 1 ≤ r.p ∧ r.p ≤ 30
 b : 0 ≤ r.b ∧ r.b ≤ 5000
 s : 0 ≤ r.s ∧ r.s ≤ 199
 lg : r.l ≤ r.g * 12
set_option maxHeartbeats 4000000 in
theorem play_Raw (L : List (Nat × (Obj → Prop))) (R : World → Prop) (w0 w : World) (p : Nat) (A : Option Addr) (n c j : Nat) (bud : Bool) (bs : List Nat) (B : Bytes w0 A n c bs) (H : Own [] ((p, PK A n c j) :: L) R w0 w) (hj : j ≤ n) :
 Calls Tryz.prog 12 #[.pointer (some ⟨p, 0, none⟩), .bool bud] w fun e w' => ∃ r : Rw, e = .returned r.v ∧ SmallR r ∧ (bud = true → r.b = 5000) ∧ ∃ j' : Nat, j' ≤ n ∧ Own [] ((p, PK A n c j') :: L) R w0 w' := by
 have HN := As.mk (fun (L : List (Nat × (Obj → Prop))) (R : World → Prop) (W : World) (j m : Nat) (H : Own [] ((p, PK A n c j) :: L) R w0 W) (hj : j ≤ n) (hm : m ≤ 2 ^ 40) => play_Num L R w0 W p A n c j m bs B H hj hm)
 have HO := As.mk ((H.box #[.int .i64 0, .int .i64 0, .int .i64 0, .int .i64 0, .int .i64 0, .int .i64 0] 25).swap)
 clear H B

 go_enter Tryz.func12, Tryz.ntmps12
 go_wp2_with fail
 obtain ⟨w1, hw1⟩ : ∃ w1, w1 = w.alloc (.cells #[.int .i64 0, .int .i64 0, .int .i64 0, .int .i64 0, .int .i64 0, .int .i64 0] 25) := ⟨_, rfl⟩
 rw [← hw1] at HO
 simp only [← hw1]
 clear hw1
 refine (HN.out _ _ _ j 9 HO.out hj (by decide)).mono ?_
 rintro e w2 ⟨v1, j1, rfl, hv1, -, hj1, ho⟩
 have HO1 := As.mk ho
 have hv1' : v1 ≤ 8 := by omega
 clear ho HO hv1 hj
 go_wp2_with fail
 refine (HN.out _ _ _ j1 12 HO1.out hj1 (by decide)).mono ?_
 rintro e w3 ⟨v2, j2, rfl, hv2, -, hj2, ho⟩
 have HO2 := As.mk ho
 have hv2' : v2 ≤ 11 := by omega
 clear ho HO1 hv2 hj1
 have hml : (1 + v1) * (1 + v2) ≤ 9 * 12 := Nat.mul_le_mul (by omega) (by omega)
 have hml1 : 1 ≤ (1 + v1) * (1 + v2) := Nat.mul_pos (by omega) (by omega)
 have hml2 : (1 + v1) * (1 + v2) ≤ (1 + v1) * 12 := Nat.mul_le_mul_left _ (by omega)
 have hmi : (1 + (v1 : Int)) * (1 + (v2 : Int)) = (((1 + v1) * (1 + v2) : Nat) : Int) := by
  rw [Int.natCast_mul, Int.natCast_add, Int.natCast_add]
  rfl
 obtain ⟨x, hx⟩ : ∃ x, x = (1 + v1) * (1 + v2) := ⟨_, rfl⟩
 rw [← hx] at hml hml1 hml2 hmi
 clear hx
 have M1 := As.mk (And.intro hmi (show wrap64 (x : Int) = (x : Int) from w64 _ (by omega) (by omega)))
 clear hmi
 go_wp2_with fail
 simp only [M1.out.1, M1.out.2]
 refine (HN.out _ _ _ j2 150 HO2.out hj2 (by decide)).mono ?_
 rintro e w4 ⟨v3, j3, rfl, hv3, -, hj3, ho⟩
 have HO3 := As.mk ho
 have hv3' : v3 ≤ 149 := by omega
 clear ho HO2 hv3 hj2
 go_wp2_with fail
 refine (HN.out _ _ _ j3 30 HO3.out hj3 (by decide)).mono ?_
 rintro e w5 ⟨v4, j4, rfl, hv4, -, hj4, ho⟩
 have HO4 := As.mk ho
 have hv4' : v4 ≤ 29 := by omega
 clear ho HO3 hv4 hj3
 go_wp2_with fail
 refine (HN.out _ _ _ j4 200 HO4.out hj4 (by decide)).mono ?_
 rintro e w6 ⟨v5, j5, rfl, hv5, -, hj5, ho⟩
 have HO5 := As.mk ho
 have hv5' : v5 ≤ 199 := by omega
 clear ho HO4 hv5 hj4
 go_wp2_with fail
 refine (HN.out _ _ _ j5 20 HO5.out hj5 (by decide)).mono ?_
 rintro e w7 ⟨v6, j6, rfl, hv6, -, hj6, ho⟩
 have HO6 := As.mk ho
 have hv6' : v6 ≤ 19 := by omega
 clear ho HO5 hv6 hj5
 have HA := As.mk (HO6.out.box #[.int .i64 (1 + (v1 : Int)), .int .i64 x, .int .i64 (1 + (v3 : Int)), .int .i64 (1 + (v4 : Int)), .int .i64 (1 + (v6 : Int)), .int .i64 v5] 25)
 cases bud with
 | true =>
  have HT := As.mk (HO6.out.box #[.int .i64 (1 + (v1 : Int)), .int .i64 x, .int .i64 (1 + (v3 : Int)), .int .i64 (1 + (v4 : Int)), .int .i64 5000, .int .i64 v5] 25)
  clear HA
  have t0 := HT.out.get me2 0 (by simp)
  have f0 := HT.out.frozen me2 0
  have t1 := HT.out.get me2 1 (by simp)
  have f1 := HT.out.frozen me2 1
  have t2 := HT.out.get me2 2 (by simp)
  have f2 := HT.out.frozen me2 2
  have t3 := HT.out.get me2 3 (by simp)
  have f3 := HT.out.frozen me2 3
  have t4 := HT.out.get me2 4 (by simp)
  have f4 := HT.out.frozen me2 4
  have t5 := HT.out.get me2 5 (by simp)
  have f5 := HT.out.frozen me2 5
  have HF := As.mk ((((((HT.out.set 2 rfl 0 (.int .i64 (1 + (v1 : Int))) (by simp)).set 2 rfl 1 (.int .i64 (x : Int)) (by simp)).set 2 rfl 2 (.int .i64 (1 + (v3 : Int))) (by simp)).set 2 rfl 3 (.int .i64 (1 + (v4 : Int))) (by simp)).set 2 rfl 4 (.int .i64 5000) (by simp)).set 2 rfl 5 (.int .i64 (v5 : Int)) (by simp))
  go_wp2_with fail
  refine bodyPost_ret (v := .agg #[.int .i64 (1 + (v1 : Int)), .int .i64 (x : Int), .int .i64 (1 + (v3 : Int)), .int .i64 (1 + (v4 : Int)), .int .i64 5000, .int .i64 (v5 : Int)]) (by simp [results, Tryz.results12, go_sem, *]) rfl ?_
  refine ⟨⟨(1 + (v1 : Int)), (x : Int), (1 + (v3 : Int)), (1 + (v4 : Int)), 5000, (v5 : Int)⟩, rfl, ⟨by simp only []; omega, by simp only []; omega, by simp only []; omega, by simp only []; omega, by simp only []; omega, by simp only []; omega, by simp only []; omega⟩, by simp, j6, hj6, ?_⟩
  exact HF.out.drop.drop2
 | false =>
  have HT := HA
  have t0 := HT.out.get me2 0 (by simp)
  have f0 := HT.out.frozen me2 0
  have t1 := HT.out.get me2 1 (by simp)
  have f1 := HT.out.frozen me2 1
  have t2 := HT.out.get me2 2 (by simp)
  have f2 := HT.out.frozen me2 2
  have t3 := HT.out.get me2 3 (by simp)
  have f3 := HT.out.frozen me2 3
  have t4 := HT.out.get me2 4 (by simp)
  have f4 := HT.out.frozen me2 4
  have t5 := HT.out.get me2 5 (by simp)
  have f5 := HT.out.frozen me2 5
  have HF := As.mk ((((((HT.out.set 2 rfl 0 (.int .i64 (1 + (v1 : Int))) (by simp)).set 2 rfl 1 (.int .i64 (x : Int)) (by simp)).set 2 rfl 2 (.int .i64 (1 + (v3 : Int))) (by simp)).set 2 rfl 3 (.int .i64 (1 + (v4 : Int))) (by simp)).set 2 rfl 4 (.int .i64 (1 + (v6 : Int))) (by simp)).set 2 rfl 5 (.int .i64 (v5 : Int)) (by simp))
  go_wp2_with fail
  refine bodyPost_ret (v := .agg #[.int .i64 (1 + (v1 : Int)), .int .i64 (x : Int), .int .i64 (1 + (v3 : Int)), .int .i64 (1 + (v4 : Int)), .int .i64 (1 + (v6 : Int)), .int .i64 (v5 : Int)]) (by simp [results, Tryz.results12, go_sem, *]) rfl ?_
  refine ⟨⟨(1 + (v1 : Int)), (x : Int), (1 + (v3 : Int)), (1 + (v4 : Int)), (1 + (v6 : Int)), (v5 : Int)⟩, rfl, ⟨by simp only []; omega, by simp only []; omega, by simp only []; omega, by simp only []; omega, by simp only []; omega, by simp only []; omega, by simp only []; omega⟩, by simp, j6, hj6, ?_⟩
  exact HF.out.drop.drop2
end Go.Proofs.YtmookafmdonopaaGreat.Top
