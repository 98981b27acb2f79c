/- Plainly: when a call that asks is let in; that EPlace never is, whatever is asked. -/
import Derived.Test.YtmookafmdonopaaGreatCT52
import Derived.Test.YtmookafmdonopaaGreatCT49
namespace Go.Proofs.YtmookafmdonopaaGreat.Top
open Go Go.RowKit
set_option linter.unusedVariables false
set_option linter.unusedSimpArgs false
variable {c : Cf} {s : Hs}

theorem wf_u8p {u : Int} (h : (Lit.int .u8 u).wf = true) : ∃ n : Nat, u = (n : Int) ∧ n < 256 := by
 simp only [Lit.wf, Bool.and_eq_true, decide_eq_true_eq, show IntKind.u8.min = 0 from rfl, show IntKind.u8.max = 255 from rfl] at h
 exact ⟨u.toNat, by omega, by omega⟩
theorem adm_chg {c : Cf} {l s a x : Int} (h : adm c l s a = (x, 0)) : chg c s a = (x, 0) := by
 unfold adm at h
 split at h
 · rename_i h1
   injection h with h2 h3
   exact absurd h3 h1
 · rename_i h1
   split at h
   · injection h with h2 h3
     cases h3
   · injection h with h2 h3
     rw [← h2]
     have h4 : (chg c s a).2 = 0 := Decidable.byContradiction h1
     rw [← h4]
theorem chg_6 (c : Cf) (s a : Int) : (chg c s a).2 ≠ 6 := by
 unfold chg
 split
 · exact (by decide : (3 : Int) ≠ 6)
 · split
   · exact (by decide : (4 : Int) ≠ 6)
   · exact (by decide : (0 : Int) ≠ 6)
theorem adm_6 (c : Cf) (l s a : Int) : (adm c l s a).2 ≠ 6 := by
 unfold adm
 split
 · exact chg_6 c s a
 · split
   · exact (by decide : (5 : Int) ≠ 6)
   · exact (by decide : (0 : Int) ≠ 6)
theorem chg_7 (c : Cf) (s a : Int) : (chg c s a).2 ≠ 7 := by
 unfold chg
 split
 · exact (by decide : (3 : Int) ≠ 7)
 · split
   · exact (by decide : (4 : Int) ≠ 7)
   · exact (by decide : (0 : Int) ≠ 7)
theorem adm_7 (c : Cf) (l s a : Int) : (adm c l s a).2 ≠ 7 := by
 unfold adm
 split
 · exact chg_7 c s a
 · split
   · exact (by decide : (5 : Int) ≠ 7)
   · exact (by decide : (0 : Int) ≠ 7)
theorem many_7 (c : Cf) (l n s : Int) : (many c l n s).2 ≠ 7 := by
 unfold many
 split
 · unfold prd
   split
   · exact (by decide : (2 : Int) ≠ 7)
   · split
     · exact (by decide : (4 : Int) ≠ 7)
     · exact (by decide : (0 : Int) ≠ 7)
 · exact adm_7 _ _ _ _
/-- EPlace never is -/
theorem do_no7 (iv : Iv c s) (ci : Ci c s.bl) (mem : List Nat) {o : Opp} (ok : OpOk o) : (doP c s mem o).2.err ≠ 7 := by
 unfold doP
 split
 · exact asks_no7 iv ci (adm_may iv GoodA.one) (adm_7 _ _ _ _)
 · split
   · exact asks_no7 iv ci (many_may iv _ _) (many_7 _ _ _ _)
   · split
     · exact asks_no7 iv ci (adm_may iv ok.a) (adm_7 _ _ _ _)
     · split
       · unfold blockP
         cases hb : blkAt s o.p with
         | none => exact (by decide : (8 : Int) ≠ 7)
         | some b =>
          have hm := (blkAt_some hb).1
          dsimp only
          split
          · unfold reallocP
            by_cases h0 : (adm c ((sumB c s.bl - b.ch c : Nat) : Int) o.s 1).2 ≠ 0
            · rw [if_pos h0]; exact adm_7 _ _ _ _
            · rw [if_neg h0]
              have h2 := asks_no7 (iv.without hm).1 (Ci.without iv ci hm) (realloc_may iv hm h0) (by decide)
              split
              · exact h2
              · exact h2
          · split
            · exact (by decide : (0 : Int) ≠ 7)
            · split
              · exact (by decide : (0 : Int) ≠ 7)
              · split
                · exact (by decide : (9 : Int) ≠ 7)
                · split
                  · exact (by decide : (0 : Int) ≠ 7)
                  · exact (by decide : (0 : Int) ≠ 7)
       · split
         · exact (by decide : (0 : Int) ≠ 7)
         · exact (by decide : (0 : Int) ≠ 7)
/-- with one more block -/
theorem metL_app (c : Cf) (l : List MB) (b : MB) : metL c (l ++ [b]) = onTo (metL c l) (b.1 / c.Page) ((b.1 + b.2.1 - 1) / c.Page + 1 - b.1 / c.Page) := by
 have h := metL_snoc (c := c) (l := l ++ [b]) (q := l.length) (b := b) (by simp)
 rw [List.take_of_length_le (by simp), List.take_left] at h
 exact h
/-- when what is asked for is let in -/
theorem place_all (iv : Iv c s) (ci : Ci c s.bl) {S A : Int} (ha : GoodA A) :
 ((adm c (sumB c s.bl : Nat) S A).2 ≠ 0 ∧ (alignedP c s S A).2.err = (adm c (sumB c s.bl : Nat) S A).2) ∨
 (∃ k i a : Nat, adm c (sumB c s.bl : Nat) S A = (((c.G * 2 ^ k : Nat) : Int), 0) ∧ S = (a : Int) ∧ k ≤ c.L ∧ lowB c s.bl k = some i ∧ i * 2 ^ k * c.G + c.G * 2 ^ k ≤ c.H ∧
  (((alignedP c s S A).2.err = 0 ∧ (alignedP c s S A).2.at_ = ((i * 2 ^ k * c.G : Nat) : Int) ∧ cntT (metL c (s.bl.map (Bk.mb c) ++ [(i * 2 ^ k * c.G, c.G * 2 ^ k, (a : Int))])) ≤ c.P) ∨
   ((alignedP c s S A).2.err = 6 ∧ c.P < cntT (metL c (s.bl.map (Bk.mb c) ++ [(i * 2 ^ k * c.G, c.G * 2 ^ k, (a : Int))]))))) := by
 by_cases h0 : (adm c (sumB c s.bl : Nat) S A).2 = 0
 · obtain ⟨k, k1, k2, k3, k4, k5, k6⟩ := adm_ok iv.good ha h0
   obtain ⟨i, i1, i2⟩ := low_ceil iv.good iv.inv ci k2 (by omega)
   obtain ⟨a, rfl⟩ : ∃ a : Nat, S = (a : Int) := ⟨S.toNat, by omega⟩
   obtain ⟨b1, b2, b3⟩ := bkAt_ok iv.good iv.inv k2 i1 (asked := a) (by omega)
   refine Or.inr ⟨k, i, a, by rw [← k1, ← h0], rfl, k2, i1, b2, ?_⟩
   have hm : metL c (s.bl.map (Bk.mb c) ++ [(i * 2 ^ k * c.G, c.G * 2 ^ k, (a : Int))]) = onTo (metB (metN c s.bl)) (pgF c (bkAt c i k a)) (pgB c (bkAt c i k a) - pgF c (bkAt c i k a)) := by
    rw [metL_app, metL_bl]
    rfl
   rw [hm]
   have hP : alignedP c s (a : Int) A = ((putsP c s k a).1, ⟨(putsP c s k a).2.2, (putsP c s k a).2.1, 0, 0, 0, 0, 0, 0⟩) := by
    unfold alignedP asksP
    rw [h0, k1, if_neg (by simp), log_ch iv.good, Int.toNat_natCast]
   rw [hP]
   unfold putsP
   rw [i1]
   dsimp only
   unfold commitP
   by_cases hc : cntT (onTo (metB (metN c s.bl)) (pgF c (bkAt c i k a)) (pgB c (bkAt c i k a) - pgF c (bkAt c i k a))) > c.P
   · rw [if_pos hc]
     exact Or.inr ⟨rfl, hc⟩
   · rw [if_neg hc]
     exact Or.inl ⟨rfl, rfl, by omega⟩
 · refine Or.inl ⟨h0, ?_⟩
   unfold alignedP asksP
   rw [if_pos h0]
   rfl
theorem sum_take_le (c : Cf) (bl : List Bk) (q : Nat) : sumB c (bl.take q) ≤ sumB c bl := by
 have h3 : sumB c bl = sumB c (bl.take q) + sumB c (bl.drop q) := by
  unfold sumB
  rw [← List.sum_append, ← List.map_append, List.take_append_drop]
 omega
/-- whether pages are let be -/
theorem commit_ok (A A2 : Option Addr) (c c2 a b most n : Nat) (on met : List Bool) (w : World) (hn : on.length = n) (hm : met.length = n) (h1 : Row w (.slice A n c) n (on.map Value.bool)) (h2 : Row w (.slice A2 n c2) n (met.map Value.bool)) (hl : n ≤ 1000000) (h0 : 0 < n) (hab : a ≤ b) (hb : b ≤ n) (hp : most ≤ 2 ^ 30) :
 Calls Tryz.prog 27 #[.slice A n c, .slice A2 n c2, .int .i64 a, .int .i64 b, .int .i64 most] w fun e w' => (∃ v1 v2, e = .returned (.tuple #[v1, v2, .bool (decide (cntT (onTo met a (b - a)) ≤ most))])) ∧ Below w.heap.size w w' := by
 subst hn
 have h := commit_Commit A A2 c c2 a b most on met w h1 (by rw [hm]; exact h2) hl h0 hm hab hb hp
 rw [hm] at h
 refine h.mono ?_
 rintro e w' ⟨hbel, hc⟩
 refine ⟨?_, hbel⟩
 rcases hc with ⟨hc, he⟩ | ⟨x, fr, v1, v2, hc, he, -, -⟩
 · unfold commitP at hc
   by_cases h5 : cntT (onTo met a (b - a)) > most
   · exact ⟨_, _, by rw [he, decide_eq_false (by omega)]⟩
   · rw [if_neg h5] at hc
     cases hc
 · unfold commitP at hc
   by_cases h5 : cntT (onTo met a (b - a)) > most
   · rw [if_pos h5] at hc
     cases hc
   · exact ⟨_, _, by rw [he, decide_eq_true (by omega)]⟩
end Go.Proofs.YtmookafmdonopaaGreat.Top
