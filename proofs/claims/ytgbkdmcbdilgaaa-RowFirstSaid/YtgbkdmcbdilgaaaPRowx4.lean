/- Written by a program of this session (wip/tools/ext.py) out of the translation: Go functions told as Lean functions, with their walks; or the row of a law out of its plain part. Lean checks it. -/
import Derived.Test.YtgbkdmcbdilgaaaPRowx0
import Derived.Test.YtgbkdmcbdilgaaaPRowx1
import Derived.Test.YtgbkdmcbdilgaaaPRowx2
import Derived.Test.YtgbkdmcbdilgaaaPRowx3
namespace Go.Proofs.Ytgbkdmcbdilgaaa.PRow
open Go.RowKit Go.Proofs.YtgbkdmcbdilgaaaW.PrintWords Go.Proofs.YtgbkdmcbdilgaaaW.PrintLast Go.Proofs.YtgbkdmcbdilgaaaW.PrintMore
attribute [local go_sem] max2_int min2_int max_two min_two max_three min_three max_four min_four   -- for this text's walks alone
set_option linter.unusedVariables false
set_option linter.unusedSimpArgs false

/-! ### row_Set: function 25 -/
-- by hand
/-- a word of which some bits are set, or not -/
def word_on (on : Bool) (x m : Int) : Int := if on then Go.bits .or .u64 (Go.bits .andNot .u64 x m) m else Go.bits .andNot .u64 x m
def set_l : Nat → List Int → Int → Int → Int → Bool → Option (List Int)
  | 0, _, _, _, _, _ => none
  | k + 1, l, i, f, n, on => if i < (l.length : Int) then (if n > 0 then ((word_Mask.f 70 (Int.tmod f 64) (takes f n)).bind fun m => set_l k (l.set i.toNat (word_on on (rd l i) m)) (wrap64 (i + 1)) (wrap64 (f + takes f n)) (wrap64 (n - takes f n)) on) else some l) else some l
def row_Set.f (l0 : List Int) (a1 a2 : Int) (a3 : Bool) : Option (List Int) := (slices_Clone_uint64_uint64.f l0).bind fun t => if a1 < 0 then some t else (if a2 < 0 then some t else (if 0 ≤ wrap64 (Int.tdiv a1 64) then set_l (t.length + 1) t (wrap64 (Int.tdiv a1 64)) a1 a2 a3 else none))

theorem set_fin {wr w0 : World} {g c lb ob B2 nd : Nat} {xs : List Int} (HO : Kd.R (Kd.int .u64) 53 wr B2 (fun _ => True) (.slice (some ⟨g, 0, none⟩) xs.length c) xs) (HB : Below w0.heap.size w0 wr) (hbase : w0.heap.size ≤ g) (hl : wr.cell? ⟨lb, 0, none⟩ = some (.slice (some ⟨g, 0, none⟩) xs.length c)) {on : Bool} (hon : wr.cell? ⟨ob, 0, none⟩ = some (.bool on)) (hgl : g ≠ lb) (hgo : g ≠ ob) (i : Int) (hi0 : 0 ≤ i) (m : Int) (on' : Bool) :
    let W := if on' then ((World.drewN wr nd).setCell ⟨g, i.toNat, none⟩ (.int .u64 (Go.bits .andNot .u64 (rd xs i) m))).setCell ⟨g, i.toNat, none⟩ (.int .u64 (Go.bits .or .u64 (Go.bits .andNot .u64 (rd xs i) m) m)) else (World.drewN wr nd).setCell ⟨g, i.toNat, none⟩ (.int .u64 (Go.bits .andNot .u64 (rd xs i) m))
    Kd.R (Kd.int .u64) 53 W B2 (fun _ => True) (.slice (some ⟨g, 0, none⟩) xs.length c) (xs.set i.toNat (word_on on' (rd xs i) m)) ∧ W.cell? ⟨lb, 0, none⟩ = some (.slice (some ⟨g, 0, none⟩) xs.length c) ∧ W.cell? ⟨ob, 0, none⟩ = some (.bool on) ∧ Below w0.heap.size w0 W := by
  intro W
  have r1 := Kd.R_putn (Kd.R_drewN HO nd) i (Go.bits .andNot .u64 (rd xs i) m)
  have b1 := (pw_below_drewN HB nd).setCell (p := ⟨g, i.toNat, none⟩) hbase (.int .u64 (Go.bits .andNot .u64 (rd xs i) m))
  have l1 : ((World.drewN wr nd).setCell ⟨g, i.toNat, none⟩ (.int .u64 (Go.bits .andNot .u64 (rd xs i) m))).cell? ⟨lb, 0, none⟩ = some (.slice (some ⟨g, 0, none⟩) xs.length c) := by
    rw [World.cell?_setCell_far _ _ _ _ hgl]; exact hl
  have o1 : ((World.drewN wr nd).setCell ⟨g, i.toNat, none⟩ (.int .u64 (Go.bits .andNot .u64 (rd xs i) m))).cell? ⟨ob, 0, none⟩ = some (.bool on) := by
    rw [World.cell?_setCell_far _ _ _ _ hgo]; exact hon
  cases on' with
  | false => exact ⟨r1, l1, o1, b1⟩
  | true =>
    have r2 := Kd.R_putn r1 i (Go.bits .or .u64 (Go.bits .andNot .u64 (rd xs i) m) m)
    rw [List.set_set] at r2
    exact ⟨r2, by show World.cell? (World.setCell _ _ _) _ = _; rw [World.cell?_setCell_far _ _ _ _ hgl]; exact l1, by show World.cell? (World.setCell _ _ _) _ = _; rw [World.cell?_setCell_far _ _ _ _ hgo]; exact o1, b1.setCell (p := ⟨g, i.toNat, none⟩) hbase _⟩
theorem slice_inj {A B : Option Addr} {n m c d : Nat} (h : Value.slice A n c = .slice B m d) : A = B ∧ c = d := by
  injection h with h1 h2 h3
  exact ⟨h1, h3⟩
theorem each_set_walk (A : Option Addr) (c : Nat) (t0 : List Int) (a1 a2 : Int) (on : Bool) (r : List Int) (lb ob B2 K : Nat) (w0 w : World) (hO : Kd.R (Kd.int .u64) 53 w B2 (fun _ => True) (.slice A t0.length c) t0) (hB : Below w0.heap.size w0 w) (hB2 : w0.heap.size ≤ B2) (hlb : lb < B2) (hob : ob < B2)
    (hl : w.cell? ⟨lb, 0, none⟩ = some (.slice A t0.length c)) (hon : w.cell? ⟨ob, 0, none⟩ = some (.bool on)) (h1 : 0 ≤ a1) (h2 : 0 ≤ a2) (hi0 : 0 ≤ wrap64 (Int.tdiv a1 64)) (hf : set_l K t0 (wrap64 (Int.tdiv a1 64)) a1 a2 on = some r) :
    Calls Try.prog 39 #[.slice A t0.length c, .int .i64 a1, .int .i64 a2, .func (.func 42) #[] #[.pointer (some ⟨lb, 0, none⟩), .pointer (some ⟨ob, 0, none⟩)]] w fun e w' => e = .returned (.tuple #[]) ∧ r.length = t0.length ∧ Kd.R (Kd.int .u64) 53 w' B2 (fun _ => True) (.slice A t0.length c) r ∧ w'.cell? ⟨lb, 0, none⟩ = some (.slice A t0.length c) ∧ Below w0.heap.size w0 w' := by
  have H0 := Aside0.mk hf
  have HO := Aside0.mk hO
  have HB := Aside0.mk hB
  have HL := Aside0.mk hl
  have HON := Aside0.mk hon
  clear hf hO hB hl hon
  have c1 : ¬ a1 < 0 := by omega
  have c2 : ¬ a2 < 0 := by omega
  have c1b := eq_false c1
  have c1c := decide_eq_false c1
  have c2b := eq_false c2
  have c2c := decide_eq_false c2
  clear c1 c2
  go_enter Try.func39, Try.ntmps39
  go_wp2
  clear c1b c1c c2b c2c
  obtain ⟨L, hL⟩ : ∃ L, L = t0.length := ⟨_, rfl⟩
  rw [← hL] at HO HL ⊢
  have hL2 := Aside0.mk hL
  go_loopg [1, 2, 8] K (fun k v1 v2 v8 wr => ∃ (i f n : Int) (xs : List Int), v8 = .int .i64 i ∧ v1 = .int .i64 f ∧ v2 = .int .i64 n ∧ 0 ≤ i ∧ set_l k xs i f n on = some r ∧ xs.length = L ∧ Kd.R (Kd.int .u64) 53 wr B2 (fun _ => True) (.slice A L c) xs ∧ wr.cell? ⟨lb, 0, none⟩ = some (.slice A L c) ∧ wr.cell? ⟨ob, 0, none⟩ = some (.bool on) ∧ Below w0.heap.size w0 wr)
  case atStart => exact ⟨_, a1, a2, t0, rfl, rfl, rfl, hi0, H0.out, hL.symm, HO.out, HL.out, HON.out, HB.out⟩
  case round =>
    clear H0 HO HB HL HON hi0 hL h1 h2
    obtain ⟨i, f, n, xs, rfl, rfl, rfl, hi0, hf, hxl, hO, hl, hon, hB⟩ := hrel
    cases gk with
    | zero => simp [set_l] at hf
    | succ k =>
      rw [set_l] at hf
      subst hxl
      have HO := Aside0.mk hO
      have HL := Aside0.mk hl
      have HON := Aside0.mk hon
      have HB := Aside0.mk hB
      clear hO hl hon hB
      by_cases c1 : i < (xs.length : Int)
      · rw [if_pos c1] at hf
        have c1b := eq_true c1
        have c1c := decide_eq_true c1
        by_cases c2 : n > 0
        · rw [if_pos c2] at hf
          have c2b := eq_true c2
          have c2c := decide_eq_true c2
          obtain ⟨m, hm, hf2⟩ := Option.bind_eq_some_iff.mp hf
          clear hf
          have A1 := Aside0.mk hm
          have A3 := Aside0.mk hf2
          clear hm hf2
          obtain ⟨t, ht⟩ : ∃ t, takes f n = t := ⟨_, rfl⟩
          rw [ht] at A1 A3
          obtain ⟨g, cg, eg, hg1, hg2, _⟩ := Kd.R_form HO.out (by omega)
          obtain ⟨rfl, rfl⟩ := slice_inj eg
          clear eg
          obtain ⟨hx, hxf⟩ := Kd.R_celln 0 HO.out i hi0 c1
          have hgl : g ≠ lb := by omega
          have hgo : g ≠ ob := by omega
          have hbase : w0.heap.size ≤ g := by omega
          have A4 := Aside0.mk hx
          have A6 := Aside0.mk hxf
          have A5 := Aside0.mk ht
          clear hx hxf ht
          by_cases c3 : n < wrap64 (64 - Int.tmod f 64)
          · obtain rfl : t = n := by have h_ := A5.out; unfold takes mn at h_; split at h_ <;> omega
            have c4 := eq_true c3
            have c5 := decide_eq_true c3
            clear c3
            go_wp2_with (first | (go_at_call 35; (with_reducible refine (word_Mask.calls 70 _ _ m _ A1.out).mono ?_); rintro e w' ⟨rfl, ⟨nd, rfl⟩⟩; have q1 := Aside0.mk (show (World.drewN wr nd).cell? ⟨lb, 0, none⟩ = some (.slice (some ⟨g, 0, none⟩) xs.length c) from HL.out); have q2 := Aside0.mk (show (World.drewN wr nd).cell? ⟨ob, 0, none⟩ = some (.bool on) from HON.out); have q3 := Aside0.mk (show (World.drewN wr nd).cell? ⟨g, i.toNat, none⟩ = some (.int .u64 (rd xs i)) from A4.out); have q4 := Aside0.mk (show (World.drewN wr nd).frozen? ⟨g, i.toNat, none⟩ = false from A6.out)) | (go_at_call 42; (with_reducible refine (set_do i m (rd xs i) g xs.length c lb ob on _ q1.out q2.out q3.out q4.out hgl hgo hi0 c1).mono ?_); rintro e w' ⟨rfl, hw'⟩; have HW := Aside0.mk hw'; clear hw'))
            have hfin := set_fin (nd := nd) HO.out HB.out hbase HL.out HON.out hgl hgo i hi0 m on
            rw [← HW.out] at hfin
            obtain ⟨f1, f2, f3, f4⟩ := hfin
            have F1 := Aside0.mk f1
            have F2 := Aside0.mk f2
            have F3 := Aside0.mk f3
            have F4 := Aside0.mk f4
            clear f1 f2 f3 f4
            go_roundg k
            case measure => omega
            case rel => exact ⟨wrap64 (i + 1), wrap64 (f + t), wrap64 (t - t), _, rfl, rfl, (by first | rfl | (rw [Int.sub_self]; exact congrArg (Value.int IntKind.i64) (by unfold wrap64; omega))), wrap_next hi0 c1 (Kd.C_max (Kd.R_reads' HO.out).2.2), A3.out, by rw [List.length_set], F1.out, F2.out, F3.out, F4.out⟩
          · have c4 := eq_false c3
            have c5 := decide_eq_false c3
            obtain rfl : t = wrap64 (64 - Int.tmod f 64) := by have h_ := A5.out; unfold takes mn at h_; split at h_ <;> omega
            clear c3
            go_wp2_with (first | (go_at_call 35; (with_reducible refine (word_Mask.calls 70 _ _ m _ A1.out).mono ?_); rintro e w' ⟨rfl, ⟨nd, rfl⟩⟩; have q1 := Aside0.mk (show (World.drewN wr nd).cell? ⟨lb, 0, none⟩ = some (.slice (some ⟨g, 0, none⟩) xs.length c) from HL.out); have q2 := Aside0.mk (show (World.drewN wr nd).cell? ⟨ob, 0, none⟩ = some (.bool on) from HON.out); have q3 := Aside0.mk (show (World.drewN wr nd).cell? ⟨g, i.toNat, none⟩ = some (.int .u64 (rd xs i)) from A4.out); have q4 := Aside0.mk (show (World.drewN wr nd).frozen? ⟨g, i.toNat, none⟩ = false from A6.out)) | (go_at_call 42; (with_reducible refine (set_do i m (rd xs i) g xs.length c lb ob on _ q1.out q2.out q3.out q4.out hgl hgo hi0 c1).mono ?_); rintro e w' ⟨rfl, hw'⟩; have HW := Aside0.mk hw'; clear hw'))
            have hfin := set_fin (nd := nd) HO.out HB.out hbase HL.out HON.out hgl hgo i hi0 m on
            rw [← HW.out] at hfin
            obtain ⟨f1, f2, f3, f4⟩ := hfin
            have F1 := Aside0.mk f1
            have F2 := Aside0.mk f2
            have F3 := Aside0.mk f3
            have F4 := Aside0.mk f4
            clear f1 f2 f3 f4
            go_roundg k
            case measure => omega
            case rel => exact ⟨wrap64 (i + 1), wrap64 (f + (wrap64 (64 - Int.tmod f 64))), wrap64 (n - (wrap64 (64 - Int.tmod f 64))), _, rfl, rfl, (by first | rfl | (rw [Int.sub_self]; exact congrArg (Value.int IntKind.i64) (by unfold wrap64; omega))), wrap_next hi0 c1 (Kd.C_max (Kd.R_reads' HO.out).2.2), A3.out, by rw [List.length_set], F1.out, F2.out, F3.out, F4.out⟩
        · rw [if_neg c2] at hf
          obtain rfl := Option.some.inj hf
          have c2b := eq_false c2
          have c2c := decide_eq_false c2
          go_wp2
          go_end0
          exact ⟨rfl, hL2.out, by rw [← hL2.out]; exact HO.out, by rw [← hL2.out]; exact HL.out, HB.out⟩
      · rw [if_neg c1] at hf
        obtain rfl := Option.some.inj hf
        have c1b := eq_false c1
        have c1c := decide_eq_false c1
        go_wp2
        go_end0
        exact ⟨rfl, hL2.out, by rw [← hL2.out]; exact HO.out, by rw [← hL2.out]; exact HL.out, HB.out⟩
theorem set_begin {w w1 : World} {B c : Nat} {A : Option Addr} {xs : List Int} {x : Value} {on : Bool} (ho : Kd.R (Kd.int .u64) 53 w1 (B + 2) (fun _ => True) (.slice A xs.length c) xs) (hb : Below w.heap.size w w1) (hl : w1.cell? ⟨B, 0, none⟩ = some x) (hon : w1.cell? ⟨B + 1, 0, none⟩ = some (.bool on)) (hw : w.heap.size = B := by rfl) :
    Kd.R (Kd.int .u64) 53 (w1.setCell ⟨B, 0, none⟩ (.slice A xs.length c)) (B + 2) (fun _ => True) (.slice A xs.length c) xs ∧ Below w.heap.size w (w1.setCell ⟨B, 0, none⟩ (.slice A xs.length c)) ∧ (w1.setCell ⟨B, 0, none⟩ (.slice A xs.length c)).cell? ⟨B, 0, none⟩ = some (.slice A xs.length c) ∧ (w1.setCell ⟨B, 0, none⟩ (.slice A xs.length c)).cell? ⟨B + 1, 0, none⟩ = some (.bool on) := by
  refine ⟨?_, hb.setCell (p := ⟨B, 0, none⟩) (by rw [hw]; exact Nat.le_refl _) _, World.cell?_setCell_same' _ _ _ (by rw [hl]; rfl), ?_⟩
  · have h1 := Kd.R_far1 ho rfl (g := B) (fun e => by have := Kd.R_base ho B e.symm; omega)
    exact Kd.R_drop (Kd.R_far h1 (p := ⟨B, 0, none⟩) (fun k hk => hk.2) _)
  · rw [World.cell?_setCell_far _ _ _ _ (by simp)]; exact hon
/-- row.Set -/
theorem row_Set.calls (A0 : Option Addr) (c0 : Nat) (l0 : List Int) (a1 : Int) (a2 : Int) (a3 : Bool) (r : List Int) (w : World) (hr0 : Kd.C (Kd.int .u64) w A0 l0.length l0) (hc0 : l0.length ≤ c0) (h : row_Set.f l0 a1 a2 a3 = some r) :
    Calls Try.prog 25 #[.slice A0 l0.length c0, .int .i64 a1, .int .i64 a2, .bool a3] w fun e w' => ∃ v0_ : Value, e = .returned (v0_) ∧ Kd.R (Kd.int .u64) 53 w' w.heap.size (fun _ => True) v0_ r ∧ Below w.heap.size w w' := by
  have hmf : ∀ (fn : Fn) (first cap : Array Value) (w : World), (Instr.makeFunc fn first cap).run Try.prog w = .ok (.func fn first cap) w := fun _ _ _ _ => rfl
  obtain ⟨w2, hw2⟩ : ∃ w2, w2 = (w.alloc (.cells #[.slice A0 l0.length c0] 38)).alloc (.cells #[.bool a3] 4) := ⟨_, rfl⟩
  have hb1 := ((Below.refl w.heap.size w).alloc (Nat.le_refl _) (.cells #[.slice A0 l0.length c0] 38)).alloc (by simp) (.cells #[.bool a3] 4)
  have hl : ((w.alloc (.cells #[.slice A0 l0.length c0] 38)).alloc (.cells #[.bool a3] 4)).cell? ⟨w.heap.size, 0, none⟩ = some (.slice A0 l0.length c0) := by
    rw [World.cell?_alloc_past _ _ _ (by simp), World.cell?_alloc_at _ _ _ _ rfl]; rfl
  have hon : ((w.alloc (.cells #[.slice A0 l0.length c0] 38)).alloc (.cells #[.bool a3] 4)).cell? ⟨w.heap.size + 1, 0, none⟩ = some (.bool a3) := by
    rw [World.cell?_alloc_at _ _ _ _ (by simp)]; rfl
  have hlf : ((w.alloc (.cells #[.slice A0 l0.length c0] 38)).alloc (.cells #[.bool a3] 4)).frozen? ⟨w.heap.size, 0, none⟩ = false := by
    rw [World.frozen?_alloc_past _ _ _ (by simp)]; exact World.frozen?_alloc_at _ _ _ _ rfl
  have hz : ((w.alloc (.cells #[.slice A0 l0.length c0] 38)).alloc (.cells #[.bool a3] 4)).heap.size = w.heap.size + 2 := by simp
  unfold row_Set.f at h
  obtain ⟨t, ht, h⟩ := Option.bind_eq_some_iff.mp h
  have H0 := Aside0.mk ht
  have H1 := Aside0.mk h
  have HR0 := Aside0.mk hr0
  have HC0 := Aside0.mk hc0
  have HB1 := Aside0.mk hb1
  have HON := Aside0.mk hon
  have HLF := Aside0.mk hlf
  have HZ := Aside0.mk hz
  clear hr0 hc0 hb1 hon hlf hz ht h hw2
  by_cases c1 : a1 < 0 ∨ a2 < 0
  · have hr : r = t := by
      have h_ := H1.out
      by_cases c2 : a1 < 0
      · rw [if_pos c2] at h_; exact (Option.some.inj h_).symm
      · rw [if_neg c2, if_pos (by omega)] at h_; exact (Option.some.inj h_).symm
    subst hr
    go_enter Try.func25, Try.ntmps25
    go_wp2_with (first | (go_at_call 41; (with_reducible refine (slices_Clone_uint64_uint64.calls A0 c0 l0 r _ (Kd.C_below HR0.out HB1.out) HC0.out H0.out).mono ?_); rintro e w1 ⟨v, rfl, ho, hb⟩; obtain ⟨A, c, rfl⟩ := Kd.R_slice ho; have hbb := below_then HB1.out (by rw [HZ.out]; omega) hb; rw [HZ.out] at ho hb; have hq1 := (hb.cell (p := ⟨w.heap.size, 0, none⟩) (by simp)).trans hl; have hq2 := (hb.frozen (p := ⟨w.heap.size, 0, none⟩) (by simp)).trans HLF.out; obtain ⟨g1, g2, g3, g4⟩ := set_begin ho hbb hq1 ((hb.cell (p := ⟨w.heap.size + 1, 0, none⟩) (by simp)).trans HON.out); have G1 := Aside0.mk g1; have G2 := Aside0.mk g2; have G3 := Aside0.mk g3; have G4 := Aside0.mk g4; clear g1 g2 g3 g4 ho hb hbb) | (go_at_call 39; (with_reducible refine (each_nothing _ _ _ _ _ _ _ c1).mono ?_); rintro e w' ⟨rfl, rfl⟩))
    go_ret
    exact ⟨_, rfl, Kd.R_lower G1.out (by omega), G2.out⟩
  · have p1 : 0 ≤ a1 := by omega
    have p2 : 0 ≤ a2 := by omega
    have h := H1.out
    clear H1
    rw [if_neg (by omega), if_neg (by omega)] at h
    by_cases c2 : 0 ≤ wrap64 (Int.tdiv a1 64)
    case neg => rw [if_neg c2] at h; cases h
    rw [if_pos c2] at h
    have H1 := Aside0.mk c2
    have H2 := Aside0.mk h
    clear h c2
    go_enter Try.func25, Try.ntmps25
    go_wp2_with (first | (go_at_call 41; (with_reducible refine (slices_Clone_uint64_uint64.calls A0 c0 l0 t _ (Kd.C_below HR0.out HB1.out) HC0.out H0.out).mono ?_); rintro e w1 ⟨v, rfl, ho, hb⟩; obtain ⟨A, c, rfl⟩ := Kd.R_slice ho; have hbb := below_then HB1.out (by rw [HZ.out]; omega) hb; rw [HZ.out] at ho hb; have hq1 := (hb.cell (p := ⟨w.heap.size, 0, none⟩) (by simp)).trans hl; have hq2 := (hb.frozen (p := ⟨w.heap.size, 0, none⟩) (by simp)).trans HLF.out; obtain ⟨g1, g2, g3, g4⟩ := set_begin ho hbb hq1 ((hb.cell (p := ⟨w.heap.size + 1, 0, none⟩) (by simp)).trans HON.out); have G1 := Aside0.mk g1; have G2 := Aside0.mk g2; have G3 := Aside0.mk g3; have G4 := Aside0.mk g4; clear g1 g2 g3 g4 ho hb hbb) | (go_at_call 39; (with_reducible refine (each_set_walk A c t a1 a2 a3 r w.heap.size (w.heap.size + 1) (w.heap.size + 2) (t.length + 1) w _ G1.out G2.out (Nat.le_add_right _ _) (by omega) (by omega) G3.out G4.out p1 p2 H1.out H2.out).mono ?_); rintro e w4 ⟨rfl, hlen, ho4, hl4, hb4⟩; have O4 := Aside0.mk ho4; have B4 := Aside0.mk hb4; have E4 := Aside0.mk hlen; clear ho4 hb4 hlen))
    go_ret
    exact ⟨_, rfl, Kd.R_lower O4.out (by omega), B4.out⟩
/-! ### row_New: function 26 -/
def row_New.f (a0 : Int) : Option (List Int) := if a0 < 1 then (some ([] : List Int)) else (if 0 ≤ (wrap64 ((wrap64 (Int.tdiv (wrap64 (a0 - 1)) 64)) + 1)) then (if (wrap64 ((wrap64 (Int.tdiv (wrap64 (a0 - 1)) 64)) + 1) : Int).toNat ≤ 35184372088832 then (some (List.replicate (wrap64 ((wrap64 (Int.tdiv (wrap64 (a0 - 1)) 64)) + 1) : Int).toNat 0)) else (none)) else (none))
set_option maxHeartbeats 8000000 in
set_option maxRecDepth 100000 in
theorem row_New.calls (a0 : Int) (r : List Int) (w : World) (h : row_New.f a0 = some r) :
    Calls Try.prog 26 #[.int .i64 a0] w fun e w' => ∃ v0_ : Value, e = .returned (v0_) ∧ Kd.R (Kd.int .u64) 53 w' w.heap.size (fun _ => True) v0_ r ∧ Below w.heap.size w w' := by
  have HB := Aside0.mk (Below.refl w.heap.size w)
  have H : (if a0 < 1 then (some ([] : List Int)) else (if 0 ≤ (wrap64 ((wrap64 (Int.tdiv (wrap64 (a0 - 1)) 64)) + 1)) then (if (wrap64 ((wrap64 (Int.tdiv (wrap64 (a0 - 1)) 64)) + 1) : Int).toNat ≤ 35184372088832 then (some (List.replicate (wrap64 ((wrap64 (Int.tdiv (wrap64 (a0 - 1)) 64)) + 1) : Int).toNat 0)) else (none)) else (none))) = some r := h
  clear h
  by_cases c2 : a0 < 1
  · rw [if_pos c2] at H
    have c2b0 : decide (a0 < 1) = true := decide_eq_true c2
    clear c2
    obtain rfl := Option.some.inj H
    go_enter Try.func26, Try.ntmps26
    go_wp2
    go_ret
    exact ⟨_, by first | rfl | (simp [errW_none, errW_some] <;> rfl) | (simp [*, errW_none, errW_some] <;> rfl), by first | exact Kd.R_nil _ _ _ _ _ | exact Kd.N_nil _ _ _ _ _ | exact Kd.V_nil _ _ _ _ _ | exact Kd.Q_nil _ _ _ _ _ | exact Kd.S_nil _ _ _ _ _, by repeat (first | (with_reducible first | exact HB.out | apply below_alloc | apply pw_below_drewN | apply below_drew1) | exact HB.out)⟩
  · rw [if_neg c2] at H
    have c2b0 : decide (a0 < 1) = false := decide_eq_false c2
    clear c2
    obtain ⟨ji3, hji3⟩ : ∃ j_ : Int, (wrap64 ((wrap64 (Int.tdiv (wrap64 (a0 - 1)) 64)) + 1)) = j_ := ⟨_, rfl⟩
    replace H : (if 0 ≤ (ji3) then (if (ji3 : Int).toNat ≤ 35184372088832 then (some (List.replicate (ji3 : Int).toNat 0)) else (none)) else (none)) = some r := by first | (rw [hji3] at H; exact H) | (simp only [hji3] at H ⊢; exact H)
    have hji3w : (IntKind.i64.wrap ((wrap64 (Int.tdiv (wrap64 (a0 - 1)) 64)) + 1)) = ji3 := (i64_w _).trans hji3
    by_cases c4 : 0 ≤ (ji3)
    · rw [if_pos c4] at H
      have c4b0 := eq_true c4
      have c4b1 : decide (0 ≤ (ji3)) = true := decide_eq_true c4
      clear c4
      by_cases c5 : (ji3 : Int).toNat ≤ 35184372088832
      · rw [if_pos c5] at H
        have c5b0 := eq_true c5
        have c5b1 : decide ((ji3 : Int).toNat ≤ 35184372088832) = true := decide_eq_true c5
        clear c5
        obtain ⟨y112, hy112⟩ : ∃ y_ : List Int, y_ = (List.replicate (ji3 : Int).toNat 0) := ⟨_, rfl⟩
        replace H : (some y112) = some r := by first | (rw [hy112]; with_reducible exact H) | (have H2_ := (Option.bind_some _ _).symm.trans H; rw [hy112]; with_reducible exact H2_) | (have H2_ := (Option.bind_some _ _).symm.trans H; with_reducible exact H2_) | with_reducible exact H | (rw [hy112]; exact H) | exact H
        have Ny112 := Aside0.mk hy112
        clear hy112
        obtain rfl := Option.some.inj H
        go_enter Try.func26, Try.ntmps26
        go_wp2_with (first | ((with_reducible refine gate_dst (N := 9) rfl ?_); refine Kd.R_make (Kd.int .u64) _ 53 rfl (N := 9) rfl 38 _ _ rfl ji3 rfl rfl Try.underlying38 (.int .u64 0) 8 info53 rfl (by decide) (by omega) 0 (ok := fun _ => True) (okp := fun _ => True) rfl (fun _ hk => hk) trivial (of_decide_eq_true (by first | (with_reducible assumption) | assumption)) (Nat.le_trans (Nat.mul_le_mul_right _ (of_decide_eq_true (by first | (with_reducible assumption) | assumption) : ji3.toNat ≤ 35184372088832)) (by omega)) (Below.refl _ _) (Nat.le_refl _) ?_; intro v113 w6 ho7 hb hg_ hnew_; clear hg_ hnew_; (first | rw [← Ny112.out] at ho7 | (simp only [Int.reduceToNat] at ho7; rw [← Ny112.out] at ho7)); have n0_ := Aside0.mk (Kd.R_lower ho7 (below_size (by repeat (first | (with_reducible first | exact HB.out | apply below_alloc | apply pw_below_drewN | apply below_drew1) | exact HB.out)))); have n1_ := Aside0.mk (below_step (by repeat (first | (with_reducible first | exact HB.out | apply below_alloc | apply pw_below_drewN | apply below_drew1) | exact HB.out)) hb); clear HB; have HO114 := n0_; have HB := n1_; clear n0_ n1_; clear hb ho7))
        go_ret
        exact ⟨_, by first | rfl | (simp [errW_none, errW_some] <;> rfl) | (simp only [← hji3]; first | rfl | (simp [errW_none, errW_some] <;> rfl)) | (simp [*, errW_none, errW_some] <;> rfl), by (with_reducible repeat (first | apply Kd.R_alloc | apply Kd.R_drewN | apply Kd.R_drew)); exact HO114.out, by repeat (first | (with_reducible first | exact HB.out | apply below_alloc | apply pw_below_drewN | apply below_drew1) | exact HB.out)⟩
      · rw [if_neg c5] at H
        exact absurd H (by simp)
    · rw [if_neg c4] at H
      exact absurd H (by simp)

/-! ### hodmanlaw4_begun: function 20 -/
def hodmanlaw4_begun.f (k : Nat)  : Option (Bool) := (row_New.f 100).bind fun t115 => ((row_Set.f t115 0 64 true).bind fun t118 => ((row_FirstZero.f k t118 100 0).bind fun bt121 => (if (t118.length : Int) = 2 then (if bt121.1 = 64 then (if bt121.2 = true then ((row_Has.f t118 5).bind fun t123 => (if t123 = true then ((row_Has.f t118 64).bind fun t124 => (if t124 = true then (some false) else ((row_Count.f t118 60 10).bind fun t125 => (some (t125 == 4))))) else (some false))) else (some false)) else (some false)) else (some false))))
theorem hodmanlaw4_begun.mono : ∀ k, LeO (hodmanlaw4_begun.f k ) (hodmanlaw4_begun.f (k + 1) ) := by
  intro  k
  unfold hodmanlaw4_begun.f
  repeat' first
      | (with_reducible exact row_FirstZero.mono _ _ _ _)
      | (with_reducible exact LeO.refl _)
      | (with_reducible exact LeO.none _)
      | (with_reducible refine LeO.ite ?_ ?_)
      | (with_reducible refine LeO.bind ?_ (fun _ => ?_))
      | exact row_FirstZero.mono _ _ _ _
      | exact LeO.none _
      | refine LeO.ite ?_ ?_
      | refine LeO.bind ?_ (fun _ => ?_)
set_option maxHeartbeats 8000000 in
set_option maxRecDepth 100000 in
theorem hodmanlaw4_begun.calls (k : Nat)  (r : Bool) (w : World) (h : hodmanlaw4_begun.f k  = some r) :
    Calls Try.prog 20 #[] w fun e w' => e = .returned (.bool r) ∧ Below w.heap.size w w' := by
  have HB := Aside0.mk (Below.refl w.heap.size w)
  have H : ((row_New.f 100).bind fun t115 => ((row_Set.f t115 0 64 true).bind fun t118 => ((row_FirstZero.f k t118 100 0).bind fun bt121 => (if (t118.length : Int) = 2 then (if bt121.1 = 64 then (if bt121.2 = true then ((row_Has.f t118 5).bind fun t123 => (if t123 = true then ((row_Has.f t118 64).bind fun t124 => (if t124 = true then (some false) else ((row_Count.f t118 60 10).bind fun t125 => (some (t125 == 4))))) else (some false))) else (some false)) else (some false)) else (some false))))) = some r := h
  clear h
  replace H := Option.bind_eq_some_iff.mp H
  obtain ⟨t115, A10, H⟩ := H
  replace H : ((row_Set.f t115 0 64 true).bind fun t118 => ((row_FirstZero.f k t118 100 0).bind fun bt121 => (if (t118.length : Int) = 2 then (if bt121.1 = 64 then (if bt121.2 = true then ((row_Has.f t118 5).bind fun t123 => (if t123 = true then ((row_Has.f t118 64).bind fun t124 => (if t124 = true then (some false) else ((row_Count.f t118 60 10).bind fun t125 => (some (t125 == 4))))) else (some false))) else (some false)) else (some false)) else (some false)))) = some r := H
  have A1 := Aside0.mk A10
  clear A10
  replace H := Option.bind_eq_some_iff.mp H
  obtain ⟨t118, A20, H⟩ := H
  replace H : ((row_FirstZero.f k t118 100 0).bind fun bt121 => (if (t118.length : Int) = 2 then (if bt121.1 = 64 then (if bt121.2 = true then ((row_Has.f t118 5).bind fun t123 => (if t123 = true then ((row_Has.f t118 64).bind fun t124 => (if t124 = true then (some false) else ((row_Count.f t118 60 10).bind fun t125 => (some (t125 == 4))))) else (some false))) else (some false)) else (some false)) else (some false))) = some r := H
  have A2 := Aside0.mk A20
  clear A20
  replace H := Option.bind_eq_some_iff.mp H
  obtain ⟨⟨t121, t122⟩, A30, H⟩ := H
  replace H : (if (t118.length : Int) = 2 then (if t121 = 64 then (if t122 = true then ((row_Has.f t118 5).bind fun t123 => (if t123 = true then ((row_Has.f t118 64).bind fun t124 => (if t124 = true then (some false) else ((row_Count.f t118 60 10).bind fun t125 => (some (t125 == 4))))) else (some false))) else (some false)) else (some false)) else (some false)) = some r := H
  have A3 := Aside0.mk A30
  clear A30
  by_cases c4 : (t118.length : Int) = 2
  · rw [if_pos c4] at H
    have c4b0 : ((t118.length : Int) == 2) = true := beq_iff_eq.mpr c4
    have c4b1 : ((t118.length : Int) != 2) = false := bne_eq_false_iff_eq.mpr c4
    clear c4
    by_cases c5 : t121 = 64
    · rw [if_pos c5] at H
      have c5b0 : (t121 == 64) = true := beq_iff_eq.mpr c5
      have c5b1 : (t121 != 64) = false := bne_eq_false_iff_eq.mpr c5
      clear c5
      by_cases c6 : t122 = true
      · subst c6
        have H1 : ((row_Has.f t118 5).bind fun t123 => (if t123 = true then ((row_Has.f t118 64).bind fun t124 => (if t124 = true then (some false) else ((row_Count.f t118 60 10).bind fun t125 => (some (t125 == 4))))) else (some false))) = some r := by rw [if_pos rfl] at H; exact H
        clear H
        have H := H1
        clear H1
        replace H := Option.bind_eq_some_iff.mp H
        obtain ⟨t123, A70, H⟩ := H
        replace H : (if t123 = true then ((row_Has.f t118 64).bind fun t124 => (if t124 = true then (some false) else ((row_Count.f t118 60 10).bind fun t125 => (some (t125 == 4))))) else (some false)) = some r := H
        have A7 := Aside0.mk A70
        clear A70
        by_cases c8 : t123 = true
        · subst c8
          have H1 : ((row_Has.f t118 64).bind fun t124 => (if t124 = true then (some false) else ((row_Count.f t118 60 10).bind fun t125 => (some (t125 == 4))))) = some r := by rw [if_pos rfl] at H; exact H
          clear H
          have H := H1
          clear H1
          replace H := Option.bind_eq_some_iff.mp H
          obtain ⟨t124, A90, H⟩ := H
          replace H : (if t124 = true then (some false) else ((row_Count.f t118 60 10).bind fun t125 => (some (t125 == 4)))) = some r := H
          have A9 := Aside0.mk A90
          clear A90
          by_cases c10 : t124 = true
          · subst c10
            have H1 : (some false) = some r := by rw [if_pos rfl] at H; exact H
            clear H
            have H := H1
            clear H1
            obtain rfl := Option.some.inj H
            go_enter Try.func20, Try.ntmps20
            go_wp2_with (first | ((with_reducible refine gate_callee (f := 26) rfl ?_); refine goesL_ (some 4) rfl rfl Try.func26 (by kernel_rfl) rfl #[.int .i64 100] rfl (by (try simp only [List.map_toArray, List.map_cons, List.map_nil]); first | done | rfl | (simp only [List.length_drop, List.length_take]; rfl)) ?_; (with_reducible refine (row_New.calls 100 t115 _ A1.out).mono ?_); rintro e w11 ⟨v116, rfl, ho0, hb⟩; refine ⟨_, rfl, ?_⟩; have n0_ := Aside0.mk (Kd.R_lower ho0 (below_size (by repeat (first | (with_reducible first | exact HB.out | apply below_alloc | apply pw_below_drewN | apply below_drew1) | exact HB.out)))); have n1_ := Aside0.mk (below_step (by repeat (first | (with_reducible first | exact HB.out | apply below_alloc | apply pw_below_drewN | apply below_drew1) | exact HB.out)) hb); clear HB; have HO117 := n0_; have HB := n1_; clear n0_ n1_; (try clear hb); (try clear hb2); (try clear hk); (try clear hi); (try clear ho0); obtain ⟨Ao12, co12, eo12⟩ := Kd.R_slice HO117.out; subst eo12) | ((with_reducible refine gate_callee (f := 25) rfl ?_); refine goesL_ (some 5) rfl rfl Try.func25 (by kernel_rfl) rfl #[.slice Ao12 t115.length co12, .int .i64 0, .int .i64 64, .bool true] rfl (by (try simp only [List.map_toArray, List.map_cons, List.map_nil]); first | done | rfl | (simp only [List.length_drop, List.length_take]; rfl)) ?_; (with_reducible refine (row_Set.calls _ _ t115 0 64 true t118 _ ?side1 ?side2 A2.out).mono ?_); (case side1 => repeat (first | exact (Kd.R_reads' HO117.out).2.2 | (with_reducible refine Kd.C_alloc ?_ _) | (with_reducible refine Kd.C_drewN ?_ _) | (with_reducible refine Kd.C_drew ?_))); (case side2 => exact (Kd.R_reads' HO117.out).2.1); rintro e w13 ⟨v119, rfl, ho0, hb⟩; refine ⟨_, rfl, ?_⟩; have n0_ := Aside0.mk (Kd.R_elder' (by (with_reducible repeat (first | apply Kd.R_alloc | apply Kd.R_drewN | apply Kd.R_drew)); exact HO117.out) (Kd.R_base ho0) hb); have n1_ := Aside0.mk (Kd.R_lower (Kd.R_new' ho0 (Kd.R_lt (by (with_reducible repeat (first | apply Kd.R_alloc | apply Kd.R_drewN | apply Kd.R_drew)); exact HO117.out))) (below_size (by repeat (first | (with_reducible first | exact HB.out | apply below_alloc | apply pw_below_drewN | apply below_drew1) | exact HB.out)))); have n2_ := Aside0.mk (below_step (by repeat (first | (with_reducible first | exact HB.out | apply below_alloc | apply pw_below_drewN | apply below_drew1) | exact HB.out)) hb); clear HO117; clear HB; have HO117 := n0_; have HO120 := n1_; have HB := n2_; clear n0_ n1_ n2_; (try clear hb); (try clear hb2); (try clear hk); (try clear hi); (try clear ho0); obtain ⟨Ao14, co14, eo14⟩ := Kd.R_slice HO120.out; subst eo14) | ((with_reducible refine gate_callee (f := 22) rfl ?_); refine goesL_ (some 8) rfl rfl Try.func22 (by kernel_rfl) rfl #[.slice Ao14 t118.length co14, .int .i64 100, .int .i64 0] rfl (by (try simp only [List.map_toArray, List.map_cons, List.map_nil]); first | done | rfl | (simp only [List.length_drop, List.length_take]; rfl)) ?_; (with_reducible refine (row_FirstZero.calls k _ _ t118 100 0 t121 true _ ?side1 ?side2 A3.out).mono ?_); (case side1 => repeat (first | exact (Kd.R_reads' HO120.out).2.2 | (with_reducible refine Kd.C_alloc ?_ _) | (with_reducible refine Kd.C_drewN ?_ _) | (with_reducible refine Kd.C_drew ?_))); (case side2 => exact (Kd.R_reads' HO120.out).2.1); rintro e w' ⟨rfl, ⟨nd, rfl⟩⟩; refine ⟨_, rfl, ?_⟩) | (go_at_call 24; (with_reducible refine (row_Has.calls _ _ t118 5 true _ ?side1 ?side2 A7.out).mono ?_); (case side1 => repeat (first | exact (Kd.R_reads' HO120.out).2.2 | (with_reducible refine Kd.C_alloc ?_ _) | (with_reducible refine Kd.C_drewN ?_ _) | (with_reducible refine Kd.C_drew ?_))); (case side2 => exact (Kd.R_reads' HO120.out).2.1); rintro e w' ⟨rfl, ⟨nd, rfl⟩⟩) | (go_at_call 24; (with_reducible refine (row_Has.calls _ _ t118 64 true _ ?side1 ?side2 A9.out).mono ?_); (case side1 => repeat (first | exact (Kd.R_reads' HO120.out).2.2 | (with_reducible refine Kd.C_alloc ?_ _) | (with_reducible refine Kd.C_drewN ?_ _) | (with_reducible refine Kd.C_drew ?_))); (case side2 => exact (Kd.R_reads' HO120.out).2.1); rintro e w' ⟨rfl, ⟨nd, rfl⟩⟩))
            go_ret
            exact ⟨by first | rfl | (simp [errW_none, errW_some] <;> rfl) | (simp [*, errW_none, errW_some] <;> rfl), by repeat (first | (with_reducible first | exact HB.out | apply below_alloc | apply pw_below_drewN | apply below_drew1) | exact HB.out)⟩
          · replace c10 := Bool.eq_false_iff.mpr c10
            subst c10
            have H1 : ((row_Count.f t118 60 10).bind fun t125 => (some (t125 == 4))) = some r := by rw [if_neg (show ¬ (false = true) by decide)] at H; exact H
            clear H
            have H := H1
            clear H1
            replace H := Option.bind_eq_some_iff.mp H
            obtain ⟨t125, A150, H⟩ := H
            replace H : (some (t125 == 4)) = some r := H
            have A15 := Aside0.mk A150
            clear A150
            obtain rfl := Option.some.inj H
            go_enter Try.func20, Try.ntmps20
            go_wp2_with (first | ((with_reducible refine gate_callee (f := 26) rfl ?_); refine goesL_ (some 4) rfl rfl Try.func26 (by kernel_rfl) rfl #[.int .i64 100] rfl (by (try simp only [List.map_toArray, List.map_cons, List.map_nil]); first | done | rfl | (simp only [List.length_drop, List.length_take]; rfl)) ?_; (with_reducible refine (row_New.calls 100 t115 _ A1.out).mono ?_); rintro e w16 ⟨v116, rfl, ho0, hb⟩; refine ⟨_, rfl, ?_⟩; have n0_ := Aside0.mk (Kd.R_lower ho0 (below_size (by repeat (first | (with_reducible first | exact HB.out | apply below_alloc | apply pw_below_drewN | apply below_drew1) | exact HB.out)))); have n1_ := Aside0.mk (below_step (by repeat (first | (with_reducible first | exact HB.out | apply below_alloc | apply pw_below_drewN | apply below_drew1) | exact HB.out)) hb); clear HB; have HO117 := n0_; have HB := n1_; clear n0_ n1_; (try clear hb); (try clear hb2); (try clear hk); (try clear hi); (try clear ho0); obtain ⟨Ao17, co17, eo17⟩ := Kd.R_slice HO117.out; subst eo17) | ((with_reducible refine gate_callee (f := 25) rfl ?_); refine goesL_ (some 5) rfl rfl Try.func25 (by kernel_rfl) rfl #[.slice Ao17 t115.length co17, .int .i64 0, .int .i64 64, .bool true] rfl (by (try simp only [List.map_toArray, List.map_cons, List.map_nil]); first | done | rfl | (simp only [List.length_drop, List.length_take]; rfl)) ?_; (with_reducible refine (row_Set.calls _ _ t115 0 64 true t118 _ ?side1 ?side2 A2.out).mono ?_); (case side1 => repeat (first | exact (Kd.R_reads' HO117.out).2.2 | (with_reducible refine Kd.C_alloc ?_ _) | (with_reducible refine Kd.C_drewN ?_ _) | (with_reducible refine Kd.C_drew ?_))); (case side2 => exact (Kd.R_reads' HO117.out).2.1); rintro e w18 ⟨v119, rfl, ho0, hb⟩; refine ⟨_, rfl, ?_⟩; have n0_ := Aside0.mk (Kd.R_elder' (by (with_reducible repeat (first | apply Kd.R_alloc | apply Kd.R_drewN | apply Kd.R_drew)); exact HO117.out) (Kd.R_base ho0) hb); have n1_ := Aside0.mk (Kd.R_lower (Kd.R_new' ho0 (Kd.R_lt (by (with_reducible repeat (first | apply Kd.R_alloc | apply Kd.R_drewN | apply Kd.R_drew)); exact HO117.out))) (below_size (by repeat (first | (with_reducible first | exact HB.out | apply below_alloc | apply pw_below_drewN | apply below_drew1) | exact HB.out)))); have n2_ := Aside0.mk (below_step (by repeat (first | (with_reducible first | exact HB.out | apply below_alloc | apply pw_below_drewN | apply below_drew1) | exact HB.out)) hb); clear HO117; clear HB; have HO117 := n0_; have HO120 := n1_; have HB := n2_; clear n0_ n1_ n2_; (try clear hb); (try clear hb2); (try clear hk); (try clear hi); (try clear ho0); obtain ⟨Ao19, co19, eo19⟩ := Kd.R_slice HO120.out; subst eo19) | ((with_reducible refine gate_callee (f := 22) rfl ?_); refine goesL_ (some 8) rfl rfl Try.func22 (by kernel_rfl) rfl #[.slice Ao19 t118.length co19, .int .i64 100, .int .i64 0] rfl (by (try simp only [List.map_toArray, List.map_cons, List.map_nil]); first | done | rfl | (simp only [List.length_drop, List.length_take]; rfl)) ?_; (with_reducible refine (row_FirstZero.calls k _ _ t118 100 0 t121 true _ ?side1 ?side2 A3.out).mono ?_); (case side1 => repeat (first | exact (Kd.R_reads' HO120.out).2.2 | (with_reducible refine Kd.C_alloc ?_ _) | (with_reducible refine Kd.C_drewN ?_ _) | (with_reducible refine Kd.C_drew ?_))); (case side2 => exact (Kd.R_reads' HO120.out).2.1); rintro e w' ⟨rfl, ⟨nd, rfl⟩⟩; refine ⟨_, rfl, ?_⟩) | (go_at_call 24; (with_reducible refine (row_Has.calls _ _ t118 5 true _ ?side1 ?side2 A7.out).mono ?_); (case side1 => repeat (first | exact (Kd.R_reads' HO120.out).2.2 | (with_reducible refine Kd.C_alloc ?_ _) | (with_reducible refine Kd.C_drewN ?_ _) | (with_reducible refine Kd.C_drew ?_))); (case side2 => exact (Kd.R_reads' HO120.out).2.1); rintro e w' ⟨rfl, ⟨nd, rfl⟩⟩) | (go_at_call 24; (with_reducible refine (row_Has.calls _ _ t118 64 false _ ?side1 ?side2 A9.out).mono ?_); (case side1 => repeat (first | exact (Kd.R_reads' HO120.out).2.2 | (with_reducible refine Kd.C_alloc ?_ _) | (with_reducible refine Kd.C_drewN ?_ _) | (with_reducible refine Kd.C_drew ?_))); (case side2 => exact (Kd.R_reads' HO120.out).2.1); rintro e w' ⟨rfl, ⟨nd, rfl⟩⟩) | (go_at_call 23; (with_reducible refine (row_Count.calls _ _ t118 60 10 t125 _ ?side1 ?side2 A15.out).mono ?_); (case side1 => repeat (first | exact (Kd.R_reads' HO120.out).2.2 | (with_reducible refine Kd.C_alloc ?_ _) | (with_reducible refine Kd.C_drewN ?_ _) | (with_reducible refine Kd.C_drew ?_))); (case side2 => exact (Kd.R_reads' HO120.out).2.1); rintro e w20 ⟨rfl, hb⟩; have n0_ := Aside0.mk (Kd.R_below (by (with_reducible repeat (first | apply Kd.R_alloc | apply Kd.R_drewN | apply Kd.R_drew)); exact HO117.out) hb); have n1_ := Aside0.mk (Kd.R_below (by (with_reducible repeat (first | apply Kd.R_alloc | apply Kd.R_drewN | apply Kd.R_drew)); exact HO120.out) hb); have n2_ := Aside0.mk (below_step (by repeat (first | (with_reducible first | exact HB.out | apply below_alloc | apply pw_below_drewN | apply below_drew1) | exact HB.out)) hb); clear HO117; clear HO120; clear HB; have HO117 := n0_; have HO120 := n1_; have HB := n2_; clear n0_ n1_ n2_; (try clear hb); (try clear hb2); (try clear hk); (try clear hi)))
            go_ret
            exact ⟨by first | rfl | (simp [errW_none, errW_some] <;> rfl) | (simp [*, errW_none, errW_some] <;> rfl), by repeat (first | (with_reducible first | exact HB.out | apply below_alloc | apply pw_below_drewN | apply below_drew1) | exact HB.out)⟩
        · replace c8 := Bool.eq_false_iff.mpr c8
          subst c8
          have H1 : (some false) = some r := by rw [if_neg (show ¬ (false = true) by decide)] at H; exact H
          clear H
          have H := H1
          clear H1
          obtain rfl := Option.some.inj H
          go_enter Try.func20, Try.ntmps20
          go_wp2_with (first | ((with_reducible refine gate_callee (f := 26) rfl ?_); refine goesL_ (some 4) rfl rfl Try.func26 (by kernel_rfl) rfl #[.int .i64 100] rfl (by (try simp only [List.map_toArray, List.map_cons, List.map_nil]); first | done | rfl | (simp only [List.length_drop, List.length_take]; rfl)) ?_; (with_reducible refine (row_New.calls 100 t115 _ A1.out).mono ?_); rintro e w21 ⟨v116, rfl, ho0, hb⟩; refine ⟨_, rfl, ?_⟩; have n0_ := Aside0.mk (Kd.R_lower ho0 (below_size (by repeat (first | (with_reducible first | exact HB.out | apply below_alloc | apply pw_below_drewN | apply below_drew1) | exact HB.out)))); have n1_ := Aside0.mk (below_step (by repeat (first | (with_reducible first | exact HB.out | apply below_alloc | apply pw_below_drewN | apply below_drew1) | exact HB.out)) hb); clear HB; have HO117 := n0_; have HB := n1_; clear n0_ n1_; (try clear hb); (try clear hb2); (try clear hk); (try clear hi); (try clear ho0); obtain ⟨Ao22, co22, eo22⟩ := Kd.R_slice HO117.out; subst eo22) | ((with_reducible refine gate_callee (f := 25) rfl ?_); refine goesL_ (some 5) rfl rfl Try.func25 (by kernel_rfl) rfl #[.slice Ao22 t115.length co22, .int .i64 0, .int .i64 64, .bool true] rfl (by (try simp only [List.map_toArray, List.map_cons, List.map_nil]); first | done | rfl | (simp only [List.length_drop, List.length_take]; rfl)) ?_; (with_reducible refine (row_Set.calls _ _ t115 0 64 true t118 _ ?side1 ?side2 A2.out).mono ?_); (case side1 => repeat (first | exact (Kd.R_reads' HO117.out).2.2 | (with_reducible refine Kd.C_alloc ?_ _) | (with_reducible refine Kd.C_drewN ?_ _) | (with_reducible refine Kd.C_drew ?_))); (case side2 => exact (Kd.R_reads' HO117.out).2.1); rintro e w23 ⟨v119, rfl, ho0, hb⟩; refine ⟨_, rfl, ?_⟩; have n0_ := Aside0.mk (Kd.R_elder' (by (with_reducible repeat (first | apply Kd.R_alloc | apply Kd.R_drewN | apply Kd.R_drew)); exact HO117.out) (Kd.R_base ho0) hb); have n1_ := Aside0.mk (Kd.R_lower (Kd.R_new' ho0 (Kd.R_lt (by (with_reducible repeat (first | apply Kd.R_alloc | apply Kd.R_drewN | apply Kd.R_drew)); exact HO117.out))) (below_size (by repeat (first | (with_reducible first | exact HB.out | apply below_alloc | apply pw_below_drewN | apply below_drew1) | exact HB.out)))); have n2_ := Aside0.mk (below_step (by repeat (first | (with_reducible first | exact HB.out | apply below_alloc | apply pw_below_drewN | apply below_drew1) | exact HB.out)) hb); clear HO117; clear HB; have HO117 := n0_; have HO120 := n1_; have HB := n2_; clear n0_ n1_ n2_; (try clear hb); (try clear hb2); (try clear hk); (try clear hi); (try clear ho0); obtain ⟨Ao24, co24, eo24⟩ := Kd.R_slice HO120.out; subst eo24) | ((with_reducible refine gate_callee (f := 22) rfl ?_); refine goesL_ (some 8) rfl rfl Try.func22 (by kernel_rfl) rfl #[.slice Ao24 t118.length co24, .int .i64 100, .int .i64 0] rfl (by (try simp only [List.map_toArray, List.map_cons, List.map_nil]); first | done | rfl | (simp only [List.length_drop, List.length_take]; rfl)) ?_; (with_reducible refine (row_FirstZero.calls k _ _ t118 100 0 t121 true _ ?side1 ?side2 A3.out).mono ?_); (case side1 => repeat (first | exact (Kd.R_reads' HO120.out).2.2 | (with_reducible refine Kd.C_alloc ?_ _) | (with_reducible refine Kd.C_drewN ?_ _) | (with_reducible refine Kd.C_drew ?_))); (case side2 => exact (Kd.R_reads' HO120.out).2.1); rintro e w' ⟨rfl, ⟨nd, rfl⟩⟩; refine ⟨_, rfl, ?_⟩) | (go_at_call 24; (with_reducible refine (row_Has.calls _ _ t118 5 false _ ?side1 ?side2 A7.out).mono ?_); (case side1 => repeat (first | exact (Kd.R_reads' HO120.out).2.2 | (with_reducible refine Kd.C_alloc ?_ _) | (with_reducible refine Kd.C_drewN ?_ _) | (with_reducible refine Kd.C_drew ?_))); (case side2 => exact (Kd.R_reads' HO120.out).2.1); rintro e w' ⟨rfl, ⟨nd, rfl⟩⟩))
          go_ret
          exact ⟨by first | rfl | (simp [errW_none, errW_some] <;> rfl) | (simp [*, errW_none, errW_some] <;> rfl), by repeat (first | (with_reducible first | exact HB.out | apply below_alloc | apply pw_below_drewN | apply below_drew1) | exact HB.out)⟩
      · replace c6 := Bool.eq_false_iff.mpr c6
        subst c6
        have H1 : (some false) = some r := by rw [if_neg (show ¬ (false = true) by decide)] at H; exact H
        clear H
        have H := H1
        clear H1
        obtain rfl := Option.some.inj H
        go_enter Try.func20, Try.ntmps20
        go_wp2_with (first | ((with_reducible refine gate_callee (f := 26) rfl ?_); refine goesL_ (some 4) rfl rfl Try.func26 (by kernel_rfl) rfl #[.int .i64 100] rfl (by (try simp only [List.map_toArray, List.map_cons, List.map_nil]); first | done | rfl | (simp only [List.length_drop, List.length_take]; rfl)) ?_; (with_reducible refine (row_New.calls 100 t115 _ A1.out).mono ?_); rintro e w25 ⟨v116, rfl, ho0, hb⟩; refine ⟨_, rfl, ?_⟩; have n0_ := Aside0.mk (Kd.R_lower ho0 (below_size (by repeat (first | (with_reducible first | exact HB.out | apply below_alloc | apply pw_below_drewN | apply below_drew1) | exact HB.out)))); have n1_ := Aside0.mk (below_step (by repeat (first | (with_reducible first | exact HB.out | apply below_alloc | apply pw_below_drewN | apply below_drew1) | exact HB.out)) hb); clear HB; have HO117 := n0_; have HB := n1_; clear n0_ n1_; (try clear hb); (try clear hb2); (try clear hk); (try clear hi); (try clear ho0); obtain ⟨Ao26, co26, eo26⟩ := Kd.R_slice HO117.out; subst eo26) | ((with_reducible refine gate_callee (f := 25) rfl ?_); refine goesL_ (some 5) rfl rfl Try.func25 (by kernel_rfl) rfl #[.slice Ao26 t115.length co26, .int .i64 0, .int .i64 64, .bool true] rfl (by (try simp only [List.map_toArray, List.map_cons, List.map_nil]); first | done | rfl | (simp only [List.length_drop, List.length_take]; rfl)) ?_; (with_reducible refine (row_Set.calls _ _ t115 0 64 true t118 _ ?side1 ?side2 A2.out).mono ?_); (case side1 => repeat (first | exact (Kd.R_reads' HO117.out).2.2 | (with_reducible refine Kd.C_alloc ?_ _) | (with_reducible refine Kd.C_drewN ?_ _) | (with_reducible refine Kd.C_drew ?_))); (case side2 => exact (Kd.R_reads' HO117.out).2.1); rintro e w27 ⟨v119, rfl, ho0, hb⟩; refine ⟨_, rfl, ?_⟩; have n0_ := Aside0.mk (Kd.R_elder' (by (with_reducible repeat (first | apply Kd.R_alloc | apply Kd.R_drewN | apply Kd.R_drew)); exact HO117.out) (Kd.R_base ho0) hb); have n1_ := Aside0.mk (Kd.R_lower (Kd.R_new' ho0 (Kd.R_lt (by (with_reducible repeat (first | apply Kd.R_alloc | apply Kd.R_drewN | apply Kd.R_drew)); exact HO117.out))) (below_size (by repeat (first | (with_reducible first | exact HB.out | apply below_alloc | apply pw_below_drewN | apply below_drew1) | exact HB.out)))); have n2_ := Aside0.mk (below_step (by repeat (first | (with_reducible first | exact HB.out | apply below_alloc | apply pw_below_drewN | apply below_drew1) | exact HB.out)) hb); clear HO117; clear HB; have HO117 := n0_; have HO120 := n1_; have HB := n2_; clear n0_ n1_ n2_; (try clear hb); (try clear hb2); (try clear hk); (try clear hi); (try clear ho0); obtain ⟨Ao28, co28, eo28⟩ := Kd.R_slice HO120.out; subst eo28) | ((with_reducible refine gate_callee (f := 22) rfl ?_); refine goesL_ (some 8) rfl rfl Try.func22 (by kernel_rfl) rfl #[.slice Ao28 t118.length co28, .int .i64 100, .int .i64 0] rfl (by (try simp only [List.map_toArray, List.map_cons, List.map_nil]); first | done | rfl | (simp only [List.length_drop, List.length_take]; rfl)) ?_; (with_reducible refine (row_FirstZero.calls k _ _ t118 100 0 t121 false _ ?side1 ?side2 A3.out).mono ?_); (case side1 => repeat (first | exact (Kd.R_reads' HO120.out).2.2 | (with_reducible refine Kd.C_alloc ?_ _) | (with_reducible refine Kd.C_drewN ?_ _) | (with_reducible refine Kd.C_drew ?_))); (case side2 => exact (Kd.R_reads' HO120.out).2.1); rintro e w' ⟨rfl, ⟨nd, rfl⟩⟩; refine ⟨_, rfl, ?_⟩))
        go_ret
        exact ⟨by first | rfl | (simp [errW_none, errW_some] <;> rfl) | (simp [*, errW_none, errW_some] <;> rfl), by repeat (first | (with_reducible first | exact HB.out | apply below_alloc | apply pw_below_drewN | apply below_drew1) | exact HB.out)⟩
    · rw [if_neg c5] at H
      have c5b0 : (t121 == 64) = false := beq_eq_false_iff_ne.mpr c5
      have c5b1 : (t121 != 64) = true := bne_iff_ne.mpr c5
      obtain rfl := Option.some.inj H
      go_enter Try.func20, Try.ntmps20
      go_wp2_with (first | ((with_reducible refine gate_callee (f := 26) rfl ?_); refine goesL_ (some 4) rfl rfl Try.func26 (by kernel_rfl) rfl #[.int .i64 100] rfl (by (try simp only [List.map_toArray, List.map_cons, List.map_nil]); first | done | rfl | (simp only [List.length_drop, List.length_take]; rfl)) ?_; (with_reducible refine (row_New.calls 100 t115 _ A1.out).mono ?_); rintro e w29 ⟨v116, rfl, ho0, hb⟩; refine ⟨_, rfl, ?_⟩; have n0_ := Aside0.mk (Kd.R_lower ho0 (below_size (by repeat (first | (with_reducible first | exact HB.out | apply below_alloc | apply pw_below_drewN | apply below_drew1) | exact HB.out)))); have n1_ := Aside0.mk (below_step (by repeat (first | (with_reducible first | exact HB.out | apply below_alloc | apply pw_below_drewN | apply below_drew1) | exact HB.out)) hb); clear HB; have HO117 := n0_; have HB := n1_; clear n0_ n1_; (try clear hb); (try clear hb2); (try clear hk); (try clear hi); (try clear ho0); obtain ⟨Ao30, co30, eo30⟩ := Kd.R_slice HO117.out; subst eo30) | ((with_reducible refine gate_callee (f := 25) rfl ?_); refine goesL_ (some 5) rfl rfl Try.func25 (by kernel_rfl) rfl #[.slice Ao30 t115.length co30, .int .i64 0, .int .i64 64, .bool true] rfl (by (try simp only [List.map_toArray, List.map_cons, List.map_nil]); first | done | rfl | (simp only [List.length_drop, List.length_take]; rfl)) ?_; (with_reducible refine (row_Set.calls _ _ t115 0 64 true t118 _ ?side1 ?side2 A2.out).mono ?_); (case side1 => repeat (first | exact (Kd.R_reads' HO117.out).2.2 | (with_reducible refine Kd.C_alloc ?_ _) | (with_reducible refine Kd.C_drewN ?_ _) | (with_reducible refine Kd.C_drew ?_))); (case side2 => exact (Kd.R_reads' HO117.out).2.1); rintro e w31 ⟨v119, rfl, ho0, hb⟩; refine ⟨_, rfl, ?_⟩; have n0_ := Aside0.mk (Kd.R_elder' (by (with_reducible repeat (first | apply Kd.R_alloc | apply Kd.R_drewN | apply Kd.R_drew)); exact HO117.out) (Kd.R_base ho0) hb); have n1_ := Aside0.mk (Kd.R_lower (Kd.R_new' ho0 (Kd.R_lt (by (with_reducible repeat (first | apply Kd.R_alloc | apply Kd.R_drewN | apply Kd.R_drew)); exact HO117.out))) (below_size (by repeat (first | (with_reducible first | exact HB.out | apply below_alloc | apply pw_below_drewN | apply below_drew1) | exact HB.out)))); have n2_ := Aside0.mk (below_step (by repeat (first | (with_reducible first | exact HB.out | apply below_alloc | apply pw_below_drewN | apply below_drew1) | exact HB.out)) hb); clear HO117; clear HB; have HO117 := n0_; have HO120 := n1_; have HB := n2_; clear n0_ n1_ n2_; (try clear hb); (try clear hb2); (try clear hk); (try clear hi); (try clear ho0); obtain ⟨Ao32, co32, eo32⟩ := Kd.R_slice HO120.out; subst eo32) | ((with_reducible refine gate_callee (f := 22) rfl ?_); refine goesL_ (some 8) rfl rfl Try.func22 (by kernel_rfl) rfl #[.slice Ao32 t118.length co32, .int .i64 100, .int .i64 0] rfl (by (try simp only [List.map_toArray, List.map_cons, List.map_nil]); first | done | rfl | (simp only [List.length_drop, List.length_take]; rfl)) ?_; (with_reducible refine (row_FirstZero.calls k _ _ t118 100 0 t121 t122 _ ?side1 ?side2 A3.out).mono ?_); (case side1 => repeat (first | exact (Kd.R_reads' HO120.out).2.2 | (with_reducible refine Kd.C_alloc ?_ _) | (with_reducible refine Kd.C_drewN ?_ _) | (with_reducible refine Kd.C_drew ?_))); (case side2 => exact (Kd.R_reads' HO120.out).2.1); rintro e w' ⟨rfl, ⟨nd, rfl⟩⟩; refine ⟨_, rfl, ?_⟩))
      go_ret
      exact ⟨by first | rfl | (simp [errW_none, errW_some] <;> rfl) | (simp [*, errW_none, errW_some] <;> rfl), by repeat (first | (with_reducible first | exact HB.out | apply below_alloc | apply pw_below_drewN | apply below_drew1) | exact HB.out)⟩
  · rw [if_neg c4] at H
    have c4b0 : ((t118.length : Int) == 2) = false := beq_eq_false_iff_ne.mpr c4
    have c4b1 : ((t118.length : Int) != 2) = true := bne_iff_ne.mpr c4
    obtain rfl := Option.some.inj H
    go_enter Try.func20, Try.ntmps20
    go_wp2_with (first | ((with_reducible refine gate_callee (f := 26) rfl ?_); refine goesL_ (some 4) rfl rfl Try.func26 (by kernel_rfl) rfl #[.int .i64 100] rfl (by (try simp only [List.map_toArray, List.map_cons, List.map_nil]); first | done | rfl | (simp only [List.length_drop, List.length_take]; rfl)) ?_; (with_reducible refine (row_New.calls 100 t115 _ A1.out).mono ?_); rintro e w33 ⟨v116, rfl, ho0, hb⟩; refine ⟨_, rfl, ?_⟩; have n0_ := Aside0.mk (Kd.R_lower ho0 (below_size (by repeat (first | (with_reducible first | exact HB.out | apply below_alloc | apply pw_below_drewN | apply below_drew1) | exact HB.out)))); have n1_ := Aside0.mk (below_step (by repeat (first | (with_reducible first | exact HB.out | apply below_alloc | apply pw_below_drewN | apply below_drew1) | exact HB.out)) hb); clear HB; have HO117 := n0_; have HB := n1_; clear n0_ n1_; (try clear hb); (try clear hb2); (try clear hk); (try clear hi); (try clear ho0); obtain ⟨Ao34, co34, eo34⟩ := Kd.R_slice HO117.out; subst eo34) | ((with_reducible refine gate_callee (f := 25) rfl ?_); refine goesL_ (some 5) rfl rfl Try.func25 (by kernel_rfl) rfl #[.slice Ao34 t115.length co34, .int .i64 0, .int .i64 64, .bool true] rfl (by (try simp only [List.map_toArray, List.map_cons, List.map_nil]); first | done | rfl | (simp only [List.length_drop, List.length_take]; rfl)) ?_; (with_reducible refine (row_Set.calls _ _ t115 0 64 true t118 _ ?side1 ?side2 A2.out).mono ?_); (case side1 => repeat (first | exact (Kd.R_reads' HO117.out).2.2 | (with_reducible refine Kd.C_alloc ?_ _) | (with_reducible refine Kd.C_drewN ?_ _) | (with_reducible refine Kd.C_drew ?_))); (case side2 => exact (Kd.R_reads' HO117.out).2.1); rintro e w35 ⟨v119, rfl, ho0, hb⟩; refine ⟨_, rfl, ?_⟩; have n0_ := Aside0.mk (Kd.R_elder' (by (with_reducible repeat (first | apply Kd.R_alloc | apply Kd.R_drewN | apply Kd.R_drew)); exact HO117.out) (Kd.R_base ho0) hb); have n1_ := Aside0.mk (Kd.R_lower (Kd.R_new' ho0 (Kd.R_lt (by (with_reducible repeat (first | apply Kd.R_alloc | apply Kd.R_drewN | apply Kd.R_drew)); exact HO117.out))) (below_size (by repeat (first | (with_reducible first | exact HB.out | apply below_alloc | apply pw_below_drewN | apply below_drew1) | exact HB.out)))); have n2_ := Aside0.mk (below_step (by repeat (first | (with_reducible first | exact HB.out | apply below_alloc | apply pw_below_drewN | apply below_drew1) | exact HB.out)) hb); clear HO117; clear HB; have HO117 := n0_; have HO120 := n1_; have HB := n2_; clear n0_ n1_ n2_; (try clear hb); (try clear hb2); (try clear hk); (try clear hi); (try clear ho0); obtain ⟨Ao36, co36, eo36⟩ := Kd.R_slice HO120.out; subst eo36) | ((with_reducible refine gate_callee (f := 22) rfl ?_); refine goesL_ (some 8) rfl rfl Try.func22 (by kernel_rfl) rfl #[.slice Ao36 t118.length co36, .int .i64 100, .int .i64 0] rfl (by (try simp only [List.map_toArray, List.map_cons, List.map_nil]); first | done | rfl | (simp only [List.length_drop, List.length_take]; rfl)) ?_; (with_reducible refine (row_FirstZero.calls k _ _ t118 100 0 t121 t122 _ ?side1 ?side2 A3.out).mono ?_); (case side1 => repeat (first | exact (Kd.R_reads' HO120.out).2.2 | (with_reducible refine Kd.C_alloc ?_ _) | (with_reducible refine Kd.C_drewN ?_ _) | (with_reducible refine Kd.C_drew ?_))); (case side2 => exact (Kd.R_reads' HO120.out).2.1); rintro e w' ⟨rfl, ⟨nd, rfl⟩⟩; refine ⟨_, rfl, ?_⟩))
    go_ret
    exact ⟨by first | rfl | (simp [errW_none, errW_some] <;> rfl) | (simp [*, errW_none, errW_some] <;> rfl), by repeat (first | (with_reducible first | exact HB.out | apply below_alloc | apply pw_below_drewN | apply below_drew1) | exact HB.out)⟩

end Go.Proofs.Ytgbkdmcbdilgaaa.PRow
