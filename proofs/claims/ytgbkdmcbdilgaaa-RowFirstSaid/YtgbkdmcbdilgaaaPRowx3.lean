/- Written by a program of this session (wip/tools/ext.py) out of the translation: Go functions told as Lean functions, with their walks; or the row of a law out of its plain part. Lean checks it. -/
import Derived.Test.YtgbkdmcbdilgaaaPRowx0
import Derived.Test.YtgbkdmcbdilgaaaPRowx1
namespace Go.Proofs.Ytgbkdmcbdilgaaa.PRow
open Go.RowKit Go.Proofs.YtgbkdmcbdilgaaaW.PrintWords Go.Proofs.YtgbkdmcbdilgaaaW.PrintLast Go.Proofs.YtgbkdmcbdilgaaaW.PrintMore
attribute [local go_sem] max2_int min2_int max_two min_two max_three min_three max_four min_four   -- for this text's walks alone
set_option linter.unusedVariables false
set_option linter.unusedSimpArgs false

/-! ### row_Count: function 23 -/
-- by hand
theorem count_do (i m s x o : Int) (ad : Addr) (len cap sb lb k : Nat) (w : World)
    (hs : w.cell? ⟨sb, 0, none⟩ = some (.int .i64 s)) (hsf : w.frozen? ⟨sb, 0, none⟩ = false) (hl : w.cell? ⟨lb, 0, none⟩ = some (.slice (some ad) len cap)) (hx : w.cell? (ad.add i.toNat) = some (.int .u64 x)) (h0 : 0 ≤ i) (h1 : i < len) (ho : PRank.word_Ones.f k (Go.bits .and .u64 x m) = some o) :
    Calls Try.prog 40 #[.int .i64 i, .int .u64 m, .pointer (some ⟨sb, 0, none⟩), .pointer (some ⟨lb, 0, none⟩)] w fun e w' => e = .returned (.tuple #[]) ∧ ∃ nd, w' = (w.drewN nd).setCell ⟨sb, 0, none⟩ (.int .i64 (wrap64 (s + o))) := by
  have A0 := Aside0.mk ho
  have F0 := Aside0.mk hsf
  clear ho hsf
  have p0 := eq_true h0
  have p1 := eq_true h1
  go_enter Try.func40, Try.ntmps40
  go_wp2_with fail
  refine start_ (n := 10) (S := fun w' => w'.cell? ⟨sb, 0, none⟩ = some (.int .i64 s) ∧ w'.cell? ⟨lb, 0, none⟩ = some (.slice (some ad) len cap) ∧ w'.cell? (ad.add i.toNat) = some (.int .u64 x)) (ds := [9]) #[false, false, false, false, false, false, false, false, false, false] (by kernel_rfl) rfl rfl ⟨hs, hl, hx⟩ (fun hHeld => ?_)
  refine take_ (i := 0) (N := some 6) (v := ?_) (a' := ?_) #[true, false, false, false, false, false, false, false, false, false] rfl rfl (by kernel_rfl) (fun _ _ _ h => h) (Or.inl ⟨by rfl, ?_⟩) hHeld ?_ ?_
  rotate_left
  · intro w' hw'_
    obtain ⟨hq1, hq2, hq3⟩ := hw'_
    go_simp
    with_reducible rfl
  rotate_left
  · simp only [Act.put, List.setIfInBounds_toArray, List.set_cons_zero, List.set_cons_succ, i64_w, i32_w]
    rfl
  refine take_ (i := 1) (N := some 7) (v := ?_) (a' := ?_) #[true, true, false, false, false, false, false, false, false, false] rfl rfl (by kernel_rfl) (fun _ _ _ h => h) (Or.inl ⟨by rfl, ?_⟩) hHeld ?_ ?_
  rotate_left
  · intro w' hw'_
    obtain ⟨hq1, hq2, hq3⟩ := hw'_
    go_simp
    with_reducible rfl
  rotate_left
  · simp only [Act.put, List.setIfInBounds_toArray, List.set_cons_zero, List.set_cons_succ, i64_w, i32_w]
    rfl
  refine pure_ (i := 2) (N := some 8) (v := ?_) (a' := ?_) #[true, true, true, false, false, false, false, false, false, false] rfl rfl (by kernel_rfl) (fun _ _ _ h => h) (Or.inl ⟨by rfl, ?_⟩) ?_ ?_
  rotate_left
  · intro w'
    go_simp
    with_reducible rfl
  rotate_left
  · simp only [Act.put, List.setIfInBounds_toArray, List.set_cons_zero, List.set_cons_succ, i64_w, i32_w]
    rfl
  refine pure_ (i := 3) (N := some 9) (v := ?_) (a' := ?_) #[true, true, true, true, false, false, false, false, false, false] rfl rfl (by kernel_rfl) (fun _ _ _ h => h) (Or.inl ⟨by rfl, ?_⟩) ?_ ?_
  rotate_left
  · intro w'
    go_simp
    with_reducible rfl
  rotate_left
  · simp only [Act.put, List.setIfInBounds_toArray, List.set_cons_zero, List.set_cons_succ, i64_w, i32_w]
    rfl
  refine take_ (i := 4) (N := some 10) (v := ?_) (a' := ?_) #[true, true, true, true, true, false, false, false, false, false] rfl rfl (by kernel_rfl) (fun _ _ _ h => h) (Or.inl ⟨by rfl, ?_⟩) hHeld ?_ ?_
  rotate_left
  · intro w' hw'_
    obtain ⟨hq1, hq2, hq3⟩ := hw'_
    go_simp
    with_reducible rfl
  rotate_left
  · simp only [Act.put, List.setIfInBounds_toArray, List.set_cons_zero, List.set_cons_succ, i64_w, i32_w]
    rfl
  refine pure_ (i := 5) (N := some 11) (v := ?_) (a' := ?_) #[true, true, true, true, true, true, false, false, false, false] rfl rfl (by kernel_rfl) (fun _ _ _ h => h) (Or.inl ⟨by rfl, ?_⟩) ?_ ?_
  rotate_left
  · intro w'
    go_simp
    with_reducible rfl
  rotate_left
  · simp only [Act.put, List.setIfInBounds_toArray, List.set_cons_zero, List.set_cons_succ, i64_w, i32_w]
    rfl
  refine pure_ (i := 6) (N := some 12) (v := ?_) (a' := ?_) #[true, true, true, true, true, true, true, false, false, false] rfl rfl (by kernel_rfl) (fun _ _ _ h => h) (Or.inl ⟨by rfl, ?_⟩) ?_ ?_
  rotate_left
  · intro w'
    go_simp
    with_reducible rfl
  rotate_left
  · simp only [Act.put, List.setIfInBounds_toArray, List.set_cons_zero, List.set_cons_succ, i64_w, i32_w]
    rfl
  refine one_ (i := 7) (N := some 13) #[true, true, true, true, true, true, true, true, false, false] rfl rfl (by kernel_rfl) (by decide) (fun K hK => ?_)
  refine goes_ Try.func33 (by kernel_rfl) rfl #[.int .u64 (Go.bits .and .u64 x m)] (by rfl) rfl rfl (by (try simp only [List.map_toArray, List.map_cons, List.map_nil]); first | done | rfl) ?_
  with_reducible refine (PRank.word_Ones.calls k _ o _ A0.out).mono ?_
  rintro e w' ⟨rfl, ⟨nd, rfl⟩⟩
  refine ⟨_, rfl, ?_⟩
  refine hK.out _ _ hHeld (fun hHeld => ?_)
  clear hK K
  refine norm_ (a' := ?_) ?_ ?_
  rotate_left
  · show Act.put _ (some 13) _ = _
    simp only [Act.put, List.setIfInBounds_toArray, List.set_cons_zero, List.set_cons_succ, i64_w, i32_w]
    rfl
  refine pure_ (i := 8) (N := some 14) (v := ?_) (a' := ?_) #[true, true, true, true, true, true, true, true, true, false] rfl rfl (by kernel_rfl) (fun _ _ _ h => h) (Or.inl ⟨by rfl, ?_⟩) ?_ ?_
  rotate_left
  · intro w'
    go_simp
    with_reducible rfl
  rotate_left
  · simp only [Act.put, List.setIfInBounds_toArray, List.set_cons_zero, List.set_cons_succ, i64_w, i32_w]
    rfl
  refine last_ (i := 9) (N := none) #[true, true, true, true, true, true, true, true, true, true] rfl rfl (by kernel_rfl) (by decide) (fun K hK => ?_)
  refine skip_ (w1 := (w.drew.drewN nd).setCell ⟨sb, 0, none⟩ (.int .i64 (wrap64 (s + o)))) (by rfl) rfl ?_ ?_
  · have hq1 := hHeld.1
    have hq2 := F0.out
    go_simp
  refine hK.out _ _ ?_
  clear hK K
  refine done_ (by kernel_rfl) ?_
  go_end0
  exact ⟨rfl, 1 + nd, by rw [← World.drewN_drewN]; rfl⟩
/-- the function value of row.Set -/
theorem set_do (i m x : Int) (g len cap lb ob : Nat) (on : Bool) (w : World)
    (hl : w.cell? ⟨lb, 0, none⟩ = some (.slice (some ⟨g, 0, none⟩) len cap)) (hon : w.cell? ⟨ob, 0, none⟩ = some (.bool on)) (hx : w.cell? ⟨g, i.toNat, none⟩ = some (.int .u64 x)) (hf : w.frozen? ⟨g, i.toNat, none⟩ = false) (hgl : g ≠ lb) (hgo : g ≠ ob) (h0 : 0 ≤ i) (h1 : i < len) :
    Calls Try.prog 42 #[.int .i64 i, .int .u64 m, .pointer (some ⟨lb, 0, none⟩), .pointer (some ⟨ob, 0, none⟩)] w fun e w' => e = .returned (.tuple #[]) ∧
      w' = if on then (w.setCell ⟨g, i.toNat, none⟩ (.int .u64 (Go.bits .andNot .u64 x m))).setCell ⟨g, i.toNat, none⟩ (.int .u64 (Go.bits .or .u64 (Go.bits .andNot .u64 x m) m)) else w.setCell ⟨g, i.toNat, none⟩ (.int .u64 (Go.bits .andNot .u64 x m)) := by
  have hl1 : (w.setCell ⟨g, i.toNat, none⟩ (.int .u64 (Go.bits .andNot .u64 x m))).cell? ⟨lb, 0, none⟩ = some (.slice (some ⟨g, 0, none⟩) len cap) := by
    rw [World.cell?_setCell_far _ _ _ _ hgl]; exact hl
  have hon1 : (w.setCell ⟨g, i.toNat, none⟩ (.int .u64 (Go.bits .andNot .u64 x m))).cell? ⟨ob, 0, none⟩ = some (.bool on) := by
    rw [World.cell?_setCell_far _ _ _ _ hgo]; exact hon
  have hx1 : (w.setCell ⟨g, i.toNat, none⟩ (.int .u64 (Go.bits .andNot .u64 x m))).cell? ⟨g, i.toNat, none⟩ = some (.int .u64 (Go.bits .andNot .u64 x m)) := World.cell?_setCell_same' _ _ _ (by rw [hx]; rfl)
  have hf1 : (w.setCell ⟨g, i.toNat, none⟩ (.int .u64 (Go.bits .andNot .u64 x m))).frozen? ⟨g, i.toNat, none⟩ = false := by
    rw [World.frozen?_setCell]; exact hf
  have p0 := eq_true h0
  have p1 := eq_true h1
  cases on with
  | true =>
    go_enter Try.func42, Try.ntmps42
    go_wp2
    go_end0
    exact ⟨rfl, rfl⟩
  | false =>
    go_enter Try.func42, Try.ntmps42
    go_wp2
    go_end0
    exact ⟨rfl, rfl⟩
/-- how many bits of one word are taken -/
def takes (f n : Int) : Int := mn (wrap64 (64 - Int.tmod f 64)) n
def cnt_l : Nat → List Int → Int → Int → Int → Int → Option Int
  | 0, _, _, _, _, _ => none
  | k + 1, l, i, f, n, s => if i < (l.length : Int) then (if n > 0 then ((word_Mask.f 70 (Int.tmod f 64) (takes f n)).bind fun m => ((PRank.word_Ones.f 70 (Go.bits .and .u64 (rd l i) m)).bind fun o => cnt_l k l (wrap64 (i + 1)) (wrap64 (f + takes f n)) (wrap64 (n - takes f n)) (wrap64 (s + o)))) else some s) else some s
def row_Count.f (l0 : List Int) (a1 a2 : Int) : Option Int := if a1 < 0 then some 0 else (if a2 < 0 then some 0 else (if 0 ≤ wrap64 (Int.tdiv a1 64) then cnt_l (l0.length + 1) l0 (wrap64 (Int.tdiv a1 64)) a1 a2 0 else none))

theorem wrap_next {i : Int} {n : Nat} (h0 : 0 ≤ i) (h1 : i < (n : Int)) (hn : n ≤ 9223372036854775807) : 0 ≤ wrap64 (i + 1) := by unfold wrap64; omega
theorem each_count_walk (A : Option Addr) (c : Nat) (l : List Int) (a1 a2 r : Int) (sb lb K : Nat) (w0 w : World) (hr0 : Kd.C (Kd.int .u64) w0 A l.length l) (hB : Below w0.heap.size w0 w) (hsb : w0.heap.size ≤ sb) (hne : sb ≠ lb)
    (hs : w.cell? ⟨sb, 0, none⟩ = some (.int .i64 0)) (hsf : w.frozen? ⟨sb, 0, none⟩ = false) (hl : w.cell? ⟨lb, 0, none⟩ = some (.slice A l.length c)) (h1 : 0 ≤ a1) (h2 : 0 ≤ a2) (hi0 : 0 ≤ wrap64 (Int.tdiv a1 64)) (hf : cnt_l K l (wrap64 (Int.tdiv a1 64)) a1 a2 0 = some r) :
    Calls Try.prog 39 #[.slice A l.length c, .int .i64 a1, .int .i64 a2, .func (.func 40) #[] #[.pointer (some ⟨sb, 0, none⟩), .pointer (some ⟨lb, 0, none⟩)]] w fun e w' => e = .returned (.tuple #[]) ∧ w'.cell? ⟨sb, 0, none⟩ = some (.int .i64 r) ∧ w'.frozen? ⟨sb, 0, none⟩ = false ∧ Below w0.heap.size w0 w' := by
  have H0 := Aside0.mk hf
  have HR0 := Aside0.mk hr0
  have HB := Aside0.mk hB
  have HS := Aside0.mk hs
  have HSF := Aside0.mk hsf
  have HL := Aside0.mk hl
  clear hf hr0 hB hs hsf hl
  have c1 : ¬ a1 < 0 := by omega
  have c2 : ¬ a2 < 0 := by omega
  have c1b := eq_false c1
  have c1c := decide_eq_false c1
  have c2b := eq_false c2
  have c2c := decide_eq_false c2
  clear c1 c2
  go_enter Try.func39, Try.ntmps39
  go_wp2
  clear c1b c1c c2b c2c
  go_loopg [1, 2, 8] K (fun k v1 v2 v8 wr => ∃ i f n s : Int, v8 = .int .i64 i ∧ v1 = .int .i64 f ∧ v2 = .int .i64 n ∧ 0 ≤ i ∧ cnt_l k l i f n s = some r ∧ wr.cell? ⟨sb, 0, none⟩ = some (.int .i64 s) ∧ wr.frozen? ⟨sb, 0, none⟩ = false ∧ wr.cell? ⟨lb, 0, none⟩ = some (.slice A l.length c) ∧ Below w0.heap.size w0 wr)
  case atStart => exact ⟨_, a1, a2, 0, rfl, rfl, rfl, hi0, H0.out, HS.out, HSF.out, HL.out, HB.out⟩
  case round =>
    clear H0 HB HS HSF HL hi0
    obtain ⟨i, f, n, s, rfl, rfl, rfl, hi0, hf, hs, hsf, hl, hB⟩ := hrel
    cases gk with
    | zero => simp [cnt_l] at hf
    | succ k =>
      rw [cnt_l] at hf
      have HS := Aside0.mk hs
      have HSF := Aside0.mk hsf
      have HL := Aside0.mk hl
      have HB := Aside0.mk hB
      clear hs hsf hl hB
      by_cases c1 : i < (l.length : Int)
      · rw [if_pos c1] at hf
        have c1b := eq_true c1
        have c1c := decide_eq_true c1
        by_cases c2 : n > 0
        · rw [if_pos c2] at hf
          have c2b := eq_true c2
          have c2c := decide_eq_true c2
          obtain ⟨m, hm, hf2⟩ := Option.bind_eq_some_iff.mp hf
          clear hf
          obtain ⟨o, ho, hf3⟩ := Option.bind_eq_some_iff.mp hf2
          clear hf2
          have A1 := Aside0.mk hm
          have A2 := Aside0.mk ho
          have A3 := Aside0.mk hf3
          clear hm ho hf3
          obtain ⟨t, ht⟩ : ∃ t, takes f n = t := ⟨_, rfl⟩
          rw [ht] at A1 A3
          obtain ⟨ad, rfl, hx⟩ := Kd.at_int (Kd.C_below HR0.out HB.out) i hi0 c1
          have A4 := Aside0.mk hx
          have A5 := Aside0.mk ht
          clear hx ht
          by_cases c3 : n < wrap64 (64 - Int.tmod f 64)
          · obtain rfl : t = n := by have h_ := A5.out; unfold takes mn at h_; split at h_ <;> omega
            have c4 := eq_true c3
            have c5 := decide_eq_true c3
            clear c3
            go_wp2_with (first | (go_at_call 35; (with_reducible refine (word_Mask.calls 70 _ _ m _ A1.out).mono ?_); rintro e w' ⟨rfl, ⟨nd, rfl⟩⟩; have q1 := Aside0.mk (show (World.drewN wr nd).cell? ⟨sb, 0, none⟩ = some (.int .i64 s) from HS.out); have q2 := Aside0.mk (show (World.drewN wr nd).frozen? ⟨sb, 0, none⟩ = false from HSF.out); have q3 := Aside0.mk (show (World.drewN wr nd).cell? ⟨lb, 0, none⟩ = some (.slice (some ad) l.length c) from HL.out); have q4 := Aside0.mk (show (World.drewN wr nd).cell? (ad.add i.toNat) = some (.int .u64 (rd l i)) from A4.out)) | (go_at_call 40; (with_reducible refine (count_do i m s (rd l i) o ad l.length c sb lb 70 _ q1.out q2.out q3.out q4.out hi0 c1 A2.out).mono ?_); rintro e w' ⟨rfl, ⟨nd2, rfl⟩⟩))
            go_roundg k
            case measure => omega
            case rel =>
              refine ⟨wrap64 (i + 1), wrap64 (f + t), wrap64 (t - t), wrap64 (s + o), rfl, rfl, (by first | rfl | (rw [Int.sub_self]; exact congrArg (Value.int IntKind.i64) (by unfold wrap64; omega))), ?_, A3.out, ?_, ?_, ?_, ?_⟩
              · exact wrap_next hi0 c1 (Kd.C_max HR0.out)
              · exact World.cell?_setCell_same' _ _ _ (by show (wr.cell? _).isSome = true; rw [HS.out]; rfl)
              · rw [World.frozen?_setCell]; exact q2.out
              · rw [World.cell?_setCell_far _ _ _ _ hne]; exact q3.out
              · exact (pw_below_drewN HB.out (nd + nd2)).setCell (p := ⟨sb, 0, none⟩) hsb _
          · have c4 := eq_false c3
            have c5 := decide_eq_false c3
            obtain rfl : t = wrap64 (64 - Int.tmod f 64) := by have h_ := A5.out; unfold takes mn at h_; split at h_ <;> omega
            clear c3
            go_wp2_with (first | (go_at_call 35; (with_reducible refine (word_Mask.calls 70 _ _ m _ A1.out).mono ?_); rintro e w' ⟨rfl, ⟨nd, rfl⟩⟩; have q1 := Aside0.mk (show (World.drewN wr nd).cell? ⟨sb, 0, none⟩ = some (.int .i64 s) from HS.out); have q2 := Aside0.mk (show (World.drewN wr nd).frozen? ⟨sb, 0, none⟩ = false from HSF.out); have q3 := Aside0.mk (show (World.drewN wr nd).cell? ⟨lb, 0, none⟩ = some (.slice (some ad) l.length c) from HL.out); have q4 := Aside0.mk (show (World.drewN wr nd).cell? (ad.add i.toNat) = some (.int .u64 (rd l i)) from A4.out)) | (go_at_call 40; (with_reducible refine (count_do i m s (rd l i) o ad l.length c sb lb 70 _ q1.out q2.out q3.out q4.out hi0 c1 A2.out).mono ?_); rintro e w' ⟨rfl, ⟨nd2, rfl⟩⟩))
            go_roundg k
            case measure => omega
            case rel =>
              refine ⟨wrap64 (i + 1), wrap64 (f + (wrap64 (64 - Int.tmod f 64))), wrap64 (n - (wrap64 (64 - Int.tmod f 64))), wrap64 (s + o), rfl, rfl, (by first | rfl | (rw [Int.sub_self]; exact congrArg (Value.int IntKind.i64) (by unfold wrap64; omega))), ?_, A3.out, ?_, ?_, ?_, ?_⟩
              · exact wrap_next hi0 c1 (Kd.C_max HR0.out)
              · exact World.cell?_setCell_same' _ _ _ (by show (wr.cell? _).isSome = true; rw [HS.out]; rfl)
              · rw [World.frozen?_setCell]; exact q2.out
              · rw [World.cell?_setCell_far _ _ _ _ hne]; exact q3.out
              · exact (pw_below_drewN HB.out (nd + nd2)).setCell (p := ⟨sb, 0, none⟩) hsb _
        · rw [if_neg c2] at hf
          obtain rfl := Option.some.inj hf
          have c2b := eq_false c2
          have c2c := decide_eq_false c2
          go_wp2
          go_end0
          exact ⟨rfl, HS.out, HSF.out, HB.out⟩
      · rw [if_neg c1] at hf
        obtain rfl := Option.some.inj hf
        have c1b := eq_false c1
        have c1c := decide_eq_false c1
        go_wp2
        go_end0
        exact ⟨rfl, HS.out, HSF.out, HB.out⟩
/-- row.each where there is nothing to do -/
theorem each_nothing (A : Option Addr) (c n : Nat) (F : Value) (a1 a2 : Int) (w : World) (h : a1 < 0 ∨ a2 < 0) :
    Calls Try.prog 39 #[.slice A n c, .int .i64 a1, .int .i64 a2, F] w fun e w' => e = .returned (.tuple #[]) ∧ w' = w := by
  by_cases c1 : a1 < 0
  · have c1b := eq_true c1
    have c1c := decide_eq_true c1
    clear h
    go_enter Try.func39, Try.ntmps39
    go_wp2
    exact bodyPost_ret (v := .tuple #[]) (by simp [results, Try.results39, go_sem]) rfl ⟨rfl, rfl⟩
  · have c2 : a2 < 0 := by omega
    have c1b := eq_false c1
    have c1c := decide_eq_false c1
    have c2b := eq_true c2
    have c2c := decide_eq_true c2
    clear h
    go_enter Try.func39, Try.ntmps39
    go_wp2
    exact bodyPost_ret (v := .tuple #[]) (by simp [results, Try.results39, go_sem]) rfl ⟨rfl, rfl⟩
/-- row.Count -/
theorem row_Count.calls (A0 : Option Addr) (c0 : Nat) (l0 : List Int) (a1 : Int) (a2 : Int) (r : Int) (w : World) (hr0 : Kd.C (Kd.int .u64) w A0 l0.length l0) (hc0 : l0.length ≤ c0) (h : row_Count.f l0 a1 a2 = some r) :
    Calls Try.prog 23 #[.slice A0 l0.length c0, .int .i64 a1, .int .i64 a2] w fun e w' => e = .returned (.int .i64 r) ∧ Below w.heap.size w w' := by
  have hmf : ∀ (fn : Fn) (first cap : Array Value) (w : World), (Instr.makeFunc fn first cap).run Try.prog w = .ok (.func fn first cap) w := fun _ _ _ _ => rfl
  have HR0 := Aside0.mk hr0
  have hb1 := ((Below.refl w.heap.size w).alloc (Nat.le_refl _) (.cells #[.slice A0 l0.length c0] 38)).alloc (by simp) (.cells #[.int .i64 0] 3)
  have hl : ((w.alloc (.cells #[.slice A0 l0.length c0] 38)).alloc (.cells #[.int .i64 0] 3)).cell? ⟨w.heap.size, 0, none⟩ = some (.slice A0 l0.length c0) := by
    rw [World.cell?_alloc_past _ _ _ (by simp), World.cell?_alloc_at _ _ _ _ rfl]; rfl
  have hs : ((w.alloc (.cells #[.slice A0 l0.length c0] 38)).alloc (.cells #[.int .i64 0] 3)).cell? ⟨w.heap.size + 1, 0, none⟩ = some (.int .i64 0) := by
    rw [World.cell?_alloc_at _ _ _ _ (by simp)]; rfl
  have hsf : ((w.alloc (.cells #[.slice A0 l0.length c0] 38)).alloc (.cells #[.int .i64 0] 3)).frozen? ⟨w.heap.size + 1, 0, none⟩ = false := World.frozen?_alloc_at _ _ _ _ (by simp)
  have HB1 := Aside0.mk hb1
  have HL := Aside0.mk hl
  have HS := Aside0.mk hs
  have HSF := Aside0.mk hsf
  clear hr0 hb1 hl hs hsf
  unfold row_Count.f at h
  by_cases c1 : a1 < 0 ∨ a2 < 0
  · have hr : r = 0 := by
      by_cases c2 : a1 < 0
      · rw [if_pos c2] at h; exact (Option.some.inj h).symm
      · rw [if_neg c2, if_pos (by omega)] at h; exact (Option.some.inj h).symm
    subst hr
    clear h
    have hl := HL.out
    have hs := HS.out
    have hsf := HSF.out
    go_enter Try.func23, Try.ntmps23
    go_wp2_with (go_at_call 39; (with_reducible refine (each_nothing _ _ _ _ _ _ _ c1).mono ?_); rintro e w' ⟨rfl, rfl⟩)
    exact bodyPost_ret (v := .int .i64 0) (by simp [results, Try.results23, go_sem, hs]) rfl ⟨rfl, HB1.out⟩
  · have p1 : 0 ≤ a1 := by omega
    have p2 : 0 ≤ a2 := by omega
    rw [if_neg (by omega), if_neg (by omega)] at h
    by_cases c2 : 0 ≤ wrap64 (Int.tdiv a1 64)
    case neg => rw [if_neg c2] at h; cases h
    rw [if_pos c2] at h
    have H1 := Aside0.mk c2
    have H2 := Aside0.mk h
    clear h c2
    have hl := HL.out
    go_enter Try.func23, Try.ntmps23
    go_wp2_with (go_at_call 39; (with_reducible refine (each_count_walk A0 c0 l0 a1 a2 r (w.heap.size + 1) w.heap.size (l0.length + 1) w _ HR0.out HB1.out (Nat.le_succ _) (Nat.succ_ne_self _) HS.out HSF.out HL.out p1 p2 H1.out H2.out).mono ?_); rintro e w' ⟨rfl, hs2, hf2, hb2⟩; have HB2 := Aside0.mk hb2; clear hb2)
    exact bodyPost_ret (v := .int .i64 r) (by simp [results, Try.results23, go_sem, hs2]) rfl ⟨rfl, HB2.out.setCell (p := ⟨w.heap.size + 1, 0, none⟩) (Nat.le_succ _) _⟩
/-! ### row_Has: function 24 -/
def row_Has.f (l0 : List Int) (a1 : Int) : Option (Bool) := if a1 ≥ 0 then (if (wrap64 (Int.tdiv a1 64)) < (l0.length : Int) then (if 0 ≤ (wrap64 (Int.tdiv a1 64)) then (if 0 ≤ (Int.tmod (IntKind.u64.wrap (a1)) 64) then (some ((Go.bits .and .u64 (shr .u64 (rd l0 (wrap64 (Int.tdiv a1 64))) (Int.tmod (IntKind.u64.wrap (a1)) 64)) 1) == 1)) else (none)) else (none)) else (some false)) else (some false)
set_option maxHeartbeats 8000000 in
set_option maxRecDepth 100000 in
theorem row_Has.calls (A0 : Option Addr) (c0 : Nat) (l0 : List Int) (a1 : Int) (r : Bool) (w : World) (hr0 : Kd.C (Kd.int .u64) w A0 l0.length l0) (hc0 : l0.length ≤ c0) (h : row_Has.f l0 a1 = some r) :
    Calls Try.prog 24 #[.slice A0 l0.length c0, .int .i64 a1] w fun e w' => e = .returned (.bool r) ∧ Drawn0 w w' := by
  have HR0 := Aside0.mk hr0
  have HC0 := Aside0.mk hc0
  clear hr0 hc0
  have H : (if a1 ≥ 0 then (if (wrap64 (Int.tdiv a1 64)) < (l0.length : Int) then (if 0 ≤ (wrap64 (Int.tdiv a1 64)) then (if 0 ≤ (Int.tmod (IntKind.u64.wrap (a1)) 64) then (some ((Go.bits .and .u64 (shr .u64 (rd l0 (wrap64 (Int.tdiv a1 64))) (Int.tmod (IntKind.u64.wrap (a1)) 64)) 1) == 1)) else (none)) else (none)) else (some false)) else (some false)) = some r := h
  clear h
  by_cases c3 : a1 ≥ 0
  · rw [if_pos c3] at H
    have c3b0 : decide (0 ≤ a1) = true := decide_eq_true c3
    clear c3
    by_cases c4 : (wrap64 (Int.tdiv a1 64)) < (l0.length : Int)
    · rw [if_pos c4] at H
      have c4b0 : decide ((wrap64 (Int.tdiv a1 64)) < (l0.length : Int)) = true := decide_eq_true c4
      clear c4
      obtain ⟨ji5, hji5⟩ : ∃ j_ : Int, (wrap64 (Int.tdiv a1 64)) = j_ := ⟨_, rfl⟩
      replace H : (if 0 ≤ (ji5) then (if 0 ≤ (Int.tmod (IntKind.u64.wrap (a1)) 64) then (some ((Go.bits .and .u64 (shr .u64 (rd l0 (ji5)) (Int.tmod (IntKind.u64.wrap (a1)) 64)) 1) == 1)) else (none)) else (none)) = some r := by first | (rw [hji5] at H; exact H) | (simp only [hji5] at H ⊢; exact H)
      (try rw [hji5] at c4b0)
      have hji5w : (IntKind.i64.wrap (Int.tdiv a1 64)) = ji5 := (i64_w _).trans hji5
      by_cases c6 : 0 ≤ (ji5)
      · rw [if_pos c6] at H
        have c6b0 : decide (0 ≤ (ji5)) = true := decide_eq_true c6
        clear c6
        obtain ⟨ji7, hji7⟩ : ∃ j_ : Int, (Int.tmod (IntKind.u64.wrap (a1)) 64) = j_ := ⟨_, rfl⟩
        replace H : (if 0 ≤ (ji7) then (some ((Go.bits .and .u64 (shr .u64 (rd l0 (ji5)) (ji7)) 1) == 1)) else (none)) = some r := by first | (rw [hji7] at H; exact H) | (simp only [hji7] at H ⊢; exact H)
        by_cases c8 : 0 ≤ (ji7)
        · rw [if_pos c8] at H
          have c8b0 := eq_true c8
          have c8b1 : decide (0 ≤ (ji7)) = true := decide_eq_true c8
          clear c8
          obtain ⟨ji9, hji9⟩ : ∃ j_ : Int, (shr .u64 (rd l0 (ji5)) (ji7)) = j_ := ⟨_, rfl⟩
          replace H : (some ((Go.bits .and .u64 (ji9) 1) == 1)) = some r := by first | (rw [hji9] at H; exact H) | (simp only [hji9] at H ⊢; exact H)
          have hji9_ : ((rd l0 (ji5)) / 2 ^ min (ji7).toNat 64) = ji9 := hji9
          have hji9z : (ji7) ≤ 64 → ((rd l0 (ji5)) / 2 ^ (ji7).toNat) = ji9 := shr_small hji9
          obtain rfl := Option.some.inj H
          have p105 : 0 ≤ ((ji5) : Int) := of_decide_eq_true (by first | (with_reducible assumption) | assumption)
          have q105 : (ji5) < (l0.length : Int) := of_decide_eq_true (by first | (with_reducible assumption) | assumption)
          obtain ⟨ad105, e105, hx105_0⟩ := Kd.at_int HR0.out (ji5) p105 q105
          cases e105
          replace p105 := eq_true p105
          replace q105 := eq_true q105
          go_enter Try.func24, Try.ntmps24
          go_wp2
          go_ret
          exact ⟨by first | rfl | (simp; done) | (simp only [← hji5, ← hji7, ← hji9] <;> (first | rfl | simp)) | (simp [*]; done) | (simp [Int.tdiv_eq_ediv_of_nonneg]; done), by repeat (first | exact Drawn0.refl _ | apply Drawn0.step)⟩
        · rw [if_neg c8] at H
          exact absurd H (by simp)
      · rw [if_neg c6] at H
        exact absurd H (by simp)
    · rw [if_neg c4] at H
      have c4b0 : decide ((wrap64 (Int.tdiv a1 64)) < (l0.length : Int)) = false := decide_eq_false c4
      clear c4
      obtain rfl := Option.some.inj H
      go_enter Try.func24, Try.ntmps24
      go_wp2
      go_ret
      exact ⟨by first | rfl | (simp; done) | (simp [*]; done) | (simp [Int.tdiv_eq_ediv_of_nonneg]; done), by repeat (first | exact Drawn0.refl _ | apply Drawn0.step)⟩
  · rw [if_neg c3] at H
    have c3b0 : decide (0 ≤ a1) = false := decide_eq_false c3
    clear c3
    obtain rfl := Option.some.inj H
    go_enter Try.func24, Try.ntmps24
    go_wp2
    go_ret
    exact ⟨by first | rfl | (simp; done) | (simp [*]; done) | (simp [Int.tdiv_eq_ediv_of_nonneg]; done), by repeat (first | exact Drawn0.refl _ | apply Drawn0.step)⟩

/-! ### slices_Clone_uint64_uint64: function 41 -/
def slices_Clone_uint64_uint64.f (l0 : List Int) : Option (List Int) := (some (([] : List Int) : List Int)).bind fun y106 => (if y106.length + l0.length < 17592186044416 then (some (y106 ++ l0)) else (none))
set_option maxHeartbeats 8000000 in
set_option maxRecDepth 100000 in
theorem slices_Clone_uint64_uint64.calls (A0 : Option Addr) (c0 : Nat) (l0 : List Int) (r : List Int) (w : World) (hr0 : Kd.C (Kd.int .u64) w A0 l0.length l0) (hc0 : l0.length ≤ c0) (h : slices_Clone_uint64_uint64.f l0 = some r) :
    Calls Try.prog 41 #[.slice A0 l0.length c0] w fun e w' => ∃ v0_ : Value, e = .returned (v0_) ∧ Kd.R (Kd.int .u64) 53 w' w.heap.size (fun _ => True) v0_ r ∧ Below w.heap.size w w' := by
  have HR0 := Aside0.mk hr0
  have HC0 := Aside0.mk hc0
  clear hr0 hc0
  have HB := Aside0.mk (Below.refl w.heap.size w)
  have H : ((some (([] : List Int) : List Int)).bind fun y106 => (if y106.length + l0.length < 17592186044416 then (some (y106 ++ l0)) else (none))) = some r := h
  clear h
  obtain ⟨y106, hy106⟩ : ∃ y_ : List Int, y_ = (([] : List Int)) := ⟨_, rfl⟩
  replace H : (if y106.length + l0.length < 17592186044416 then (some (y106 ++ l0)) else (none)) = some r := by first | (rw [hy106]; with_reducible exact H) | (have H2_ := (Option.bind_some _ _).symm.trans H; rw [hy106]; with_reducible exact H2_) | (have H2_ := (Option.bind_some _ _).symm.trans H; with_reducible exact H2_) | with_reducible exact H | (rw [hy106]; exact H) | exact H
  have Ny106 := Aside0.mk hy106
  clear hy106
  by_cases c2 : y106.length + l0.length < 17592186044416
  · rw [if_pos c2] at H
    have LMc2 := Aside0.mk c2
    clear c2
    obtain ⟨y109, hy109⟩ : ∃ y_ : List Int, y_ = (y106 ++ l0) := ⟨_, rfl⟩
    replace H : (some y109) = some r := by first | (rw [hy109]; with_reducible exact H) | (have H2_ := (Option.bind_some _ _).symm.trans H; rw [hy109]; with_reducible exact H2_) | (have H2_ := (Option.bind_some _ _).symm.trans H; with_reducible exact H2_) | with_reducible exact H | (rw [hy109]; exact H) | exact H
    have Ny109 := Aside0.mk hy109
    clear hy109
    obtain rfl := Option.some.inj H
    rcases A0 with _ | ad0
    · have hl0 := Ext.C_none HR0.out
      subst hl0
      have hr0_ := Aside0.mk (show y109 = [] from by rw [Ny109.out, Ny106.out]; rfl)
      clear HR0 HC0 LMc2 Ny106 Ny109
      have hsp : ∀ W : World, (binOp .eql 38 (.slice none 0 c0) (.slice none 0 0)).run Try.prog W = .ok (.bool true) W := fun W => Lib.run_eql_slice_nil W 38 53 none 0 c0 0 0 Try.underlying38
      show Calls Try.prog 41 #[.slice none 0 c0] w _
      go_enter Try.func41, Try.ntmps41
      go_wp2
      go_ret
      exact ⟨_, rfl, by rw [hr0_.out]; exact Kd.R_nil _ _ _ _ _, by repeat (first | exact Below.refl _ _ | apply below_alloc | apply pw_below_drewN | apply below_drew1)⟩
    have hsp : ∀ W : World, (binOp .eql 38 (.slice (some ad0) l0.length c0) (.slice none 0 0)).run Try.prog W = .ok (.bool false) W := fun W => Lib.run_eql_slice_nil W 38 53 (some ad0) l0.length c0 0 0 Try.underlying38
    go_enter Try.func41, Try.ntmps41
    go_wp2_with (first | ((with_reducible refine gate_dst (N := 5) rfl ?_); refine Kd.R_lit (Kd.int .u64) _ 53 ?hg (N := 5) ?hd (xs := ([] : List Int)) (inner := []) (ok := fun _ => True) (okp := fun _ => True) ?hr ?hp (fun _ hk => hk) trivial (Below.refl _ _) (Nat.le_refl _) (by simp) ?_; (case hd => rfl); (case hg => rfl); (case hr => first | (go_simp; done) | (go_simp; rfl)); (case hp => exact (Reps.none _ _)); intro v107 w3 ho4 hb hg_ hnew_; clear hg_ hnew_; (first | rw [← Ny106.out] at ho4 | (simp only [Int.reduceToNat] at ho4; rw [← Ny106.out] at ho4)); have n0_ := Aside0.mk (Kd.R_lower ho4 (below_size (by repeat (first | (with_reducible first | exact HB.out | apply below_alloc | apply pw_below_drewN | apply below_drew1) | exact HB.out)))); have n1_ := Aside0.mk (below_step (by repeat (first | (with_reducible first | exact HB.out | apply below_alloc | apply pw_below_drewN | apply below_drew1) | exact HB.out)) hb); clear HB; have HO108 := n0_; have HB := n1_; clear n0_ n1_; clear hb ho4) | ((with_reducible refine gate_builtin (b := .append) (xs := #[.tmp 5, .tmp 6]) rfl ?_); at_builtin; refine Kd.R_append_rows (Kd.int .u64) (w0 := w) w.heap.size rfl (.tmp 5) (.tmp 6) 38 53 (.int .u64 0) 8 rfl Try.underlying38 info53 rfl (by decide) (by omega) v107 y106 l0 _ _ _ (fun _ => True) (fun _ => False) rfl rfl ?aO ?aR (fun _ _ h => h) (fun _ h => h.elim) ?aF ?aB ?aS ?aL ?_; (case aR => repeat (first | exact (Kd.C_below HR0.out HB.out) | (with_reducible refine Kd.C_alloc ?_ _) | (with_reducible refine Kd.C_drewN ?_ _) | (with_reducible refine Kd.C_drew ?_))); (case aB => exact (by repeat (first | (with_reducible first | exact HB.out | apply below_alloc | apply pw_below_drewN | apply below_drew1) | exact HB.out))); (case aF => exact (fun _ _ => trivial)); (case aO => exact (by (with_reducible repeat (first | apply Kd.R_alloc | apply Kd.R_drewN | apply Kd.R_drew)); exact HO108.out)); (case aS => exact (below_size (by repeat (first | (with_reducible first | exact HB.out | apply below_alloc | apply pw_below_drewN | apply below_drew1) | exact HB.out)))); (case aL => have := LMc2.out; omega); intro v110 w5 ho hb hg hat; rw [← Ny109.out] at ho; have n0_ := Aside0.mk (hb); have n1_ := Aside0.mk (ho); clear HB; clear HO108; have HB := n0_; have HO111 := n1_; clear n0_ n1_; clear ho hb hg hat))
    go_ret
    exact ⟨_, by first | rfl | (simp [errW_none, errW_some] <;> rfl) | (simp [*, errW_none, errW_some] <;> rfl), by (with_reducible repeat (first | apply Kd.R_alloc | apply Kd.R_drewN | apply Kd.R_drew)); exact HO111.out, by repeat (first | (with_reducible first | exact HB.out | apply below_alloc | apply pw_below_drewN | apply below_drew1) | exact HB.out)⟩
  · rw [if_neg c2] at H
    exact absurd H (by simp)

end Go.Proofs.Ytgbkdmcbdilgaaa.PRow
