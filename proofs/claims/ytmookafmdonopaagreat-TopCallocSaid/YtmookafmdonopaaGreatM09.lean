/- tree.FirstZero walked, from 0. -/
import Derived.Test.YtmookafmdonopaaGreatM08
import Derived.Test.YtmookafmdonopaaGreatM04
/- tree.FirstZero walked, from 0. -/
namespace Go.Proofs.YtmookafmdonopaaGreat.Top
open Go Go.RowKit
set_option linter.unusedVariables false
set_option linter.unusedSimpArgs false
attribute [local go_sem] max2_int min2_int max_two min_two max_three

/-- the first bit that is not set -/
def FZ (size : Nat) (b : Nat → Bool) (v : Int) (ok : Bool) : Prop :=
  (ok = true ∧ ∃ i : Nat, v = (i : Int) ∧ i < size ∧ b i = false ∧ ∀ j, j < i → b j = true) ∨ (ok = false ∧ ∀ j, j < size → b j = true)
theorem full_bits (size : Nat) (b : Nat → Bool) (s : Nat) (h : tw size b s = fullW) : ∀ t, t < 64 → twF size b s t = true := by
  intro t ht
  have e : wb (twF size b s) = wb (fun _ => true) := by rw [wb_full]; exact h
  exact wb_inj e t ht
theorem full_low {f : Nat → Bool} (h : low (fun t => !f t) = 64) : ∀ t, t < 64 → f t = true := by
  intro t ht
  have h2 := (low_spec (fun t => !f t)).2.1 t (by omega)
  simpa using h2
theorem not_full {size : Nat} {b : Nat → Bool} {s : Nat} (h : tw size b s ≠ fullW) : low (fun t => !twF size b s t) < 64 := by
  have h1 := (low_spec (fun t => !twF size b s t)).1
  refine Decidable.byContradiction fun hn => h ?_
  have h2 := full_low (f := twF size b s) (by omega)
  have e : tw size b s = wb (fun _ => true) := wb_congr h2
  rw [e, wb_full]
  rfl
theorem FZ_word {size : Nat} {b : Nat → Bool} {y x : Nat} (hx : x = low (fun t => !twF size b y t)) (h64 : x < 64) (hb : ∀ s, s < y → ∀ t, t < 64 → twF size b s t = true) : y * 64 + x < size ∧ FZ size b ((y * 64 + x : Nat) : Int) true := by
  obtain ⟨-, l2, l3⟩ := low_spec (fun t => !twF size b y t)
  rw [← hx] at l2 l3
  have l4 := l3 h64
  unfold twF at l4
  have e1 : y * 64 + x < size := by
    refine Decidable.byContradiction fun hn => ?_
    rw [decide_eq_true (by omega)] at l4
    simp at l4
  rw [decide_eq_false (by omega)] at l4
  refine ⟨e1, Or.inl ⟨rfl, _, rfl, e1, by simpa using l4, fun j hj => ?_⟩⟩
  by_cases hy : j / 64 < y
  · have h9 := hb (j / 64) hy (j % 64) (by omega)
    unfold twF at h9
    rw [show j / 64 * 64 + j % 64 = j by omega, decide_eq_false (by omega)] at h9
    simpa using h9
  · have h9 := l2 (j % 64) (by omega)
    unfold twF at h9
    rw [show y * 64 + j % 64 = j by omega, decide_eq_false (by omega)] at h9
    simpa using h9
theorem FZ_all {size : Nat} {b : Nat → Bool} {v : Int} (hb : ∀ s, s < nW size → ∀ t, t < 64 → twF size b s t = true) : FZ size b v false := by
  refine Or.inr ⟨rfl, fun j hj => ?_⟩
  have hn : nW size = (size - 1) / 64 + 1 := rfl
  have h9 := hb (j / 64) (by omega) (j % 64) (by omega)
  unfold twF at h9
  rw [show j / 64 * 64 + j % 64 = j by omega, decide_eq_false (by omega)] at h9
  simpa using h9
/-- the second level, the first word left out -/
def swG (size : Nat) (b : Nat → Bool) : Nat → Bool := fun t => swF size b t || rng 0 1 t
theorem swG_spec {size : Nat} {b : Nat → Bool} {y : Nat} (hy : y = low (fun t => !swG size b t)) (h0 : ∀ t, t < 64 → twF size b 0 t = true) (hs : size ≤ 4096) :
    (y < 64 → y < nW size ∧ tw size b y ≠ fullW ∧ ∀ s, s < y → ∀ t, t < 64 → twF size b s t = true) ∧ (¬ y < 64 → ∀ s, s < nW size → ∀ t, t < 64 → twF size b s t = true) := by
  have hn : nW size = (size - 1) / 64 + 1 := rfl
  obtain ⟨l1, l2, l3⟩ := low_spec (fun t => !swG size b t)
  rw [← hy] at l1 l2 l3
  have key : ∀ s, s < y → s < nW size → ∀ t, t < 64 → twF size b s t = true := by
    intro s hs1 hs2
    have h9 := l2 s hs1
    unfold swG swF rng at h9
    by_cases h00 : s = 0
    · subst h00; exact h0
    · rw [decide_eq_false (show ¬ nW size ≤ s by omega), decide_eq_false (show ¬ s < 0 + 1 by omega)] at h9
      refine full_bits size b s ?_
      simpa using h9
  refine ⟨fun h => ?_, fun h s hs1 => key s (by omega) hs1⟩
  have h9 := l3 h
  unfold swG swF rng at h9
  have e1 : y < nW size := by
    refine Decidable.byContradiction fun hne => ?_
    rw [decide_eq_true (show nW size ≤ y by omega)] at h9
    simp at h9
  rw [decide_eq_false (show ¬ nW size ≤ y by omega)] at h9
  refine ⟨e1, fun e => ?_, fun s hs1 => key s hs1 (by omega)⟩
  rw [decide_eq_true e] at h9
  simp at h9
theorem or_0 (f : Nat → Bool) : Go.bits .or .u64 (wb f : Int) 0 = (wb f : Int) := by
  have h := u64_or f (fun _ => false)
  have e : wb (fun _ => false) = 0 := by decide +kernel
  rw [e] at h
  simpa using h
def FZr (size : Nat) (b : Nat → Bool) (e : Ending) : Prop := ∃ v ok, e = .returned (.tuple #[.int .i64 v, .bool ok]) ∧ FZ size b v ok
set_option maxHeartbeats 1000000 in
theorem tree_FirstZero (size : Nat) (b : Nat → Bool) (A : Option Addr) (n c : Nat) (w : World) (h : Lev w (.slice A n c) (lvs size b)) (h1 : 1 ≤ size) (h2 : size ≤ 4096) :
    Calls Tryz.prog 119 #[.agg #[.int .i64 size, .slice A n c], .int .i64 0] w fun e w' => FZr size b e ∧ Below w.heap.size w w' := by
  have hn := h.len
  have hn2 : n = if size ≤ 64 then 1 else 2 := by rw [hn]; unfold lvs; split <;> rfl
  have H := As.mk h
  have HN := As.mk hn2
  have n1 : 1 ≤ n := by rw [hn2]; split <;> omega
  have HO := As.mk ((Own.start (X := []) w).box #[.int .i64 size, .slice A n c] 132)
  have nw : nW size = (size - 1) / 64 + 1 := rfl
  have nw1 : nW size ≤ 64 := by omega
  have nw2 : 1 ≤ nW size := by omega
  have NW := As.mk nw
  have HN0 := As.mk hn
  clear h nw hn2 hn
  have s0 : (size ≤ 0) = False := eq_false (by omega)
  have m0 : (0 : Int) % 64 = 0 := by omega
  have m1 : (1 : Int) % 64 = 1 := by omega
  have m2 : (0 : Int) / 64 = 0 := by omega
  have m3 : (1 : Int) / 64 = 0 := by omega
  go_enter Tryz.func119, Tryz.ntmps119
  go_wp2_with fail
  go_loopw [6, 7] (fun k a wr => ∃ q : Nat, q ≤ 2 ∧ k = .int .i64 (q : Int) ∧ a = .int .i64 (if q = 0 then 0 else 1) ∧ (1 ≤ q → ∀ t, t < 64 → twF size b 0 t = true) ∧ (2 ≤ q → ∀ s, s < nW size → ∀ t, t < 64 → twF size b s t = true) ∧ Own [] [(w.heap.size, EC 132 [.int .i64 size, .slice A n c])] (fun _ => True) w wr) (fun k _ _ => 3 - (intOf k).toNat)
  case atStart => exact ⟨0, by omega, rfl, rfl, fun h => absurd h (by omega), fun h => absurd h (by omega), HO.out⟩
  case round =>
    clear HO
    obtain ⟨q, hq, rfl, rfl, hq1, hq2, ho⟩ := hrel
    have z0 := ho.get (g := w.heap.size) (e := 132) (cs := [.int .i64 size, .slice A n c]) (by simp) 0 (by simp)
    have z1 := ho.get (g := w.heap.size) (e := 132) (cs := [.int .i64 size, .slice A n c]) (by simp) 1 (by simp)
    have HO := As.mk ho
    have Q1 := As.mk hq1
    have Q2 := As.mk hq2
    clear ho hq1 hq2
    rcases Nat.lt_or_ge q n with hqn | hqn
    · have hq3 : q = 0 ∨ q = 1 := by have := HN.out; split at this <;> omega
      rcases hq3 with rfl | rfl
      · obtain ⟨bb, oo, A2, c2, rfl, hc, -⟩ := (H.out.below HO.out.toBelow).at_ 0 (by have := HN0.out; omega)
        have e0 : (lvs size b)[0]'(by have := HN0.out; omega) = lv0 size b := by simp only [lvs_eq]; rfl
        rw [e0, lv0_len, Nat.add_zero] at hc
        have hat := lvs_at0 size b 0 (by omega)
        have HA := As.mk (fun wx hL => hat ▸ tree_at_i size (some ⟨bb, oo, none⟩) n c (lvs size b) 0 0 0 0 wx hL rfl rfl)
        have ho := or_0 (twF size b 0)
        have et : tw size b 0 = wb (twF size b 0) := rfl
        have HLZ := As.mk (fun w => word_LowZero (twF size b 0) w)
        rw [et] at HA
        obtain ⟨u, hu⟩ : ∃ u, u = wb (twF size b 0) := ⟨_, rfl⟩
        rw [← hu] at ho HA HLZ
        have hz := (low_spec (fun t => !twF size b 0 t)).1
        obtain ⟨z, hze⟩ : ∃ z, z = low (fun t => !twF size b 0 t) := ⟨_, rfl⟩
        rw [← hze] at hz HLZ
        have ZE := As.mk hze
        clear hat et hu e0 hze
        by_cases h64 : z < 64
        · have hZ := FZ_word ZE.out h64 (fun s hs => absurd hs (by omega))
          have hzs : z < size := by have := hZ.1; omega
          have HZ := As.mk hZ.2
          clear hZ
          go_wp2_with fail
          refine (HA.out _ (H.out.below HO.out.toBelow)).mono ?_
          rintro e w1 ⟨rfl, hb⟩
          have HO1 := As.mk (HO.out.below hb)
          have y0 := HO1.out.get (g := w.heap.size) (e := 132) (cs := [.int .i64 size, .slice (some ⟨bb, oo, none⟩) n c]) (by simp) 0 (by simp)
          have y1 := HO1.out.get (g := w.heap.size) (e := 132) (cs := [.int .i64 size, .slice (some ⟨bb, oo, none⟩) n c]) (by simp) 1 (by simp)
          clear hb z0 z1 hc
          go_wp2_with fail
          refine (word_Mask_0 0 _ (by decide)).mono ?_
          rintro e w2 ⟨rfl, rfl⟩
          go_wp2_with fail
          refine (HLZ.out _).mono ?_
          rintro e w3 ⟨rfl, rfl⟩
          go_wp2_with fail
          clear HA HLZ HO
          go_loopw [6, 7] (fun k a wr => k = .int .i64 0 ∧ a = .int .i64 z ∧ Own [] [(w.heap.size, EC 132 [.int .i64 size, .slice (some ⟨bb, oo, none⟩) n c])] (fun _ => True) w wr) (fun k _ _ => 0)
          case atStart => exact ⟨rfl, rfl, HO1.out⟩
          case round =>
            clear HO1 y0 y1
            obtain ⟨rfl, rfl, ho1⟩ := hrel
            have y0 := ho1.get (g := w.heap.size) (e := 132) (cs := [.int .i64 size, .slice (some ⟨bb, oo, none⟩) n c]) (by simp) 0 (by simp)
            have HO1 := As.mk ho1
            clear ho1
            go_wp2_with fail
            go_quiet (fail)
            go_wp2_with fail
            refine bodyPost_ret (v := .tuple #[.int .i64 z, .bool true]) (by simp [results, Tryz.f119, go_sem]) rfl ⟨⟨_, _, rfl, ?_⟩, (HO1.out.drewN _).toBelow⟩
            have e : ((0 * 64 + z : Nat) : Int) = (z : Int) := by omega
            rw [← e]
            exact HZ.out
        · have h64' : z = 64 := by omega
          subst h64'
          go_wp2_with fail
          refine (HA.out _ (H.out.below HO.out.toBelow)).mono ?_
          rintro e w1 ⟨rfl, hb⟩
          have HO1 := As.mk (HO.out.below hb)
          clear hb z0 z1 hc
          go_wp2_with fail
          refine (word_Mask_0 0 _ (by decide)).mono ?_
          rintro e w2 ⟨rfl, rfl⟩
          go_wp2_with fail
          refine (HLZ.out _).mono ?_
          rintro e w3 ⟨rfl, rfl⟩
          go_wp2_with fail
          go_roundw
          case rel => exact ⟨1, by omega, rfl, rfl, fun _ => full_low ZE.out.symm, fun h => absurd h (by omega), HO1.out⟩
          case measure => simp [intOf]
      · have hs64 : ¬ size ≤ 64 := by intro e; have := HN.out; rw [if_pos e] at this; omega
        have e9 : lvs size b = [lv0 size b, [wb (swF size b)]] := by unfold lvs; rw [if_neg hs64]
        obtain ⟨bb, oo, A2, c2, rfl, hc, -⟩ := (H.out.below HO.out.toBelow).at_ 1 (by have := HN0.out; omega)
        have e0 : (lvs size b)[1]'(by have := HN0.out; omega) = [wb (swF size b)] := by simp only [e9]; rfl
        rw [e0] at hc
        have hc2 := hc
        replace hc2 : wr.cell? ⟨bb, oo + 1, none⟩ = some (.slice A2 1 c2) := hc2
        have hat : atW (lvs size b) 1 0 = wb (swF size b) := by rw [e9]; rfl
        have HA := As.mk (fun wx hL => hat ▸ tree_at_i size (some ⟨bb, oo, none⟩) n c (lvs size b) 1 0 1 0 wx hL rfl rfl)
        have ho := u64_or (swF size b) (rng 0 1)
        have eg : wb (fun t => swF size b t || rng 0 1 t) = wb (swG size b) := rfl
        rw [eg] at ho
        have HLZ := As.mk (fun w => word_LowZero (swG size b) w)
        obtain ⟨u, hu⟩ : ∃ u, u = wb (swF size b) := ⟨_, rfl⟩
        rw [← hu] at ho HA
        obtain ⟨u2, hu2⟩ : ∃ u2, u2 = wb (swG size b) := ⟨_, rfl⟩
        rw [← hu2] at ho HLZ
        have hz := (low_spec (fun t => !swG size b t)).1
        obtain ⟨z, hze⟩ : ∃ z, z = low (fun t => !swG size b t) := ⟨_, rfl⟩
        rw [← hze] at hz HLZ
        obtain ⟨g1, g2⟩ := swG_spec hze (Q1.out (by omega)) h2
        have G1 := As.mk g1
        have G2 := As.mk g2
        clear hat hu e0 hze hc eg g1 g2 hu2
        by_cases h64 : z < 64
        · go_wp2_with fail
          obtain ⟨k1, k2, k3⟩ := G1.out h64
          have hx := not_full k2
          obtain ⟨x, hxe⟩ : ∃ x, x = low (fun t => !twF size b z t) := ⟨_, rfl⟩
          have hZ := FZ_word hxe (by rw [hxe]; exact hx) k3
          have hat2 := lvs_at0 size b z k1
          have HA2 := As.mk (fun wx hL => hat2 ▸ tree_at_i size (some ⟨bb, oo, none⟩) n c (lvs size b) 0 z 0 (z : Int) wx hL rfl rfl)
          have et : tw size b z = wb (twF size b z) := rfl
          have HLZ2 := As.mk (fun w => word_LowZero (twF size b z) w)
          rw [et] at HA2
          obtain ⟨u3, hu3⟩ : ∃ u3, u3 = wb (twF size b z) := ⟨_, rfl⟩
          rw [← hu3] at HA2 HLZ2
          rw [← hxe] at HLZ2 hx
          have HZ := As.mk hZ.2
          have hzx : ((z : Int) * 64 + (x : Int) < (size : Int)) = True := eq_true (by have := hZ.1; omega)
          have h64i : decide ((z : Int) < 64) = true := decide_eq_true (by omega)
          clear hat2 et hu3 hxe hZ k2 k3
          refine (HA.out _ (H.out.below HO.out.toBelow)).mono ?_
          rintro e w1 ⟨rfl, hb⟩
          have HO1 := As.mk (HO.out.below hb)
          clear hb z0 z1 hc2
          go_wp2_with fail
          refine (word_Mask 0 1 _ (by decide) (by decide) (by decide)).mono ?_
          rintro e w2 ⟨rfl, rfl⟩
          go_wp2_with fail
          refine (HLZ.out _).mono ?_
          rintro e w3 ⟨rfl, rfl⟩
          clear HA HLZ HO
          go_wp2_with fail
          go_loopw [6, 7] (fun k a wr => ∃ q : Nat, q ≤ 1 ∧ k = .int .i64 q ∧ a = .int .i64 (if q = 1 then (z : Int) else (z : Int) * 64 + (x : Int)) ∧ Own [] [(w.heap.size, EC 132 [.int .i64 size, .slice (some ⟨bb, oo, none⟩) n c])] (fun _ => True) w wr) (fun k _ _ => (intOf k).toNat)
          case atStart => exact ⟨1, Nat.le_refl _, rfl, rfl, HO1.out⟩
          case round =>
            clear HO1
            obtain ⟨q, hq, rfl, rfl, ho1⟩ := hrel
            have y0 := ho1.get (g := w.heap.size) (e := 132) (cs := [.int .i64 size, .slice (some ⟨bb, oo, none⟩) n c]) (by simp) 0 (by simp)
            have y1 := ho1.get (g := w.heap.size) (e := 132) (cs := [.int .i64 size, .slice (some ⟨bb, oo, none⟩) n c]) (by simp) 1 (by simp)
            have HO1 := As.mk ho1
            clear ho1
            have hq3 : q = 1 ∨ q = 0 := by omega
            rcases hq3 with rfl | rfl
            · go_wp2_with fail
              refine (HA2.out _ (H.out.below HO1.out.toBelow)).mono ?_
              rintro e w1 ⟨rfl, hb⟩
              have HO2 := As.mk (HO1.out.below hb)
              clear hb y0 y1
              go_wp2_with fail
              refine (HLZ2.out _).mono ?_
              rintro e w3 ⟨rfl, rfl⟩
              go_wp2_with fail
              go_roundw
              case rel => exact ⟨0, by omega, rfl, rfl, HO2.out⟩
              case measure => simp [intOf]
            · go_wp2_with fail
              go_quiet (fail)
              go_wp2_with fail
              refine bodyPost_ret (v := .tuple #[.int .i64 ((z : Int) * 64 + (x : Int)), .bool true]) (by simp [results, Tryz.f119, go_sem]) rfl ⟨⟨_, _, rfl, ?_⟩, (HO1.out.drewN _).toBelow⟩
              have e : ((z * 64 + x : Nat) : Int) = (z : Int) * 64 + (x : Int) := by omega
              rw [← e]
              exact HZ.out
        · have h64' : z = 64 := by omega
          subst h64'
          go_wp2_with fail
          refine (HA.out _ (H.out.below HO.out.toBelow)).mono ?_
          rintro e w1 ⟨rfl, hb⟩
          have HO1 := As.mk (HO.out.below hb)
          clear hb z0 z1 hc2
          go_wp2_with fail
          refine (word_Mask 0 1 _ (by decide) (by decide) (by decide)).mono ?_
          rintro e w2 ⟨rfl, rfl⟩
          go_wp2_with fail
          refine (HLZ.out _).mono ?_
          rintro e w3 ⟨rfl, rfl⟩
          go_wp2_with fail
          go_roundw
          case rel => exact ⟨2, by omega, rfl, rfl, fun _ => Q1.out (by omega), fun h => G2.out (by omega), HO1.out⟩
          case measure => simp [intOf]
    · have q0 : 1 ≤ q := by omega
      have hall : ∀ s, s < nW size → ∀ t, t < 64 → twF size b s t = true := by
        by_cases hq2 : 2 ≤ q
        · exact Q2.out hq2
        · intro s hs
          have h8 := HN.out
          have h9 := NW.out
          split at h8
          · have e : s = 0 := by omega
            subst e
            exact Q1.out q0
          · omega
      have HF := As.mk (FZ_all (v := 0) hall)
      clear hall
      go_wp2_with fail
      exact bodyPost_ret (v := .tuple #[.int .i64 0, .bool false]) (by simp [results, Tryz.f119, go_sem]) rfl ⟨⟨_, _, rfl, HF.out⟩, HO.out.toBelow⟩
end Go.Proofs.YtmookafmdonopaaGreat.Top
/- slots.New and slots.twin walked. -/
namespace Go.Proofs.YtmookafmdonopaaGreat.Top
open Go Go.RowKit
set_option linter.unusedVariables false
set_option linter.unusedSimpArgs false
attribute [local go_sem] max2_int min2_int max_two min_two max_three

/-- a slice of trees, read -/
def TrR (w : World) (v : Value) (L : Nat) (sz : Nat → Nat) (lf : Nat → List (List Nat)) : Prop :=
  ∃ g c, v = .slice (some ⟨g, 0, none⟩) L c ∧ L ≤ c ∧ ∀ k, k < L → w.cell? ⟨g, k * 2, none⟩ = some (.int .i64 (sz k)) ∧ ∃ A n d, w.cell? ⟨g, k * 2 + 1, none⟩ = some (.slice A n d) ∧ Lev w (.slice A n d) (lf k)
def TrF (base : Nat) (w : World) (v : Value) (L : Nat) (sz : Nat → Nat) (lf : Nat → List (List Nat)) : Prop := ∀ W : World, (∀ k, base ≤ k → k < w.heap.size → W.heap[k]? = w.heap[k]?) → TrR W v L sz lf
/-- the cells of trees -/
def TC (sz : Nat → Nat) (us xs : List Value) : Prop := xs.length = us.length * 2 ∧ ∀ k u, us[k]? = some u → xs[k * 2]? = some (.int .i64 (sz k)) ∧ xs[k * 2 + 1]? = some u
def RkT (lf : Nat → List (List Nat)) (us : List Value) (W : World) : Prop := ∀ k u, us[k]? = some u → ∃ A n d, u = .slice A n d ∧ Lev W u (lf k)
theorem TC.nil (sz : Nat → Nat) : TC sz [] [] := ⟨rfl, fun k u h => by simp at h⟩
theorem TC.snoc {sz : Nat → Nat} {us xs : List Value} (h : TC sz us xs) (u : Value) : TC sz (us ++ [u]) (xs ++ [.int .i64 (sz us.length), u]) := by
  obtain ⟨h1, h2⟩ := h
  refine ⟨by simp [h1]; omega, fun k x hk => ?_⟩
  rcases Nat.lt_or_ge k us.length with h3 | h3
  · rw [List.getElem?_append_left h3] at hk
    rw [List.getElem?_append_left (by omega), List.getElem?_append_left (by omega)]
    exact h2 k x hk
  · rw [List.getElem?_append_right h3] at hk
    have e : k = us.length := by
      have := (List.getElem?_eq_some_iff.1 hk).1
      simp at this
      omega
    subst e
    rw [Nat.sub_self] at hk
    injection hk with hk
    subst hk
    rw [List.getElem?_append_right (by omega), List.getElem?_append_right (by omega), show us.length * 2 - xs.length = 0 by omega, show us.length * 2 + 1 - xs.length = 1 by omega]
    exact ⟨rfl, rfl⟩
theorem RkT.snoc {lf : Nat → List (List Nat)} {us : List Value} {W : World} {A : Option Addr} {n d : Nat} (h : RkT lf us W) (hu : Lev W (.slice A n d) (lf us.length)) : RkT lf (us ++ [.slice A n d]) W := by
  intro k x hk
  rcases Nat.lt_or_ge k us.length with h3 | h3
  · rw [List.getElem?_append_left h3] at hk
    exact h k x hk
  · rw [List.getElem?_append_right h3] at hk
    have e : k = us.length := by
      have := (List.getElem?_eq_some_iff.1 hk).1
      simp at this
      omega
    subst e
    rw [Nat.sub_self] at hk
    injection hk with hk
    subst hk
    exact ⟨_, _, _, rfl, hu⟩
theorem LevF.form {base : Nat} {w : World} {v : Value} {lv : List (List Nat)} (h : LevF base w v lv) : ∃ A n d, v = .slice A n d := by
  obtain ⟨hs, h1, h2, h3⟩ := h w (fun _ _ _ => rfl)
  obtain ⟨A, c, rfl⟩ := h2.form
  exact ⟨_, _, _, rfl⟩
/-- trees that were appended are told -/
theorem OwnS.trees {X : List Nat} {L : List (Nat × (Obj → Prop))} {w0 w : World} {v : Value} {n : Nat} {us xs : List Value} {sz : Nat → Nat} {lf : Nat → List (List Nat)} (h : OwnS X L (RkT lf us) w0 w 132 2 v n xs) (hc : TC sz us xs) (h1 : 1 ≤ n) : TrF w0.heap.size w v n sz lf := by
  intro W hW
  have hl : us.length = n := by have := h.1; have := hc.1; omega
  rcases h.2 with ⟨_, h0, _⟩ | ⟨g, cap, rfl, hg, h3⟩
  · omega
  · obtain ⟨o, ho, cur, rfl, a1, a2, a3, a4⟩ := h3.at_ _ _ List.mem_cons_self
    have hR : RkT lf us W := h3.ro W fun k hk h0 _ => hW k h0 hk
    have hx : W.heap[g]? = some (.cells cur 132 (0, 0)) := (hW g hg (heap_lt ho)).trans ho
    have hcell : ∀ j u, xs[j]? = some u → W.cell? ⟨g, j, none⟩ = some u := by
      intro j u hj
      have h5 : cur[j]? = some u := by
        rw [← a4, List.getElem?_take] at hj
        split at hj
        · simpa using hj
        · cases hj
      unfold World.cell?
      simp [hx, h5]
    refine ⟨g, cap, rfl, a1, fun k hk => ?_⟩
    obtain ⟨u, hu⟩ : ∃ u, us[k]? = some u := ⟨us[k], List.getElem?_eq_getElem (by omega)⟩
    obtain ⟨c1, c2⟩ := hc.2 k u hu
    obtain ⟨A, m, d, rfl, hl⟩ := hR k u hu
    exact ⟨hcell _ _ c1, A, m, d, hcell _ _ c2, hl⟩
theorem info132' : (Tryz.prog.info? 132).map (fun i => (i.zero, i.size, i.bytes)) = some (some (.agg #[(.int .i64 0), (.slice none 0 0)]), 2, 32) := info132
theorem tree_New_i (size : Nat) (S : Int) (w : World) (hS : S = (size : Int)) (h1 : 1 ≤ size) (h2 : size ≤ 4096) :
    Calls Tryz.prog 77 #[.int .i64 S] w fun e w' => ∃ v, e = .returned (.agg #[.int .i64 size, v]) ∧ LevF w.heap.size w' v (lvs size noB) ∧ Below w.heap.size w w' := by
  subst hS
  exact tree_New size w h1 h2
set_option maxHeartbeats 1000000 in
theorem slots_New (n L : Nat) (w : World) (h1 : 1 ≤ n) (h2 : n ≤ 4096) (hL : 1 ≤ L) (hL2 : L ≤ 17) (hd : 2 ^ (L - 1) ∣ n) :
    Calls Tryz.prog 57 #[.int .i64 n, .int .i64 L] w fun e w' => ∃ v, e = .returned (.agg #[v]) ∧ TrF w.heap.size w' v L (fun k => n / 2 ^ k) (fun k => lvs (n / 2 ^ k) noB) ∧ Below w.heap.size w w' := by
  have HO := As.mk (OwnS.nil (((Own.start (X := []) w).box #[.slice none 0 0] 80).imp (R' := RkT (fun k => lvs (n / 2 ^ k) noB) []) (fun W _ k u h => by simp at h)) 132 2)
  have hP : ∃ P : Nat, P = 2 ^ (L - 1) := ⟨_, rfl⟩
  obtain ⟨P, hP⟩ := hP
  have hp1 : 1 ≤ P := hP ▸ Nat.one_le_two_pow
  have hp2 : P ≤ 65536 := hP ▸ Nat.pow_le_pow_right (by decide) (show L - 1 ≤ 16 by omega)
  have hpow : wrap64 ((2 : Int) ^ (L - 1)) = (P : Int) := by
    have e : ((2 : Int) ^ (L - 1)) = (P : Int) := by rw [hP, Int.natCast_pow]; rfl
    rw [e, w64 _ (by omega) (by omega)]
  have hand : bits .and .i64 (n : Int) ((P : Int) - 1) = 0 := by
    have e : (P : Int) - 1 = ((2 ^ (L - 1) - 1 : Nat) : Int) := by rw [← hP]; omega
    rw [e, (i64_bits n _ (by omega) (by rw [← hP]; omega)).1, Nat.and_two_pow_sub_one_eq_mod, Nat.mod_eq_zero_of_dvd hd]
    rfl
  have c1 : ((L : Int) < 1) = False := eq_false (by omega)
  have c2 : (17 < (L : Int)) = False := eq_false (by omega)
  have c3 : ((n : Int) < 1) = False := eq_false (by omega)
  have c4 : (65536 < (n : Int)) = False := eq_false (by omega)
  have HD := As.mk hd
  have HP := As.mk hP
  clear hP hd
  go_enter Tryz.func57, Tryz.ntmps57
  go_wp2_with fail
  go_loopw [32] (fun i wr => ∃ (k : Nat) (v : Value) (us xs : List Value), k ≤ L ∧ i = .int .i64 (k : Int) ∧ us.length = k ∧ TC (fun k => n / 2 ^ k) us xs ∧ OwnS [] [(w.heap.size, EC 80 [v])] (RkT (fun k => lvs (n / 2 ^ k) noB) us) w wr 132 2 v k xs) (fun i _ => L - (intOf i).toNat)
  case atStart => exact ⟨0, _, [], [], by omega, rfl, rfl, TC.nil _, HO.out⟩
  case round =>
    clear HO
    obtain ⟨k, v, us, xs, hk, rfl, hus, hxs, ho⟩ := hrel
    obtain ⟨Av, cv, rfl⟩ := ho.slice
    have HO := As.mk ho
    have HX := As.mk hxs
    have HU := As.mk hus
    have z0 := ho.rest.get (g := w.heap.size) (e := 80) (cs := [.slice Av k cv]) (by simp) 0 (by simp)
    have Z0 := As.mk z0
    clear ho hxs hus
    by_cases hkL : k < L
    · have hkp : 2 ^ k ≤ n := Nat.le_trans (Nat.pow_le_pow_right (by decide) (by omega)) (Nat.le_of_dvd (by omega) HD.out)
      obtain ⟨q, hq⟩ : ∃ q, q = n / 2 ^ k := ⟨_, rfl⟩
      have hq1 : 1 ≤ q := hq ▸ (Nat.le_div_iff_mul_le (Nat.two_pow_pos k)).2 (by omega)
      have hq2 : q ≤ 4096 := hq ▸ Nat.le_trans (Nat.div_le_self _ _) h2
      have hdv : (n : Int) / 2 ^ k = (q : Int) := by
        rw [hq, show ((n / 2 ^ k : Nat) : Int) = (n : Int) / ((2 ^ k : Nat) : Int) from rfl, Int.natCast_pow]
        rfl
      have HQ := As.mk hq
      have hmin : (n : Int) / 2 ^ min k 64 = (q : Int) := by rw [Nat.min_eq_left (by omega)]; exact hdv
      clear hq hkp
      go_wp2_with fail
      refine rgn [(0, 1), (1, 0), (2, 1), (3, 1), (4, 1), (5, 1), (6, 2), (7, 2), (8, 2), (9, 1), (10, 3)] [10] (fun W => W.cell? ⟨w.heap.size, 0, none⟩ = some (.slice Av k cv)) (by kernel_rfl) (by kernel_rfl) (fun _ _ _ d _ h => by cases d <;> exact h) Z0.out ?_
      refine Run.pu (v := ?_) (a' := ?_) rfl rfl (Or.inl ⟨by rfl, ?_⟩) ?_ ?_; rotate_left 2; (focus (intro W; go_simp; with_reducible rfl)); (focus (simp only [Act.put, List.setIfInBounds_toArray, List.set_cons_zero, List.set_cons_succ]; rfl))
      refine Run.rd (v := ?_) (a' := ?_) rfl rfl (Or.inl ⟨by rfl, ?_⟩) ?_ ?_; rotate_left 2; (focus (intro W hW; go_simp; with_reducible rfl)); (focus (simp only [Act.put, List.setIfInBounds_toArray, List.set_cons_zero, List.set_cons_succ]; rfl))
      iterate 4 (refine Run.pu (v := ?_) (a' := ?_) rfl rfl (Or.inl ⟨by rfl, ?_⟩) ?_ ?_; rotate_left 2; (focus (intro W; go_simp; with_reducible rfl)); (focus (simp only [Act.put, List.setIfInBounds_toArray, List.set_cons_zero, List.set_cons_succ]; rfl)))
      refine Run.ef rfl (fun K hK => ?_)
      simp only [List.getElem_toArray, List.getElem_cons_succ, List.getElem_cons_zero]
      go_wp2_with fail
      refine (tree_New_i q _ _ hmin hq1 hq2).mono ?_
      rintro e w1 ⟨t, rfl, hf, hb⟩
      obtain ⟨At, nt, dt, rfl⟩ := hf.form
      have HO1 := As.mk (HO.out.drew.result (R' := fun W => Lev W (.slice At nt dt) (lvs q noB)) hb (fun W hW => hf W hW))
      clear hf hb HO
      go_wp2
      refine hK.out _ _ (HO1.out.rest.get List.mem_cons_self 0 (by simp)) ?_
      clear hK K
      refine Run.ef rfl (fun K hK => ?_)
      simp only [List.getElem_toArray, List.getElem_cons_succ, List.getElem_cons_zero]
      go_wp2
      refine hK.out _ _ ((HO1.out.alloc _).rest.get List.mem_cons_self 0 (by simp)) ?_
      clear hK K
      refine Run.ef rfl (fun K hK => ?_)
      simp only [List.getElem_toArray, List.getElem_cons_succ, List.getElem_cons_zero]
      refine go_app w rfl _ _ 78 132 _ 2 32 rfl Tryz.underlying78 info132 rfl (by decide) (.slice Av k cv) k xs rfl ⟨w1.heap.size, 0, none⟩ 1 1 [.int .i64 q, .slice At nt dt] rfl (HO1.out.alloc _) rfl (news _) (by intro u hu; simp at hu; rcases hu with rfl | rfl <;> rfl) (by simp [maxLen]; omega) (by omega) ?_
      intro v1 w2 hw2
      obtain ⟨A1, cq, rfl⟩ := hw2.slice
      have HW := As.mk hw2
      clear hw2
      go_wp2
      refine hK.out _ _ (HW.out.rest.get List.mem_cons_self 0 (by simp)) ?_
      clear hK K
      refine Run.pu (v := ?_) (a' := ?_) rfl rfl (Or.inl ⟨by rfl, ?_⟩) ?_ ?_; rotate_left 2; (focus (intro W; go_simp; with_reducible rfl)); (focus (simp only [Act.put, List.setIfInBounds_toArray, List.set_cons_zero, List.set_cons_succ]; rfl))
      refine Run.la rfl (fun K hK => ?_)
      simp only [List.getElem_toArray, List.getElem_cons_succ, List.getElem_cons_zero]
      have z2 := HW.out.rest.get List.mem_cons_self 0 (by simp)
      have z3 := HW.out.rest.frozen (o := 0) List.mem_cons_self
      go_wp2
      refine hK.out _ _ ?_
      clear hK K z2 z3
      refine Run.nil ?_
      have h5 := (HW.out.set 0 rfl 0 (.slice A1 (k + 1) cq) (by simp)).imp (R' := RkT (fun k => lvs (n / 2 ^ k) noB) (us ++ [Value.slice At nt dt])) (fun W hW => RkT.snoc (A := At) (n := nt) (d := dt) hW.1 (by rw [HU.out, ← HQ.out]; exact hW.2))
      have hxs : TC (fun k => n / 2 ^ k) (us ++ [.slice At nt dt]) (xs ++ [.int .i64 q, .slice At nt dt]) := by
        have h6 := HX.out.snoc (.slice At nt dt)
        rw [HU.out] at h6
        rw [HQ.out]
        exact h6
      have hus : (us ++ [Value.slice At nt dt]).length = k + 1 := by rw [List.length_append, HU.out]; rfl
      have H5 := As.mk (And.intro hus (And.intro hxs h5))
      clear h5 hxs hus
      go_wp2_with fail
      go_roundw
      case rel => exact ⟨k + 1, _, _, _, by omega, by go_num, H5.out.1, H5.out.2.1, H5.out.2.2⟩
      case measure => simp [intOf]; omega
    · have hk' : k = L := by omega
      subst hk'
      have y3 := HO.out.rest.frozen (g := w.heap.size) (e := 80) (cs := [.slice Av k cv]) (o := 0) List.mem_cons_self
      have hset := HO.out.set 0 rfl 0 (.slice Av k cv) (by simp)
      have HS := As.mk hset
      clear hset
      go_wp2
      refine bodyPost_ret (v := .agg #[.slice Av k cv]) (by simp [results, Tryz.f57, go_sem, *]) rfl ?_
      exact ⟨_, rfl, HS.out.trees HX.out hL, HS.out.rest.toBelow⟩
theorem TrR.below {w w1 : World} {v : Value} {L : Nat} {sz : Nat → Nat} {lf : Nat → List (List Nat)} (h : TrR w v L sz lf) (hb : Below w.heap.size w w1) : TrR w1 v L sz lf := by
  obtain ⟨g, c, h1, h2, h3⟩ := h
  refine ⟨g, c, h1, h2, fun k hk => ?_⟩
  obtain ⟨h4, A, n, d, h5, h6⟩ := h3 k hk
  exact ⟨cell_below hb h4, A, n, d, cell_below hb h5, h6.below hb⟩
theorem Own.weak {X : List Nat} {L : List (Nat × (Obj → Prop))} {R : World → Prop} {w0 w : World} {g : Nat} {p q : Obj → Prop} (h : Own X ((g, p) :: L) R w0 w) (hpq : ∀ o, p o → q o) : Own X ((g, q) :: L) R w0 w := by
  refine ⟨h.nd, fun a r hm => ?_, fun a r hm => ?_, h.ro, h.upd⟩
  · rcases List.mem_cons.1 hm with e | hm
    · injection e with e1 e2
      subst e1; subst e2
      obtain ⟨o, ho, hp⟩ := h.at_ _ _ List.mem_cons_self
      exact ⟨o, ho, hpq o hp⟩
    · exact h.at_ _ _ (List.mem_cons_of_mem _ hm)
  · rcases List.mem_cons.1 hm with e | hm
    · injection e with e1 e2
      subst e1
      exact h.ok _ _ List.mem_cons_self
    · exact h.ok _ _ (List.mem_cons_of_mem _ hm)
theorem ES.ec {e size n cap : Nat} {xs : List Value} (o : Obj) (h : ES e size n cap xs o) : EC e xs o := by
  obtain ⟨cur, rfl, h1, h2, h3, h4⟩ := h
  exact ⟨cur, cur.toList.drop (n * size), rfl, by rw [← h4, List.take_append_drop]⟩
/-- trees that are the walk's own -/
def SOwn (L : List (Nat × (Obj → Prop))) (R : World → Prop) (w0 w : World) (g cap n : Nat) (sz : Nat → Nat) (lf : Nat → List (List Nat)) : Prop :=
  ∃ us xs, n ≤ cap ∧ us.length = n ∧ TC sz us xs ∧ Own [] ((g, EC 132 xs) :: L) (fun W => R W ∧ RkT lf us W) w0 w
theorem SOwn.trF {L : List (Nat × (Obj → Prop))} {R : World → Prop} {w0 w : World} {g cap n : Nat} {sz : Nat → Nat} {lf : Nat → List (List Nat)} (h : SOwn L R w0 w g cap n sz lf) : TrF w0.heap.size w (.slice (some ⟨g, 0, none⟩) n cap) n sz lf := by
  obtain ⟨us, xs, h1, h2, h3, h4⟩ := h
  intro W hW
  obtain ⟨o, ho, cur, sp, rfl, hc⟩ := h4.at_ _ _ List.mem_cons_self
  have hg : w0.heap.size ≤ g := by
    rcases h4.ok _ _ List.mem_cons_self with h5 | h5
    · simp at h5
    · exact h5
  have hR : RkT lf us W := (h4.ro W fun k hk h0 _ => hW k h0 hk).2
  have hx : W.heap[g]? = some (.cells cur 132 (0, 0)) := (hW g hg (heap_lt ho)).trans ho
  have hcell : ∀ j u, xs[j]? = some u → W.cell? ⟨g, j, none⟩ = some u := by
    intro j u hj
    have h5 : cur[j]? = some u := by
      rw [← Array.getElem?_toList, hc, List.getElem?_append_left (List.getElem?_eq_some_iff.1 hj).1]
      exact hj
    unfold World.cell?
    simp [hx, h5]
  refine ⟨g, cap, rfl, h1, fun k hk => ?_⟩
  obtain ⟨u, hu⟩ : ∃ u, us[k]? = some u := ⟨us[k], List.getElem?_eq_getElem (by omega)⟩
  obtain ⟨c1, c2⟩ := h3.2 k u hu
  obtain ⟨A, m, d, rfl, hl⟩ := hR k u hu
  exact ⟨hcell _ _ c1, A, m, d, hcell _ _ c2, hl⟩
theorem OwnS.sown {L : List (Nat × (Obj → Prop))} {w0 w : World} {v : Value} {n : Nat} {us xs : List Value} {sz : Nat → Nat} {lf : Nat → List (List Nat)} (h : OwnS [] L (RkT lf us) w0 w 132 2 v n xs) (hc : TC sz us xs) (h1 : 1 ≤ n) (hu : us.length = n) : ∃ g cap, v = .slice (some ⟨g, 0, none⟩) n cap ∧ SOwn L (fun _ => True) w0 w g cap n sz lf := by
  rcases h.2 with ⟨_, h0, _⟩ | ⟨g, cap, rfl, hg, h3⟩
  · omega
  · refine ⟨g, cap, rfl, us, xs, ?_, hu, hc, ?_⟩
    · obtain ⟨o, ho, cur, rfl, a1, a2, a3, a4⟩ := h3.at_ _ _ List.mem_cons_self
      exact a1
    · exact (h3.weak (ES.ec)).imp fun W hW => ⟨trivial, hW⟩
theorem drew_below (w : World) : Below w.heap.size w w.drew := ⟨rfl, rfl, rfl, Nat.le_refl _, fun _ _ => rfl⟩
theorem drewN_below (w : World) (n : Nat) : Below w.heap.size w (w.drewN n) := ⟨rfl, rfl, rfl, Nat.le_refl _, fun _ _ => rfl⟩
theorem OwnS.box {X : List Nat} {L : List (Nat × (Obj → Prop))} {R : World → Prop} {w0 w : World} {e size n : Nat} {v : Value} {xs : List Value} (h : OwnS X L R w0 w e size v n xs) (cs : Array Value) (T : TypeId) :
    OwnS X ((w.heap.size, EC T cs.toList) :: L) R w0 (w.alloc (.cells cs T)) e size v n xs :=
  ⟨h.1, h.2.imp (fun h => ⟨h.1, h.2.1, h.2.2.box cs T⟩) (fun ⟨g, cap, h1, h2, h3⟩ => ⟨g, cap, h1, h2, (h3.box cs T).swap⟩)⟩
theorem OwnS.drop {X : List Nat} {L : List (Nat × (Obj → Prop))} {R : World → Prop} {w0 w : World} {e size n g : Nat} {p : Obj → Prop} {v : Value} {xs : List Value} (h : OwnS X ((g, p) :: L) R w0 w e size v n xs) : OwnS X L R w0 w e size v n xs :=
  ⟨h.1, h.2.imp (fun h => ⟨h.1, h.2.1, h.2.2.drop⟩) (fun ⟨g, cap, h1, h2, h3⟩ => ⟨g, cap, h1, h2, h3.drop2⟩)⟩
set_option maxHeartbeats 1000000 in
theorem slots_twin (v : Value) (L : Nat) (sz : Nat → Nat) (b : Nat → Nat → Bool) (w : World) (h : TrR w v L sz (fun k => lvs (sz k) (b k))) (hL : 1 ≤ L) (hL2 : L ≤ 17) (hs : ∀ k, k < L → sz k ≤ 65536) :
    Calls Tryz.prog 116 #[.agg #[v]] w fun e w' => ∃ g' cap, e = .returned (.agg #[.slice (some ⟨g', 0, none⟩) L cap]) ∧ SOwn [] (fun _ => True) w w' g' cap L sz (fun k => lvs (sz k) (b k)) := by
  obtain ⟨g, c, rfl, hc, hk⟩ := id h
  have H := As.mk h
  have HO := As.mk (OwnS.nil ((((Own.start (X := []) w).box #[.slice (some ⟨g, 0, none⟩) L c] 80).box #[.slice none 0 0] 80).imp (R' := RkT (fun k => lvs (sz k) (b k)) []) (fun W _ k u h => by simp at h)) 132 2)
  have HC := As.mk hc
  have HSZ := As.mk hs
  clear hk h hs hc
  go_enter Tryz.func116, Tryz.ntmps116
  go_wp2_with fail
  go_loopw [8] (fun i wr => ∃ (k : Nat) (v : Value) (us xs : List Value), k ≤ L ∧ i = .int .i64 (k : Int) ∧ us.length = k ∧ TC sz us xs ∧ OwnS [] [(w.heap.size + 1, EC 80 [v]), (w.heap.size, EC 80 [.slice (some ⟨g, 0, none⟩) L c])] (RkT (fun k => lvs (sz k) (b k)) us) w wr 132 2 v k xs) (fun i _ => L - (intOf i).toNat)
  case atStart =>
    have h9 := HO.out
    rw [World.size_alloc] at h9
    exact ⟨0, _, [], [], by omega, rfl, rfl, TC.nil _, h9⟩
  case round =>
    clear HO
    obtain ⟨k, v, us, xs, hk, rfl, hus, hxs, ho⟩ := hrel
    obtain ⟨Av, cv, rfl⟩ := ho.slice
    have HO := As.mk ho
    have HX := As.mk hxs
    have HU := As.mk hus
    clear ho hxs hus
    by_cases hkL : k < L
    · obtain ⟨g2, c2, hv2, hc2, hk2⟩ := H.out.below HO.out.rest.toBelow
      injection hv2 with e1 e2 e3
      injection e1 with e1
      injection e1 with e1 _ _
      subst e1
      subst e3
      obtain ⟨h4, A, n, d, h5, h6⟩ := hk2 k hkL
      replace h6 : Lev wr (.slice A n d) (lvs (sz k) (b k)) := h6
      have H6 := As.mk h6
      have hsz := HSZ.out k hkL
      obtain ⟨q, hq⟩ : ∃ q, q = sz k := ⟨_, rfl⟩
      rw [← hq] at h4 H6 hsz
      have HQ := As.mk hq
      clear hk2 h6 hq
      have HO1 := As.mk (HO.out.box #[.int .i64 q, .slice A n d] 132)
      have HT := As.mk (H6.out.below (box_below wr (.cells #[.int .i64 q, .slice A n d] 132)))
      clear HO H6
      have HS := As.mk (show ∀ (W : World) (R : World → Prop) (v : Value) (m : Nat) (ys : List Value), OwnS [] ((wr.heap.size, EC 132 [.int .i64 q, .slice A n d]) :: [(w.heap.size + 1, EC 80 [.slice Av k cv]), (w.heap.size, EC 80 [.slice (some ⟨g, 0, none⟩) L c])]) R w W 132 2 v m ys → W.cell? ⟨w.heap.size + 1, 0, none⟩ = some (.slice Av k cv) ∧ W.cell? ⟨wr.heap.size, 0, none⟩ = some (.int .i64 q) ∧ W.cell? ⟨wr.heap.size, 1, none⟩ = some (.slice A n d) from
        fun W R v m ys h => ⟨h.rest.get (g := w.heap.size + 1) (e := 80) (cs := [.slice Av k cv]) (by simp) 0 (by simp), h.rest.get (g := wr.heap.size) (e := 132) (cs := [.int .i64 q, .slice A n d]) (by simp) 0 (by simp), h.rest.get (g := wr.heap.size) (e := 132) (cs := [.int .i64 q, .slice A n d]) (by simp) 1 (by simp)⟩)
      go_wp2_with fail
      refine rgn [(0, 1), (1, 0), (2, 0), (3, 2), (4, 2), (5, 2), (6, 1), (7, 3)] [7] (fun W => W.cell? ⟨w.heap.size + 1, 0, none⟩ = some (.slice Av k cv) ∧ W.cell? ⟨wr.heap.size, 0, none⟩ = some (.int .i64 q) ∧ W.cell? ⟨wr.heap.size, 1, none⟩ = some (.slice A n d)) (by kernel_rfl) (by kernel_rfl) (fun _ _ _ d _ h => by cases d <;> exact h) (HS.out _ _ _ _ _ HO1.out.drew) ?_
      refine Run.pu (v := ?_) (a' := ?_) rfl rfl (Or.inl ⟨by rfl, ?_⟩) ?_ ?_; rotate_left 2; (focus (intro W; go_simp; with_reducible rfl)); (focus (simp only [Act.put, List.setIfInBounds_toArray, List.set_cons_zero, List.set_cons_succ]; rfl))
      iterate 2 (refine Run.rd (v := ?_) (a' := ?_) rfl rfl (Or.inl ⟨by rfl, ?_⟩) ?_ ?_; rotate_left 2; (focus (rintro W ⟨hW1, hW2, hW3⟩; go_simp; with_reducible rfl)); (focus (simp only [Act.put, List.setIfInBounds_toArray, List.set_cons_zero, List.set_cons_succ]; rfl)))
      refine Run.ef rfl (fun K hK => ?_)
      simp only [List.getElem_toArray, List.getElem_cons_succ, List.getElem_cons_zero]
      go_wp2_with fail
      refine (tree_Set_no q (b k) A n d _ (HT.out.below (drew_below _)) hsz).mono ?_
      rintro e w1 ⟨t, rfl, hf, hb⟩
      obtain ⟨At, nt, dt, rfl⟩ := hf.form
      have HO2 := As.mk (HO1.out.drew.result (R' := fun W => Lev W (.slice At nt dt) (lvs q (b k))) hb (fun W hW => hf W hW))
      clear hf hb HO1 HT
      go_wp2
      refine hK.out _ _ (HS.out _ _ _ _ _ HO2.out) ?_
      clear hK K
      refine Run.ef rfl (fun K hK => ?_)
      simp only [List.getElem_toArray, List.getElem_cons_succ, List.getElem_cons_zero]
      go_wp2
      refine hK.out _ _ (HS.out _ _ _ _ _ (HO2.out.alloc _)) ?_
      clear hK K
      refine Run.ef rfl (fun K hK => ?_)
      simp only [List.getElem_toArray, List.getElem_cons_succ, List.getElem_cons_zero]
      refine go_app w rfl _ _ 78 132 _ 2 32 rfl Tryz.underlying78 info132 rfl (by decide) (.slice Av k cv) k xs rfl ⟨w1.heap.size, 0, none⟩ 1 1 [.int .i64 q, .slice At nt dt] rfl (HO2.out.alloc _) rfl (news _) (by intro u hu; simp at hu; rcases hu with rfl | rfl <;> rfl) (by simp [maxLen]; omega) (by omega) ?_
      intro v1 w2 hw2
      obtain ⟨A1, cq, rfl⟩ := hw2.slice
      have HW := As.mk hw2
      clear hw2
      go_wp2
      refine hK.out _ _ (HS.out _ _ _ _ _ HW.out) ?_
      clear hK K
      refine Run.pu (v := ?_) (a' := ?_) rfl rfl (Or.inl ⟨by rfl, ?_⟩) ?_ ?_; rotate_left 2; (focus (intro W; go_simp; with_reducible rfl)); (focus (simp only [Act.put, List.setIfInBounds_toArray, List.set_cons_zero, List.set_cons_succ]; rfl))
      refine Run.la rfl (fun K hK => ?_)
      simp only [List.getElem_toArray, List.getElem_cons_succ, List.getElem_cons_zero]
      have z2 := (HS.out _ _ _ _ _ HW.out).1
      have z3 := HW.out.rest.frozen (g := w.heap.size + 1) (e := 80) (cs := [.slice Av k cv]) (o := 0) (by simp)
      go_wp2
      refine hK.out _ _ ?_
      clear hK K z2 z3
      refine Run.nil ?_
      have h5 := (HW.out.drop.set 0 rfl 0 (.slice A1 (k + 1) cq) (by simp)).imp (R' := RkT (fun k => lvs (sz k) (b k)) (us ++ [Value.slice At nt dt])) (fun W hW => RkT.snoc (A := At) (n := nt) (d := dt) hW.1 (by rw [HU.out, ← HQ.out]; exact hW.2))
      have hxs : TC sz (us ++ [.slice At nt dt]) (xs ++ [.int .i64 q, .slice At nt dt]) := by
        have h6 := HX.out.snoc (.slice At nt dt)
        rw [HU.out] at h6
        rw [HQ.out]
        exact h6
      have hus : (us ++ [Value.slice At nt dt]).length = k + 1 := by rw [List.length_append, HU.out]; rfl
      have H5 := As.mk (And.intro hus (And.intro hxs h5))
      clear h5 hxs hus HS
      go_wp2_with fail
      go_roundw
      case rel => exact ⟨k + 1, _, _, _, by omega, by go_num, H5.out.1, H5.out.2.1, H5.out.2.2⟩
      case measure => simp [intOf]; omega
    · have hk' : k = L := by omega
      subst hk'
      have y2 := HO.out.rest.get (g := w.heap.size + 1) (e := 80) (cs := [.slice Av k cv]) (by simp) 0 (by simp)
      have y3 := HO.out.rest.frozen (g := w.heap.size + 1) (e := 80) (cs := [.slice Av k cv]) (o := 0) List.mem_cons_self
      have hset := HO.out.set 0 rfl 0 (.slice Av k cv) (by simp)
      have HS := As.mk hset
      clear hset
      go_wp2
      refine bodyPost_ret (v := .agg #[.slice Av k cv]) (by simp [results, Tryz.f116, go_sem, *]) rfl ?_
      obtain ⟨g', cap, e1, e2⟩ := HS.out.drop.drop.sown HX.out hL HU.out
      exact ⟨g', cap, by rw [← e1], e2⟩
end Go.Proofs.YtmookafmdonopaaGreat.Top
