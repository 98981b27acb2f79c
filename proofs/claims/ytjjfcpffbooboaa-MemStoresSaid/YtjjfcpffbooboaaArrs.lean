/- An argument that is a slice of small arrays of whole numbers, opened: what its cells hold, how long it may be. -/
import Derived.Test.YtjjfcpffbooboaaWWords
import Derived.Test.YtjjfcpffbooboaaWMore
import Derived.SizedLaws
import Derived.ChangeSlices
import Derived.Deep.Slices
import Derived.OpenShut
set_option linter.unusedVariables false
set_option linter.unusedSimpArgs false
namespace Go.Proofs.Ytjjfcpffbooboaa.Arrs
open Go Go.RowKit Go.Proofs.YtjjfcpffbooboaaW.PrintWords Go.ChangeShapes Go.WideShapes

/-- the elements of a slice of arrays, as lists -/
theorem open_arrs {H : Type} {enc : TypeId × Value → H} {P : Program} {W : World} {base : Nat} {spare : Nat → Bool} {held : Bool} {t e e1 : TypeId} {k : IntKind} {n : Nat} {a : Option Addr} {len cap : Nat} {d : DataW H} {ps : List MemPlace} {ts : List TypeId} {ds : List (DataW H)} {j : Nat}
    (hsz : (DataW.weightsEach P ts ds).all (· ≤ reachBytes) = true) (ht : ts[j]? = some t) (hd : ds[j]? = some d) (hu : P.underlying t = some (.slice e)) (he : P.underlying e = some (.array n e1)) (he1 : P.underlying e1 = some (.int k)) (hc : P.cellsOf e = n) (hc1 : P.cellsOf e1 = 1) {B : Nat} (hB : P.bytesOf e = B)
    (h : DataW.Trod enc P W base spare held t (.slice a len cap) d ps) :
    ∃ zs : List (List Int), zs.length = len ∧ len ≤ cap ∧ len ≤ maxLen ∧ len * B ≤ 140737488351232 ∧ (∀ z ∈ zs, z.length = n ∧ ∀ y ∈ z, (Lit.int k y).wf = true) ∧ ReadsRow (fun (z : List Int) cs => cs = z.map (Value.int k)) n W a len zs := by
  obtain ⟨fuel, hf⟩ := h
  rcases Go.Deep.open_slice hu hf with ⟨hcs, _⟩ | ⟨x, l, c, m, n', D, Pl, hcs, hb, hl, hm, hmm, hx, hcell⟩
  · simp [Value.cells] at hcs
    obtain ⟨rfl, rfl, rfl⟩ := hcs
    exact ⟨[], rfl, Nat.le_refl _, Nat.zero_le _, by simp, fun _ hz => (by cases hz), rfl, by simp, fun hlt => absurd hlt (Nat.lt_irrefl 0)⟩
  · simp [Value.cells] at hcs
    obtain ⟨rfl, rfl, rfl⟩ := hcs
    have hlm : len ≤ m := by rw [hmm]; split <;> omega
    have hpt : ∀ i, i < len → ∃ z : List Int, z.length = n ∧ (∀ y ∈ z, (Lit.int k y).wf = true) ∧ ∀ q u, (z.map (Value.int k))[q]? = some u → W.cell? (x.add (i * n + q)) = some u := by
      intro i hi
      obtain ⟨cs', h1, h2⟩ := hcell i (by omega)
      rw [hc] at h1
      obtain ⟨_, hlen, hat⟩ := World.cells?_some h1
      obtain ⟨xs, m', _, _, hcl, hxl, hel⟩ := DataW.trod_array he h2
      rw [hc1] at hel
      have hq : ∀ q, q < n → ∃ y : Int, cs'[q]? = some (.int k y) ∧ (Lit.int k y).wf = true := by
        intro q hq
        have h3 := hel q hq
        rw [List.getElem?_eq_getElem (show q < xs.length by omega)] at h3
        obtain ⟨y, hy, _, hwf⟩ := DataW.trod_int he1 h3
        refine ⟨y, ?_, hwf⟩
        have h4 : ((cs'.drop (q * 1)).take 1)[0]? = some (.int k y) := by rw [hy]; rfl
        rw [List.getElem?_take, Nat.mul_one, List.getElem?_drop] at h4
        simpa using h4
      obtain ⟨f, hfy⟩ := Go.Deep.choose_lt (α := Int) hq
      refine ⟨(List.range n).map f, by simp, fun y hy => ?_, fun q u hu => ?_⟩
      · obtain ⟨q, hq1, rfl⟩ := List.mem_map.1 hy
        exact (hfy q (List.mem_range.1 hq1)).2
      · rw [List.map_map] at hu
        by_cases hqn : q < n
        · rw [List.getElem?_map, List.getElem?_range hqn] at hu
          simp at hu
          subst hu
          have h5 := hat q hqn
          rw [(hfy q hqn).1, Go.Deep.add_add] at h5
          exact h5
        · rw [List.getElem?_eq_none (by simp; omega)] at hu
          cases hu
    obtain ⟨Z, hZ⟩ := Go.Deep.choose_lt (α := List Int) hpt
    refine ⟨(List.range len).map Z, by simp, hl, Nat.le_trans hl hm, ?_, fun z hz => ?_, by simp, ?_, fun _ => ⟨x, rfl, fun q p hp => ?_⟩⟩
    · obtain ⟨hx, _⟩ := Prod.mk.inj hx
      subst hx
      have z := sized_slice hsz ht hd hu
      rw [hB] at z
      refine Nat.le_trans (Nat.mul_le_mul_right _ ?_) z
      simp
    · obtain ⟨q, hq1, rfl⟩ := List.mem_map.1 hz
      have := hZ q (List.mem_range.1 hq1)
      exact ⟨this.1, this.2.1⟩
    · have := Nat.le_trans hl hm
      unfold maxLen at this
      exact this
    · by_cases hqn : q < len
      · rw [List.getElem?_map, List.getElem?_range hqn] at hp
        simp at hp
        subst hp
        exact ⟨_, by rw [List.length_map]; exact (hZ q hqn).1, rfl, (hZ q hqn).2.2⟩
      · rw [List.getElem?_eq_none (by simp; omega)] at hp
        cases hp

/-- the same elements, told by a type of their own -/
theorem reads_as {α : Type} {k : IntKind} {n : Nat} {W : World} {a : Option Addr} {len : Nat} {zs : List (List Int)} (mk : List Int → α) (K : α → List Value → Prop) (hz : ∀ z ∈ zs, z.length = n) (hK : ∀ z : List Int, z.length = n → K (mk z) (z.map (Value.int k)))
    (h : ReadsRow (fun (z : List Int) cs => cs = z.map (Value.int k)) n W a len zs) : ReadsRow K n W a len (zs.map mk) := by
  obtain ⟨h1, h2, h3⟩ := h
  refine ⟨by rw [List.length_map]; exact h1, h2, fun hlt => ?_⟩
  obtain ⟨ad, ha, hc⟩ := h3 hlt
  refine ⟨ad, ha, fun j p hp => ?_⟩
  rw [List.getElem?_map] at hp
  obtain ⟨z, hzj, rfl⟩ := Option.map_eq_some_iff.1 hp
  obtain ⟨c, hcl, rfl, hcc⟩ := hc j z hzj
  have hzl := hz z (List.mem_of_getElem? hzj)
  exact ⟨_, hcl, hK z hzl, hcc⟩

end Go.Proofs.Ytjjfcpffbooboaa.Arrs
