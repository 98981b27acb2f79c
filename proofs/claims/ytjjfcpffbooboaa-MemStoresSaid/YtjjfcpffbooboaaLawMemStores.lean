/- Written by a program of this session (wip/tools/ext.py) out of the translation: Go functions told as Lean functions, with their walks; or the row of a law out of its plain part. Lean checks it. -/
import Derived.Test.YtjjfcpffbooboaaRows
import Derived.Test.YtjjfcpffbooboaaPMemSx3
import Derived.Test.YtjjfcpffbooboaaPureMemStores
import Derived.WalkKit
import Derived.ProofKit
import Derived.OpenShut
import Derived.ShutString
import Derived.ChangeOld
import Derived.Below
import Derived.SizedLaws
import Derived.Test.YtjjfcpffbooboaaWSized
import Derived.Test.YtjjfcpffbooboaaArrs
namespace Go.Proofs.Ytjjfcpffbooboaa.memStores
open Go.ChangeShapes Go.WideShapes Go.ChangeAt Go.RowKit
open Go.ChangeMaps (open_string shut_string)
set_option linter.unusedVariables false
theorem own : ownKnob Try.prog.godebug = none := by kernel_rfl
theorem laidOut : laidOutB Try.prog = true := by kernel_rfl
def IsRow (k : IntKind) (w : World) (a : Option Addr) (len cap : Nat) (zs : List Int) : Prop :=
  (a = none ∧ len = 0 ∧ cap = 0 ∧ zs = []) ∨
  ∃ x, a = some x ∧ len ≤ cap ∧ cap ≤ maxLen ∧ zs.length = cap ∧ (∀ i, i < zs.length → w.cell? (x.add i) = some (.int k (zs.getD i 0))) ∧ ∀ n ∈ zs, (Lit.int k n).wf = true
set_option maxRecDepth 100000 in
theorem lifted (os : Os) (started : os.Started) (H : Type) (enc : TypeId × Value → H) :
    ReturnsInHanded {} Try.checked os 5 .any (Rows.memStoresSpec.pre6 enc Try.prog Try.f5 Rows.memStoresRow.domain false) (Rows.memStoresSpec.post enc Try.prog Try.f5 false true false false) := by
  refine returnsInHanded_of_change_sized (C := Try.checked) own started (by kernel_rfl) Try.func5
    (ChangeSpec.witness6 (enc := enc) (C := Try.checked) false ⟨#[], #[.slice none 0 0], []⟩ 8 (by kernel_rfl) (by kernel_rfl) (by kernel_rfl) (by kernel_rfl)) ?_
  intro W base args ds gs before hval0 hW hcnd hsz0 _
  have hsz : (DataW.weightsEach Try.prog (Try.f5.params.toList ++ Rows.memStoresSpec.plain.varTypes Try.prog) (ds ++ gs)).all (· ≤ reachBytes) = true := hsz0
  have hval : ∀ (j : Nat) t v, Try.f5.params[j]? = some t → args[j]? = some v → Value.okWide Try.prog W .any base t v := hval0
  have hW' := hW
  obtain ⟨p, q, hA0, hV, rfl, hfz, hnd⟩ := hW
  have hA : DataW.TrodAll enc Try.prog W 0 (fun _ => true) true Try.f5.params.toList args.toList ds p := hA0
  rw [Try.params5] at hA hval hsz
  obtain ⟨v0, vs0, d0, ds0, p0, q0, hargs, rfl, rfl, h0, r0⟩ := trodAll_cons hA
  obtain ⟨rfl, rfl, rfl⟩ := trodAll_nil r0
  obtain rfl : args = #[v0] := by cases args; simp_all
  obtain ⟨rfl, rfl⟩ := trodVars_none hV
  obtain ⟨a0, len0, cap0, rfl⟩ := okWide_slice Try.underlying33 (hval 0 33 v0 rfl rfl)
  have k0 := h0
  have lt0 : ∀ x ∈ p0, x.block < W.heap.size := by obtain ⟨m, hm⟩ := k0; exact DataW.trod_lt m _ _ _ hm
  obtain ⟨zs0, hl0, hcp0, hm0, hB0, hzw0, hrr0⟩ := Arrs.open_arrs hsz (j := 0) (t := 33) rfl rfl Try.underlying33 Try.underlying35 Try.underlying5 (n := 3) (by kernel_rfl) (by kernel_rfl) (B := 3) (by kernel_rfl) h0
  have hrk0 : Go.Proofs.YtjjfcpffbooboaaW.PrintWords.Kd.C PMemS.k35 W a0 len0 (zs0.map (fun z => (⟨z.getD 0 0, z.getD 1 0, z.getD 2 0⟩ : PMemS.S35))) := Arrs.reads_as (fun z => (⟨z.getD 0 0, z.getD 1 0, z.getD 2 0⟩ : PMemS.S35)) (PMemS.k35.K W) (fun z hz => (hzw0 z hz).1) (fun z hz => by match z, hz with | [y0_, y1_, y2_], _ => exact PMemS.k35_mk W _) hrr0
  have hwk0 : ∀ x ∈ zs0.map (fun z => (⟨z.getD 0 0, z.getD 1 0, z.getD 2 0⟩ : PMemS.S35)), (Lit.int .u8 x.f0).wf = true ∧ (Lit.int .u8 x.f1).wf = true ∧ (Lit.int .u8 x.f2).wf = true := fun x hx => by obtain ⟨z, hz, rfl⟩ := List.mem_map.1 hx; have hh := hzw0 z hz; match z, hh with | [y0_, y1_, y2_], hh => exact ⟨hh.2 y0_ (by simp), hh.2 y1_ (by simp), hh.2 y2_ (by simp)⟩
  have hlk0 : (zs0.map (fun z => (⟨z.getD 0 0, z.getD 1 0, z.getD 2 0⟩ : PMemS.S35))).length = len0 := by rw [List.length_map]; exact hl0
  obtain ⟨l0, hll0, hr0, hwl0⟩ : ∃ l : List PMemS.S35, l.length = len0 ∧ Go.Proofs.YtjjfcpffbooboaaW.PrintWords.Kd.C PMemS.k35 W a0 len0 l ∧ (∀ x ∈ l, (Lit.int .u8 x.f0).wf = true ∧ (Lit.int .u8 x.f1).wf = true ∧ (Lit.int .u8 x.f2).wf = true) := ⟨_, hlk0, hrk0, hwk0⟩
  subst hll0
  clear hA0 hval0 hsz0 hsz
  refine (PMemS.hodmanlaw15_MemStores.walk Pure.MemStores a0 cap0 l0 W hr0 hcp0 hm0 hB0 hwl0).mono fun e W' ⟨he, bel⟩ => ?_
  subst he
  exact ⟨_, rfl, _, _, _, [], _, [], hW', trodAll_mk1 (shut_bool Try.underlying4 _), (trodAll_cons_mk (Below.trod laidOut (by kernel_rfl) (of_decide_eq_true (by kernel_rfl)) k0 bel lt0) trodAll_mk0), rfl, bel.frame _, fun h => by cases h⟩
theorem over : Rows.memStoresRow.holds Try.pinned (OpenSpec.ofChange Rows.memStoresSpec) :=
  OpenClaim.holds_of_wide 5 Try.f5 rfl rfl rfl rfl rfl rfl rfl ⟨rfl, rfl, rfl, rfl, rfl⟩ rfl rfl rfl rfl rfl (by kernel_rfl) Try.func5 (by kernel_rfl)
    (of_decide_eq_true (by kernel_rfl)) (by unfold Func.isWrapper; first | (rw [if_pos (by decide +kernel)]; kernel_rfl) | (rw [if_neg (by decide +kernel)]; exact ⟨rfl, rfl⟩))
    (fun os started H enc _ => lifted os started H enc)
theorem proved : Rows.MemStoresSaid := over
#print axioms proved
end Go.Proofs.Ytjjfcpffbooboaa.memStores
namespace Go.Proofs.Ytjjfcpffbooboaa
/-- The row, under a short name, for the claim. -/
theorem memStores_holds : Rows.MemStoresSaid := memStores.proved
end Go.Proofs.Ytjjfcpffbooboaa
