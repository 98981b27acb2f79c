/- Written by a program of this session (wip/tools/ext.py) out of the translation: Go functions told as Lean functions, with their walks; or the row of a law out of its plain part. Lean checks it. -/
import Derived.Test.YtflmdnjcniidgaaRows
import Derived.Test.YtflmdnjcniidgaaPPin2x6
import Derived.Test.YtflmdnjcniidgaaPurePinMore
import Derived.WalkKit
import Derived.ProofKit
import Derived.OpenShut
import Derived.ShutString
import Derived.ChangeOld
import Derived.Below
import Derived.SizedLaws
import Derived.Test.YtflmdnjcniidgaaWSized
import Derived.Test.YtflmdnjcniidgaaArrs
namespace Go.Proofs.Ytflmdnjcniidgaa.pinMore
open Go.ChangeShapes Go.WideShapes Go.ChangeAt Go.RowKit
open Go.ChangeMaps (open_string shut_string)
set_option linter.unusedVariables false
theorem own : ownKnob Try.prog.godebug = none := by kernel_rfl
theorem laidOut : laidOutB Try.prog = true := by kernel_rfl
def IsRow (k : IntKind) (w : World) (a : Option Addr) (len cap : Nat) (zs : List Int) : Prop :=
  (a = none ∧ len = 0 ∧ cap = 0 ∧ zs = []) ∨
  ∃ x, a = some x ∧ len ≤ cap ∧ cap ≤ maxLen ∧ zs.length = cap ∧ (∀ i, i < zs.length → w.cell? (x.add i) = some (.int k (zs.getD i 0))) ∧ ∀ n ∈ zs, (Lit.int k n).wf = true
set_option maxRecDepth 100000 in
theorem lifted (os : Os) (started : os.Started) (H : Type) (enc : TypeId × Value → H) :
    ReturnsInHanded {} Try.checked os 13 .any (Rows.pinMoreSpec.pre6 enc Try.prog Try.f13 Rows.pinMoreRow.domain false) (Rows.pinMoreSpec.post enc Try.prog Try.f13 false true false false) := by
  refine returnsInHanded_of_change_sized (C := Try.checked) own started (by kernel_rfl) Try.func13
    (ChangeSpec.witness6 (enc := enc) (C := Try.checked) false ⟨#[], #[.int .u8 0, .slice none 0 0, .int .u8 0, .int .u8 0], []⟩ 8 (by kernel_rfl) (by kernel_rfl) (by kernel_rfl) (by kernel_rfl)) ?_
  intro W base args ds gs before hval0 hW hcnd hsz0 _
  have hsz : (DataW.weightsEach Try.prog (Try.f13.params.toList ++ Rows.pinMoreSpec.plain.varTypes Try.prog) (ds ++ gs)).all (· ≤ reachBytes) = true := hsz0
  have hval : ∀ (j : Nat) t v, Try.f13.params[j]? = some t → args[j]? = some v → Value.okWide Try.prog W .any base t v := hval0
  have hW' := hW
  obtain ⟨p, q, hA0, hV, rfl, hfz, hnd⟩ := hW
  have hA : DataW.TrodAll enc Try.prog W 0 (fun _ => true) true Try.f13.params.toList args.toList ds p := hA0
  rw [Try.params13] at hA hval hsz
  obtain ⟨v0, vs0, d0, ds0, p0, q0, hargs, rfl, rfl, h0, r0⟩ := trodAll_cons hA
  obtain ⟨v1, vs1, d1, ds1, p1, q1, rfl, rfl, rfl, h1, r1⟩ := trodAll_cons r0
  obtain ⟨v2, vs2, d2, ds2, p2, q2, rfl, rfl, rfl, h2, r2⟩ := trodAll_cons r1
  obtain ⟨v3, vs3, d3, ds3, p3, q3, rfl, rfl, rfl, h3, r3⟩ := trodAll_cons r2
  obtain ⟨rfl, rfl, rfl⟩ := trodAll_nil r3
  obtain rfl : args = #[v0, v1, v2, v3] := by cases args; simp_all
  obtain ⟨rfl, rfl⟩ := trodVars_none hV
  obtain ⟨a0, rfl, rfl, rfl, w0⟩ := open_int Try.underlying5 (hval 0 5 v0 rfl rfl) h0
  obtain ⟨a1, len1, cap1, rfl⟩ := okWide_slice Try.underlying40 (hval 1 40 v1 rfl rfl)
  have k1 := h1
  have lt1 : ∀ x ∈ p1, x.block < W.heap.size := by obtain ⟨m, hm⟩ := k1; exact DataW.trod_lt m _ _ _ hm
  obtain ⟨zs1, hl1, hcp1, hm1, hB1, hzw1, hrr1⟩ := Arrs.open_arrs hsz (j := 1) (t := 40) rfl rfl Try.underlying40 Try.underlying54 Try.underlying5 (n := 2) (by kernel_rfl) (by kernel_rfl) (B := 2) (by kernel_rfl) h1
  have hrk1 : Go.Proofs.YtflmdnjcniidgaaW.PrintWords.Kd.C PPin2.k54 W a1 len1 (zs1.map (fun z => (⟨z.getD 0 0, z.getD 1 0⟩ : PPin2.S54))) := Arrs.reads_as (fun z => (⟨z.getD 0 0, z.getD 1 0⟩ : PPin2.S54)) (PPin2.k54.K W) (fun z hz => (hzw1 z hz).1) (fun z hz => by match z, hz with | [y0_, y1_], _ => exact PPin2.k54_mk W _) hrr1
  have hwk1 : ∀ x ∈ zs1.map (fun z => (⟨z.getD 0 0, z.getD 1 0⟩ : PPin2.S54)), (Lit.int .u8 x.f0).wf = true ∧ (Lit.int .u8 x.f1).wf = true := fun x hx => by obtain ⟨z, hz, rfl⟩ := List.mem_map.1 hx; have hh := hzw1 z hz; match z, hh with | [y0_, y1_], hh => exact ⟨hh.2 y0_ (by simp), hh.2 y1_ (by simp)⟩
  have hlk1 : (zs1.map (fun z => (⟨z.getD 0 0, z.getD 1 0⟩ : PPin2.S54))).length = len1 := by rw [List.length_map]; exact hl1
  obtain ⟨l1, hll1, hr1, hwl1⟩ : ∃ l : List PPin2.S54, l.length = len1 ∧ Go.Proofs.YtflmdnjcniidgaaW.PrintWords.Kd.C PPin2.k54 W a1 len1 l ∧ (∀ x ∈ l, (Lit.int .u8 x.f0).wf = true ∧ (Lit.int .u8 x.f1).wf = true) := ⟨_, hlk1, hrk1, hwk1⟩
  subst hll1
  obtain ⟨a2, rfl, rfl, rfl, w2⟩ := open_int Try.underlying5 (hval 2 5 v2 rfl rfl) h2
  obtain ⟨a3, rfl, rfl, rfl, w3⟩ := open_int Try.underlying5 (hval 3 5 v3 rfl rfl) h3
  clear hA0 hval0 hsz0 hsz
  refine (PPin2.hodmanlaw12_PinMore.walk Pure.PinMore a0 a1 cap1 l1 a2 a3 W w0 hr1 hcp1 hm1 hB1 hwl1 w2 w3).mono fun e W' ⟨he, bel⟩ => ?_
  subst he
  exact ⟨_, rfl, _, _, _, [], _, [], hW', trodAll_mk1 (shut_bool Try.underlying4 _), (trodAll_cons_mk (shut_int Try.underlying5 w0) (trodAll_cons_mk (Below.trod laidOut (by kernel_rfl) (of_decide_eq_true (by kernel_rfl)) k1 bel lt1) (trodAll_cons_mk (shut_int Try.underlying5 w2) (trodAll_cons_mk (shut_int Try.underlying5 w3) trodAll_mk0)))), rfl, bel.frame _, fun h => by cases h⟩
theorem over : Rows.pinMoreRow.holds Try.pinned (OpenSpec.ofChange Rows.pinMoreSpec) :=
  OpenClaim.holds_of_wide 13 Try.f13 rfl rfl rfl rfl rfl rfl rfl ⟨rfl, rfl, rfl, rfl, rfl⟩ rfl rfl rfl rfl rfl (by kernel_rfl) Try.func13 (by kernel_rfl)
    (of_decide_eq_true (by kernel_rfl)) (by unfold Func.isWrapper; first | (rw [if_pos (by decide +kernel)]; kernel_rfl) | (rw [if_neg (by decide +kernel)]; exact ⟨rfl, rfl⟩))
    (fun os started H enc _ => lifted os started H enc)
theorem proved : Rows.PinMoreSaid := over
#print axioms proved
end Go.Proofs.Ytflmdnjcniidgaa.pinMore
namespace Go.Proofs.Ytflmdnjcniidgaa
/-- The row, under a short name, for the claim. -/
theorem pinMore_holds : Rows.PinMoreSaid := pinMore.proved
end Go.Proofs.Ytflmdnjcniidgaa
