/- tree.put by hand: its walk. -/
import Derived.Test.YtgbkdmcbdilgaaaPRankSx9
import Derived.Outline
import Derived.Deep.LoopGhost
import Derived.OpenShut
namespace Go.Proofs.Ytgbkdmcbdilgaaa.PRankS
open Go.RowKit Go.Proofs.YtgbkdmcbdilgaaaW.PrintWords Go.Proofs.YtgbkdmcbdilgaaaW.PrintLast Go.Proofs.YtgbkdmcbdilgaaaW.PrintMore
set_option linter.unusedVariables false
set_option linter.unusedSimpArgs false

/-- a bit's word in a tree's level: where it lies, and the tree behind a store -/
theorem S_bit {W : World} {base c : Nat} {A : Option Addr} {lv : List (List Int)} (h : Kd.S (Kd.slice 53 (Kd.int .u64)) 38 W base (fun _ => True) (.slice A lv.length c) lv) (k i : Nat) (hk : k < lv.length) (hi : i < (lv.getD k []).length) :
    ∃ g g2 n2 c2, A = some ⟨g, 0, none⟩ ∧ W.cell? ⟨g, k, none⟩ = some (.slice (some ⟨g2, 0, none⟩) n2 c2) ∧ n2 = (lv.getD k []).length ∧ base ≤ g2 ∧ (∃ cells, W.heap[g2]? = some (.cells cells 53 (0, 0))) ∧ W.cell? ⟨g2, i, none⟩ = some (.int .u64 (rd (lv.getD k []) (i : Int))) ∧ W.frozen? ⟨g2, i, none⟩ = false ∧
      ∀ u : Int, Kd.S (Kd.slice 53 (Kd.int .u64)) 38 (W.setCell ⟨g2, i, none⟩ (.int .u64 u)) base (fun _ => True) (.slice A lv.length c) (lv.set k ((lv.getD k []).set i u)) := by
  obtain ⟨g, cg, eg, hg1, hg2, _⟩ := Kd.S_form h (by omega)
  injection eg with eA _ ec
  subst eA
  subst ec
  obtain ⟨oki, cs, hcl, hM, hcell, hoki, hH⟩ := Kd.S_lend h [] (k : Int) (by omega) (by omega)
  rw [Int.toNat_natCast] at hM hcell
  obtain ⟨v, rfl, hR⟩ := hM
  obtain ⟨g2, c2, rfl, hb1, hb2, hty⟩ := Kd.R_form hR (by omega)
  have hc0 := hcell 0 _ rfl
  have hkk : k * (Kd.slice 53 (Kd.int .u64)).sz + 0 = k := by show k * 1 + 0 = k; omega
  rw [hkk] at hc0
  obtain ⟨hx, hf⟩ := Kd.R_celln 0 hR (i : Int) (by omega) (by omega)
  rw [Int.toNat_natCast] at hx hf
  refine ⟨g, g2, _, c2, rfl, hc0, rfl, hb1, hty, hx, hf, fun u => ?_⟩
  have hr := Kd.R_putn hR (i : Int) u
  rw [Int.toNat_natCast] at hr
  have hi2 : oki g2 := hR.1 g2 rfl
  have hH2 := Kd.H_step hH (w1 := W.setCell ⟨g2, i, none⟩ (.int .u64 u)) (fun q _ hn _ => Below.heap_setCell W ⟨g2, i, none⟩ _ q (fun e => hn (by rw [e]; exact hi2)))
  have hM2 : (Kd.slice 53 (Kd.int .u64)).M (W.setCell ⟨g2, i, none⟩ (.int .u64 u)) base oki ((lv.getD k []).set i u) [.slice (some ⟨g2, 0, none⟩) (lv.getD k []).length c2] := ⟨_, rfl, hr⟩
  have hfin := Kd.H_back hH2 hM2 (fun _ hq => hq)
  rw [Int.toNat_natCast] at hfin
  exact hfin
theorem tree_put_calls (size : Int) (A : Option Addr) (c : Nat) (lv : List (List Int)) (k i : Nat) (u : Int) (w : World) (base : Nat) (hS : Kd.S (Kd.slice 53 (Kd.int .u64)) 38 w base (fun _ => True) (.slice A lv.length c) lv) (hk : k < lv.length) (hi : i < (lv.getD k []).length) :
    Calls Try.prog 45 #[.agg #[.int .i64 size, .slice A lv.length c], .int .i64 (k : Int), .int .i64 (i : Int), .int .u64 u] w fun e w' => e = .returned (.tuple #[]) ∧ ∃ g2, base ≤ g2 ∧ (∃ cells, w.heap[g2]? = some (.cells cells 53 (0, 0))) ∧ w' = (w.alloc (.cells #[.int .i64 size, .slice A lv.length c] 27)).setCell ⟨g2, i, none⟩ (.int .u64 u) ∧ Kd.S (Kd.slice 53 (Kd.int .u64)) 38 w' base (fun _ => True) (.slice A lv.length c) (lv.set k ((lv.getD k []).set i u)) := by
  obtain ⟨g, g2, n2, c2, rfl, s1, hn2, hb, ⟨cells, hcl⟩, s2, s3, hput⟩ := S_bit (Kd.S_alloc hS (.cells #[.int .i64 size, .slice A lv.length c] 27)) k i hk hi
  have hcw : ∃ cells, w.heap[g2]? = some (.cells cells 53 (0, 0)) := by
    obtain ⟨g2', h2, _, _, e, t1, _, _, hc2, _, _, _⟩ := S_bit hS k i hk hi
    have eg : g = g2' := by injection e with e; injection e
    subst eg
    have hlt : g < w.heap.size := by
      have := World.block_lt_of_cell? w ⟨g, k, none⟩ t1
      exact this
    rw [World.cell?_alloc_past _ _ _ hlt, t1] at s1
    injection s1 with s1
    injection s1 with s1
    injection s1 with s1
    injection s1 with s1
    subst s1
    exact hc2
  have HP := Aside0.mk (hput u)
  have HW := Aside0.mk hcw
  clear hput hcw hcl hS
  have hk2 : (k : Int) < (lv.length : Int) := by omega
  have hi2 : (i : Int) < (n2 : Int) := by omega
  have HN2 := Aside0.mk hn2
  clear hn2
  go_enter Try.func45, Try.ntmps45
  go_wp2
  go_end0
  exact ⟨rfl, g2, hb, HW.out, rfl, HP.out⟩
end Go.Proofs.Ytgbkdmcbdilgaaa.PRankS
