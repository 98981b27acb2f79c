/- Regions that draw their order, with a group of operations that come in any order. -/
import Derived.Test.YtmookafmdonopaaGreatM04
import Derived.Test.YtmookafmdonopaaGreatM17
/- Regions that draw their order, with a group of operations that come in any order. -/
namespace Go.Proofs.YtmookafmdonopaaGreat.Top
open Go Go.RowKit Go.Proofs.YtmookafmdonopaaGreatW.PrintLast
set_option linter.unusedVariables false
set_option linter.unusedSimpArgs false

section
variable {P : Program} {ops : Array Oper} {Q : Exit → Act → World → Prop} {md : Region.Mode} {S : World → Prop} {ds : List Nat}
/-- behind a part of a region: K -/
def Qn (Q : Exit → Act → World → Prop) (K : Act → World → Prop) : Exit → Act → World → Prop
 | .normal, a, w => K a w
 | x, a, w => Q x a w
def RunG (P : Program) (ops : Array Oper) (Q : Exit → Act → World → Prop) (S : World → Prop) (K : Act → World → Prop) : Nat → List Nat → Act → World → Prop
 | 0, _, a, w => K a w
 | n + 1, G, a, w => ∀ i ∈ G, wpOp P ops Q i (fun a' w' => S w' ∧ RunG P ops Q S K n (G.erase i) a' w') a w
def grpOk (md : Region.Mode) (ops : Array Oper) (ds : List Nat) (l' : Array Bool) : Nat → List Nat → Array Bool → Bool
 | 0, G, l => l == l'
 | n + 1, G, l => Region.ready md ops l == G && G != [] && G.all fun i => grpOk md ops ds l' n (G.erase i) (l.setIfInBounds i true)
def marks_ (l : Array Bool) (G : List Nat) : Array Bool := G.foldl (fun l i => l.setIfInBounds i true) l
/-- a plan of reads alone, up to l' -/
def readsOk (md : Region.Mode) (ops : Array Oper) (ds : List Nat) (l' : Array Bool) : List (Nat × Nat) → Array Bool → Bool
 | [], l => l == l'
 | (i, k) :: p, l =>
  (ops[i]?).isSome && Region.noSelect ops && (match k with
  | 0 => Region.free md ops l i && (Region.ready md ops l).contains i && Region.closedB md ops l && Region.lastB md ops l ds i
  | 1 => Region.free md ops l i && (Region.ready md ops l).contains i
  | _ => false) && readsOk md ops ds l' p (l.setIfInBounds i true)
theorem runG_sound {K : Act → World → Prop} {l' : Array Bool} {f : Nat} (hK : ∀ a w fuel, f ≤ fuel → S w → K a w → wpAnyLast P md ops Q S ds fuel l' a w) :
 ∀ (n : Nat) (G : List Nat) (l : Array Bool) (a : Act) (w : World) (fuel : Nat), n + f ≤ fuel → grpOk md ops ds l' n G l = true → S w → RunG P ops Q S K n G a w → wpAnyLast P md ops Q S ds fuel l a w
 | 0, G, l, a, w, fuel, hf, hok, hS, h => by
  simp only [grpOk, beq_iff_eq] at hok
  subst hok
  exact hK a w fuel (by omega) hS h
 | n + 1, G, l, a, w, 0, hf, hok, hS, h => by omega
 | n + 1, G, l, a, w, fuel + 1, hf, hok, hS, h => by
  simp only [grpOk, Bool.and_eq_true, beq_iff_eq, bne_iff_ne] at hok
  obtain ⟨⟨h1, h2⟩, h3⟩ := hok
  refine wpAnyLast_all h1 h2 fun i hi => ?_
  refine wpOp_mono (fun a' w' hh => ?_) (h i hi)
  exact ⟨fun _ _ => hh.1, runG_sound hK n (G.erase i) _ a' w' fuel (by omega) (List.all_eq_true.1 h3 i hi) hh.1 hh.2⟩
theorem reads_sound {K : Act → World → Prop} {l' : Array Bool} {f : Nat} {w : World} (hQ : ∀ c a w d v, Q (.panic c) (Act.put a d v) w → Q (.panic c) a w) (hS : S w) (hK : ∀ a fuel, f ≤ fuel → K a w → wpAnyLast P md ops Q S ds fuel l' a w) :
 ∀ (p : List (Nat × Nat)) (l : Array Bool) (a : Act) (fuel : Nat), p.length + f ≤ fuel → readsOk md ops ds l' p l = true → Run P ops (Qn Q K) S p a w → wpAnyLast P md ops Q S ds fuel l a w
 | [], l, a, fuel, hf, hok, h => by
  simp only [readsOk, beq_iff_eq] at hok
  subst hok
  exact hK a fuel (by simpa using hf) h
 | (i, k) :: p, l, a, 0, hf, hok, h => by simp at hf
 | (i, k) :: p, l, a, fuel + 1, hf, hok, h => by
  have hf' : p.length + f ≤ fuel := by simp at hf; omega
  unfold readsOk at hok
  rw [Bool.and_eq_true, Bool.and_eq_true, Bool.and_eq_true] at hok
  obtain ⟨⟨⟨h1, h2⟩, h3⟩, h4⟩ := hok
  obtain ⟨o, ho⟩ := Option.isSome_iff_exists.1 h1
  match k, h3, h4, h with
  | 0, h3, h4, h =>
   simp only [Bool.and_eq_true] at h3
   obtain ⟨⟨⟨a2, a3⟩, a4⟩, a5⟩ := h3
   obtain ⟨v, hy, hr⟩ := h o ho
   exact wpAnyLast_take ho h2 a2 a3 a4 a5 (fun c a' w' hh => hQ c _ _ _ _ hh) hy hS (reads_sound hQ hS hK p _ _ fuel hf' h4 hr)
  | 1, h3, h4, h =>
   simp only [Bool.and_eq_true] at h3
   obtain ⟨v, hy, hr⟩ := h o ho
   exact wpAnyLast_any ho (Region.noSelect_spec h2) (fun c a' w' hh => hQ c _ _ _ _ hh) fuel l a w (Region.free_spec ho h3.1) (by simpa using h3.2) hy (reads_sound hQ hS hK p _ _ fuel hf' h4 hr)
/-- A region that draws its order: reads by a plan, a group in any order, the rest by a plan. -/
theorem rgnG (p1 : List (Nat × Nat)) (G : List Nat) (p2 : List (Nat × Nat)) (ds : List Nat) (S : World → Prop) {id : Nat} {a : Act} {w : World} (hm : P.follows .mixedOrders = true)
 (hok : (decide (p1.length + (G.length + p2.length) = ops.size) && readsOk .any ops ds (marks_ (Array.replicate ops.size false) (p1.map Prod.fst)) p1 (Array.replicate ops.size false) &&
  grpOk .any ops ds (marks_ (marks_ (Array.replicate ops.size false) (p1.map Prod.fst)) G) G.length G (marks_ (Array.replicate ops.size false) (p1.map Prod.fst)) &&
  planOk .any ops ds true p2 (marks_ (marks_ (Array.replicate ops.size false) (p1.map Prod.fst)) G)) = true)
 (hQ : ∀ c a w d v, Q (.panic c) (Act.put a d v) w → Q (.panic c) a w) (hS : S w.drew) (h : Run P ops (Qn Q (RunG P ops Q S (Run P ops Q S p2) G.length G)) S p1 a w.drew) : (Code.region id ops true).wp P Q a w := by
 rw [Bool.and_eq_true, Bool.and_eq_true, Bool.and_eq_true] at hok
 obtain ⟨⟨⟨h1, h2⟩, h3⟩, h4⟩ := hok
 have h1 := of_decide_eq_true h1
 refine wp_region_last (S := S) (ds := ds) hm ?_
 refine reads_sound (f := G.length + p2.length) hQ hS (fun a fuel hf hk => ?_) p1 _ a _ (by rw [h1]; exact Nat.le_refl _) h2 h
 refine runG_sound (f := p2.length) (fun a w fuel hf hS hk => ?_) G.length G _ a _ fuel hf h3 hS hk
 exact run_sound hQ p2 true _ a w fuel hf h4 (fun _ => hS) hk
theorem Run.nilG {K : Act → World → Prop} {a : Act} {w : World} (h : K a w) : Run P ops (Qn Q K) S [] a w := h
theorem RunG.step {K' : Act → World → Prop} {n i : Nat} {G : List Nat} {o : Oper} {a : Act} {w : World} (ho : ops[i]? = some o)
 (h : ∀ K : Exit → Act → World → Prop, As (∀ a' w', S w' → RunG P ops Q S K' n (G.erase i) a' w' → K .normal a' w') → wpList P ops K [o] a w) : wpOp P ops Q i (fun a' w' => S w' ∧ RunG P ops Q S K' n (G.erase i) a' w') a w :=
 Run.wpOp_of_list ho fun K hK => h K ⟨fun a' w' h1 h2 => hK.out a' w' ⟨h1, h2⟩⟩
end
end Go.Proofs.YtmookafmdonopaaGreat.Top
/- gone and back, told of a heap; (*heap.Heap).realloc walked. -/
namespace Go.Proofs.YtmookafmdonopaaGreat.Top
open Go Go.RowKit Go.Instr Go.ChangeMaps
set_option linter.unusedVariables false
set_option linter.unusedSimpArgs false
attribute [local go_sem] max2_int min2_int max_two min_two max_three

def Hs.without (s : Hs) (b : Bk) : Hs := ⟨delB s.bl b.at_, s.peak, s.mark, s.on⟩
theorem Iv.without {c : Cf} {s : Hs} (iv : Iv c s) {b : Bk} (hb : b ∈ s.bl) : Iv c (s.without b) ∧ sumB c (s.without b).bl + b.ch c = sumB c s.bl := by
 have h := sum_del iv.inv iv.good hb
 refine ⟨⟨iv.good, iv.small, iv.inv.del iv.good hb, iv.on, ?_, iv.peak, iv.mark⟩, ?_⟩
 · show sumB c (delB s.bl b.at_) ≤ c.M
   have := iv.live
   omega
 · show sumB c (delB s.bl b.at_) + b.ch c = _
   omega
section
variable {h : Nat} {c : Cf} {s : Hs} {mem : List Nat} {L : List (Nat × (Obj → Prop))} {R R' : World → Prop} {w0 w w1 : World}
theorem HW.imp (H : HW h c s mem L R w0 w) (hr : ∀ W, R W → R' W) : HW h c s mem L R' w0 w := by
 obtain ⟨a, d, b1, b2, b3⟩ := H
 exact ⟨a, d, b1, b2, b3.imp fun W hW => ⟨hr W hW.1, hW.2⟩⟩
theorem HW.result (H : HW h c s mem L R w0 w) (hb : Below w.heap.size w w1) (hr : ∀ W : World, (∀ k, w.heap.size ≤ k → k < w1.heap.size → W.heap[k]? = w1.heap[k]?) → R' W) : HW h c s mem L (fun W => R W ∧ R' W) w0 w1 := by
 obtain ⟨a, d, b1, b2, b3⟩ := H
 exact ⟨a, d, b1, b2, (b3.result hb hr).imp fun W hW => ⟨⟨hW.1.1, hW.2⟩, hW.1.2⟩⟩
theorem HW.now (H : HW h c s mem L R w0 w) : R w := by
 obtain ⟨a, d, b1, b2, b3⟩ := H
 exact b3.now.1
/-- a block goes; the engine that was is still there -/
theorem HW.gone_ (H : HW h c s mem L R w0 w) (iv : Iv c s) {b : Bk} (hb : b ∈ s.bl) : ∃ (At As_ : Option Addr) (nt ct ns cs : Nat),
 w.cell? ⟨h, 9, none⟩ = some (.slice At nt ct) ∧ w.cell? ⟨h, 10, none⟩ = some (.slice As_ ns cs) ∧
 HW h c s mem L (fun W => R W ∧ EngR W (.slice At nt ct) (.slice As_ ns cs) (c.L + 1) (c.H / c.G) (bitsB c s.bl) (marksB s.bl)) w0 w ∧
 ∀ (L' : List (Nat × (Obj → Prop))) (R' : World → Prop) (w1 : World), (∀ W, R' W → R W ∧ EngR W (.slice At nt ct) (.slice As_ ns cs) (c.L + 1) (c.H / c.G) (bitsB c s.bl) (marksB s.bl)) → w1.cell? ⟨h, 9, none⟩ = some (.slice At nt ct) → w1.cell? ⟨h, 10, none⟩ = some (.slice As_ ns cs) → HW h c s mem L' R' w0 w1 →
  Calls Tryz.prog 73 #[.pointer (some ⟨h, 0, none⟩), b.v c] w1 fun e w' => e = .returned (.tuple #[]) ∧ HW h c (s.without b) mem L' R' w0 w' := by
 have hlb := iv.inv.len iv.good
 have hl6 : sumB c s.bl ≤ 65536 := by have := iv.live; have := iv.good.bounds; omega
 have hch : b.ch c ≤ sumB c s.bl := by have := (iv.without hb).2; omega
 have hsm := (iv.without hb).2
 obtain ⟨a, d, b1, b2, b3⟩ := H
 refine ⟨d.At, d.As_, d.nt, d.ct, d.ns, d.cs, (b3.hc me1).c9, (b3.hc me1).c10, ⟨a, d, b1, b2, b3.imp fun W hW => ⟨⟨hW.1, hW.2.1⟩, hW.2⟩⟩, ?_⟩
 intro L' R' w1 hR' h9 h10 H1
 obtain ⟨a', d', b1', b2', b3'⟩ := H1
 have e9 := (b3'.hc me1).c9
 have e10 := (b3'.hc me1).c10
 rw [h9] at e9
 rw [h10] at e10
 simp only [Hd.t, Hd.sd, Option.some.injEq, Value.slice.injEq] at e9 e10
 obtain ⟨g, cap, gm, gy, capy, Ao, At', As', co, nt', ct', ns', cs'⟩ := d'
 simp only at e9 e10
 obtain ⟨rfl, rfl, rfl⟩ := e9
 obtain ⟨rfl, rfl, rfl⟩ := e10
 have hgn := heap_gone _ _ w0 w1 h g (c.H / c.Page) cap gm (sumB c s.bl) s.peak s.mark c _ _ d.At d.As_ d.nt d.ct d.ns d.cs s.bl b b3' (fun W hW => hW.2.1) iv.good iv.small rfl b1' iv.inv hb hl6 hch
 refine hgn.mono ?_
 rintro e w' ⟨rfl, At2, As2, nt2, ct2, ns2, cs2, ho⟩
 refine ⟨rfl, a', ⟨g, cap, gm, gy, capy, Ao, At2, As2, co, nt2, ct2, ns2, cs2⟩, b1', b2', ?_⟩
 have e1 : sumB c (s.without b).bl = sumB c s.bl - b.ch c := by omega
 rw [e1]
 exact ho.imp fun W hW => ⟨hW.1.1, hW.2, hW.1.2.2⟩
/-- a block comes back -/
theorem HW.back_ (H : HW h c s mem L R w0 w) (iv : Iv c s) (b : Bk) (At As_ : Option Addr) (nt ct ns cs : Nat) (hR : ∀ W, R W → EngR W (.slice At nt ct) (.slice As_ ns cs) (c.L + 1) (c.H / c.G) (bitsB c (insB s.bl b)) (marksB (insB s.bl b)))
 (hi : InvB c (insB s.bl b)) (hno : ∀ y ∈ s.bl, y.at_ ≠ b.at_) :
 Calls Tryz.prog 88 #[.pointer (some ⟨h, 0, none⟩), b.v c, .agg #[.int .i64 c.G, .slice At nt ct, .slice As_ ns cs]] w fun e w' => e = .returned (.tuple #[]) ∧ HW h c ⟨insB s.bl b, s.peak, s.mark, s.on⟩ mem L R w0 w' := by
 have hl6 : sumB c s.bl ≤ 65536 := by have := iv.live; have := iv.good.bounds; omega
 obtain ⟨a, d, b1, b2, b3⟩ := H
 refine (heap_back _ _ w0 w h d.g (c.H / c.Page) d.cap d.gm (sumB c s.bl) s.peak s.mark c d.t d.sd _ _ At As_ nt ct ns cs s.bl b b3 iv.good rfl b1 hi iv.inv hno hl6).mono ?_
 rintro e w' ⟨rfl, ho⟩
 refine ⟨rfl, a, ⟨d.g, d.cap, d.gm, d.gy, d.capy, d.Ao, At, As_, d.co, nt, ct, ns, cs⟩, b1, b2, ?_⟩
 have e1 : sumB c (insB s.bl b) = sumB c s.bl + b.ch c := by rw [sum_ins]; omega
 show Own [] _ _ _ _
 rw [e1]
 exact ho.imp fun W hW => ⟨hW.1, hR W hW.1, hW.2.2⟩
end
end Go.Proofs.YtmookafmdonopaaGreat.Top
