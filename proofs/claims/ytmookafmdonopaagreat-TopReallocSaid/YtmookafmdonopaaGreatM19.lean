/- (*heap.Heap).realloc walked. -/
import Derived.Test.YtmookafmdonopaaGreatM18
/- (*heap.Heap).realloc walked. -/
namespace Go.Proofs.YtmookafmdonopaaGreat.Top
open Go Go.RowKit Go.Instr Go.ChangeMaps
set_option linter.unusedVariables false
set_option linter.unusedSimpArgs false
attribute [local go_sem] max2_int min2_int max_two min_two max_three

/-- a block changes its size -/
def reallocP (c : Cf) (s : Hs) (b : Bk) (S : Int) : Hs × An :=
 if (adm c ((sumB c s.bl - b.ch c : Nat) : Int) S 1).2 ≠ 0 then (s, An.no (adm c ((sumB c s.bl - b.ch c : Nat) : Int) S 1).2) else
  if (asksP c (s.without b) (adm c ((sumB c s.bl - b.ch c : Nat) : Int) S 1).1 S 0).2.err ≠ 0 then (s, (asksP c (s.without b) (adm c ((sumB c s.bl - b.ch c : Nat) : Int) S 1).1 S 0).2)
  else asksP c (s.without b) (adm c ((sumB c s.bl - b.ch c : Nat) : Int) S 1).1 S 0
theorem overN_at (l ns : List Nat) (o i : Nat) (h : o + ns.length ≤ l.length) (h2 : i < ns.length) : (overN l o ns)[o + i]? = ns[i]? := by
 unfold overN
 rw [List.append_assoc, List.getElem?_append_right (by simp; omega), List.getElem?_append_left (by simp; omega)]
 congr 1
 simp
 omega
theorem sub_row {w : World} {g o n c2 : Nat} {mem : List Nat} (hnc : n ≤ c2) (h : ∀ i, i < n → w.cell? ⟨g, o + i, none⟩ = (bytesV mem)[o + i]?) (hfit : o + n ≤ mem.length) : Row w (.slice (some ⟨g, o, none⟩) n c2) n (bytesV ((mem.drop o).take n)) := by
 refine ⟨_, _, rfl, hnc, Or.inr ⟨g, o, rfl, fun i u hu => ?_⟩⟩
 have hi : i < n := by
  have := (List.getElem?_eq_some_iff.1 hu).1
  rw [bytesV_len, List.length_take] at this
  omega
 rw [h i hi, ← hu]
 unfold bytesV
 rw [List.getElem?_map, List.getElem?_map, List.getElem?_take, if_pos hi, List.getElem?_drop]
theorem HW.ne {h : Nat} {c : Cf} {s : Hs} {mem : List Nat} {L : List (Nat × (Obj → Prop))} {R : World → Prop} {w0 w : World} {g : Nat} {p : Obj → Prop} (H : HW h c s mem L R w0 w) (hm : (g, p) ∈ L) : g ≠ h := by
 obtain ⟨a, d, b1, b2, b3⟩ := H
 have hn := b3.nd
 rw [List.map_cons, List.map_cons, List.nodup_cons, List.nodup_cons] at hn
 rintro rfl
 refine hn.2.1 ?_
 rw [List.map_cons, List.map_cons]
 exact List.mem_cons_of_mem _ (List.mem_cons_of_mem _ (List.mem_map.2 ⟨_, hm, rfl⟩))
theorem set_keep {w : World} {g h : Nat} (hne : g ≠ h) (o o' : Nat) (u : Value) : (w.setCell ⟨g, o, none⟩ u).cell? ⟨h, o', none⟩ = w.cell? ⟨h, o', none⟩ :=
 World.cell?_of_block (Below.heap_setCell w ⟨g, o, none⟩ u h (fun e => hne e.symm))
set_option maxHeartbeats 4000000 in
set_option maxRecDepth 100000 in
theorem heap_realloc (h : Nat) (c : Cf) (s : Hs) (mem : List Nat) (L : List (Nat × (Obj → Prop))) (R : World → Prop) (w0 w : World) (b : Bk) (S : Int) (H : HW h c s mem L R w0 w) (iv : Iv c s) (hb : b ∈ s.bl) :
 Calls Tryz.prog 72 #[.pointer (some ⟨h, 0, none⟩), b.v c, .int .i64 S] w fun e w' => e = .returned (reallocP c s b S).2.v ∧ ∃ mem', HW h c (reallocP c s b S).1 mem' L R w0 w' ∧ ((reallocP c s b S).2.err ≠ 0 → mem' = mem) ∧
  ((reallocP c s b S).2.err = 0 → ∀ i : Nat, (i : Int) < min (b.ch c : Int) (adm c ((sumB c s.bl - b.ch c : Nat) : Int) S 1).1 → mem'[(reallocP c s b S).2.at_.toNat + i]? = mem[b.at_ + i]?) := by
 have hsum := (iv.without hb).2
 have hlv : sumB c s.bl ≤ 2 ^ 30 := by have := iv.live; have := iv.good.bounds; omega
 have hfit := iv.inv.fits b hb
 have hch1 := ch_pos iv.good b
 have HAN := As.mk (fun W => admit_Anew c iv.good (sumB c s.bl) (b.ch c) S W (by omega) hlv)
 have hok := adm_ok iv.good (live := ((sumB c s.bl - b.ch c : Nat) : Int)) (s := S) (a := 1) (Or.inr (Or.inr ⟨0, by decide, rfl⟩))
 have hP : reallocP c s b S = reallocP c s b S := rfl
 conv at hP => rhs; unfold reallocP
 obtain ⟨q1, hq1⟩ : ∃ q, q = (adm c ((sumB c s.bl - b.ch c : Nat) : Int) S 1).1 := ⟨_, rfl⟩
 obtain ⟨q2, hq2⟩ : ∃ q, q = (adm c ((sumB c s.bl - b.ch c : Nat) : Int) S 1).2 := ⟨_, rfl⟩
 rw [← hq1, ← hq2] at HAN hok hP
 rw [← hq1]
 rw [Cf.v] at HAN
 obtain ⟨p, hpe⟩ : ∃ p, p = reallocP c s b S := ⟨_, rfl⟩
 rw [← hpe] at hP ⊢
 clear hpe hq1 hq2
 obtain ⟨at_, hat⟩ : ∃ a, a = b.at_ := ⟨_, rfl⟩
 obtain ⟨ch, hche⟩ : ∃ a, a = b.ch c := ⟨_, rfl⟩
 obtain ⟨asked, has⟩ : ∃ a, a = b.asked := ⟨_, rfl⟩
 have hbv : b.v c = .agg #[.int .i64 at_, .int .i64 ch, .int .i64 asked] := by rw [hat, hche, has]; rfl
 have HBV := As.mk hbv
 rw [← hche] at HAN hok hsum hfit hch1
 rw [← hat] at hfit
 rw [hbv, ← hat, ← hche]
 have IV := As.mk iv
 have HBM := As.mk hb
 have hsm := iv.small
 have HE := As.mk (And.intro hat hche)
 have HOK := As.mk hok
 have HP := As.mk hP
 have HSUM := As.mk hsum
 have HB0 := As.mk (H.box #[.int .i64 at_, .int .i64 ch, .int .i64 asked] 48)
 have HB := As.mk (HB0.out.box #[.int .i64 0, .int .i64 0, .int .i64 0, .int .u8 0, .int .i64 0, .int .i64 0, .int .i64 0, .int .i64 0] 39)
 have hB := HB.out
 rw [World.size_alloc] at hB
 clear HB
 have HB := As.mk hB
 clear HB0 hB H iv hb hat hche has hbv hok hP hlv hsum
 go_enter Tryz.func72, Tryz.ntmps72
 go_wp2_with fail
 obtain ⟨w1, hw1⟩ : ∃ w1, w1 = (w.alloc (.cells #[.int .i64 at_, .int .i64 ch, .int .i64 asked] 48)).alloc (.cells #[.int .i64 0, .int .i64 0, .int .i64 0, .int .u8 0, .int .i64 0, .int .i64 0, .int .i64 0, .int .i64 0] 39) := ⟨_, rfl⟩
 rw [← hw1] at HB ⊢
 clear hw1
 refine rgn [(0, 1), (1, 1), (2, 1), (3, 0), (4, 1), (5, 1), (6, 1), (7, 0), (8, 1), (9, 0), (10, 1), (11, 2), (12, 1), (13, 1), (14, 1), (15, 1), (16, 1)] [] (fun W => W.cell? ⟨w.heap.size, 1, none⟩ = some (.int .i64 ch) ∧ CfS h c (sumB c s.bl) W) (by kernel_rfl) (by kernel_rfl) (fun _ _ _ d _ h => by cases d <;> exact h) ⟨HB.out.rd me1 1 (by simp), HB.out.cfs⟩ ?_
 unfold CfS
 iterate 3 (refine Run.pu (v := ?_) (a' := ?_) rfl rfl (Or.inl ⟨by rfl, ?_⟩) ?_ ?_; rotate_left 2; (focus (intro W; go_simp; with_reducible rfl)); (focus (simp only [Act.put, zq4, zq5, zq6]; rfl)))
 refine Run.rd (v := ?_) (a' := ?_) rfl rfl (Or.inl ⟨by rfl, ?_⟩) ?_ ?_; rotate_left 2; (focus (rintro W ⟨hW1, hW2, hW3, hW4, hW5, hW6, hW7, hW8, hW9, hW10⟩; go_simp; with_reducible rfl)); (focus (simp only [Act.put, zq4, zq5, zq6]; rfl))
 iterate 3 (refine Run.pu (v := ?_) (a' := ?_) rfl rfl (Or.inl ⟨by rfl, ?_⟩) ?_ ?_; rotate_left 2; (focus (intro W; go_simp; with_reducible rfl)); (focus (simp only [Act.put, zq4, zq5, zq6]; rfl)))
 refine Run.rd (v := ?_) (a' := ?_) rfl rfl (Or.inl ⟨by rfl, ?_⟩) ?_ ?_; rotate_left 2; (focus (rintro W ⟨hW1, hW2, hW3, hW4, hW5, hW6, hW7, hW8, hW9, hW10⟩; go_simp; with_reducible rfl)); (focus (simp only [Act.put, zq4, zq5, zq6]; rfl))
 refine Run.pu (v := ?_) (a' := ?_) rfl rfl (Or.inl ⟨by rfl, ?_⟩) ?_ ?_; rotate_left 2; (focus (intro W; go_simp; with_reducible rfl)); (focus (simp only [Act.put, zq4, zq5, zq6]; rfl))
 refine Run.rd (v := ?_) (a' := ?_) rfl rfl (Or.inl ⟨by rfl, ?_⟩) ?_ ?_; rotate_left 2; (focus (rintro W ⟨hW1, hW2, hW3, hW4, hW5, hW6, hW7, hW8, hW9, hW10⟩; go_simp; with_reducible rfl)); (focus (simp only [Act.put, zq4, zq5, zq6]; rfl))
 refine Run.pu (v := ?_) (a' := ?_) rfl rfl (Or.inl ⟨by rfl, ?_⟩) ?_ ?_; rotate_left 2; (focus (intro W; go_simp; with_reducible rfl)); (focus (simp only [Act.put, zq4, zq5, zq6]; rfl))
 refine Run.ef rfl (fun K hK => ?_)
 simp only [zq1, zq2, zq3]
 go_wp2_with fail
 refine (HAN.out _).mono ?_
 rintro e w2 ⟨rfl, hb⟩
 have HO := As.mk (HB.out.drew.below hb)
 clear hb HB HAN
 go_wp2
 refine hK.out _ _ ⟨HO.out.rd me1 1 (by simp), HO.out.cfs⟩ ?_
 clear hK K
 iterate 5 (refine Run.pu (v := ?_) (a' := ?_) rfl rfl (Or.inl ⟨by rfl, ?_⟩) ?_ ?_; rotate_left 2; (focus (intro W; go_simp; with_reducible rfl)); (focus (simp only [Act.put, zq4, zq5, zq6]; rfl)))
 refine Run.nil ?_
 simp only [zq1, zq2, zq3]
 by_cases hq2 : q2 = 0
 · subst hq2
   obtain ⟨k, hk1, hk2, hk3, hk4, hk5, hk6⟩ := HOK.out rfl
   obtain ⟨c2, hc2⟩ : ∃ x, x = c.G * 2 ^ k := ⟨_, rfl⟩
   rw [← hc2] at hk1 hk4 hk5 hk6
   subst hk1
   have HC2 := As.mk hc2
   clear HOK hc2
   go_wp2_with fail
   obtain ⟨At, As_, nt, ct, ns, cs, z9, z10, ho1, hgon⟩ := HO.out.gone_ IV.out HBM.out
   have HGON := As.mk hgon
   have HO1 := As.mk ho1
   clear HO hgon
   obtain ⟨d, dz, dcap, dcapy, dmem, -, -⟩ := ho1.hc
   have hml := ho1.1
   have z17 := dz.c17
   rw [Hd.mem] at z17
   have z8 := dz.c8
   have x0 := ho1.rd me1 0 (by simp)
   have x1 := ho1.rd me1 1 (by simp)
   obtain ⟨mn, hmn⟩ : ∃ m, m = min ch c2 := ⟨_, rfl⟩
   obtain ⟨en, hen⟩ : ∃ en, en = at_ + mn := ⟨_, rfl⟩
   have MN := As.mk (show min (ch : Int) (c2 : Int) = (mn : Int) by omega)
   have E1 := As.mk (show IntKind.i64.wrap ((at_ : Int) + (mn : Int)) = (en : Int) by rw [hen, ← Int.natCast_add]; exact iw64 _ (by omega) (by omega))
   have mn1 : 1 ≤ mn := by omega
   have mnc : mn ≤ ch := by omega
   have mnc2 : mn ≤ c2 := by omega
   have k1 : at_ ≤ en := by omega
   have k2 : en ≤ c.H := by omega
   have k3 : en - at_ = mn := by omega
   have k5 : en ≤ d.capy := by omega
   have k6 : (d.capy = at_) = False := eq_false (by omega)
   have HMN := As.mk hmn
   have HROW := As.mk (fun (W : World) (L' : List (Nat × (Obj → Prop))) (R' : World → Prop) (k : HW h c s mem L' R' w0 W) (hd : W.cell? ⟨h, 17, none⟩ = some (.slice (some ⟨d.gy, 0, none⟩) c.H d.capy)) => show Row W (.slice (some ⟨d.gy, at_, none⟩) mn (d.capy - at_)) mn (bytesV ((mem.drop at_).take mn)) from by
    obtain ⟨d', dz', _, _, dm', _⟩ := k.hc
    have e := dz'.c17
    rw [hd] at e
    simp only [Hd.mem, Option.some.injEq, Value.slice.injEq, Addr.mk.injEq] at e
    refine sub_row (by omega) (fun i hi => ?_) (by rw [hml]; omega)
    rw [e.1.1]
    exact dm' _ (by omega))
   have hlm : ((mem.drop at_).take mn).length = mn := by rw [List.length_take, List.length_drop, hml]; omega
   have HLM := As.mk hlm
   clear dz dcap dcapy dmem hmn hen hml ho1 hlm
   refine rgnG [(0, 1), (1, 1), (2, 1), (3, 0), (4, 1), (5, 0), (6, 1), (7, 0), (8, 1), (9, 0), (10, 1), (11, 1), (12, 1), (13, 1), (15, 1), (16, 1), (17, 1), (18, 0)] [14, 19] [(20, 1), (21, 3)] [21] (fun W => W.cell? ⟨h, 17, none⟩ = some (.slice (some ⟨d.gy, 0, none⟩) c.H d.capy) ∧ W.cell? ⟨w.heap.size, 0, none⟩ = some (.int .i64 at_) ∧ W.cell? ⟨w.heap.size, 1, none⟩ = some (.int .i64 ch) ∧ W.cell? ⟨h, 8, none⟩ = some (.int .i64 c.G) ∧ W.cell? ⟨h, 9, none⟩ = some (.slice At nt ct) ∧ W.cell? ⟨h, 10, none⟩ = some (.slice As_ ns cs)) (by kernel_rfl) (by kernel_rfl) (fun _ _ _ d _ h => by cases d <;> exact h) ⟨z17, x0, x1, z8, z9, z10⟩ ?_
   iterate 3 (refine Run.pu (v := ?_) (a' := ?_) rfl rfl (Or.inl ⟨by rfl, ?_⟩) ?_ ?_; rotate_left 2; (focus (intro W; go_simp; with_reducible rfl)); (focus (simp only [Act.put, zq4, zq5, zq6]; rfl)))
   refine Run.rd (v := ?_) (a' := ?_) rfl rfl (Or.inl ⟨by rfl, ?_⟩) ?_ ?_; rotate_left 2; (focus (rintro W ⟨hW1, hW2, hW3, hW4, hW5, hW6⟩; go_simp; with_reducible rfl)); (focus (simp only [Act.put, zq4, zq5, zq6]; rfl))
   refine Run.pu (v := ?_) (a' := ?_) rfl rfl (Or.inl ⟨by rfl, ?_⟩) ?_ ?_; rotate_left 2; (focus (intro W; go_simp; with_reducible rfl)); (focus (simp only [Act.put, zq4, zq5, zq6]; rfl))
   refine Run.rd (v := ?_) (a' := ?_) rfl rfl (Or.inl ⟨by rfl, ?_⟩) ?_ ?_; rotate_left 2; (focus (rintro W ⟨hW1, hW2, hW3, hW4, hW5, hW6⟩; go_simp; with_reducible rfl)); (focus (simp only [Act.put, zq4, zq5, zq6]; rfl))
   refine Run.pu (v := ?_) (a' := ?_) rfl rfl (Or.inl ⟨by rfl, ?_⟩) ?_ ?_; rotate_left 2; (focus (intro W; go_simp; with_reducible rfl)); (focus (simp only [Act.put, zq4, zq5, zq6]; rfl))
   refine Run.rd (v := ?_) (a' := ?_) rfl rfl (Or.inl ⟨by rfl, ?_⟩) ?_ ?_; rotate_left 2; (focus (rintro W ⟨hW1, hW2, hW3, hW4, hW5, hW6⟩; go_simp; with_reducible rfl)); (focus (simp only [Act.put, zq4, zq5, zq6]; rfl))
   refine Run.pu (v := ?_) (a' := ?_) rfl rfl (Or.inl ⟨by rfl, ?_⟩) ?_ ?_; rotate_left 2; (focus (intro W; go_simp; with_reducible rfl)); (focus (simp only [Act.put, zq4, zq5, zq6]; rfl))
   refine Run.rd (v := ?_) (a' := ?_) rfl rfl (Or.inl ⟨by rfl, ?_⟩) ?_ ?_; rotate_left 2; (focus (rintro W ⟨hW1, hW2, hW3, hW4, hW5, hW6⟩; go_simp; with_reducible rfl)); (focus (simp only [Act.put, zq4, zq5, zq6]; rfl))
   refine Run.pu (v := ?_) (a' := ?_) rfl rfl (Or.inl ⟨by rfl, ?_⟩) ?_ ?_; rotate_left 2; (focus (intro W; go_simp; with_reducible rfl)); (focus (simp only [Act.put, zq4, zq5, zq6]; rfl))
   refine Run.pu (v := ?_) (a' := ?_) rfl rfl (Or.inl ⟨by rfl, ?_⟩) ?_ ?_
   rotate_left 2
   · intro W; go_simp; simp only [MN.out]; with_reducible rfl
   · simp only [Act.put, zq4, zq5, zq6]; rfl
   refine Run.pu (v := ?_) (a' := ?_) rfl rfl (Or.inl ⟨by rfl, ?_⟩) ?_ ?_
   rotate_left 2
   · intro W; go_simp; simp only [E1.out]; with_reducible rfl
   · simp only [Act.put, zq4, zq5, zq6]; rfl
   iterate 4 (refine Run.pu (v := ?_) (a' := ?_) rfl rfl (Or.inl ⟨by rfl, ?_⟩) ?_ ?_; rotate_left 2; (focus (intro W; go_simp; with_reducible rfl)); (focus (simp only [Act.put, zq4, zq5, zq6]; rfl)))
   refine Run.rd (v := ?_) (a' := ?_) rfl rfl (Or.inl ⟨by rfl, ?_⟩) ?_ ?_; rotate_left 2; (focus (rintro W ⟨hW1, hW2, hW3, hW4, hW5, hW6⟩; go_simp; with_reducible rfl)); (focus (simp only [Act.put, zq4, zq5, zq6]; rfl))
   refine Run.nilG ?_
   simp only [zq1, zq2, zq3]
   obtain ⟨w2d, hw2d⟩ : ∃ x, x = w2.drew := ⟨_, rfl⟩
   have HO1d := HO1.out.drew
   rw [← hw2d] at HO1d ⊢
   have z17d : w2d.cell? ⟨h, 17, none⟩ = some (.slice (some ⟨d.gy, 0, none⟩) c.H d.capy) := by rw [hw2d]; exact z17
   have z8d : w2d.cell? ⟨h, 8, none⟩ = some (.int .i64 c.G) := by rw [hw2d]; exact z8
   have z9d : w2d.cell? ⟨h, 9, none⟩ = some (.slice At nt ct) := by rw [hw2d]; exact z9
   have z10d : w2d.cell? ⟨h, 10, none⟩ = some (.slice As_ ns cs) := by rw [hw2d]; exact z10
   clear z17 z8 z9 z10 x0 x1 HO1 hw2d
   have HO1 := As.mk HO1d
   have x0 := HO1d.rd me1 0 (by simp)
   have x1 := HO1d.rd me1 1 (by simp)
   have z17 := z17d
   have z8 := z8d
   have z9 := z9d
   have z10 := z10d
   clear HO1d z17d z8d z9d z10d
   intro i hi
   have hi' : i = 14 ∨ i = 19 := by simpa using hi
   clear hi
   rcases hi' with rfl | rfl
   case' inl =>
    refine RunG.step rfl (fun K hK => ?_)
    simp only [zq1, zq2, zq3]
    go_wp2_with fail
    refine (clone_47 _ _ mn _ _ (HROW.out _ _ _ HO1.out z17) (by rw [bytesV_len, HLM.out, Nat.mul_one]) (bytesV_one _) (by omega)).mono ?_
    rintro e w3 ⟨v9, rfl, hk9, hb9⟩
    have hfr := (OwnS.ofRow (Own.start (X := []) _) hb9 hk9).fr
    obtain ⟨A9, d9, rfl⟩ := hfr.slice
    have HO2 := As.mk (HW.result (R' := fun W => Row W (.slice A9 mn d9) mn (bytesV ((mem.drop at_).take mn))) HO1.out hb9 (fun W hW => hfr.row hW))
    have z17' := cell_below hb9 z17
    have x0' := HO2.out.rd me1 0 (by simp)
    have x1' := HO2.out.rd me1 1 (by simp)
    have z8' := cell_below hb9 z8
    have z9' := cell_below hb9 z9
    have z10' := cell_below hb9 z10
    clear hk9 hb9 hfr
    go_wp2
    refine hK.out _ _ ⟨z17', x0', x1', z8', z9', z10'⟩ ?_
    clear hK K
    clear z17 x0 x1 z8 z9 z10 HO1
    intro j hj
    have hj' : j = 19 := by simpa using hj
    subst hj'
    clear hj
    refine RunG.step rfl (fun K hK => ?_)
    simp only [zq1, zq2, zq3]
    have HO3 := As.mk (HO2.out.box #[.int .i64 0, .slice none 0 0, .slice none 0 0] 83)
    have hbx := box_below w3 (.cells #[.int .i64 0, .slice none 0 0, .slice none 0 0] 83)
    have z17 := cell_below hbx z17'
    have x0 := HO3.out.rd me2 0 (by simp)
    have x1 := HO3.out.rd me2 1 (by simp)
    have z8 := cell_below hbx z8'
    have z9 := cell_below hbx z9'
    have z10 := cell_below hbx z10'
    go_wp2_with fail
    refine hK.out _ _ ⟨z17, x0, x1, z8, z9, z10⟩ ?_
    clear hK K z17' x0' x1' z8' z9' z10' hbx HO2
    simp only [RunG]
    obtain ⟨w4, hw4⟩ : ∃ w4, w4 = w3.alloc (.cells #[.int .i64 0, .slice none 0 0, .slice none 0 0] 83) := ⟨_, rfl⟩
    obtain ⟨q10, hq10⟩ : ∃ q, q = w3.heap.size := ⟨_, rfl⟩
    rw [← hq10, ← hw4] at HO3
    simp only [← hw4, ← hq10]
    rw [← hw4] at z17 x0 x1 z8 z9 z10
    clear hw4 hq10
   case' inr =>
    refine RunG.step rfl (fun K hK => ?_)
    simp only [zq1, zq2, zq3]
    have HO2 := As.mk (HO1.out.box #[.int .i64 0, .slice none 0 0, .slice none 0 0] 83)
    have hbx := box_below w2d (.cells #[.int .i64 0, .slice none 0 0, .slice none 0 0] 83)
    have z17' := cell_below hbx z17
    have x0' := HO2.out.rd me2 0 (by simp)
    have x1' := HO2.out.rd me2 1 (by simp)
    have z8' := cell_below hbx z8
    have z9' := cell_below hbx z9
    have z10' := cell_below hbx z10
    clear z17 x0 x1 z8 z9 z10 HO1
    obtain ⟨w4', hw4⟩ : ∃ x, x = w2d.alloc (.cells #[.int .i64 0, .slice none 0 0, .slice none 0 0] 83) := ⟨_, rfl⟩
    obtain ⟨q10, hq10⟩ : ∃ q, q = w2d.heap.size := ⟨_, rfl⟩
    go_wp2_with fail
    rw [← hq10, ← hw4] at HO2
    simp only [← hq10]
    rw [← hw4] at z17' x0' x1' z8' z9' z10'
    simp only [← hw4]
    clear hw4 hq10 hbx
    refine hK.out _ _ ⟨z17', x0', x1', z8', z9', z10'⟩ ?_
    clear hK K
    intro j hj
    have hj' : j = 14 := by simpa using hj
    subst hj'
    clear hj
    refine RunG.step rfl (fun K hK => ?_)
    simp only [zq1, zq2, zq3]
    go_wp2_with fail
    refine (clone_47 _ _ mn _ _ (HROW.out _ _ _ HO2.out z17') (by rw [bytesV_len, HLM.out, Nat.mul_one]) (bytesV_one _) (by omega)).mono ?_
    rintro e w4 ⟨v9, rfl, hk9, hb9⟩
    have hfr := (OwnS.ofRow (Own.start (X := []) _) hb9 hk9).fr
    obtain ⟨A9, d9, rfl⟩ := hfr.slice
    have HO3 := As.mk (HW.result (R' := fun W => Row W (.slice A9 mn d9) mn (bytesV ((mem.drop at_).take mn))) HO2.out hb9 (fun W hW => hfr.row hW))
    have z17 := cell_below hb9 z17'
    have x0 := HO3.out.rd me2 0 (by simp)
    have x1 := HO3.out.rd me2 1 (by simp)
    have z8 := cell_below hb9 z8'
    have z9 := cell_below hb9 z9'
    have z10 := cell_below hb9 z10'
    clear hk9 hb9 hfr
    go_wp2
    refine hK.out _ _ ⟨z17, x0, x1, z8, z9, z10⟩ ?_
    clear hK K z17' x0' x1' z8' z9' z10' HO2
    simp only [RunG]
   all_goals
    have t0 := HO3.out.rd me0 0 (by simp)
    have t1 := HO3.out.rd me0 1 (by simp)
    have t2 := HO3.out.rd me0 2 (by simp)
    have f0 := HO3.out.frz me0 0
    have f1 := HO3.out.frz me0 1
    have f2 := HO3.out.frz me0 2
    have HO4 := As.mk (((HO3.out.set 0 rfl 0 (.int .i64 c.G) (by simp)).set 0 rfl 1 (.slice At nt ct) (by simp)).set 0 rfl 2 (.slice As_ ns cs) (by simp))
    simp only [zq6, zq5] at HO4
    clear z17 x0 x1 z8 HO3
    refine Run.pu (v := ?_) (a' := ?_) rfl rfl (Or.inl ⟨by rfl, ?_⟩) ?_ ?_; rotate_left 2; (focus (intro W; go_simp; with_reducible rfl)); (focus (simp only [Act.put, zq4, zq5, zq6]; rfl))
    refine Run.la rfl (fun K hK => ?_)
    simp only [zq1, zq2, zq3]
    go_wp2
    refine hK.out _ _ ?_
    clear hK K
    refine Run.nil ?_
    have hqh := HO4.out.ne me0
    obtain ⟨w5, hw5⟩ : ∃ x, x = ((w4.setCell ⟨q10, 0, none⟩ (.int .i64 c.G)).setCell ⟨q10, 1, none⟩ (.slice At nt ct)).setCell ⟨q10, 2, none⟩ (.slice As_ ns cs) := ⟨_, rfl⟩
    have z9' : w5.cell? ⟨h, 9, none⟩ = some (.slice At nt ct) := by rw [hw5, set_keep hqh, set_keep hqh, set_keep hqh]; exact z9
    have z10' : w5.cell? ⟨h, 10, none⟩ = some (.slice As_ ns cs) := by rw [hw5, set_keep hqh, set_keep hqh, set_keep hqh]; exact z10
    rw [← hw5] at HO4 ⊢
    clear hw5 z9 z10 t0 t1 t2 f0 f1 f2
    have y0 := HO4.out.rd me2 0 (by simp)
    have y1 := HO4.out.rd me2 1 (by simp)
    have y2 := HO4.out.rd me2 2 (by simp)
    go_wp2_with fail
    have hgn := HGON.out _ _ w5 (fun W hW => hW.1) z9' z10' HO4.out
    rw [HBV.out] at hgn
    refine hgn.mono ?_
    rintro e w6 ⟨rfl, ho6⟩
    have HO5 := As.mk ho6
    clear hgn ho6 HGON z9' z10' y0 y1 y2 HO4
    go_wp2_with fail
    have IVW := As.mk (IV.out.without HBM.out).1
    have HM := As.mk (show MayP c (s.without b) (c2 : Int) S 0 from Or.inr ⟨rfl, k, S.toNat, by rw [HC2.out], by omega, hk2, by rw [← HC2.out]; omega, by rw [← HC2.out]; have := HSUM.out; omega⟩)
    have SP := As.mk (asks_spec IVW.out HM.out)
    refine (heap_asks h c (s.without b) mem _ _ w0 w6 c2 S 0 HO5.out IVW.out HM.out).mono ?_
    have hP := HP.out
    rw [if_neg (by simp)] at hP
    obtain ⟨r, hr⟩ : ∃ r, r = asksP c (s.without b) (c2 : Int) S 0 := ⟨_, rfl⟩
    rw [← hr] at SP hP ⊢
    have HR := As.mk hr
    clear hr HP
    have HP := As.mk hP
    clear hP
    rintro e w7 ⟨rfl, mem', ho, hme⟩
    have ME := As.mk hme
    have HO6 := As.mk ho
    clear hme ho HO5
    rcases SP.out with ⟨er, her, hre⟩ | ⟨-, k', a', i', on', hch', hask, hpl, hre⟩
    · obtain ⟨r1, r2⟩ := r
      injection hre with e1 e2
      subst e1
      subst e2
      have hP := HP.out
      rw [if_pos (show (An.no er).err ≠ 0 from her)] at hP
      have hmem := ME.out her
      subst hmem
      dsimp only [An.no] at HO6 hP
      dsimp only [An.v, An.no]
      have c1 : (er == 0) = false := beqF her
      have ho := HO6.out.box #[.int .i64 er, .int .i64 0, .int .i64 0, .int .u8 0, .int .i64 0, .int .i64 0, .int .i64 0, .int .i64 0] 39
      have HO7 := As.mk ho
      obtain ⟨w8, hw8⟩ : ∃ x, x = w7.alloc (.cells #[.int .i64 er, .int .i64 0, .int .i64 0, .int .u8 0, .int .i64 0, .int .i64 0, .int .i64 0, .int .i64 0] 39) := ⟨_, rfl⟩
      have x0 := ho.rd me0 0 (by simp)
      have y0 := ho.rd me3 0 (by simp)
      have y1 := ho.rd me3 1 (by simp)
      have y2 := ho.rd me3 2 (by simp)
      have e0 := ho.rd me1 0 (by simp)
      have e1 := ho.rd me1 1 (by simp)
      have e2 := ho.rd me1 2 (by simp)
      clear ho SP HR ME HP HM
      have hidl := IV.out.inv.ins_del IV.out.good HBM.out
      have hbk := HW.back_ HO7.out IVW.out b At As_ nt ct ns cs (fun W hW => by
       show EngR W _ _ _ _ (bitsB c (insB (delB s.bl b.at_) b)) (marksB (insB (delB s.bl b.at_) b))
       rw [hidl]
       exact hW.1.2) (by
       show InvB c (insB (delB s.bl b.at_) b)
       rw [hidl]
       exact IV.out.inv) (fun y hy => (IV.out.inv.mem_del IV.out.good HBM.out hy).2)
      rw [HBV.out] at hbk
      have HBK := As.mk hbk
      have hse : (⟨insB (s.without b).bl b, (s.without b).peak, (s.without b).mark, (s.without b).on⟩ : Hs) = s := by
       show (⟨insB (delB s.bl b.at_) b, s.peak, s.mark, s.on⟩ : Hs) = s
       rw [hidl]
      rw [hse] at HBK
      clear hbk hidl hse HO6
      go_wp2_with fail
      refine HBK.out.mono ?_
      rintro e w9 ⟨rfl, ho⟩
      have HO8 := As.mk ho
      clear ho HBK HO7 x0 y0 y1 y2 e0 e1 e2 hw8
      have x0 := HO8.out.rd me0 0 (by simp)
      have x1 := HO8.out.rd me0 1 (by simp)
      have x2 := HO8.out.rd me0 2 (by simp)
      have x3 := HO8.out.rd me0 3 (by simp)
      have x4 := HO8.out.rd me0 4 (by simp)
      have x5 := HO8.out.rd me0 5 (by simp)
      have x6 := HO8.out.rd me0 6 (by simp)
      have x7 := HO8.out.rd me0 7 (by simp)
      have t0 := HO8.out.rd me2 0 (by simp)
      have t1 := HO8.out.rd me2 1 (by simp)
      have t2 := HO8.out.rd me2 2 (by simp)
      have t3 := HO8.out.rd me2 3 (by simp)
      have t4 := HO8.out.rd me2 4 (by simp)
      have t5 := HO8.out.rd me2 5 (by simp)
      have t6 := HO8.out.rd me2 6 (by simp)
      have t7 := HO8.out.rd me2 7 (by simp)
      have f0 := HO8.out.frz me2 0
      have f1 := HO8.out.frz me2 1
      have f2 := HO8.out.frz me2 2
      have f3 := HO8.out.frz me2 3
      have f4 := HO8.out.frz me2 4
      have f5 := HO8.out.frz me2 5
      have f6 := HO8.out.frz me2 6
      have f7 := HO8.out.frz me2 7
      have HF := As.mk ((((((((HO8.out.set 2 rfl 0 (.int .i64 er) (by simp)).set 2 rfl 1 (.int .i64 0) (by simp)).set 2 rfl 2 (.int .i64 0) (by simp)).set 2 rfl 3 (.int .u8 0) (by simp)).set 2 rfl 4 (.int .i64 0) (by simp)).set 2 rfl 5 (.int .i64 0) (by simp)).set 2 rfl 6 (.int .i64 0) (by simp)).set 2 rfl 7 (.int .i64 0) (by simp)).drop.drop.drop.drop
      go_wp2_with fail
      refine bodyPost_ret (v := .agg #[.int .i64 er, .int .i64 0, .int .i64 0, .int .u8 0, .int .i64 0, .int .i64 0, .int .i64 0, .int .i64 0]) (by simp [results, Tryz.results72, go_sem, *]) rfl ?_
      rw [hP]
      exact ⟨rfl, _, HF.out.imp fun W hW => hW.1.1, fun _ => rfl, fun h0 => absurd h0 her⟩
    · have hfit2 := (hpl.iv IVW.out).2
      have hc2 : c2 = c.G * 2 ^ k' := by omega
      rw [← hc2] at hfit2
      obtain ⟨at2, hat2⟩ : ∃ x, x = i' * 2 ^ k' * c.G := ⟨_, rfl⟩
      rw [← hat2] at hre hfit2
      obtain ⟨r1, r2⟩ := r
      injection hre with e1 e2
      subst e2
      have hP := HP.out
      rw [if_neg (by simp)] at hP
      dsimp only at HO6
      dsimp only [An.v]
      have hc20 : 1 ≤ c2 := by omega
      clear SP HM hat2 hc2 hch' hask hpl HR HP e1
      have HPP := As.mk hP
      clear hP
      have ho := HO6.out.box #[.int .i64 0, .int .i64 at2, .int .i64 0, .int .u8 0, .int .i64 0, .int .i64 0, .int .i64 0, .int .i64 0] 39
      have HO7 := As.mk ho
      obtain ⟨w8, hw8⟩ : ∃ x, x = w7.alloc (.cells #[.int .i64 0, .int .i64 at2, .int .i64 0, .int .u8 0, .int .i64 0, .int .i64 0, .int .i64 0, .int .i64 0] 39) := ⟨_, rfl⟩
      have x0 := ho.rd me0 0 (by simp)
      clear ho HO6
      go_wp2_with fail
      simp only [← hw8]
      obtain ⟨q11, hq11⟩ : ∃ q, q = w7.heap.size := ⟨_, rfl⟩
      have ho7 := HO7.out
      rw [← hw8, ← hq11] at ho7
      simp only [← hq11]
      clear x0 hw8 hq11 HO7
      have HO7 := As.mk ho7
      clear ho7
      obtain ⟨d2, dz, dcap, dcapy, -⟩ := HO7.out.hc
      have z17 := dz.c17
      rw [Hd.mem] at z17
      have x1 := HO7.out.rd me0 1 (by simp)
      clear dz dcap
      have k7 : at2 ≤ c.H := by omega
      have k8 : (d2.capy = at2) = False := eq_false (by omega)
      have k9 : c.H ≤ d2.capy := dcapy
      refine rgn [(0, 1), (1, 1), (2, 1), (3, 0), (4, 1), (5, 0), (6, 1), (7, 1), (8, 3)] [8] (fun W => W.cell? ⟨h, 17, none⟩ = some (.slice (some ⟨d2.gy, 0, none⟩) c.H d2.capy) ∧ W.cell? ⟨q11, 1, none⟩ = some (.int .i64 at2)) (by kernel_rfl) (by kernel_rfl) (fun _ _ _ d _ h => by cases d <;> exact h) ⟨z17, x1⟩ ?_
      iterate 3 (refine Run.pu (v := ?_) (a' := ?_) rfl rfl (Or.inl ⟨by rfl, ?_⟩) ?_ ?_; rotate_left 2; (focus (intro W; go_simp; with_reducible rfl)); (focus (simp only [Act.put, zq4, zq5, zq6]; rfl)))
      refine Run.rd (v := ?_) (a' := ?_) rfl rfl (Or.inl ⟨by rfl, ?_⟩) ?_ ?_; rotate_left 2; (focus (rintro W ⟨hW1, hW2⟩; go_simp; with_reducible rfl)); (focus (simp only [Act.put, zq4, zq5, zq6]; rfl))
      refine Run.pu (v := ?_) (a' := ?_) rfl rfl (Or.inl ⟨by rfl, ?_⟩) ?_ ?_; rotate_left 2; (focus (intro W; go_simp; with_reducible rfl)); (focus (simp only [Act.put, zq4, zq5, zq6]; rfl))
      refine Run.rd (v := ?_) (a' := ?_) rfl rfl (Or.inl ⟨by rfl, ?_⟩) ?_ ?_; rotate_left 2; (focus (rintro W ⟨hW1, hW2⟩; go_simp; with_reducible rfl)); (focus (simp only [Act.put, zq4, zq5, zq6]; rfl))
      iterate 2 (refine Run.pu (v := ?_) (a' := ?_) rfl rfl (Or.inl ⟨by rfl, ?_⟩) ?_ ?_; rotate_left 2; (focus (intro W; go_simp; with_reducible rfl)); (focus (simp only [Act.put, zq4, zq5, zq6]; rfl)))
      refine Run.la rfl (fun K hK => ?_)
      simp only [zq1, zq2, zq3]
      obtain ⟨b9, o9, hA9, hnc9, hcell9⟩ := (show Row w8.drew (.slice A9 mn d9) mn (bytesV ((mem.drop at_).take mn)) from HO7.out.drew.now.2).cell (by rw [bytesV_len, HLM.out]; omega)
      subst hA9
      obtain ⟨w9, hrun, ho9⟩ := HO7.out.drew.copy_ d2 z17 3 at2 (c.H - at2) (d2.capy - at2) ⟨b9, o9, none⟩ mn d9 ((mem.drop at_).take mn) HLM.out (by omega) (by omega) (by
       intro j v hv
       have h2 : (⟨b9, o9, none⟩ : Addr).add j = ⟨b9, o9 + j, none⟩ := by unfold Addr.add; split <;> simp_all
       rw [h2]
       exact hcell9 j v hv)
      have HO8 := As.mk ho9
      clear ho9 hcell9 x1 z17
      go_wp2
      refine hK.out _ _ ?_
      clear hK K
      refine Run.nil ?_
      clear hrun
      have x0 := HO8.out.rd me0 0 (by simp)
      have x1 := HO8.out.rd me0 1 (by simp)
      have x2 := HO8.out.rd me0 2 (by simp)
      have x3 := HO8.out.rd me0 3 (by simp)
      have x4 := HO8.out.rd me0 4 (by simp)
      have x5 := HO8.out.rd me0 5 (by simp)
      have x6 := HO8.out.rd me0 6 (by simp)
      have x7 := HO8.out.rd me0 7 (by simp)
      have t0 := HO8.out.rd me2 0 (by simp)
      have t1 := HO8.out.rd me2 1 (by simp)
      have t2 := HO8.out.rd me2 2 (by simp)
      have t3 := HO8.out.rd me2 3 (by simp)
      have t4 := HO8.out.rd me2 4 (by simp)
      have t5 := HO8.out.rd me2 5 (by simp)
      have t6 := HO8.out.rd me2 6 (by simp)
      have t7 := HO8.out.rd me2 7 (by simp)
      have f0 := HO8.out.frz me2 0
      have f1 := HO8.out.frz me2 1
      have f2 := HO8.out.frz me2 2
      have f3 := HO8.out.frz me2 3
      have f4 := HO8.out.frz me2 4
      have f5 := HO8.out.frz me2 5
      have f6 := HO8.out.frz me2 6
      have f7 := HO8.out.frz me2 7
      have HF := As.mk ((((((((HO8.out.set 2 rfl 0 (.int .i64 0) (by simp)).set 2 rfl 1 (.int .i64 at2) (by simp)).set 2 rfl 2 (.int .i64 0) (by simp)).set 2 rfl 3 (.int .u8 0) (by simp)).set 2 rfl 4 (.int .i64 0) (by simp)).set 2 rfl 5 (.int .i64 0) (by simp)).set 2 rfl 6 (.int .i64 0) (by simp)).set 2 rfl 7 (.int .i64 0) (by simp)).drop.drop.drop.drop
      have hm7 := HO7.out.1
      have hml := HLM.out
      have hmnn := HMN.out
      clear HO8 HO7
      go_wp2_with fail
      refine bodyPost_ret (v := .agg #[.int .i64 0, .int .i64 at2, .int .i64 0, .int .u8 0, .int .i64 0, .int .i64 0, .int .i64 0, .int .i64 0]) (by simp [results, Tryz.results72, go_sem, *]) rfl ?_
      rw [HPP.out]
      refine ⟨rfl, _, HF.out.imp fun W hW => hW.1.1, fun h0 => absurd rfl h0, fun _ i hi => ?_⟩
      have hi2 : i < mn := by omega
      show (overN mem' at2 ((mem.drop at_).take mn))[((at2 : Int)).toNat + i]? = mem[at_ + i]?
      rw [Int.toNat_natCast, overN_at _ _ _ _ (by rw [hml, hm7]; omega) (by rw [hml]; exact hi2), List.getElem?_take, if_pos hi2, List.getElem?_drop]
 · have hP := HP.out
   rw [if_pos hq2] at hP
   have c1 : (q2 == 0) = false := beqF hq2
   have t0 := HO.out.rd me0 0 (by simp)
   have f0 := HO.out.frz me0 0
   have t1 := HO.out.rd me0 1 (by simp)
   have f1 := HO.out.frz me0 1
   have t2 := HO.out.rd me0 2 (by simp)
   have f2 := HO.out.frz me0 2
   have t3 := HO.out.rd me0 3 (by simp)
   have f3 := HO.out.frz me0 3
   have t4 := HO.out.rd me0 4 (by simp)
   have f4 := HO.out.frz me0 4
   have t5 := HO.out.rd me0 5 (by simp)
   have f5 := HO.out.frz me0 5
   have t6 := HO.out.rd me0 6 (by simp)
   have f6 := HO.out.frz me0 6
   have t7 := HO.out.rd me0 7 (by simp)
   have f7 := HO.out.frz me0 7
   have HF := As.mk (((((((((HO.out.set 0 rfl 0 (.int .i64 q2) (by simp)).set 0 rfl 1 (.int .i64 0) (by simp)).set 0 rfl 2 (.int .i64 0) (by simp)).set 0 rfl 3 (.int .u8 0) (by simp)).set 0 rfl 4 (.int .i64 0) (by simp)).set 0 rfl 5 (.int .i64 0) (by simp)).set 0 rfl 6 (.int .i64 0) (by simp)).set 0 rfl 7 (.int .i64 0) (by simp))).drop.drop
   go_wp2_with fail
   refine bodyPost_ret (v := (An.no q2).v) (by simp [results, Tryz.results72, go_sem, An.v, An.no, *]) rfl ?_
   rw [hP]
   exact ⟨rfl, mem, HF.out, fun _ => rfl, fun h0 => absurd h0 hq2⟩
end Go.Proofs.YtmookafmdonopaaGreat.Top
