/- Part 12 of the base: the walks and plain facts that the statement rests on. -/
import Derived.Test.YtfhgknmkpegpbaaM11
import Derived.Test.YtfhgknmkpegpbaaM3
import Derived.Test.YtfhgknmkpegpbaaM10
import Derived.Test.YtfhgknmkpegpbaaM5
import Derived.Test.YtfhgknmkpegpbaaM9
import Derived.Test.YtfhgknmkpegpbaaM4
import Derived.Test.YtfhgknmkpegpbaaM6

set_option linter.unusedVariables false
set_option linter.unusedSimpArgs false
namespace Go.Proofs.Ytfhgknmkpegpbaa
open Go.RowKit Go.Shelf
attribute [local go_sem] Oper.semAt_some
def shBad (n : Int) (y : Tm) : Prop := y.k = 1 ∧ (n < -y.n ∨ 100000 - y.n ≤ n)
open Classical in
noncomputable def shB (n : Int) (t : Tm) : Bool := decide (∀ y ∈ t.pre, ¬ shBad n y)
theorem shB_iff {n : Int} {t : Tm} : shB n t = true ↔ ∀ y ∈ t.pre, ¬ shBad n y := by unfold shB; simp
def RetTf (w : World) (r : Tm) (er : Int) (e : Ending) (w' : World) : Prop :=
 ∃ A c, e = .returned (.tuple #[.agg #[.int .i64 r.k, .int .i64 r.n, .string r.s, .slice A r.l.length c], .int .i64 er]) ∧ r.s.size ≤ 9223372036854775807 ∧ TmC (w.heap.size ≤ ·) w' A c r.l ∧ Below w.heap.size w w'
def SEnd (w : World) (r : Tm) (er : Int) (W : World) : Prop :=
 ∃ A c, Blk W (w.heap.size + 1 + 1) 25 #[.int .i64 r.k, .int .i64 r.n, .string r.s, .slice A r.l.length c] ∧ Blk W (w.heap.size + 1 + 1 + 1) 28 #[.int .i64 er] ∧ r.s.size ≤ 9223372036854775807 ∧ TmC (w.heap.size ≤ ·) W A c r.l ∧ Below w.heap.size w W
theorem SEnd.put {w W : World} {r : Tm} {er : Int} {D : Nat} (h : SEnd w r er W) (hD : w.heap.size + 2 ≤ D) (hk : W.heap[D]? = some (.deferred (some []))) : SEnd w r er (W.putObj D (.deferred none)) := by
 obtain ⟨A, c, h1, h5, h2, h3, h4⟩ := h
 exact ⟨A, c, put_cells hk rfl _ _ h1 rfl, put_cells hk rfl _ _ h5 rfl, h2, h3.keptCells (put_cells hk rfl), h4.trans (Below.putObj_ (Nat.le_refl _) _ _ (.deferred none) _ (by omega))⟩
theorem SEnd.res {w W : World} {r : Tm} {er : Int} (h : SEnd w r er W) {fn : Func} (hf : fn.results = #[.cell 4 25, .cell 5 28]) {tmps : Array Value} (h4 : tmps.getD 4 undef = .pointer (some ⟨w.heap.size + 1 + 1, 0, none⟩)) (h5 : tmps.getD 5 undef = .pointer (some ⟨w.heap.size + 1 + 1 + 1, 0, none⟩)) : ∃ v, (results fn tmps).run Try.prog W = .ok v W ∧ RetTf w r er (.returned v) W := by
 obtain ⟨A, c, h1, h7, h2, h3, h6⟩ := h
 obtain ⟨⟨b0, b1, b2, b3⟩, -⟩ := h1.four
 obtain ⟨e0, -⟩ := h7.one
 have h4' : tmps[4]?.getD undef = .pointer (some ⟨w.heap.size + 1 + 1, 0, none⟩) := by simpa using h4
 have h5' : tmps[5]?.getD undef = .pointer (some ⟨w.heap.size + 1 + 1 + 1, 0, none⟩) := by simpa using h5
 refine ⟨.tuple #[.agg #[.int .i64 r.k, .int .i64 r.n, .string r.s, .slice A r.l.length c], .int .i64 er], ?_, A, c, rfl, h2, h3, h6⟩
 simp [results, hf, h4', h5', go_sem, b0, b1, b2, b3, e0]
set_option maxRecDepth 100000 in
set_option maxHeartbeats 8000000 in
theorem shift_calls (t : Tm) (n : Int) (P : Nat → Prop) (w : World) (v : Value) (hv : TmV P w v t) :
  Calls Try.prog 47 #[v, .int .i64 n] w (RetTf w (if isB t = true then (if shB n t = true then (repT (shF n) t).getD Tm.zero else Tm.zero) else Tm.zero) (if isB t = true then (if shB n t = true then (if (repT (shF n) t).isSome = true then 0 else 2) else 1) else 3)) := by
 refine (callsIn_wide (n := 5)).1 ?_
 obtain ⟨A, c, rfl, hs, hc⟩ := hv
 obtain ⟨W0, hW0⟩ : ∃ W0, W0 = (((w.alloc (.cells #[.int .i64 t.k, .int .i64 t.n, .string t.s, .slice A t.l.length c] 25)).alloc (.cells #[.int .i64 n] 3)).alloc (.cells #[.int .i64 0, .int .i64 0, .string ⟨#[]⟩, .slice none 0 0] 25)).alloc (.cells #[.int .i64 0] 28) := ⟨_, rfl⟩
 have HB0 := Lib.hid (show Below w.heap.size w W0 from by rw [hW0]; exact ((((Below.refl _ _).alloc (Nat.le_refl _) _).alloc (by simp) _).alloc (by simp; omega) _).alloc (by simp; omega) _)
 have HX0 := Lib.hid (show Blk W0 w.heap.size 25 #[.int .i64 t.k, .int .i64 t.n, .string t.s, .slice A t.l.length c] from by rw [hW0]; exact (((Blk.new _ _ _).alloc _).alloc _).alloc _)
 have HN0 := Lib.hid (show Blk W0 (w.heap.size + 1) 3 #[.int .i64 n] from by rw [hW0]; exact ((Blk.new' (by simp)).alloc _).alloc _)
 have HY0 := Lib.hid (show Blk W0 (w.heap.size + 1 + 1) 25 #[.int .i64 0, .int .i64 0, .string ⟨#[]⟩, .slice none 0 0] from by rw [hW0]; exact (Blk.new' (by simp)).alloc _)
 have HE0 := Lib.hid (show Blk W0 (w.heap.size + 1 + 1 + 1) 28 #[.int .i64 0] from by rw [hW0]; exact Blk.new' (by simp))
 have Hc := Lib.hid (hc.inside.mono (Q := (· < w.heap.size)) (fun g h => h.2)); clear hc
 obtain ⟨b, hb⟩ : ∃ b, b = isB t := ⟨_, rfl⟩
 obtain ⟨sb, hsb⟩ : ∃ b, b = shB n t := ⟨_, rfl⟩
 obtain ⟨R, hR⟩ : ∃ b, b = repT (shF n) t := ⟨_, rfl⟩
 rw [← hb, ← hsb, ← hR]
 obtain ⟨rt, hrt⟩ : ∃ r, r = (if b = true then (if sb = true then R.getD Tm.zero else Tm.zero) else Tm.zero) := ⟨_, rfl⟩
 obtain ⟨re, hre⟩ : ∃ r : Int, r = (if b = true then (if sb = true then (if R.isSome = true then 0 else 2) else 1) else 3) := ⟨_, rfl⟩
 rw [← hrt, ← hre]
 have hcall := (callsIn_wide (n := 4)).2 (check_calls t _ W0 _ ⟨A, c, rfl, hs, Hc.out.stay HB0.out (Nat.le_refl _)⟩)
 rw [← hb] at hcall
 have Hrt := Lib.hid hrt; have Hre := Lib.hid hre; clear hrt hre
 have Hcall := Lib.hid hcall; have Hb := Lib.hid hb; have Hsb := Lib.hid hsb; have HR := Lib.hid hR; have HW := Lib.hid hW0; clear hcall hb hsb hR hW0
 refine callsIn_of_wp_marks Try.func47 rfl trivial ?_ rfl
 simp only [Try.ntmps47, List.size_toArray, List.length_cons, List.length_nil, Nat.reduceAdd, Nat.reduceSub, Array.replicate_succ, Array.replicate_zero, List.push_toArray, List.append_toArray, List.nil_append, List.cons_append]
 gi_wp2_with fail
 rw [← HW.out]
 refine ⟨trivial, ?_⟩
 refine Hcall.out.mono ?_
 rintro e w1 ⟨rfl, hb⟩
 have HX1 := Lib.hid (HX0.out.below hb HX0.out.lt); have HN1 := Lib.hid (HN0.out.below hb HN0.out.lt); have HY1 := Lib.hid (HY0.out.below hb HY0.out.lt); have HE1 := Lib.hid (HE0.out.below hb HE0.out.lt); have HB1 := Lib.hid (HB0.out.trans (hb.mono HB0.out.size))
 clear hb Hcall HX0 HN0 HY0 HE0 HB0 HW
 cases b
 case false =>
  have hE : SEnd w Tm.zero 3 (((((w1.setCell ⟨w.heap.size + 1 + 1, 0, none⟩ (.int .i64 0)).setCell ⟨w.heap.size + 1 + 1, 1, none⟩ (.int .i64 0)).setCell ⟨w.heap.size + 1 + 1, 2, none⟩ (.string ⟨#[]⟩)).setCell ⟨w.heap.size + 1 + 1, 3, none⟩ (.slice none 0 0)).setCell ⟨w.heap.size + 1 + 1 + 1, 0, none⟩ (.int .i64 3)) := by
   have h1 := set4_at w1 (w.heap.size + 1 + 1) _ 25 HY1.out rfl (.int .i64 0) (.int .i64 0) (.string ⟨#[]⟩) (.slice none 0 0)
   have hbut : But (w.heap.size + 1 + 1) w1 _ := ((((But.refl (w.heap.size + 1 + 1) w1).setCell 0 (.int .i64 0)).setCell 1 (.int .i64 0)).setCell 2 (.string ⟨#[]⟩)).setCell 3 (.slice none 0 0)
   have h2 := (hbut.block _ HE1.out.lt (by omega)).trans HE1.out
   have h3 := (show Blk _ (w.heap.size + 1 + 1 + 1) 28 #[.int .i64 0] from h2).set_ 0 (.int .i64 3)
   exact ⟨none, 0, h1.far (by simp) _, h3, by show (0 : Nat) ≤ _; omega, TmC.nil _ _ (by omega) (fun _ => rfl), (HB1.out.trans (hbut.below (by omega) HB1.out.size)).setCell (p := ⟨w.heap.size + 1 + 1 + 1, 0, none⟩) (by simp; omega) _⟩
  obtain rfl : rt = Tm.zero := by rw [Hrt.out]; rfl
  obtain rfl : re = 3 := by rw [Hre.out]; rfl
  have he : errT false = 3 := rfl
  rw [he]
  have he2 : ((3 : Int) != 0) = true := rfl
  have HE := Lib.hid hE; clear hE
  have ly := HY1.out.lt; have le := HE1.out.lt
  obtain ⟨⟨d0, d1, d2, d3⟩, ⟨g0, g1, g2, g3⟩⟩ := HY1.out.four
  obtain ⟨k0, k1⟩ := HE1.out.one
  gi_wp2
  refine leaves_marks (N := w.heap.size + 2) (fun W' => SEnd w Tm.zero 3 W') (fun W5 D5 h1 hD5 hk5 => h1.put hD5 hk5) (fun W5 h1 => h1.res rfl rfl rfl) [] _ trivial HE.out
 have he : errT true = 0 := rfl
 rw [he]
 have lx := HX1.out.lt
 obtain ⟨⟨a0, a1, a2, a3⟩, -⟩ := HX1.out.four
 gi_wp2_with (refine ⟨trivial, ?_⟩; gi_at_call 95; refine (nodes_in Fence.wide _ trivial rfl _ _ _ _ _ _ _).mono ?_; rintro e w' ⟨rfl, rfl⟩)
 obtain ⟨W2, hW2⟩ : ∃ W2, W2 = w1.alloc (.cells #[.int .i64 t.k, .int .i64 t.n, .string t.s, .slice A t.l.length c] 25) := ⟨_, rfl⟩
 rw [← hW2]
 have hb2 : Below w1.heap.size w1 W2 := by rw [hW2]; exact (Below.refl _ _).alloc (Nat.le_refl _) _
 have hbox : Blk W2 w1.heap.size 25 #[.int .i64 t.k, .int .i64 t.n, .string t.s, .slice A t.l.length c] := by rw [hW2]; exact Blk.new _ _ _
 have HX2 := Lib.hid (HX1.out.below hb2 HX1.out.lt); have HN2 := Lib.hid (HN1.out.below hb2 HN1.out.lt); have HY2 := Lib.hid (HY1.out.below hb2 HY1.out.lt); have HE2 := Lib.hid (HE1.out.below hb2 HE1.out.lt); have HB2 := Lib.hid (HB1.out.trans (hb2.mono HB1.out.size))
 have hsz2 : w.heap.size + 4 ≤ W2.heap.size := by have := HE2.out.lt; omega
 clear hb2 hW2 HX1 HN1 HY1 HE1 HB1 a0 a1 a2 a3 lx
 have hokt := (isB_iff.1 Hb.out.symm).1
 obtain ⟨xe, hxe⟩ : ∃ xe : EW w.heap.size w, xe.1 = (t, A, c) := ⟨⟨(t, A, c), hokt, hs, Hc.out⟩, rfl⟩
 have hseq := nodes_stops Fence.wide rfl (5 - 1) trivial trivial rfl w1.heap.size w.heap.size w xe W2 (by omega) HB2.out (by rw [hxe]; exact hbox)
 rw [hxe] at hseq
 obtain ⟨I, hIdef⟩ : ∃ I : List (EW w.heap.size w) → World → Prop, I = fun ys W => Blk W w.heap.size 25 #[.int .i64 t.k, .int .i64 t.n, .string t.s, .slice A t.l.length c] ∧ Blk W (w.heap.size + 1) 3 #[.int .i64 n] ∧ Blk W (w.heap.size + 1 + 1) 25 #[.int .i64 0, .int .i64 0, .string ⟨#[]⟩, .slice none 0 0] ∧ Blk W (w.heap.size + 1 + 1 + 1) 28 #[.int .i64 0] ∧ Below w.heap.size w W ∧ W2.heap.size ≤ W.heap.size ∧ ∀ y ∈ ys, ¬ shBad n y.1.1 := ⟨_, rfl⟩
 have hIown : OwnFrom W2.heap.size I := by
  intro ys X Y row h hg hr
  rw [hIdef] at h ⊢
  obtain ⟨h1, h2, h3, h4, h5, h6, h7⟩ := h
  have hk := own_cells hg hr
  exact ⟨hk _ _ h1 rfl, hk _ _ h2 rfl, hk _ _ h3 rfl, hk _ _ h4 rfl, h5.grown hg h5.size (fun r e => by have := (hr r e).1; omega), Nat.le_trans h6 hg.size, h7⟩
 obtain ⟨Ix, hIxdef⟩ : ∃ Ix : Code → List (EW w.heap.size w) → World → Prop, Ix = fun cd pre W => cd = Code.ret ∧ (∃ y ∈ pre, shBad n y.1.1) ∧ SEnd w Tm.zero 1 W := ⟨_, rfl⟩
 have hIxown : ∀ cd, OwnFrom W2.heap.size (Ix cd) := by
  intro cd ys X Y row h hg hr
  rw [hIxdef] at h ⊢
  obtain ⟨h1, h2, A5, c5, h3, h4, h5, h6, h7⟩ := h
  have hk := own_cells hg hr
  exact ⟨h1, h2, A5, c5, hk _ _ h3 rfl, hk _ _ h4 rfl, h5, h6.keptCells hk, h7.grown hg h7.size (fun r e => by have := (hr r e).1; omega)⟩
 have hI0 : I [] W2 := by rw [hIdef]; exact ⟨HX2.out, HN2.out, HY2.out, HE2.out, HB2.out, Nat.le_refl _, fun y hy => by cases hy⟩
 have HIdef := Lib.hid hIdef; have HIx := Lib.hid hIxdef; clear hIdef hIxdef
 refine wpIn_rangeFunc_ownH rfl (by decide) (gf := 134) (lb := #[.pointer (some ⟨w1.heap.size, 0, none⟩)]) rfl trivial (enters_of Try.func134 (by kernel_rfl) rfl) hseq KpT.trans (fun W l o o' h1 h2 h3 h4 => kpT_b (B := W2.heap.size) (by omega) W l o o' h1 h2 h3 h4) (Below.refl _ _) (fun _ => rfl)
  I Ix hIown hIxown hI0
  (fun y a' W => ∃ Bx, W2.heap.size ≤ Bx ∧ Blk W Bx 25 #[.int .i64 y.1.1.k, .int .i64 y.1.1.n, .string y.1.1.s, .slice y.1.2.1 y.1.1.l.length y.1.2.2] ∧ a' = { tmps := #[.agg #[.int .i64 t.k, .int .i64 t.n, .string t.s, .slice A t.l.length c], .int .i64 n, .pointer (some ⟨w.heap.size, 0, none⟩), .pointer (some ⟨w.heap.size + 1, 0, none⟩), .pointer (some ⟨w.heap.size + 1 + 1, 0, none⟩), .pointer (some ⟨w.heap.size + 1 + 1 + 1, 0, none⟩), .int .i64 0, .pointer (some ⟨Bx, 0, none⟩), .agg #[.int .i64 t.k, .int .i64 t.n, .string t.s, .slice A t.l.length c], .int .i64 0, .int .i64 0, .bool false, undef, undef, .agg #[.int .i64 t.k, .int .i64 t.n, .string t.s, .slice A t.l.length c], .func (.func 134) #[] #[.pointer (some ⟨w1.heap.size, 0, none⟩)], .agg #[.int .i64 y.1.1.k, .int .i64 y.1.1.n, .string y.1.1.s, .slice y.1.2.1 y.1.1.l.length y.1.2.2], undef, undef, undef, undef, undef, undef, undef, undef, undef, undef, undef, undef, undef, undef, undef, undef, undef, undef, undef, undef, undef, undef, undef], defers := [] })
  (fun y a' _ X Y row hs hg hr => by
   obtain ⟨Bx, h1, h2, h3⟩ := hs
   exact ⟨Bx, h1, own_cells hg hr _ _ h2 rfl, h3⟩)
  ?assign ?body ?done ?stop
 case assign =>
  rintro l2 pre y W K hI hK
  simp only [EW.encs]
  have hsW : W2.heap.size ≤ W.heap.size := by have h := hI; rw [HIdef.out] at h; exact h.2.2.2.2.2.1
  gi_wp2
  exact hK _ _ ((KeepsOthers.alloc _ _).from _) (KpT.alloc (by omega) _) (hIown.alloc _ hI) ⟨W.heap.size, hsW, Blk.new _ _ _, rfl⟩
 case body =>
  rintro l2 pre y a' W hl ⟨r, hr⟩ hI ⟨Bx, hBx, hbx, rfl⟩ hlt
  rw [HIdef.out] at hI
  obtain ⟨hx, hn, hy, he5, hB, hS, hgood⟩ := hI
  obtain ⟨⟨x0, x1, x2, x3⟩, -⟩ := hbx.four; obtain ⟨n0, -⟩ := hn.one
  have hlbx := hbx.lt; have hln := hn.lt
  have hyd := y.2.1
  have HI := Lib.hid (show I pre W from by rw [HIdef.out]; exact ⟨hx, hn, hy, he5, hB, hS, hgood⟩)
  have hok1 : ¬ shBad n y.1.1 → I (pre ++ [y]) W := fun h => by rw [HIdef.out]; exact ⟨hx, hn, hy, he5, hB, hS, fun z hz => (List.mem_append.1 hz).elim (hgood z) (fun h2 => by rw [List.mem_singleton.1 h2]; exact h)⟩
  have Hok1 := Lib.hid hok1; have Hy := Lib.hid hy; have He5 := Lib.hid he5; have HB := Lib.hid hB; clear hok1 hx hn hgood hy he5 hB
  by_cases hk1 : y.1.1.k = 1
  case neg =>
   have hkb : (y.1.1.k == 1) = false := by simpa using hk1
   gi_wp2
   exact ⟨KeepsFrom.refl _ _, KpT.refl _ _, Hok1.out (fun h => hk1 h.1)⟩
  rw [hk1] at x0
  have hvb := var_bd y.2.1 hk1
  obtain ⟨m, hm⟩ : ∃ m, m = y.1.1.n := ⟨_, rfl⟩
  rw [← hm] at x1 hvb
  have hm0 : 0 ≤ m := hvb.1; have hm1 : m ≤ 100000 := by omega
  by_cases hA : n < -m
  case pos =>
   have dA : decide (n < -m) = true := decide_eq_true hA
   have hbad : shBad n y.1.1 := ⟨hk1, by rw [← hm]; omega⟩
   have hE : SEnd w Tm.zero 1 (((((W.setCell ⟨w.heap.size + 1 + 1, 0, none⟩ (.int .i64 0)).setCell ⟨w.heap.size + 1 + 1, 1, none⟩ (.int .i64 0)).setCell ⟨w.heap.size + 1 + 1, 2, none⟩ (.string ⟨#[]⟩)).setCell ⟨w.heap.size + 1 + 1, 3, none⟩ (.slice none 0 0)).setCell ⟨w.heap.size + 1 + 1 + 1, 0, none⟩ (.int .i64 1)) := by
    have h1 := set4_at W (w.heap.size + 1 + 1) _ 25 Hy.out rfl (.int .i64 0) (.int .i64 0) (.string ⟨#[]⟩) (.slice none 0 0)
    have hbut : But (w.heap.size + 1 + 1) W _ := ((((But.refl (w.heap.size + 1 + 1) W).setCell 0 (.int .i64 0)).setCell 1 (.int .i64 0)).setCell 2 (.string ⟨#[]⟩)).setCell 3 (.slice none 0 0)
    have h2 := (hbut.block _ He5.out.lt (by omega)).trans He5.out
    have h3 := (show Blk _ (w.heap.size + 1 + 1 + 1) 28 #[.int .i64 0] from h2).set_ 0 (.int .i64 1)
    exact ⟨none, 0, h1.far (by simp) _, h3, by show (0 : Nat) ≤ _; omega, TmC.nil _ _ (by omega) (fun _ => rfl), (HB.out.trans (hbut.below (by omega) HB.out.size)).setCell (p := ⟨w.heap.size + 1 + 1 + 1, 0, none⟩) (by simp; omega) _⟩
   have hE2 := Lib.hid hE; clear hE
   have HIx2 := Lib.hid (show Ix Code.ret (pre ++ [y]) (((((W.setCell ⟨w.heap.size + 1 + 1, 0, none⟩ (.int .i64 0)).setCell ⟨w.heap.size + 1 + 1, 1, none⟩ (.int .i64 0)).setCell ⟨w.heap.size + 1 + 1, 2, none⟩ (.string ⟨#[]⟩)).setCell ⟨w.heap.size + 1 + 1, 3, none⟩ (.slice none 0 0)).setCell ⟨w.heap.size + 1 + 1 + 1, 0, none⟩ (.int .i64 1)) from by rw [HIx.out]; exact ⟨rfl, ⟨y, by simp, hbad⟩, hE2.out⟩); clear hbad
   have ly := Hy.out.lt; have le := He5.out.lt
   obtain ⟨⟨d0, d1_, d2_, d3⟩, ⟨g0, g1, g2, g3⟩⟩ := Hy.out.four
   obtain ⟨k0, k1⟩ := He5.out.one
   gi_wp2
   exact ⟨(((((KeepsOthers.setCell _ _ _).trans (KeepsOthers.setCell _ _ _)).trans (KeepsOthers.setCell _ _ _)).trans (KeepsOthers.setCell _ _ _)).trans (KeepsOthers.setCell _ _ _)).from _, HIx2.out⟩
  have dA : decide (n < -m) = false := decide_eq_false hA
  by_cases hC : 100000 - m ≤ n
  case pos =>
   have dC : decide (100000 - m ≤ n) = true := decide_eq_true hC
   have hbad : shBad n y.1.1 := ⟨hk1, by rw [← hm]; omega⟩
   have hE : SEnd w Tm.zero 1 (((((W.setCell ⟨w.heap.size + 1 + 1, 0, none⟩ (.int .i64 0)).setCell ⟨w.heap.size + 1 + 1, 1, none⟩ (.int .i64 0)).setCell ⟨w.heap.size + 1 + 1, 2, none⟩ (.string ⟨#[]⟩)).setCell ⟨w.heap.size + 1 + 1, 3, none⟩ (.slice none 0 0)).setCell ⟨w.heap.size + 1 + 1 + 1, 0, none⟩ (.int .i64 1)) := by
    have h1 := set4_at W (w.heap.size + 1 + 1) _ 25 Hy.out rfl (.int .i64 0) (.int .i64 0) (.string ⟨#[]⟩) (.slice none 0 0)
    have hbut : But (w.heap.size + 1 + 1) W _ := ((((But.refl (w.heap.size + 1 + 1) W).setCell 0 (.int .i64 0)).setCell 1 (.int .i64 0)).setCell 2 (.string ⟨#[]⟩)).setCell 3 (.slice none 0 0)
    have h2 := (hbut.block _ He5.out.lt (by omega)).trans He5.out
    have h3 := (show Blk _ (w.heap.size + 1 + 1 + 1) 28 #[.int .i64 0] from h2).set_ 0 (.int .i64 1)
    exact ⟨none, 0, h1.far (by simp) _, h3, by show (0 : Nat) ≤ _; omega, TmC.nil _ _ (by omega) (fun _ => rfl), (HB.out.trans (hbut.below (by omega) HB.out.size)).setCell (p := ⟨w.heap.size + 1 + 1 + 1, 0, none⟩) (by simp; omega) _⟩
   have hE2 := Lib.hid hE; clear hE
   have HIx2 := Lib.hid (show Ix Code.ret (pre ++ [y]) (((((W.setCell ⟨w.heap.size + 1 + 1, 0, none⟩ (.int .i64 0)).setCell ⟨w.heap.size + 1 + 1, 1, none⟩ (.int .i64 0)).setCell ⟨w.heap.size + 1 + 1, 2, none⟩ (.string ⟨#[]⟩)).setCell ⟨w.heap.size + 1 + 1, 3, none⟩ (.slice none 0 0)).setCell ⟨w.heap.size + 1 + 1 + 1, 0, none⟩ (.int .i64 1)) from by rw [HIx.out]; exact ⟨rfl, ⟨y, by simp, hbad⟩, hE2.out⟩); clear hbad
   have ly := Hy.out.lt; have le := He5.out.lt
   obtain ⟨⟨d0, d1_, d2_, d3⟩, ⟨g0, g1, g2, g3⟩⟩ := Hy.out.four
   obtain ⟨k0, k1⟩ := He5.out.one
   gi_wp2
   exact ⟨(((((KeepsOthers.setCell _ _ _).trans (KeepsOthers.setCell _ _ _)).trans (KeepsOthers.setCell _ _ _)).trans (KeepsOthers.setCell _ _ _)).trans (KeepsOthers.setCell _ _ _)).from _, HIx2.out⟩
  have dC : decide (100000 - m ≤ n) = false := decide_eq_false hC
  have hgd := Hok1.out (fun h => by have := h.2; rw [← hm] at this; omega)
  have Hgd := Lib.hid hgd; clear hgd
  gi_wp2
  exact ⟨KeepsFrom.refl _ _, KpT.refl _ _, Hgd.out⟩
 case stop =>
  rintro D c2 pre W hD hSp hIx hDk
  rw [HIx.out] at hIx
  obtain ⟨rfl, ⟨y, hy, hyb⟩, hE⟩ := hIx
  have hsf : sb = false := by
   rw [Hsb.out, ← Bool.not_eq_true, shB_iff]
   intro h
   exact h y.1.1 (hSp.subset (List.mem_map.2 ⟨y, hy, rfl⟩)) hyb
  subst hsf
  obtain rfl : rt = Tm.zero := by rw [Hrt.out]; rfl
  obtain rfl : re = 1 := by rw [Hre.out]; rfl
  have HE := Lib.hid hE; clear hE hy hyb hSp
  gi_wp2
  refine leaves_marks (N := w.heap.size + 2) (fun W' => SEnd w Tm.zero 1 W') (fun W5 D5 h1 hD5 hk5 => h1.put hD5 hk5) (fun W5 h1 => h1.res rfl rfl rfl) [{ target := .collected D, args := #[] }] _ ⟨⟨D, rfl, by omega, hDk, fun e he => by simp at he⟩, trivial⟩ HE.out
 case done =>
  rintro D ys W hD hys hI hDk
  rw [HIdef.out] at hI
  obtain ⟨hx, hn, hy, he5, hB, hS, hgood⟩ := hI
  have hst : sb = true := by
   rw [Hsb.out, shB_iff]
   intro y hy
   have h1 : ys.map EW.tm = t.pre := hys
   rw [← h1] at hy
   obtain ⟨z, hz, rfl⟩ := List.mem_map.1 hy
   exact hgood z hz
  subst hst
  obtain ⟨rr, hrr⟩ : ∃ r, r = R.getD Tm.zero := ⟨_, rfl⟩
  obtain ⟨q, hq⟩ : ∃ q : Int, q = if R.isSome = true then 0 else 2 := ⟨_, rfl⟩
  obtain rfl : rr = rt := by rw [Hrt.out, hrr]; rfl
  obtain rfl : q = re := by rw [Hre.out, hq]; rfl
  have hti := isB_iff.1 Hb.out.symm
  have hcall := (callsIn_wide (n := 4)).2 (replaced_calls 96 (w.heap.size + 1) (shF n) (fun _ => False) (fun W' => Blk W' (w.heap.size + 1) 3 #[.int .i64 n]) W (fun b W' W'' h1 h2 h3 => h2.but h3 (by omega)) (fun g hg => hg.elim) (fun _ _ => rfl) (fun m x hx => by unfold shF at hx; injection hx with hx; rw [← hx]; show (1 : Nat) + 0 ≤ _; omega) (fun W' m h1 h2 h3 => shift1_calls _ (w.heap.size + 1) n W' m h1) t _ _ ⟨A, c, rfl, hs, Hc.out.stay hB (Nat.le_refl _)⟩ hn (by omega) (fun x hx hk => var_bd (okB_pre t hti.1 x hx) hk))
  rw [← HR.out] at hcall
  have Hcall := Lib.hid hcall; have Hrr := Lib.hid hrr; have Hq := Lib.hid hq; clear hcall hrr hq hti hgood hys Hrt Hre
  obtain ⟨⟨a0, a1, a2, a3⟩, -⟩ := hx.four; have hlx := hx.lt; have hln := hn.lt
  have Hy := Lib.hid hy; have He5 := Lib.hid he5; have HB := Lib.hid hB; have Hn := Lib.hid hn; clear hy he5 hB hx hn
  gi_wp2_with fail
  refine ⟨trivial, ?_⟩
  refine Hcall.out.mono ?_
  rintro e w5 ⟨A5, c5, rfl, hs5, hc5, hb5⟩
  rw [← Hrr.out, ← Hq.out]
  rw [← Hrr.out] at hs5 hc5
  have hY5 := Hy.out.below hb5 Hy.out.lt; have hE5 := He5.out.below hb5 He5.out.lt; have hB5 := HB.out.trans (hb5.mono HB.out.size)
  have hDl : D < W.heap.size := (Array.getElem?_eq_some_iff.1 hDk).1
  have hD5 : w5.heap[D]? = some (.deferred (some [])) := (hb5.block D hDl).trans hDk
  have hWs : w.heap.size + 4 ≤ W.heap.size := by omega
  have hE : SEnd w rr q (((((w5.setCell ⟨w.heap.size + 1 + 1, 0, none⟩ (.int .i64 rr.k)).setCell ⟨w.heap.size + 1 + 1, 1, none⟩ (.int .i64 rr.n)).setCell ⟨w.heap.size + 1 + 1, 2, none⟩ (.string rr.s)).setCell ⟨w.heap.size + 1 + 1, 3, none⟩ (.slice A5 rr.l.length c5)).setCell ⟨w.heap.size + 1 + 1 + 1, 0, none⟩ (.int .i64 q)) := by
   have h1 := set4_at w5 (w.heap.size + 1 + 1) _ 25 hY5 rfl (.int .i64 rr.k) (.int .i64 rr.n) (.string rr.s) (.slice A5 rr.l.length c5)
   have hbut : But (w.heap.size + 1 + 1) w5 _ := ((((But.refl (w.heap.size + 1 + 1) w5).setCell 0 (.int .i64 rr.k)).setCell 1 (.int .i64 rr.n)).setCell 2 (.string rr.s)).setCell 3 (.slice A5 rr.l.length c5)
   have h2 := (hbut.block _ hE5.lt (by omega)).trans hE5
   have h3 := (show Blk _ (w.heap.size + 1 + 1 + 1) 28 #[.int .i64 0] from h2).set_ 0 (.int .i64 q)
   exact ⟨A5, c5, h1.far (by simp) _, h3, hs5, by have hu : ∀ g, W.heap.size ≤ g → g ≠ w.heap.size + 1 + 1 ∧ g ≠ w.heap.size + 1 + 1 + 1 := fun g hg => (by omega); exact (((hc5.but hbut (fun g hg => (hu g hg).1)).setCell ⟨w.heap.size + 1 + 1 + 1, 0, none⟩ (.int .i64 q) (fun g hg => (hu g hg).2)).mono (fun g hg => by have hg2 : W.heap.size ≤ g := hg; omega)), (hB5.trans (hbut.below (by omega) hB5.size)).setCell (p := ⟨w.heap.size + 1 + 1 + 1, 0, none⟩) (by simp; omega) _⟩
  have hD6 : (((((w5.setCell ⟨w.heap.size + 1 + 1, 0, none⟩ (.int .i64 rr.k)).setCell ⟨w.heap.size + 1 + 1, 1, none⟩ (.int .i64 rr.n)).setCell ⟨w.heap.size + 1 + 1, 2, none⟩ (.string rr.s)).setCell ⟨w.heap.size + 1 + 1, 3, none⟩ (.slice A5 rr.l.length c5)).setCell ⟨w.heap.size + 1 + 1 + 1, 0, none⟩ (.int .i64 q)).heap[D]? = some (.deferred (some [])) := by
   have hbut := ((((But.refl (w.heap.size + 1 + 1) w5).setCell 0 (.int .i64 rr.k)).setCell 1 (.int .i64 rr.n)).setCell 2 (.string rr.s)).setCell 3 (.slice A5 rr.l.length c5)
   exact (Below.heap_setCell _ _ _ D (by show D ≠ w.heap.size + 1 + 1 + 1; omega)).trans ((hbut.block D (Array.getElem?_eq_some_iff.1 hD5).1 (by omega)).trans hD5)
  obtain ⟨⟨k0, k1, k2, k3⟩, ⟨m0, m1, m2, m3⟩⟩ := hY5.four; obtain ⟨j0, j1⟩ := hE5.one; have hly := hY5.lt; have hle := hE5.lt
  have HE := Lib.hid hE; have HD6 := Lib.hid hD6; clear hE hD6 hD5 hY5 hE5 hB5 hc5 hs5 hb5
  gi_wp2
  refine leaves_marks (N := w.heap.size + 2) (fun W' => SEnd w rr q W') (fun W5 D5 h1 hD5 hk5 => h1.put hD5 hk5) (fun W5 h1 => h1.res rfl rfl rfl) [{ target := .collected D, args := #[] }] _ ⟨⟨D, rfl, by omega, HD6.out, fun e he => by simp at he⟩, trivial⟩ HE.out
end Go.Proofs.Ytfhgknmkpegpbaa
set_option linter.unusedVariables false
set_option linter.unusedSimpArgs false
namespace Go.Proofs.Ytfhgknmkpegpbaa
open Go Go.Abs Go.Proofs Go.RowKit
theorem subst_ok' (t : Tm) (l : List Tm) : ACall Try.prog 42 [tA t, tsA l] [] (tE ((substR t l).getD Tm.zero) (if (substR t l).isSome then 0 else substE t l)) [] := bridge (enters Try.func42 (by decide) rfl) fun E w vs hvs => by
 obtain ⟨v, v2, rfl, hv, hv2⟩ := args2 hvs
 obtain ⟨A, c, rfl, hc⟩ := hv2.toTmC
 exact (subst_calls t l _ _ w v A c hv.toTmV hc).mono fun e w' ⟨B, d, he, hs, ht, hb⟩ => ⟨_, he, hb, fun E' h1 h2 => rv_tE (newPT hs ht (fun g h => h) h2)⟩
theorem compose_ok' (a b : List Tm) : ACall Try.prog 53 [tsA a, tsA b] [] (.tup [tsA ((composeR a b).getD []), vI (if (composeR a b).isSome then 0 else composeE a b)]) [] := bridge (enters Try.func53 (by decide) rfl) fun E w vs hvs => by
 obtain ⟨v, v2, rfl, hv, hv2⟩ := args2 hvs
 obtain ⟨A, c, rfl, hc⟩ := hv.toTmC
 obtain ⟨B, d, rfl, hd⟩ := hv2.toTmC
 exact (compose_calls a b _ _ w A c B d hc hd).mono fun e w' ⟨G, k, he, ht, hb⟩ => ⟨_, he, hb, fun E' h1 h2 => Rv.ofTup (All2.cons (newP ht (fun g h => h) h2) (All2.cons (.val rfl) (All2.nil _)))⟩
theorem shift_ok' (t : Tm) (n : Int) : ACall Try.prog 47 [tA t, vI n] [] (tE (if isB t = true then (if shB n t = true then (repT (shF n) t).getD Tm.zero else Tm.zero) else Tm.zero) (if isB t = true then (if shB n t = true then (if (repT (shF n) t).isSome = true then 0 else 2) else 1) else 3)) [] := bridge (enters Try.func47 (by decide) rfl) fun E w vs hvs => by
 obtain ⟨v, v2, rfl, hv, hv2⟩ := args2 hvs
 have := hv2.val_inv
 subst this
 exact (shift_calls t n _ w v hv.toTmV).mono fun e w' ⟨B, d, he, hs, ht, hb⟩ => ⟨_, he, hb, fun E' h1 h2 => rv_tE (newPT hs ht (fun g h => h) h2)⟩
end Go.Proofs.Ytfhgknmkpegpbaa
set_option linter.unusedVariables false
set_option linter.unusedSimpArgs false
namespace Go.Proofs.Ytfhgknmkpegpbaa
open Go Go.Abs Go.Proofs Go.RowKit
theorem rc_zero (j : Nat) (c' : AC) (h : (cA Tm.zero)[j]? = some c') : ∃ c, zA[j]? = some c ∧ ∀ (w : World) (E : En) (v : Value), Rc w E c v → Rc w E c' v := by
 match j, h with
 | 0, h => exact ⟨_, rfl, fun w E v hv => by simp at h; subst h; exact hv⟩
 | 1, h => exact ⟨_, rfl, fun w E v hv => by simp at h; subst h; exact hv⟩
 | 2, h => exact ⟨_, rfl, fun w E v hv => by simp at h; subst h; exact hv⟩
 | 3, h =>
  refine ⟨_, rfl, fun w E v hv => ?_⟩
  simp at h; subst h
  have := sub_nil 4 w E v (.one hv)
  cases this with | one h => exact h
 | j + 4, h => simp at h
theorem sgL_isB {l : List Tm} (h : subB l = true) {m : Nat} (h1 : m < 100000) : isB (sgL l m) = true := by
 by_cases hn : m < l.length
 ·obtain ⟨y, hy⟩ : ∃ y, l[m]? = some y := ⟨_, List.getElem?_eq_getElem hn⟩
  rw [sgL_at hy]
  split
  ·exact va_isB h1
  ·rename_i hf
   exact subB_in h (List.mem_of_getElem? hy) (by simpa using hf)
 ·rw [sgL_none hn]; exact va_isB h1
set_option maxRecDepth 100000 in
set_option maxHeartbeats 4000000 in
theorem refCompose_ok (a b : List Tm) (hsa : ∀ x ∈ a, x.size ≤ 100000) (hsb : ∀ x ∈ b, x.size ≤ 100000) : ACall Try.prog 56 [tsA a, tsA b] [] (.tup [tsA ((composeR a b).getD []), vI (if (composeR a b).isSome then 0 else composeE a b)]) [] := by
 have h1 := refIsSubst_ok a (fun x hx => by have := hsa x hx; omega)
 have h2 := refIsSubst_ok b (fun x hx => by have := hsb x hx; omega)
 unfold composeR composeE
 cases b1 : subB a
 ·rw [b1] at h1
  rw [if_neg (by simp), if_neg (by simp)]
  cases b2 : subB b
  ·rw [b2] at h2
   refine acall_of Try.func56 (by decide) rfl Try.results56 (by rw [Try.ntmps56]; simp) (by simp) ?_
   rw [Try.ntmps56]
   simp only [enumL, List.length_nil, List.length_cons, Nat.reduceAdd]
   repeat (first
    | refine RunS.any (by rfl) (by simp only [smEval, Nat.reduceAdd, Nat.reduceMul, Nat.reduceSub, Nat.reduceBEq, Nat.reduceEqDiff, Nat.reduceLeDiff, Nat.reduceLT, Nat.reduceMod, reduceIte, Int.reduceLE, Int.reduceLT, Int.reduceToNat, Nat.reducePow, ty3, ty4, ty9, ty22, ty25, ty28, ty39, ty122]; try rfl) (by rfl) (by simp only [smPut, Nat.reduceBEq, reduceIte]; exact ⟨rfl, rfl⟩) ?_
    | refine RunS.callQ (by rfl) rfl (by simp only [smArg, Nat.reduceBEq, reduceIte]; try rfl) (by first | exact h1 | exact h2) rfl (by rfl) (by rfl) ?_
    | refine RunS.skip (by rfl) (by simp only [smPut, Nat.reduceBEq, reduceIte]; try rfl) ?_
    | refine W.seq ?_ | refine W.block ?_ | refine W.regionK (by decide) fun N hN => ?_
    | (refine RunS.nil (hN _ _ _ ?_); clear hN N; simp only [smLen, Nat.reduceAdd, Nat.reduceMul, reduceIte, Nat.reduceEqDiff])
    | ((first | refine W.exit ?_ | refine W.ret ?_ | refine W.skip ?_); try simp only [smLen, reduceIte, Nat.reduceEqDiff])
    | refine W.condF (by rfl) ?_ | refine W.condT (by rfl) ?_)
   refine Fin.pureS Wk.refl (xs := ?_) ?_ rfl ?_ ?_
   rotate_left
   ·simp only [smEval, Nat.reduceAdd, Nat.reduceMul, Nat.reduceSub, Nat.reduceBEq, Nat.reduceEqDiff, Nat.reduceLeDiff, Nat.reduceLT, Nat.reduceMod, reduceIte, Int.reduceLE, Int.reduceLT, Int.reduceToNat, Nat.reducePow, ty3, ty4, ty9, ty22, ty25, ty28, ty39, ty122, resA]; try rfl
   ·rfl
   ·exact sub_tup2 (sub_nil 4) (Sub.refl _)
  ·rw [b2] at h2
   refine acall_of Try.func56 (by decide) rfl Try.results56 (by rw [Try.ntmps56]; simp) (by simp) ?_
   rw [Try.ntmps56]
   simp only [enumL, List.length_nil, List.length_cons, Nat.reduceAdd]
   repeat (first
    | refine RunS.any (by rfl) (by simp only [smEval, Nat.reduceAdd, Nat.reduceMul, Nat.reduceSub, Nat.reduceBEq, Nat.reduceEqDiff, Nat.reduceLeDiff, Nat.reduceLT, Nat.reduceMod, reduceIte, Int.reduceLE, Int.reduceLT, Int.reduceToNat, Nat.reducePow, ty3, ty4, ty9, ty22, ty25, ty28, ty39, ty122]; try rfl) (by rfl) (by simp only [smPut, Nat.reduceBEq, reduceIte]; exact ⟨rfl, rfl⟩) ?_
    | refine RunS.callQ (by rfl) rfl (by simp only [smArg, Nat.reduceBEq, reduceIte]; try rfl) (by first | exact h1 | exact h2) rfl (by rfl) (by rfl) ?_
    | refine RunS.skip (by rfl) (by simp only [smPut, Nat.reduceBEq, reduceIte]; try rfl) ?_
    | refine W.seq ?_ | refine W.block ?_ | refine W.regionK (by decide) fun N hN => ?_
    | (refine RunS.nil (hN _ _ _ ?_); clear hN N; simp only [smLen, Nat.reduceAdd, Nat.reduceMul, reduceIte, Nat.reduceEqDiff])
    | ((first | refine W.exit ?_ | refine W.ret ?_ | refine W.skip ?_); try simp only [smLen, reduceIte, Nat.reduceEqDiff])
    | refine W.condF (by rfl) ?_ | refine W.condT (by rfl) ?_)
   refine Fin.pureS Wk.refl (xs := ?_) ?_ rfl ?_ ?_
   rotate_left
   ·simp only [smEval, Nat.reduceAdd, Nat.reduceMul, Nat.reduceSub, Nat.reduceBEq, Nat.reduceEqDiff, Nat.reduceLeDiff, Nat.reduceLT, Nat.reduceMod, reduceIte, Int.reduceLE, Int.reduceLT, Int.reduceToNat, Nat.reducePow, ty3, ty4, ty9, ty22, ty25, ty28, ty39, ty122, resA]; try rfl
   ·rfl
   ·exact sub_tup2 (sub_nil 4) (Sub.refl _)
 rw [b1] at h1
 cases b2 : subB b
 ·rw [b2] at h2
  rw [if_neg (by simp), if_neg (by simp)]
  refine acall_of Try.func56 (by decide) rfl Try.results56 (by rw [Try.ntmps56]; simp) (by simp) ?_
  rw [Try.ntmps56]
  simp only [enumL, List.length_nil, List.length_cons, Nat.reduceAdd]
  repeat (first
   | refine RunS.any (by rfl) (by simp only [smEval, Nat.reduceAdd, Nat.reduceMul, Nat.reduceSub, Nat.reduceBEq, Nat.reduceEqDiff, Nat.reduceLeDiff, Nat.reduceLT, Nat.reduceMod, reduceIte, Int.reduceLE, Int.reduceLT, Int.reduceToNat, Nat.reducePow, ty3, ty4, ty9, ty22, ty25, ty28, ty39, ty122]; try rfl) (by rfl) (by simp only [smPut, Nat.reduceBEq, reduceIte]; exact ⟨rfl, rfl⟩) ?_
   | refine RunS.callQ (by rfl) rfl (by simp only [smArg, Nat.reduceBEq, reduceIte]; try rfl) (by first | exact h1 | exact h2) rfl (by rfl) (by rfl) ?_
   | refine RunS.skip (by rfl) (by simp only [smPut, Nat.reduceBEq, reduceIte]; try rfl) ?_
   | refine W.seq ?_ | refine W.block ?_ | refine W.regionK (by decide) fun N hN => ?_
   | (refine RunS.nil (hN _ _ _ ?_); clear hN N; simp only [smLen, Nat.reduceAdd, Nat.reduceMul, reduceIte, Nat.reduceEqDiff])
   | ((first | refine W.exit ?_ | refine W.ret ?_ | refine W.skip ?_); try simp only [smLen, reduceIte, Nat.reduceEqDiff])
   | refine W.condF (by rfl) ?_ | refine W.condT (by rfl) ?_)
  refine Fin.pureS Wk.refl (xs := ?_) ?_ rfl ?_ ?_
  rotate_left
  ·simp only [smEval, Nat.reduceAdd, Nat.reduceMul, Nat.reduceSub, Nat.reduceBEq, Nat.reduceEqDiff, Nat.reduceLeDiff, Nat.reduceLT, Nat.reduceMod, reduceIte, Int.reduceLE, Int.reduceLT, Int.reduceToNat, Nat.reducePow, ty3, ty4, ty9, ty22, ty25, ty28, ty39, ty122, resA]; try rfl
  ·rfl
  ·exact sub_tup2 (sub_nil 4) (Sub.refl _)
 rw [b2] at h2
 simp only [and_self, reduceIte]
 have hla := subB_len' b1
 have hlb := subB_len' b2
 refine acall_of Try.func56 (by decide) rfl Try.results56 (by rw [Try.ntmps56]; simp) (by simp) ?_
 rw [Try.ntmps56]
 simp only [enumL, List.length_nil, List.length_cons, Nat.reduceAdd]
 repeat (first
  | refine RunS.any (by rfl) (by simp only [smEval, Nat.reduceAdd, Nat.reduceMul, Nat.reduceSub, Nat.reduceBEq, Nat.reduceEqDiff, Nat.reduceLeDiff, Nat.reduceLT, Nat.reduceMod, reduceIte, Int.reduceLE, Int.reduceLT, Int.reduceToNat, Nat.reducePow, ty3, ty4, ty9, ty22, ty25, ty28, ty39, ty122]; try rfl) (by rfl) (by simp only [smPut, Nat.reduceBEq, reduceIte]; exact ⟨rfl, rfl⟩) ?_
  | refine RunS.callQ (by rfl) rfl (by simp only [smArg, Nat.reduceBEq, reduceIte]; try rfl) (by first | exact h1 | exact h2) rfl (by rfl) (by rfl) ?_
  | refine RunS.skip (by rfl) (by simp only [smPut, Nat.reduceBEq, reduceIte]; try rfl) ?_
  | refine W.seq ?_ | refine W.block ?_ | refine W.regionK (by decide) fun N hN => ?_
  | (refine RunS.nil (hN _ _ _ ?_); clear hN N; simp only [smLen, Nat.reduceAdd, Nat.reduceMul, reduceIte, Nat.reduceEqDiff])
  | ((first | refine W.exit ?_ | refine W.ret ?_ | refine W.skip ?_); try simp only [smLen, reduceIte, Nat.reduceEqDiff])
  | refine W.condF (by rfl) ?_ | refine W.condT (by rfl) ?_)
 refine W.loop ?_
 refine WL.wk (Wk.nilT 8 25 4 rfl rfl) ?_
 refine WL.ind (σ := Nat) (nx := 65) (fun j => j ≤ max a.length b.length ∧ ∀ i, i < j → isB (cmpE a b i) = true) (fun j => max a.length b.length - j) (fun j => [(0, tsA a), (1, tsA b), (8, .one (.row 64 j)), (9, vI j)]) (fun j => [(64, .row 25 4 (((List.range j).map (cmpO a b)).map treeC))]) 0 ⟨Nat.zero_le _, fun i hi => by omega⟩ ?_ ?_
 ·refine Wk.keep [] (by rfl) ?_ ?_ <;> simp only [smKeep, Nat.reduceBEq, Nat.reduceLT, reduceIte, List.range_zero, List.map_nil]
  all_goals trivial
 rintro j ⟨hj, hall⟩
 obtain ⟨os, ho⟩ : ∃ o, o = (List.range j).map (cmpO a b) := ⟨_, rfl⟩
 have hol : os.length = j := by rw [ho]; simp
 rw [← ho]
 repeat (first
  | refine RunS.any (by rfl) (by simp only [smEval, Nat.reduceAdd, Nat.reduceMul, Nat.reduceSub, Nat.reduceBEq, Nat.reduceEqDiff, Nat.reduceLeDiff, Nat.reduceLT, Nat.reduceMod, reduceIte, Int.reduceLE, Int.reduceLT, Int.reduceToNat, Nat.reducePow, ty3, ty4, ty9, ty22, ty25, ty28, ty39, ty122]; try rfl) (by rfl) (by simp only [smPut, Nat.reduceBEq, reduceIte]; exact ⟨rfl, rfl⟩) ?_
  | refine RunS.skip (by rfl) (by simp only [smPut, Nat.reduceBEq, reduceIte]; try rfl) ?_
  | refine W.seq ?_ | refine W.block ?_ | refine W.regionK (by decide) fun N hN => ?_
  | (refine RunS.nil (hN _ _ _ ?_); clear hN N; simp only [smLen, Nat.reduceAdd, Nat.reduceMul, reduceIte, Nat.reduceEqDiff])
  | ((first | refine W.exit ?_ | refine W.ret ?_ | refine W.skip ?_); try simp only [smLen, reduceIte, Nat.reduceEqDiff])
  | refine W.condF (by rfl) ?_ | refine W.condT (by rfl) ?_)
 refine W.condD (by rfl) (fun hlt => ?_) (fun hge => ?_)
 ·have hjN : j < max a.length b.length := by split at hlt <;> omega
  clear hlt
  have hv := variable_ok (j : Int)
  obtain ⟨x, hxd⟩ : ∃ x, x = sgL a j := ⟨_, rfl⟩
  have hxB : isB x = true := by rw [hxd]; exact sgL_isB b1 (by omega)
  first | refine W.exit ?_ | refine W.ret ?_ | refine W.skip ?_
  try simp only [smLen, reduceIte, Nat.reduceEqDiff]
  repeat (first | refine W.seq ?_ | refine W.block ?_)
  refine W.regionK (by decide) fun N hN => ?_
  repeat (first
   | refine RunS.any (by rfl) (by simp only [smEval, Nat.reduceAdd, Nat.reduceMul, Nat.reduceSub, Nat.reduceBEq, Nat.reduceEqDiff, Nat.reduceLeDiff, Nat.reduceLT, Nat.reduceMod, reduceIte, Int.reduceLE, Int.reduceLT, Int.reduceToNat, Nat.reducePow, ty3, ty4, ty9, ty22, ty25, ty28, ty39, ty122]; try rfl) (by rfl) (by simp only [smPut, Nat.reduceBEq, reduceIte]; exact ⟨rfl, rfl⟩) ?_
   | refine RunS.skip (by rfl) (by simp only [smPut, Nat.reduceBEq, reduceIte]; try rfl) ?_)
  refine RunS.callP rfl (by rfl) (hv) rfl (by simp only [smArg, Nat.reduceBEq, reduceIte]; try rfl) (by rfl) (by rfl) ?_
  repeat (first
   | refine RunS.any (by rfl) (by simp only [smEval, Nat.reduceAdd, Nat.reduceMul, Nat.reduceSub, Nat.reduceBEq, Nat.reduceEqDiff, Nat.reduceLeDiff, Nat.reduceLT, Nat.reduceMod, reduceIte, Int.reduceLE, Int.reduceLT, Int.reduceToNat, Nat.reducePow, ty3, ty4, ty9, ty22, ty25, ty28, ty39, ty122]; try rfl) (by rfl) (by simp only [smPut, Nat.reduceBEq, reduceIte]; exact ⟨rfl, rfl⟩) ?_
   | refine RunS.skip (by rfl) (by simp only [smPut, Nat.reduceBEq, reduceIte]; try rfl) ?_)
  refine RunS.nil (hN _ _ _ ?_)
  clear hN N
  simp only [smLen, Nat.reduceAdd, Nat.reduceMul, reduceIte, Nat.reduceEqDiff]
  refine W.mid (fun T H nx => Wk 74 0 T H nx [(0, tsA a), (1, tsA b), (8, .one (.row 64 j)), (9, vI j), (10, .one (.ptr 95 0))] [(64, .row 25 4 (os.map treeC)), (95, .box 25 (cA x))] 110) ?_ ?_
  ·by_cases hn : j < a.length
   ·obtain ⟨y, hy⟩ : ∃ y, a[j]? = some y := ⟨_, List.getElem?_eq_getElem hn⟩
    have hf := refFree_ok y
    have dn : decide ((j : Int) < (a.length : Int)) = true := by simp; omega
    have hj0 : (0 : Int) ≤ (j : Int) := by omega
    rw [sgL_at hy] at hxd
    cases hfy : freeB y
    ·rw [hfy] at hf hxd
     rw [if_neg (by simp)] at hxd
     subst hxd
     repeat (first
      | refine RunS.any (by rfl) (by simp only [smEval, Nat.reduceAdd, Nat.reduceMul, Nat.reduceSub, Nat.reduceBEq, Nat.reduceEqDiff, Nat.reduceLeDiff, Nat.reduceLT, Nat.reduceMod, reduceIte, Int.reduceLE, Int.reduceLT, Int.reduceToNat, Nat.reducePow, ty3, ty4, ty9, ty22, ty25, ty28, ty39, ty122, dn, hy, hj0, treeC_eq]; try rfl) (by rfl) (by simp only [smPut, Nat.reduceBEq, reduceIte]; exact ⟨rfl, rfl⟩) ?_
      | refine RunS.callQ (by rfl) rfl (by simp only [smArg, Nat.reduceBEq, reduceIte]; try rfl) (by first | exact hf) rfl (by rfl) (by rfl) ?_
      | refine RunS.skip (by rfl) (by simp only [smPut, Nat.reduceBEq, reduceIte]; try rfl) ?_
      | refine W.seq ?_ | refine W.block ?_ | refine W.regionK (by decide) fun N hN => ?_
      | (refine RunS.nil (hN _ _ _ ?_); clear hN N; simp only [smLen, Nat.reduceAdd, Nat.reduceMul, reduceIte, Nat.reduceEqDiff])
      | ((first | refine W.exit ?_ | refine W.ret ?_ | refine W.skip ?_); try simp only [smLen, reduceIte, Nat.reduceEqDiff])
      | refine W.condF (by rfl) ?_ | refine W.condT (by rfl) ?_)
     refine Wk.keep [] (by rfl) ?_ ?_ <;> simp only [smKeep, Nat.reduceBEq, Nat.reduceLT, reduceIte]
    ·rw [hfy] at hf hxd
     rw [if_pos rfl] at hxd
     subst hxd
     repeat (first
      | refine RunS.any (by rfl) (by simp only [smEval, Nat.reduceAdd, Nat.reduceMul, Nat.reduceSub, Nat.reduceBEq, Nat.reduceEqDiff, Nat.reduceLeDiff, Nat.reduceLT, Nat.reduceMod, reduceIte, Int.reduceLE, Int.reduceLT, Int.reduceToNat, Nat.reducePow, ty3, ty4, ty9, ty22, ty25, ty28, ty39, ty122, dn, hy, hj0, treeC_eq]; try rfl) (by rfl) (by simp only [smPut, Nat.reduceBEq, reduceIte]; exact ⟨rfl, rfl⟩) ?_
      | refine RunS.callQ (by rfl) rfl (by simp only [smArg, Nat.reduceBEq, reduceIte]; try rfl) (by first | exact hf) rfl (by rfl) (by rfl) ?_
      | refine RunS.skip (by rfl) (by simp only [smPut, Nat.reduceBEq, reduceIte]; try rfl) ?_
      | refine W.seq ?_ | refine W.block ?_ | refine W.regionK (by decide) fun N hN => ?_
      | (refine RunS.nil (hN _ _ _ ?_); clear hN N; simp only [smLen, Nat.reduceAdd, Nat.reduceMul, reduceIte, Nat.reduceEqDiff])
      | ((first | refine W.exit ?_ | refine W.ret ?_ | refine W.skip ?_); try simp only [smLen, reduceIte, Nat.reduceEqDiff])
      | refine W.condF (by rfl) ?_ | refine W.condT (by rfl) ?_)
     refine Wk.keep [] (by rfl) ?_ ?_ <;> simp only [smKeep, Nat.reduceBEq, Nat.reduceLT, reduceIte]
   ·have dn : decide ((j : Int) < (a.length : Int)) = false := by simp; omega
    rw [sgL_none hn] at hxd
    subst hxd
    repeat (first
     | refine RunS.any (by rfl) (by simp only [smEval, Nat.reduceAdd, Nat.reduceMul, Nat.reduceSub, Nat.reduceBEq, Nat.reduceEqDiff, Nat.reduceLeDiff, Nat.reduceLT, Nat.reduceMod, reduceIte, Int.reduceLE, Int.reduceLT, Int.reduceToNat, Nat.reducePow, ty3, ty4, ty9, ty22, ty25, ty28, ty39, ty122, dn]; try rfl) (by rfl) (by simp only [smPut, Nat.reduceBEq, reduceIte]; exact ⟨rfl, rfl⟩) ?_
     | refine RunS.skip (by rfl) (by simp only [smPut, Nat.reduceBEq, reduceIte]; try rfl) ?_
     | refine W.seq ?_ | refine W.block ?_ | refine W.regionK (by decide) fun N hN => ?_
     | (refine RunS.nil (hN _ _ _ ?_); clear hN N; simp only [smLen, Nat.reduceAdd, Nat.reduceMul, reduceIte, Nat.reduceEqDiff])
     | ((first | refine W.exit ?_ | refine W.ret ?_ | refine W.skip ?_); try simp only [smLen, reduceIte, Nat.reduceEqDiff])
     | refine W.condF (by rfl) ?_ | refine W.condT (by rfl) ?_)
    refine Wk.keep [] (by rfl) ?_ ?_ <;> simp only [smKeep, Nat.reduceBEq, Nat.reduceLT, reduceIte]
  intro T H nx hw
  refine W.to ?_ hw
  clear hw T H nx
  have hS := refSubst_ok x b (by have := (isB_iff.1 hxB).2.1; omega) hsb
  rw [subst_eq hxB b2] at hS
  have hcE : x.sub (sgL b) = cmpE a b j := by rw [hxd]; rfl
  rw [hcE] at hS
  cases hyB : isB (cmpE a b j)
  ·rw [hyB] at hS
   simp only [substE, hxB, b2, Bool.false_eq_true, reduceIte, Option.getD_none, Option.isSome_none] at hS
   have hna : (List.range (max a.length b.length)).all (fun i => isB (cmpE a b i)) = false := by
    rw [List.all_eq_false]
    exact ⟨j, List.mem_range.2 hjN, by rw [hyB]; simp⟩
   rw [hna]
   simp only [Bool.false_eq_true, reduceIte, Option.getD_none, Option.isSome_none]
   repeat (first
    | refine RunS.any (by rfl) (by simp only [smEval, Nat.reduceAdd, Nat.reduceMul, Nat.reduceSub, Nat.reduceBEq, Nat.reduceEqDiff, Nat.reduceLeDiff, Nat.reduceLT, Nat.reduceMod, reduceIte, Int.reduceLE, Int.reduceLT, Int.reduceToNat, Nat.reducePow, ty3, ty4, ty9, ty22, ty25, ty28, ty39, ty122]; try rfl) (by rfl) (by simp only [smPut, Nat.reduceBEq, reduceIte]; exact ⟨rfl, rfl⟩) ?_
    | refine RunS.callQ (by rfl) rfl (by simp only [smArg, Nat.reduceBEq, reduceIte]; try rfl) (by first | exact hS) rfl (by rfl) (by rfl) ?_
    | refine RunS.skip (by rfl) (by simp only [smPut, Nat.reduceBEq, reduceIte]; try rfl) ?_
    | refine W.seq ?_ | refine W.block ?_ | refine W.regionK (by decide) fun N hN => ?_
    | (refine RunS.nil (hN _ _ _ ?_); clear hN N; simp only [smLen, Nat.reduceAdd, Nat.reduceMul, reduceIte, Nat.reduceEqDiff])
    | ((first | refine W.exit ?_ | refine W.ret ?_ | refine W.skip ?_); try simp only [smLen, reduceIte, Nat.reduceEqDiff])
    | refine W.condF (by rfl) ?_ | refine W.condT (by rfl) ?_)
   refine Fin.pureS Wk.refl (xs := ?_) ?_ rfl ?_ ?_
   rotate_left
   ·simp only [smEval, Nat.reduceAdd, Nat.reduceMul, Nat.reduceSub, Nat.reduceBEq, Nat.reduceEqDiff, Nat.reduceLeDiff, Nat.reduceLT, Nat.reduceMod, reduceIte, Int.reduceLE, Int.reduceLT, Int.reduceToNat, Nat.reducePow, ty3, ty4, ty9, ty22, ty25, ty28, ty39, ty122, resA]; try rfl
   ·rfl
   ·exact sub_tup2 (sub_nil 4) (Sub.refl _)
  ·rw [hyB] at hS
   simp only [reduceIte, Option.getD_some, Option.isSome_some] at hS
   obtain ⟨y, hyd⟩ : ∃ y, y = cmpE a b j := ⟨_, rfl⟩
   rw [← hyd] at hS hyB
   repeat (first | refine W.seq ?_ | refine W.block ?_)
   refine W.regionK (by decide) fun N hN => ?_
   repeat (first
    | refine RunS.any (by rfl) (by simp only [smEval, Nat.reduceAdd, Nat.reduceMul, Nat.reduceSub, Nat.reduceBEq, Nat.reduceEqDiff, Nat.reduceLeDiff, Nat.reduceLT, Nat.reduceMod, reduceIte, Int.reduceLE, Int.reduceLT, Int.reduceToNat, Nat.reducePow, ty3, ty4, ty9, ty22, ty25, ty28, ty39, ty122]; try rfl) (by rfl) (by simp only [smPut, Nat.reduceBEq, reduceIte]; exact ⟨rfl, rfl⟩) ?_
    | refine RunS.skip (by rfl) (by simp only [smPut, Nat.reduceBEq, reduceIte]; try rfl) ?_)
   refine RunS.callP rfl (by rfl) (hS) rfl (by simp only [smArg, Nat.reduceBEq, reduceIte]; try rfl) (by rfl) (by rfl) ?_
   repeat (first
    | refine RunS.any (by rfl) (by simp only [smEval, Nat.reduceAdd, Nat.reduceMul, Nat.reduceSub, Nat.reduceBEq, Nat.reduceEqDiff, Nat.reduceLeDiff, Nat.reduceLT, Nat.reduceMod, reduceIte, Int.reduceLE, Int.reduceLT, Int.reduceToNat, Nat.reducePow, ty3, ty4, ty9, ty22, ty25, ty28, ty39, ty122]; try rfl) (by rfl) (by simp only [smPut, Nat.reduceBEq, reduceIte]; exact ⟨rfl, rfl⟩) ?_
    | refine RunS.skip (by rfl) (by simp only [smPut, Nat.reduceBEq, reduceIte]; try rfl) ?_)
   refine RunS.nil (hN _ _ _ ?_)
   clear hN N
   simp only [smLen, Nat.reduceAdd, Nat.reduceMul, reduceIte, Nat.reduceEqDiff]
   repeat (first | refine W.seq ?_ | refine W.block ?_)
   refine W.regionK (by decide) fun N hN => ?_
   repeat (first
    | refine RunS.any (by rfl) (by simp only [smEval, Nat.reduceAdd, Nat.reduceMul, Nat.reduceSub, Nat.reduceBEq, Nat.reduceEqDiff, Nat.reduceLeDiff, Nat.reduceLT, Nat.reduceMod, reduceIte, Int.reduceLE, Int.reduceLT, Int.reduceToNat, Nat.reducePow, ty3, ty4, ty9, ty22, ty25, ty28, ty39, ty122]; try rfl) (by rfl) (by simp only [smPut, Nat.reduceBEq, reduceIte]; exact ⟨rfl, rfl⟩) ?_
    | refine RunS.skip (by rfl) (by simp only [smPut, Nat.reduceBEq, reduceIte]; try rfl) ?_)
   refine RunS.nil (hN _ _ _ ?_)
   clear hN N
   simp only [smLen, Nat.reduceAdd, Nat.reduceMul, reduceIte, Nat.reduceEqDiff]
   refine W.condF (by rfl) ?_
   first | refine W.exit ?_ | refine W.ret ?_ | refine W.skip ?_
   try simp only [smLen, reduceIte, Nat.reduceEqDiff]
   refine W.mid (fun T H nx => Wk 74 0 T H nx [(0, tsA a), (1, tsA b), (8, .one (.row 64 j)), (9, vI j), (11, .one (.ptr 116 0))] [(64, .row 25 4 (os.map treeC)), (116, .box 25 (cA (cmpO a b j)))] 200) ?_ ?_
   ·have hcO : cmpO a b j = if y.k = 1 ∧ y.n = j then Tm.zero else y := by
     unfold cmpO
     rw [← hyd]
     by_cases h : y.k = 1 ∧ y.n = j
     ·have := okB_va (isB_iff.1 hyB).1 h.1
      rw [h.2] at this
      rw [if_pos h, if_pos (sameB_iff.2 this)]
     ·rw [if_neg h, if_neg]
      intro h2
      have := sameB_iff.1 h2
      exact h ⟨by rw [this]; rfl, by rw [this]; rfl⟩
    by_cases hk : y.k = 1
    ·have dk : decide (y.k = 1) = true := by simpa using hk
     by_cases hn : y.n = j
     ·have dn : decide (y.n = (j : Int)) = true := by simpa using hn
      rw [show cmpO a b j = Tm.zero from hcO.trans (if_pos ⟨hk, hn⟩)]
      repeat (first
       | refine RunS.any (by rfl) (by simp only [smEval, Nat.reduceAdd, Nat.reduceMul, Nat.reduceSub, Nat.reduceBEq, Nat.reduceEqDiff, Nat.reduceLeDiff, Nat.reduceLT, Nat.reduceMod, reduceIte, Int.reduceLE, Int.reduceLT, Int.reduceToNat, Nat.reducePow, ty3, ty4, ty9, ty22, ty25, ty28, ty39, ty122, dk, dn]; try rfl) (by rfl) (by simp only [smPut, Nat.reduceBEq, reduceIte]; exact ⟨rfl, rfl⟩) ?_
       | refine RunS.skip (by rfl) (by simp only [smPut, Nat.reduceBEq, reduceIte]; try rfl) ?_
       | refine W.seq ?_ | refine W.block ?_ | refine W.regionK (by decide) fun N hN => ?_
       | (refine RunS.nil (hN _ _ _ ?_); clear hN N; simp only [smLen, Nat.reduceAdd, Nat.reduceMul, reduceIte, Nat.reduceEqDiff])
       | ((first | refine W.exit ?_ | refine W.ret ?_ | refine W.skip ?_); try simp only [smLen, reduceIte, Nat.reduceEqDiff])
       | refine W.condF (by rfl) ?_ | refine W.condT (by rfl) ?_)
      refine Wk.trans (Wk.boxSub 116 25 zA (cA Tm.zero) rfl rfl rc_zero) ?_
      simp only [put, Nat.reduceBEq, Bool.false_eq_true, reduceIte]
      refine Wk.keep [] (by rfl) ?_ ?_ <;> simp only [smKeep, Nat.reduceBEq, Nat.reduceLT, reduceIte]
     ·have dn : decide (y.n = (j : Int)) = false := by simpa using hn
      rw [show cmpO a b j = y from hcO.trans (if_neg (fun h => hn h.2))]
      repeat (first
       | refine RunS.any (by rfl) (by simp only [smEval, Nat.reduceAdd, Nat.reduceMul, Nat.reduceSub, Nat.reduceBEq, Nat.reduceEqDiff, Nat.reduceLeDiff, Nat.reduceLT, Nat.reduceMod, reduceIte, Int.reduceLE, Int.reduceLT, Int.reduceToNat, Nat.reducePow, ty3, ty4, ty9, ty22, ty25, ty28, ty39, ty122, dk, dn]; try rfl) (by rfl) (by simp only [smPut, Nat.reduceBEq, reduceIte]; exact ⟨rfl, rfl⟩) ?_
       | refine RunS.skip (by rfl) (by simp only [smPut, Nat.reduceBEq, reduceIte]; try rfl) ?_
       | refine W.seq ?_ | refine W.block ?_ | refine W.regionK (by decide) fun N hN => ?_
       | (refine RunS.nil (hN _ _ _ ?_); clear hN N; simp only [smLen, Nat.reduceAdd, Nat.reduceMul, reduceIte, Nat.reduceEqDiff])
       | ((first | refine W.exit ?_ | refine W.ret ?_ | refine W.skip ?_); try simp only [smLen, reduceIte, Nat.reduceEqDiff])
       | refine W.condF (by rfl) ?_ | refine W.condT (by rfl) ?_)
      refine Wk.keep [] (by rfl) ?_ ?_ <;> simp only [smKeep, Nat.reduceBEq, Nat.reduceLT, reduceIte]
    ·have dk : decide (y.k = 1) = false := by simpa using hk
     rw [show cmpO a b j = y from hcO.trans (if_neg (fun h => hk h.1))]
     repeat (first
      | refine RunS.any (by rfl) (by simp only [smEval, Nat.reduceAdd, Nat.reduceMul, Nat.reduceSub, Nat.reduceBEq, Nat.reduceEqDiff, Nat.reduceLeDiff, Nat.reduceLT, Nat.reduceMod, reduceIte, Int.reduceLE, Int.reduceLT, Int.reduceToNat, Nat.reducePow, ty3, ty4, ty9, ty22, ty25, ty28, ty39, ty122, dk]; try rfl) (by rfl) (by simp only [smPut, Nat.reduceBEq, reduceIte]; exact ⟨rfl, rfl⟩) ?_
      | refine RunS.skip (by rfl) (by simp only [smPut, Nat.reduceBEq, reduceIte]; try rfl) ?_
      | refine W.seq ?_ | refine W.block ?_ | refine W.regionK (by decide) fun N hN => ?_
      | (refine RunS.nil (hN _ _ _ ?_); clear hN N; simp only [smLen, Nat.reduceAdd, Nat.reduceMul, reduceIte, Nat.reduceEqDiff])
      | ((first | refine W.exit ?_ | refine W.ret ?_ | refine W.skip ?_); try simp only [smLen, reduceIte, Nat.reduceEqDiff])
      | refine W.condF (by rfl) ?_ | refine W.condT (by rfl) ?_)
     refine Wk.keep [] (by rfl) ?_ ?_ <;> simp only [smKeep, Nat.reduceBEq, Nat.reduceLT, reduceIte]
   intro T H nx hw
   refine W.to ?_ hw
   clear hw T H nx
   have hb1 : j + 1 ≤ 9223372036854775807 := by omega
   have hb2 : (j + 1) * 56 ≤ 140737488355328 := by omega
   have hw1 : IntKind.i64.wrap ((j : Int) + 1) = ((j + 1 : Nat) : Int) := wrap_i64 (by omega) (by omega)
   repeat (first
    | refine RunS.any (by rfl) (by simp only [smEval, Nat.reduceAdd, Nat.reduceMul, Nat.reduceSub, Nat.reduceBEq, Nat.reduceEqDiff, Nat.reduceLeDiff, Nat.reduceLT, Nat.reduceMod, reduceIte, Int.reduceLE, Int.reduceLT, Int.reduceToNat, Nat.reducePow, ty3, ty4, ty9, ty22, ty25, ty28, ty39, ty122, treeC_eq, hol, hb1, hb2, hw1]; try rfl) (by rfl) (by simp only [smPut, Nat.reduceBEq, reduceIte]; exact ⟨rfl, rfl⟩) ?_
    | refine RunS.skip (by rfl) (by simp only [smPut, Nat.reduceBEq, reduceIte]; try rfl) ?_
    | refine W.seq ?_ | refine W.block ?_ | refine W.regionK (by decide) fun N hN => ?_
    | (refine RunS.nil (hN _ _ _ ?_); clear hN N; simp only [smLen, Nat.reduceAdd, Nat.reduceMul, reduceIte, Nat.reduceEqDiff])
    | ((first | refine W.exit ?_ | refine W.ret ?_ | refine W.skip ?_); try simp only [smLen, reduceIte, Nat.reduceEqDiff])
    | refine W.condF (by rfl) ?_ | refine W.condT (by rfl) ?_)
   refine ⟨j + 1, ⟨by omega, fun i hi => ?_⟩, by omega, ?_⟩
   ·by_cases e : i = j
    ·rw [e, ← hyd]; exact hyB
    ·exact hall i (by omega)
   ·rw [List.range_succ, List.map_append, ← ho]
    refine Wk.keep [] (by rfl) ?_ ?_ <;> simp only [smKeep, Nat.reduceBEq, Nat.reduceLT, reduceIte, treeC_eq, List.map_append, List.map_cons, List.map_nil]
 ·have hjN : j = max a.length b.length := by split at hge <;> omega
  have hya : (List.range (max a.length b.length)).all (fun i => isB (cmpE a b i)) = true := by
   rw [List.all_eq_true]
   exact fun i hi => hall i (by have := List.mem_range.1 hi; omega)
  rw [hya]
  simp only [reduceIte, Option.getD_some, Option.isSome_some]
  rw [← hjN, ← ho]
  repeat (first
   | refine RunS.any (by rfl) (by simp only [smEval, Nat.reduceAdd, Nat.reduceMul, Nat.reduceSub, Nat.reduceBEq, Nat.reduceEqDiff, Nat.reduceLeDiff, Nat.reduceLT, Nat.reduceMod, reduceIte, Int.reduceLE, Int.reduceLT, Int.reduceToNat, Nat.reducePow, ty3, ty4, ty9, ty22, ty25, ty28, ty39, ty122]; try rfl) (by rfl) (by simp only [smPut, Nat.reduceBEq, reduceIte]; exact ⟨rfl, rfl⟩) ?_
   | refine RunS.skip (by rfl) (by simp only [smPut, Nat.reduceBEq, reduceIte]; try rfl) ?_
   | refine W.seq ?_ | refine W.block ?_ | refine W.regionK (by decide) fun N hN => ?_
   | (refine RunS.nil (hN _ _ _ ?_); clear hN N; simp only [smLen, Nat.reduceAdd, Nat.reduceMul, reduceIte, Nat.reduceEqDiff])
   | ((first | refine W.exit ?_ | refine W.ret ?_ | refine W.skip ?_); try simp only [smLen, reduceIte, Nat.reduceEqDiff])
   | refine W.condF (by rfl) ?_ | refine W.condT (by rfl) ?_)
  refine Fin.pureS (T' := [(4, .one (.f (tsF os))), (5, vI 0)]) (H' := []) (nx' := 1000) ?_ (xs := ?_) ?_ rfl ?_ ?_
  ·refine Wk.keep [64] (by rfl) ?_ ?_ <;> simp only [smKeep, Nat.reduceBEq, Nat.reduceLT, reduceIte, hol]
  rotate_left
  ·simp only [smEval, Nat.reduceAdd, Nat.reduceMul, Nat.reduceSub, Nat.reduceBEq, Nat.reduceEqDiff, Nat.reduceLeDiff, Nat.reduceLT, Nat.reduceMod, reduceIte, Int.reduceLE, Int.reduceLT, Int.reduceToNat, Nat.reducePow, ty3, ty4, ty9, ty22, ty25, ty28, ty39, ty122, resA, hol]; try rfl
  ·rfl
  ·exact Sub.refl _
end Go.Proofs.Ytfhgknmkpegpbaa
set_option linter.unusedVariables false
set_option linter.unusedSimpArgs false
namespace Go.Proofs.Ytfhgknmkpegpbaa
open Go.RowKit
def shT (n : Int) (t : Tm) : Tm := t.sub fun v => Tm.va (wrap64 (v + n))
theorem sh_bd {n : Int} {t : Tm} (hs : shB n t = true) {v : Int} (hv : t.has v) (ht : t.okB = true) : 0 ≤ v + n ∧ v + n < 100000 ∧ wrap64 (v + n) = v + n := by
 obtain ⟨y, hy, hk, rfl⟩ := hv
 have h1 := shB_iff.1 hs y hy
 have h2 := var_bd (okB_pre t ht y hy) hk
 unfold shBad at h1
 have h3 : ¬(n < -y.n ∨ 100000 - y.n ≤ n) := fun h => h1 ⟨hk, h⟩
 refine ⟨by omega, by omega, ?_⟩
 unfold wrap64
 omega
theorem shift_law {n : Int} {t : Tm} (ht : isB t = true) (hs : shB n t = true) : repT (shF n) t = some (shT n t) := by
 have hto := (isB_iff.1 ht).1
 have h1 : sgF (shF n) = fun v => Tm.va (wrap64 (v + n)) := rfl
 rw [repT_eq _ hto, h1, if_pos]
 ·rfl
 ·exact sub_isB_ren ht fun v hv => ⟨v + n, (sh_bd hs hv hto).1, (sh_bd hs hv hto).2.1, by rw [(sh_bd hs hv hto).2.2]⟩
end Go.Proofs.Ytfhgknmkpegpbaa
set_option linter.unusedVariables false
set_option linter.unusedSimpArgs false
namespace Go.Proofs.Ytfhgknmkpegpbaa
theorem shB_node (n : Int) (t : Tm) : shB n t = true ↔ ¬ shBad n t ∧ ∀ c ∈ t.l, shB n c = true := by
 rw [shB_iff, Tm.pre_eq]
 constructor
 ·intro h
  exact ⟨h t (List.mem_cons_self ..), fun c hc => shB_iff.2 fun y hy => h y (List.mem_cons_of_mem _ (mem_pres.2 ⟨c, hc, hy⟩))⟩
 ·rintro ⟨h, k⟩ y hy
  rcases List.mem_cons.1 hy with rfl | hy
  ·exact h
  ·obtain ⟨x, hx, hy⟩ := mem_pres.1 hy
   exact shB_iff.1 (k x hx) y hy
def shN (n : Int) (t : Tm) : Int := if t.k = 1 then t.n + n else t.n
theorem shT_node {n : Int} {t : Tm} (hok : t.okB = true) (hs : ¬ shBad n t) : shT n t = .mk t.k (shN n t) t.s (t.l.map (shT n)) := by
 unfold shN
 by_cases hk : t.k = 1
 ·have h := okB_va hok hk
  have hb := var_bd hok hk
  unfold shBad at hs
  have h3 : ¬(n < -t.n ∨ 100000 - t.n ≤ n) := fun h => hs ⟨hk, h⟩
  obtain ⟨m, hm⟩ : ∃ m, m = t.n := ⟨_, rfl⟩
  rw [← hm] at h hb h3 ⊢
  subst h
  rw [if_pos hk]
  have : RowKit.wrap64 (m + n) = m + n := by unfold RowKit.wrap64; omega
  show Tm.va (RowKit.wrap64 (m + n)) = .mk 1 (m + n) ⟨#[]⟩ []
  rw [this]; rfl
 ·rw [if_neg hk]
  cases t with
  | mk k m s l =>
   unfold shT
   rw [Tm.sub, if_neg (show ¬ k = 1 from hk), Tm.subs_map]
   rfl
end Go.Proofs.Ytfhgknmkpegpbaa
set_option linter.unusedVariables false
set_option linter.unusedSimpArgs false
namespace Go.Proofs.Ytfhgknmkpegpbaa
open Go Go.Abs Go.Proofs Go.RowKit
set_option maxRecDepth 100000 in
set_option maxHeartbeats 4000000 in
theorem shifted_ok (n : Int) (t : Tm) : t.okB = true → t.size ≤ 1000000 → ACall Try.prog 100 [tA t, vI n] [] (.tup [tA (if shB n t = true then shT n t else t), vB (shB n t)]) [] := by
 induction t using Tm.ind with
 | h t ih =>
 intro hok hsz
 by_cases bad : shBad n t
 ·have hf : shB n t = false := by
   cases h : shB n t
   ·rfl
   ·exact absurd bad ((shB_node n t).1 h).1
  rw [hf]
  obtain ⟨hk, hb⟩ := bad
  have hv := var_bd hok hk
  have dk : decide (t.k = 1) = true := by simpa using hk
  by_cases c1 : 100000 < n
  ·have d1 : decide (100000 < n) = true := by simpa using c1
   refine acall_of Try.func100 (by decide) rfl Try.results100 (by rw [Try.ntmps100]; simp) (by simp) ?_
   rw [Try.ntmps100]
   simp only [enumL, List.length_nil, List.length_cons, Nat.reduceAdd]
   repeat (first
    | refine RunS.any (by rfl) (by simp only [smEval, Nat.reduceAdd, Nat.reduceMul, Nat.reduceSub, Nat.reduceBEq, Nat.reduceEqDiff, Nat.reduceLeDiff, Nat.reduceLT, Nat.reduceMod, reduceIte, Int.reduceLE, Int.reduceLT, Int.reduceToNat, Nat.reducePow, ty3, ty4, ty9, ty22, ty25, ty28, ty39, ty122, dk, d1]; try rfl) (by rfl) (by simp only [smPut, Nat.reduceBEq, reduceIte]; exact ⟨rfl, rfl⟩) ?_
    | refine RunS.skip (by rfl) (by simp only [smPut, Nat.reduceBEq, reduceIte]; try rfl) ?_
    | refine W.seq ?_ | refine W.block ?_ | refine W.regionK (by decide) fun N hN => ?_
    | (refine RunS.nil (hN _ _ _ ?_); clear hN N; simp only [smLen, Nat.reduceAdd, Nat.reduceMul, reduceIte, Nat.reduceEqDiff])
    | ((first | refine W.exit ?_ | refine W.ret ?_ | refine W.skip ?_); try simp only [smLen, reduceIte, Nat.reduceEqDiff])
    | refine W.condF (by rfl) ?_ | refine W.condT (by rfl) ?_)
   refine Fin.pureS Wk.refl (xs := ?_) ?_ rfl ?_ ?_
   rotate_left
   ·simp only [smEval, Nat.reduceAdd, Nat.reduceMul, Nat.reduceSub, Nat.reduceBEq, Nat.reduceEqDiff, Nat.reduceLeDiff, Nat.reduceLT, Nat.reduceMod, reduceIte, Int.reduceLE, Int.reduceLT, Int.reduceToNat, Nat.reducePow, ty3, ty4, ty9, ty22, ty25, ty28, ty39, ty122, resA]; try rfl
   ·rfl
   ·exact Sub.refl _
  have d1 : decide (100000 < n) = false := by simpa using c1
  by_cases c2 : n < -100000
  ·have d2 : decide (n < -100000) = true := by simpa using c2
   refine acall_of Try.func100 (by decide) rfl Try.results100 (by rw [Try.ntmps100]; simp) (by simp) ?_
   rw [Try.ntmps100]
   simp only [enumL, List.length_nil, List.length_cons, Nat.reduceAdd]
   repeat (first
    | refine RunS.any (by rfl) (by simp only [smEval, Nat.reduceAdd, Nat.reduceMul, Nat.reduceSub, Nat.reduceBEq, Nat.reduceEqDiff, Nat.reduceLeDiff, Nat.reduceLT, Nat.reduceMod, reduceIte, Int.reduceLE, Int.reduceLT, Int.reduceToNat, Nat.reducePow, ty3, ty4, ty9, ty22, ty25, ty28, ty39, ty122, dk, d1, d2]; try rfl) (by rfl) (by simp only [smPut, Nat.reduceBEq, reduceIte]; exact ⟨rfl, rfl⟩) ?_
    | refine RunS.skip (by rfl) (by simp only [smPut, Nat.reduceBEq, reduceIte]; try rfl) ?_
    | refine W.seq ?_ | refine W.block ?_ | refine W.regionK (by decide) fun N hN => ?_
    | (refine RunS.nil (hN _ _ _ ?_); clear hN N; simp only [smLen, Nat.reduceAdd, Nat.reduceMul, reduceIte, Nat.reduceEqDiff])
    | ((first | refine W.exit ?_ | refine W.ret ?_ | refine W.skip ?_); try simp only [smLen, reduceIte, Nat.reduceEqDiff])
    | refine W.condF (by rfl) ?_ | refine W.condT (by rfl) ?_)
   refine Fin.pureS Wk.refl (xs := ?_) ?_ rfl ?_ ?_
   rotate_left
   ·simp only [smEval, Nat.reduceAdd, Nat.reduceMul, Nat.reduceSub, Nat.reduceBEq, Nat.reduceEqDiff, Nat.reduceLeDiff, Nat.reduceLT, Nat.reduceMod, reduceIte, Int.reduceLE, Int.reduceLT, Int.reduceToNat, Nat.reducePow, ty3, ty4, ty9, ty22, ty25, ty28, ty39, ty122, resA]; try rfl
   ·rfl
   ·exact Sub.refl _
  have d2 : decide (n < -100000) = false := by simpa using c2
  have hw : IntKind.i64.wrap (t.n + n) = t.n + n := wrap_i64 (by omega) (by omega)
  by_cases c3 : t.n + n < 0
  ·have d3 : decide (t.n + n < 0) = true := by simpa using c3
   refine acall_of Try.func100 (by decide) rfl Try.results100 (by rw [Try.ntmps100]; simp) (by simp) ?_
   rw [Try.ntmps100]
   simp only [enumL, List.length_nil, List.length_cons, Nat.reduceAdd]
   repeat (first
    | refine RunS.any (by rfl) (by simp only [smEval, Nat.reduceAdd, Nat.reduceMul, Nat.reduceSub, Nat.reduceBEq, Nat.reduceEqDiff, Nat.reduceLeDiff, Nat.reduceLT, Nat.reduceMod, reduceIte, Int.reduceLE, Int.reduceLT, Int.reduceToNat, Nat.reducePow, ty3, ty4, ty9, ty22, ty25, ty28, ty39, ty122, dk, d1, d2, hw, d3]; try rfl) (by rfl) (by simp only [smPut, Nat.reduceBEq, reduceIte]; exact ⟨rfl, rfl⟩) ?_
    | refine RunS.skip (by rfl) (by simp only [smPut, Nat.reduceBEq, reduceIte]; try rfl) ?_
    | refine W.seq ?_ | refine W.block ?_ | refine W.regionK (by decide) fun N hN => ?_
    | (refine RunS.nil (hN _ _ _ ?_); clear hN N; simp only [smLen, Nat.reduceAdd, Nat.reduceMul, reduceIte, Nat.reduceEqDiff])
    | ((first | refine W.exit ?_ | refine W.ret ?_ | refine W.skip ?_); try simp only [smLen, reduceIte, Nat.reduceEqDiff])
    | refine W.condF (by rfl) ?_ | refine W.condT (by rfl) ?_)
   refine Fin.pureS Wk.refl (xs := ?_) ?_ rfl ?_ ?_
   rotate_left
   ·simp only [smEval, Nat.reduceAdd, Nat.reduceMul, Nat.reduceSub, Nat.reduceBEq, Nat.reduceEqDiff, Nat.reduceLeDiff, Nat.reduceLT, Nat.reduceMod, reduceIte, Int.reduceLE, Int.reduceLT, Int.reduceToNat, Nat.reducePow, ty3, ty4, ty9, ty22, ty25, ty28, ty39, ty122, resA]; try rfl
   ·rfl
   ·exact Sub.refl _
  have d3 : decide (t.n + n < 0) = false := by simpa using c3
  have d4 : decide (100000 ≤ t.n + n) = true := by simp; omega
  refine acall_of Try.func100 (by decide) rfl Try.results100 (by rw [Try.ntmps100]; simp) (by simp) ?_
  rw [Try.ntmps100]
  simp only [enumL, List.length_nil, List.length_cons, Nat.reduceAdd]
  repeat (first
   | refine RunS.any (by rfl) (by simp only [smEval, Nat.reduceAdd, Nat.reduceMul, Nat.reduceSub, Nat.reduceBEq, Nat.reduceEqDiff, Nat.reduceLeDiff, Nat.reduceLT, Nat.reduceMod, reduceIte, Int.reduceLE, Int.reduceLT, Int.reduceToNat, Nat.reducePow, ty3, ty4, ty9, ty22, ty25, ty28, ty39, ty122, dk, d1, d2, hw, d3, d4]; try rfl) (by rfl) (by simp only [smPut, Nat.reduceBEq, reduceIte]; exact ⟨rfl, rfl⟩) ?_
   | refine RunS.skip (by rfl) (by simp only [smPut, Nat.reduceBEq, reduceIte]; try rfl) ?_
   | refine W.seq ?_ | refine W.block ?_ | refine W.regionK (by decide) fun N hN => ?_
   | (refine RunS.nil (hN _ _ _ ?_); clear hN N; simp only [smLen, Nat.reduceAdd, Nat.reduceMul, reduceIte, Nat.reduceEqDiff])
   | ((first | refine W.exit ?_ | refine W.ret ?_ | refine W.skip ?_); try simp only [smLen, reduceIte, Nat.reduceEqDiff])
   | refine W.condF (by rfl) ?_ | refine W.condT (by rfl) ?_)
  refine Fin.pureS Wk.refl (xs := ?_) ?_ rfl ?_ ?_
  rotate_left
  ·simp only [smEval, Nat.reduceAdd, Nat.reduceMul, Nat.reduceSub, Nat.reduceBEq, Nat.reduceEqDiff, Nat.reduceLeDiff, Nat.reduceLT, Nat.reduceMod, reduceIte, Int.reduceLE, Int.reduceLT, Int.reduceToNat, Nat.reducePow, ty3, ty4, ty9, ty22, ty25, ty28, ty39, ty122, resA]; try rfl
  ·rfl
  ·exact Sub.refl _
 have hw : t.k = 1 → IntKind.i64.wrap (t.n + n) = t.n + n ∧ ¬ 100000 < n ∧ ¬ n < -100000 ∧ ¬ t.n + n < 0 ∧ ¬ 100000 ≤ t.n + n := fun hk => by
  have hv := var_bd hok hk
  unfold shBad at bad
  have h3 : ¬(n < -t.n ∨ 100000 - t.n ≤ n) := fun h => bad ⟨hk, h⟩
  exact ⟨wrap_i64 (by omega) (by omega), by omega, by omega, by omega, by omega⟩
 refine acall_of Try.func100 (by decide) rfl Try.results100 (by rw [Try.ntmps100]; simp) (by simp) ?_
 rw [Try.ntmps100]
 simp only [enumL, List.length_nil, List.length_cons, Nat.reduceAdd]
 repeat (first | refine W.seq ?_ | refine W.block ?_)
 refine W.regionK (by decide) fun N hN => ?_
 repeat (first
  | refine RunS.any (by rfl) (by simp only [smEval, Nat.reduceAdd, Nat.reduceMul, Nat.reduceSub, Nat.reduceBEq, Nat.reduceEqDiff, Nat.reduceLeDiff, Nat.reduceLT, Nat.reduceMod, reduceIte, Int.reduceLE, Int.reduceLT, Int.reduceToNat, Nat.reducePow, ty3, ty4, ty9, ty22, ty25, ty28, ty39, ty122]; try rfl) (by rfl) (by simp only [smPut, Nat.reduceBEq, reduceIte]; exact ⟨rfl, rfl⟩) ?_
  | refine RunS.skip (by rfl) (by simp only [smPut, Nat.reduceBEq, reduceIte]; try rfl) ?_)
 refine RunS.nil (hN _ _ _ ?_)
 clear hN N
 simp only [smLen, Nat.reduceAdd, Nat.reduceMul, reduceIte, Nat.reduceEqDiff]
 repeat (first | refine W.seq ?_ | refine W.block ?_)
 refine W.regionK (by decide) fun N hN => ?_
 repeat (first
  | refine RunS.any (by rfl) (by simp only [smEval, Nat.reduceAdd, Nat.reduceMul, Nat.reduceSub, Nat.reduceBEq, Nat.reduceEqDiff, Nat.reduceLeDiff, Nat.reduceLT, Nat.reduceMod, reduceIte, Int.reduceLE, Int.reduceLT, Int.reduceToNat, Nat.reducePow, ty3, ty4, ty9, ty22, ty25, ty28, ty39, ty122]; try rfl) (by rfl) (by simp only [smPut, Nat.reduceBEq, reduceIte]; exact ⟨rfl, rfl⟩) ?_
  | refine RunS.skip (by rfl) (by simp only [smPut, Nat.reduceBEq, reduceIte]; try rfl) ?_)
 refine RunS.nil (hN _ _ _ ?_)
 clear hN N
 simp only [smLen, Nat.reduceAdd, Nat.reduceMul, reduceIte, Nat.reduceEqDiff]
 repeat (first | refine W.seq ?_ | refine W.block ?_)
 refine W.regionK (by decide) fun N hN => ?_
 repeat (first
  | refine RunS.any (by rfl) (by simp only [smEval, Nat.reduceAdd, Nat.reduceMul, Nat.reduceSub, Nat.reduceBEq, Nat.reduceEqDiff, Nat.reduceLeDiff, Nat.reduceLT, Nat.reduceMod, reduceIte, Int.reduceLE, Int.reduceLT, Int.reduceToNat, Nat.reducePow, ty3, ty4, ty9, ty22, ty25, ty28, ty39, ty122]; try rfl) (by rfl) (by simp only [smPut, Nat.reduceBEq, reduceIte]; exact ⟨rfl, rfl⟩) ?_
  | refine RunS.skip (by rfl) (by simp only [smPut, Nat.reduceBEq, reduceIte]; try rfl) ?_)
 refine RunS.nil (hN _ _ _ ?_)
 clear hN N
 simp only [smLen, Nat.reduceAdd, Nat.reduceMul, reduceIte, Nat.reduceEqDiff]
 refine W.mid (fun T H nx => Wk 68 0 T H nx [(1, vI n), (2, .one (.ptr 0 0)), (4, .one (.ptr 1 0)), (6, .one (.ptr 13 0))] [(0, .box 25 (cA t)), (1, .box 25 zA), (13, .box 25 [.f (.v (.int .i64 t.k)), .f (.v (.int .i64 (shN n t))), .f (.v (.string t.s)), .f (.v (.slice none 0 0))])] 14) ?_ ?_
 ·unfold shN
  by_cases hk : t.k = 1
  ·obtain ⟨hw, d1, d2, d3, d4⟩ := hw hk
   have dk : decide (t.k = 1) = true := by simpa using hk
   replace d1 : decide (100000 < n) = false := by simpa using d1
   replace d2 : decide (n < -100000) = false := by simpa using d2
   replace d3 : decide (t.n + n < 0) = false := by simpa using d3
   replace d4 : decide (100000 ≤ t.n + n) = false := by simpa using d4
   rw [if_pos hk]
   repeat (first
    | refine RunS.any (by rfl) (by simp only [smEval, Nat.reduceAdd, Nat.reduceMul, Nat.reduceSub, Nat.reduceBEq, Nat.reduceEqDiff, Nat.reduceLeDiff, Nat.reduceLT, Nat.reduceMod, reduceIte, Int.reduceLE, Int.reduceLT, Int.reduceToNat, Nat.reducePow, ty3, ty4, ty9, ty22, ty25, ty28, ty39, ty122, dk, d1, d2, hw, d3, d4]; try rfl) (by rfl) (by simp only [smPut, Nat.reduceBEq, reduceIte]; exact ⟨rfl, rfl⟩) ?_
    | refine RunS.skip (by rfl) (by simp only [smPut, Nat.reduceBEq, reduceIte]; try rfl) ?_
    | refine W.seq ?_ | refine W.block ?_ | refine W.regionK (by decide) fun N hN => ?_
    | (refine RunS.nil (hN _ _ _ ?_); clear hN N; simp only [smLen, Nat.reduceAdd, Nat.reduceMul, reduceIte, Nat.reduceEqDiff])
    | ((first | refine W.exit ?_ | refine W.ret ?_ | refine W.skip ?_); try simp only [smLen, reduceIte, Nat.reduceEqDiff])
    | refine W.condF (by rfl) ?_ | refine W.condT (by rfl) ?_)
   refine Wk.keep [] (by rfl) ?_ ?_ <;> simp only [smKeep, Nat.reduceBEq, Nat.reduceLT, reduceIte]
  ·have dk : decide (t.k = 1) = false := by simpa using hk
   rw [if_neg hk]
   repeat (first
    | refine RunS.any (by rfl) (by simp only [smEval, Nat.reduceAdd, Nat.reduceMul, Nat.reduceSub, Nat.reduceBEq, Nat.reduceEqDiff, Nat.reduceLeDiff, Nat.reduceLT, Nat.reduceMod, reduceIte, Int.reduceLE, Int.reduceLT, Int.reduceToNat, Nat.reducePow, ty3, ty4, ty9, ty22, ty25, ty28, ty39, ty122, dk]; try rfl) (by rfl) (by simp only [smPut, Nat.reduceBEq, reduceIte]; exact ⟨rfl, rfl⟩) ?_
    | refine RunS.skip (by rfl) (by simp only [smPut, Nat.reduceBEq, reduceIte]; try rfl) ?_
    | refine W.seq ?_ | refine W.block ?_ | refine W.regionK (by decide) fun N hN => ?_
    | (refine RunS.nil (hN _ _ _ ?_); clear hN N; simp only [smLen, Nat.reduceAdd, Nat.reduceMul, reduceIte, Nat.reduceEqDiff])
    | ((first | refine W.exit ?_ | refine W.ret ?_ | refine W.skip ?_); try simp only [smLen, reduceIte, Nat.reduceEqDiff])
    | refine W.condF (by rfl) ?_ | refine W.condT (by rfl) ?_)
   refine Wk.keep [] (by rfl) ?_ ?_ <;> simp only [smKeep, Nat.reduceBEq, Nat.reduceLT, reduceIte]
 intro T H nx hw'
 refine W.to ?_ hw'
 clear hw' T H nx
 repeat (first | refine W.seq ?_ | refine W.block ?_)
 refine W.regionK (by decide) fun N hN => ?_
 repeat (first
  | refine RunS.any (by rfl) (by simp only [smEval, Nat.reduceAdd, Nat.reduceMul, Nat.reduceSub, Nat.reduceBEq, Nat.reduceEqDiff, Nat.reduceLeDiff, Nat.reduceLT, Nat.reduceMod, reduceIte, Int.reduceLE, Int.reduceLT, Int.reduceToNat, Nat.reducePow, ty3, ty4, ty9, ty22, ty25, ty28, ty39, ty122]; try rfl) (by rfl) (by simp only [smPut, Nat.reduceBEq, reduceIte]; exact ⟨rfl, rfl⟩) ?_
  | refine RunS.skip (by rfl) (by simp only [smPut, Nat.reduceBEq, reduceIte]; try rfl) ?_)
 refine RunS.nil (hN _ _ _ ?_)
 clear hN N
 simp only [smLen, Nat.reduceAdd, Nat.reduceMul, reduceIte, Nat.reduceEqDiff]
 repeat (first | refine W.seq ?_ | refine W.block ?_)
 refine W.loop ?_
 refine WL.wk (Wk.nilB 13 25 3 25 4 _ rfl rfl rfl) ?_
 refine WL.ind (σ := Nat) (nx := 19) (fun j => j ≤ t.l.length ∧ ∀ c ∈ t.l.take j, shB n c = true) (fun j => t.l.length - j) (fun j => [(1, vI n), (2, .one (.ptr 0 0)), (4, .one (.ptr 1 0)), (6, .one (.ptr 13 0)), (7, vI j)])
  (fun j => [(0, .box 25 (cA t)), (1, .box 25 zA), (13, .box 25 [.f (.v (.int .i64 t.k)), .f (.v (.int .i64 (shN n t))), .f (.v (.string t.s)), .row 18 j]), (18, .row 25 4 (((t.l.take j).map (shT n)).map treeC))]) 0 ⟨Nat.zero_le _, by simp⟩ ?_ ?_
 ·simp only [put, Nat.reduceBEq, Bool.false_eq_true, reduceIte]
  refine Wk.keep [] (by rfl) ?_ ?_ <;> simp only [smKeep, Nat.reduceBEq, Nat.reduceLT, reduceIte, List.take_zero, List.map_nil]
  all_goals trivial
 rintro j ⟨hj, hall⟩
 obtain ⟨os, ho⟩ : ∃ o, o = (t.l.take j).map (shT n) := ⟨_, rfl⟩
 have hol : os.length = j := by rw [ho]; simp; omega
 rw [← ho]
 repeat (first
  | refine RunS.any (by rfl) (by simp only [smEval, Nat.reduceAdd, Nat.reduceMul, Nat.reduceSub, Nat.reduceBEq, Nat.reduceEqDiff, Nat.reduceLeDiff, Nat.reduceLT, Nat.reduceMod, reduceIte, Int.reduceLE, Int.reduceLT, Int.reduceToNat, Nat.reducePow, ty3, ty4, ty9, ty22, ty25, ty28, ty39, ty122]; try rfl) (by rfl) (by simp only [smPut, Nat.reduceBEq, reduceIte]; exact ⟨rfl, rfl⟩) ?_
  | refine RunS.skip (by rfl) (by simp only [smPut, Nat.reduceBEq, reduceIte]; try rfl) ?_
  | refine W.seq ?_ | refine W.block ?_ | refine W.regionK (by decide) fun N hN => ?_
  | (refine RunS.nil (hN _ _ _ ?_); clear hN N; simp only [smLen, Nat.reduceAdd, Nat.reduceMul, reduceIte, Nat.reduceEqDiff])
  | ((first | refine W.exit ?_ | refine W.ret ?_ | refine W.skip ?_); try simp only [smLen, reduceIte, Nat.reduceEqDiff])
  | refine W.condF (by rfl) ?_ | refine W.condT (by rfl) ?_)
 refine W.condD (by rfl) (fun hlt => ?_) (fun hge => ?_)
 ·obtain ⟨x, hx⟩ : ∃ x, t.l[j]? = some x := ⟨_, List.getElem?_eq_getElem (by omega)⟩
  have hxm := List.mem_of_getElem? hx
  have htk : t.l.take (j + 1) = t.l.take j ++ [x] := take_snoc hx
  have hsx := Tm.size_child hxm
  have hxok := (okB_parts hok).2 x hxm
  have hcall := ih x hxm hxok (by omega)
  cases hb : shB n x
  ·rw [hb] at hcall
   have hf : shB n t = false := by
    cases h : shB n t
    ·rfl
    ·rw [((shB_node n t).1 h).2 x hxm] at hb; cases hb
   rw [hf]
   repeat (first
    | refine RunS.any (by rfl) (by simp only [smEval, Nat.reduceAdd, Nat.reduceMul, Nat.reduceSub, Nat.reduceBEq, Nat.reduceEqDiff, Nat.reduceLeDiff, Nat.reduceLT, Nat.reduceMod, reduceIte, Int.reduceLE, Int.reduceLT, Int.reduceToNat, Nat.reducePow, ty3, ty4, ty9, ty22, ty25, ty28, ty39, ty122, hx, treeC_eq]; try rfl) (by rfl) (by simp only [smPut, Nat.reduceBEq, reduceIte]; exact ⟨rfl, rfl⟩) ?_
    | refine RunS.callQ (by rfl) rfl (by simp only [smArg, Nat.reduceBEq, reduceIte]; try rfl) (by first | exact hcall) rfl (by rfl) (by rfl) ?_
    | refine RunS.skip (by rfl) (by simp only [smPut, Nat.reduceBEq, reduceIte]; try rfl) ?_
    | refine W.seq ?_ | refine W.block ?_ | refine W.regionK (by decide) fun N hN => ?_
    | (refine RunS.nil (hN _ _ _ ?_); clear hN N; simp only [smLen, Nat.reduceAdd, Nat.reduceMul, reduceIte, Nat.reduceEqDiff])
    | ((first | refine W.exit ?_ | refine W.ret ?_ | refine W.skip ?_); try simp only [smLen, reduceIte, Nat.reduceEqDiff])
    | refine W.condF (by rfl) ?_ | refine W.condT (by rfl) ?_)
   refine Fin.pureS Wk.refl (xs := ?_) ?_ rfl ?_ ?_
   rotate_left
   ·simp only [smEval, Nat.reduceAdd, Nat.reduceMul, Nat.reduceSub, Nat.reduceBEq, Nat.reduceEqDiff, Nat.reduceLeDiff, Nat.reduceLT, Nat.reduceMod, reduceIte, Int.reduceLE, Int.reduceLT, Int.reduceToNat, Nat.reducePow, ty3, ty4, ty9, ty22, ty25, ty28, ty39, ty122, resA]; try rfl
   ·rfl
   ·exact Sub.refl _
  ·rw [hb, if_pos rfl] at hcall
   have hjz : j ≤ 1000000 := by have := len_le_sizes t.l; have := t.size_eq; omega
   have hb1 : j + 1 ≤ 9223372036854775807 := by omega
   have hb2 : (j + 1) * 56 ≤ 140737488355328 := by omega
   have hw1 : IntKind.i64.wrap ((j : Int) + 1) = ((j + 1 : Nat) : Int) := wrap_i64 (by omega) (by omega)
   repeat (first
    | refine RunS.any (by rfl) (by simp only [smEval, Nat.reduceAdd, Nat.reduceMul, Nat.reduceSub, Nat.reduceBEq, Nat.reduceEqDiff, Nat.reduceLeDiff, Nat.reduceLT, Nat.reduceMod, reduceIte, Int.reduceLE, Int.reduceLT, Int.reduceToNat, Nat.reducePow, ty3, ty4, ty9, ty22, ty25, ty28, ty39, ty122, hx, treeC_eq, hol, hb1, hb2, hw1]; try rfl) (by rfl) (by simp only [smPut, Nat.reduceBEq, reduceIte]; exact ⟨rfl, rfl⟩) ?_
    | refine RunS.callQ (by rfl) rfl (by simp only [smArg, Nat.reduceBEq, reduceIte]; try rfl) (by first | exact hcall) rfl (by rfl) (by rfl) ?_
    | refine RunS.skip (by rfl) (by simp only [smPut, Nat.reduceBEq, reduceIte]; try rfl) ?_
    | refine W.seq ?_ | refine W.block ?_ | refine W.regionK (by decide) fun N hN => ?_
    | (refine RunS.nil (hN _ _ _ ?_); clear hN N; simp only [smLen, Nat.reduceAdd, Nat.reduceMul, reduceIte, Nat.reduceEqDiff])
    | ((first | refine W.exit ?_ | refine W.ret ?_ | refine W.skip ?_); try simp only [smLen, reduceIte, Nat.reduceEqDiff])
    | refine W.condF (by rfl) ?_ | refine W.condT (by rfl) ?_)
   refine ⟨j + 1, ⟨by omega, fun c hc => ?_⟩, by omega, ?_⟩
   ·rw [htk] at hc
    rcases List.mem_append.1 hc with hc | hc
    ·exact hall c hc
    ·rw [List.mem_singleton.1 hc]; exact hb
   ·rw [htk, List.map_append, ← ho]
    refine Wk.keep [] (by rfl) ?_ ?_ <;> simp only [smKeep, Nat.reduceBEq, Nat.reduceLT, reduceIte, treeC_eq, List.map_append, List.map_cons, List.map_nil]
 ·have hje : j = t.l.length := by omega
  have hs : shB n t = true := (shB_node n t).2 ⟨bad, by rw [hje, List.take_length] at hall; exact hall⟩
  rw [hs, if_pos rfl, shT_node hok bad]
  rw [hje, List.take_length] at ho
  rw [← ho]
  repeat (first
   | refine RunS.any (by rfl) (by simp only [smEval, Nat.reduceAdd, Nat.reduceMul, Nat.reduceSub, Nat.reduceBEq, Nat.reduceEqDiff, Nat.reduceLeDiff, Nat.reduceLT, Nat.reduceMod, reduceIte, Int.reduceLE, Int.reduceLT, Int.reduceToNat, Nat.reducePow, ty3, ty4, ty9, ty22, ty25, ty28, ty39, ty122]; try rfl) (by rfl) (by simp only [smPut, Nat.reduceBEq, reduceIte]; exact ⟨rfl, rfl⟩) ?_
   | refine RunS.skip (by rfl) (by simp only [smPut, Nat.reduceBEq, reduceIte]; try rfl) ?_
   | refine W.seq ?_ | refine W.block ?_ | refine W.regionK (by decide) fun N hN => ?_
   | (refine RunS.nil (hN _ _ _ ?_); clear hN N; simp only [smLen, Nat.reduceAdd, Nat.reduceMul, reduceIte, Nat.reduceEqDiff])
   | ((first | refine W.exit ?_ | refine W.ret ?_ | refine W.skip ?_); try simp only [smLen, reduceIte, Nat.reduceEqDiff])
   | refine W.condF (by rfl) ?_ | refine W.condT (by rfl) ?_)
  refine Fin.pureS (T' := [(4, .one (.ptr 1 0)), (5, vB true)]) (H' := [(1, .box 25 [.f (.v (.int .i64 t.k)), .f (.v (.int .i64 (shN n t))), .f (.v (.string t.s)), .f (tsF os)])]) (nx' := 14) ?_ (xs := ?_) ?_ rfl ?_ ?_
  ·refine Wk.keep [18] (by rfl) ?_ ?_ <;> simp only [smKeep, Nat.reduceBEq, Nat.reduceLT, reduceIte, hol]
  rotate_left
  ·simp only [smEval, Nat.reduceAdd, Nat.reduceMul, Nat.reduceSub, Nat.reduceBEq, Nat.reduceEqDiff, Nat.reduceLeDiff, Nat.reduceLT, Nat.reduceMod, reduceIte, Int.reduceLE, Int.reduceLT, Int.reduceToNat, Nat.reducePow, ty3, ty4, ty9, ty22, ty25, ty28, ty39, ty122, resA, hol]; try rfl
  ·rfl
  ·exact Sub.refl _
set_option maxRecDepth 100000 in
set_option maxHeartbeats 4000000 in
theorem refShift_ok (t : Tm) (n : Int) (hsz : t.size ≤ 1000000) : ACall Try.prog 55 [tA t, vI n] [] (tE (if isB t = true then (if shB n t = true then shT n t else Tm.zero) else Tm.zero) (if isB t = true then (if shB n t = true then 0 else 1) else 3)) [] := by
 have h1 := refCheck_ok t hsz
 have hd : decide (errT false ≠ 0) = true := rfl
 have hd' : decide (errT true ≠ 0) = false := rfl
 cases b1 : isB t
 ·rw [b1] at h1
  refine acall_of Try.func55 (by decide) rfl Try.results55 (by rw [Try.ntmps55]; simp) (by simp) ?_
  rw [Try.ntmps55]
  simp only [enumL, List.length_nil, List.length_cons, Nat.reduceAdd]
  repeat (first
   | refine RunS.any (by rfl) (by simp only [smEval, Nat.reduceAdd, Nat.reduceMul, Nat.reduceSub, Nat.reduceBEq, Nat.reduceEqDiff, Nat.reduceLeDiff, Nat.reduceLT, Nat.reduceMod, reduceIte, Int.reduceLE, Int.reduceLT, Int.reduceToNat, Nat.reducePow, ty3, ty4, ty9, ty22, ty25, ty28, ty39, ty122, hd]; try rfl) (by rfl) (by simp only [smPut, Nat.reduceBEq, reduceIte]; exact ⟨rfl, rfl⟩) ?_
   | refine RunS.callQ (by rfl) rfl (by simp only [smArg, Nat.reduceBEq, reduceIte]; try rfl) (by first | exact h1) rfl (by rfl) (by rfl) ?_
   | refine RunS.skip (by rfl) (by simp only [smPut, Nat.reduceBEq, reduceIte]; try rfl) ?_
   | refine W.seq ?_ | refine W.block ?_ | refine W.regionK (by decide) fun N hN => ?_
   | (refine RunS.nil (hN _ _ _ ?_); clear hN N; simp only [smLen, Nat.reduceAdd, Nat.reduceMul, reduceIte, Nat.reduceEqDiff])
   | ((first | refine W.exit ?_ | refine W.ret ?_ | refine W.skip ?_); try simp only [smLen, reduceIte, Nat.reduceEqDiff])
   | refine W.condF (by rfl) ?_ | refine W.condT (by rfl) ?_)
  refine Fin.pureS Wk.refl (xs := ?_) ?_ rfl ?_ ?_
  rotate_left
  ·simp only [smEval, Nat.reduceAdd, Nat.reduceMul, Nat.reduceSub, Nat.reduceBEq, Nat.reduceEqDiff, Nat.reduceLeDiff, Nat.reduceLT, Nat.reduceMod, reduceIte, Int.reduceLE, Int.reduceLT, Int.reduceToNat, Nat.reducePow, ty3, ty4, ty9, ty22, ty25, ty28, ty39, ty122, resA]; try rfl
  ·rfl
  ·simp only [outA, Bool.false_eq_true, reduceIte]; exact sub_tup2 sub_zero (Sub.refl _)
 ·rw [b1] at h1
  have h2 := shifted_ok n t (isB_iff.1 b1).1 hsz
  cases b2 : shB n t
  ·rw [b2, if_neg (by simp)] at h2
   refine acall_of Try.func55 (by decide) rfl Try.results55 (by rw [Try.ntmps55]; simp) (by simp) ?_
   rw [Try.ntmps55]
   simp only [enumL, List.length_nil, List.length_cons, Nat.reduceAdd]
   repeat (first
    | refine RunS.any (by rfl) (by simp only [smEval, Nat.reduceAdd, Nat.reduceMul, Nat.reduceSub, Nat.reduceBEq, Nat.reduceEqDiff, Nat.reduceLeDiff, Nat.reduceLT, Nat.reduceMod, reduceIte, Int.reduceLE, Int.reduceLT, Int.reduceToNat, Nat.reducePow, ty3, ty4, ty9, ty22, ty25, ty28, ty39, ty122, hd']; try rfl) (by rfl) (by simp only [smPut, Nat.reduceBEq, reduceIte]; exact ⟨rfl, rfl⟩) ?_
    | refine RunS.callQ (by rfl) rfl (by simp only [smArg, Nat.reduceBEq, reduceIte]; try rfl) (by first | exact h1 | exact h2) rfl (by rfl) (by rfl) ?_
    | refine RunS.skip (by rfl) (by simp only [smPut, Nat.reduceBEq, reduceIte]; try rfl) ?_
    | refine W.seq ?_ | refine W.block ?_ | refine W.regionK (by decide) fun N hN => ?_
    | (refine RunS.nil (hN _ _ _ ?_); clear hN N; simp only [smLen, Nat.reduceAdd, Nat.reduceMul, reduceIte, Nat.reduceEqDiff])
    | ((first | refine W.exit ?_ | refine W.ret ?_ | refine W.skip ?_); try simp only [smLen, reduceIte, Nat.reduceEqDiff])
    | refine W.condF (by rfl) ?_ | refine W.condT (by rfl) ?_)
   refine Fin.pureS Wk.refl (xs := ?_) ?_ rfl ?_ ?_
   rotate_left
   ·simp only [smEval, Nat.reduceAdd, Nat.reduceMul, Nat.reduceSub, Nat.reduceBEq, Nat.reduceEqDiff, Nat.reduceLeDiff, Nat.reduceLT, Nat.reduceMod, reduceIte, Int.reduceLE, Int.reduceLT, Int.reduceToNat, Nat.reducePow, ty3, ty4, ty9, ty22, ty25, ty28, ty39, ty122, resA]; try rfl
   ·rfl
   ·simp only [outA, Bool.false_eq_true, reduceIte]; exact sub_tup2 sub_zero (Sub.refl _)
  ·rw [b2, if_pos rfl] at h2
   refine acall_of Try.func55 (by decide) rfl Try.results55 (by rw [Try.ntmps55]; simp) (by simp) ?_
   rw [Try.ntmps55]
   simp only [enumL, List.length_nil, List.length_cons, Nat.reduceAdd]
   repeat (first
    | refine RunS.any (by rfl) (by simp only [smEval, Nat.reduceAdd, Nat.reduceMul, Nat.reduceSub, Nat.reduceBEq, Nat.reduceEqDiff, Nat.reduceLeDiff, Nat.reduceLT, Nat.reduceMod, reduceIte, Int.reduceLE, Int.reduceLT, Int.reduceToNat, Nat.reducePow, ty3, ty4, ty9, ty22, ty25, ty28, ty39, ty122, hd']; try rfl) (by rfl) (by simp only [smPut, Nat.reduceBEq, reduceIte]; exact ⟨rfl, rfl⟩) ?_
    | refine RunS.callQ (by rfl) rfl (by simp only [smArg, Nat.reduceBEq, reduceIte]; try rfl) (by first | exact h1 | exact h2) rfl (by rfl) (by rfl) ?_
    | refine RunS.skip (by rfl) (by simp only [smPut, Nat.reduceBEq, reduceIte]; try rfl) ?_
    | refine W.seq ?_ | refine W.block ?_ | refine W.regionK (by decide) fun N hN => ?_
    | (refine RunS.nil (hN _ _ _ ?_); clear hN N; simp only [smLen, Nat.reduceAdd, Nat.reduceMul, reduceIte, Nat.reduceEqDiff])
    | ((first | refine W.exit ?_ | refine W.ret ?_ | refine W.skip ?_); try simp only [smLen, reduceIte, Nat.reduceEqDiff])
    | refine W.condF (by rfl) ?_ | refine W.condT (by rfl) ?_)
   refine Fin.pureS Wk.refl (xs := ?_) ?_ rfl ?_ ?_
   rotate_left
   ·simp only [smEval, Nat.reduceAdd, Nat.reduceMul, Nat.reduceSub, Nat.reduceBEq, Nat.reduceEqDiff, Nat.reduceLeDiff, Nat.reduceLT, Nat.reduceMod, reduceIte, Int.reduceLE, Int.reduceLT, Int.reduceToNat, Nat.reducePow, ty3, ty4, ty9, ty22, ty25, ty28, ty39, ty122, resA]; try rfl
   ·rfl
   ·exact Sub.refl _
end Go.Proofs.Ytfhgknmkpegpbaa
set_option linter.unusedVariables false
set_option linter.unusedSimpArgs false
namespace Go.Proofs.Ytfhgknmkpegpbaa
open Go Go.Abs Go.Proofs Go.RowKit
abbrev allE (w : World) : En := ⟨fun g => g < w.heap.size, fun _ _ => none⟩
theorem ACall.law {P : Program} {f : FuncId} {args : List AV} {x : Value} (h : ACall P f args [] (.val x) []) (w : World) (vs : Array Value) (hvs : All2 (Rv w (allE w)) args vs.toList) : Calls P f vs w fun e w' => e = .returned x ∧ Below w.heap.size w w' :=
 (h.2.2 (allE w) w vs hvs (fun b y hy => by simp at hy) (fun b b' y y' g hy => by simp at hy) (fun b y g hy => by simp at hy) (fun b n hb => rfl) (fun g hg => hg)).mono (by
  rintro e w' ⟨v, E', rfl, hv, u⟩
  have := hv.val_inv
  subst this
  exact ⟨rfl, u.os, u.tape, u.output, u.grow, fun k hk => u.kept k hk (fun b hb => by simp at hb)⟩)
theorem TmV.all {P : Nat → Prop} {w : World} {v : Value} {t : Tm} (h : TmV P w v t) : Rv w (allE w) (tA t) v := by
 obtain ⟨A, c, rfl, hs, hc⟩ := h
 exact hc.inside.toRvT hs (fun g hg => hg.2)
theorem TmC.all {P : Nat → Prop} {w : World} {A : Option Addr} {c : Nat} {l : List Tm} (h : TmC P w A c l) : Rv w (allE w) (tsA l) (.slice A l.length c) := h.inside.toRv (fun g hg => hg.2)
end Go.Proofs.Ytfhgknmkpegpbaa
set_option linter.unusedVariables false
set_option linter.unusedSimpArgs false
namespace Go.Proofs.Ytfhgknmkpegpbaa
open Go Go.Abs Go.Proofs Go.RowKit
theorem ty110 : tyOf Try.prog 110 = some ⟨.slice 22, 1, 24, [.slice none 0 0]⟩ := by kernel_rfl
abbrev rowsF (ls : List (List Tm)) : FC := .fz 1 (ls.map fun l => [tsF l])
set_option maxRecDepth 100000 in
set_option maxHeartbeats 4000000 in
theorem little_ok (ls : List (List Tm)) (hl : ls.length ≤ 1000000) : ACall Try.prog 40 [.one (.f (rowsF ls))] [] (vB (littleB ls)) [] := by
 refine acall_of Try.func40 (by decide) rfl Try.results40 (by rw [Try.ntmps40]; simp) (by simp) ?_
 rw [Try.ntmps40]
 simp only [enumL, List.length_nil, List.length_cons, Nat.reduceAdd]
 repeat (first | refine W.seq ?_ | refine W.block ?_)
 refine W.regionK (by decide) fun N hN => ?_
 repeat (first
  | refine RunS.any (by rfl) (by simp only [smEval, Nat.reduceAdd, Nat.reduceMul, Nat.reduceSub, Nat.reduceBEq, Nat.reduceEqDiff, Nat.reduceLeDiff, Nat.reduceLT, Nat.reduceMod, reduceIte, Int.reduceLE, Int.reduceLT, Int.reduceToNat, Nat.reducePow, ty3, ty4, ty9, ty22, ty25, ty28, ty39, ty110, ty122]; try rfl) (by rfl) (by simp only [smPut, Nat.reduceBEq, reduceIte]; exact ⟨rfl, rfl⟩) ?_
  | refine RunS.skip (by rfl) (by simp only [smPut, Nat.reduceBEq, reduceIte]; try rfl) ?_)
 refine RunS.nil (hN _ _ _ ?_)
 clear hN N
 simp only [smLen, Nat.reduceAdd, Nat.reduceMul, reduceIte, Nat.reduceEqDiff]
 repeat (first | refine W.seq ?_ | refine W.block ?_)
 refine W.regionK (by decide) fun N hN => ?_
 repeat (first
  | refine RunS.any (by rfl) (by simp only [smEval, Nat.reduceAdd, Nat.reduceMul, Nat.reduceSub, Nat.reduceBEq, Nat.reduceEqDiff, Nat.reduceLeDiff, Nat.reduceLT, Nat.reduceMod, reduceIte, Int.reduceLE, Int.reduceLT, Int.reduceToNat, Nat.reducePow, ty3, ty4, ty9, ty22, ty25, ty28, ty39, ty110, ty122]; try rfl) (by rfl) (by simp only [smPut, Nat.reduceBEq, reduceIte]; exact ⟨rfl, rfl⟩) ?_
  | refine RunS.skip (by rfl) (by simp only [smPut, Nat.reduceBEq, reduceIte]; try rfl) ?_)
 refine RunS.nil (hN _ _ _ ?_)
 clear hN N
 simp only [smLen, Nat.reduceAdd, Nat.reduceMul, reduceIte, Nat.reduceEqDiff]
 repeat (first | refine W.seq ?_ | refine W.block ?_)
 refine W.loop ?_
 refine WL.ind (σ := Nat) (nx := 20) (fun j => j ≤ ls.length ∧ ∀ l ∈ ls.take j, l.length ≤ 60 ∧ smallB l = true) (fun j => ls.length - j) (fun j => [(5, .one (.f (rowsF ls))), (6, vI ls.length), (7, vI j)]) (fun _ => []) 0 ⟨Nat.zero_le _, by simp⟩ ?_ ?_
 ·refine Wk.keep [] (by rfl) ?_ ?_ <;> simp only [smKeep, Nat.reduceBEq, Nat.reduceLT, reduceIte]
  all_goals trivial
 rintro j ⟨hj, hall⟩
 repeat (first
  | refine RunS.any (by rfl) (by simp only [smEval, Nat.reduceAdd, Nat.reduceMul, Nat.reduceSub, Nat.reduceBEq, Nat.reduceEqDiff, Nat.reduceLeDiff, Nat.reduceLT, Nat.reduceMod, reduceIte, Int.reduceLE, Int.reduceLT, Int.reduceToNat, Nat.reducePow, ty3, ty4, ty9, ty22, ty25, ty28, ty39, ty110, ty122]; try rfl) (by rfl) (by simp only [smPut, Nat.reduceBEq, reduceIte]; exact ⟨rfl, rfl⟩) ?_
  | refine RunS.skip (by rfl) (by simp only [smPut, Nat.reduceBEq, reduceIte]; try rfl) ?_
  | refine W.seq ?_ | refine W.block ?_ | refine W.regionK (by decide) fun N hN => ?_
  | (refine RunS.nil (hN _ _ _ ?_); clear hN N; simp only [smLen, Nat.reduceAdd, Nat.reduceMul, reduceIte, Nat.reduceEqDiff])
  | ((first | refine W.exit ?_ | refine W.ret ?_ | refine W.skip ?_); try simp only [smLen, reduceIte, Nat.reduceEqDiff])
  | refine W.condF (by rfl) ?_ | refine W.condT (by rfl) ?_)
 refine W.condD (by rfl) (fun hlt => ?_) (fun hge => ?_)
 ·obtain ⟨l, hx⟩ : ∃ l, ls[j]? = some l := ⟨_, List.getElem?_eq_getElem (by omega)⟩
  have hlm := List.mem_of_getElem? hx
  have hs := small_ok l
  have hj0 : (0 : Int) ≤ (j : Int) := by omega
  have hw1 : IntKind.i64.wrap ((j : Int) + 1) = ((j + 1 : Nat) : Int) := wrap_i64 (by omega) (by omega)
  by_cases c1 : 60 < (l.length : Int)
  ·have d1 : decide (60 < (l.length : Int)) = true := by simpa using c1
   have hf : littleB ls = false := by
    cases h : littleB ls
    ·rfl
    ·have := (littleB_iff.1 h l hlm).1; omega
   rw [hf]
   repeat (first
    | refine RunS.any (by rfl) (by simp only [smEval, Nat.reduceAdd, Nat.reduceMul, Nat.reduceSub, Nat.reduceBEq, Nat.reduceEqDiff, Nat.reduceLeDiff, Nat.reduceLT, Nat.reduceMod, reduceIte, Int.reduceLE, Int.reduceLT, Int.reduceToNat, Nat.reducePow, ty3, ty4, ty9, ty22, ty25, ty28, ty39, ty110, ty122, hx, hj0, d1]; try rfl) (by rfl) (by simp only [smPut, Nat.reduceBEq, reduceIte]; exact ⟨rfl, rfl⟩) ?_
    | refine RunS.skip (by rfl) (by simp only [smPut, Nat.reduceBEq, reduceIte]; try rfl) ?_
    | refine W.seq ?_ | refine W.block ?_ | refine W.regionK (by decide) fun N hN => ?_
    | (refine RunS.nil (hN _ _ _ ?_); clear hN N; simp only [smLen, Nat.reduceAdd, Nat.reduceMul, reduceIte, Nat.reduceEqDiff])
    | ((first | refine W.exit ?_ | refine W.ret ?_ | refine W.skip ?_); try simp only [smLen, reduceIte, Nat.reduceEqDiff])
    | refine W.condF (by rfl) ?_ | refine W.condT (by rfl) ?_)
   refine Fin.pureS Wk.refl (xs := ?_) ?_ rfl ?_ ?_
   rotate_left
   ·simp only [smEval, Nat.reduceAdd, Nat.reduceMul, Nat.reduceSub, Nat.reduceBEq, Nat.reduceEqDiff, Nat.reduceLeDiff, Nat.reduceLT, Nat.reduceMod, reduceIte, Int.reduceLE, Int.reduceLT, Int.reduceToNat, Nat.reducePow, ty3, ty4, ty9, ty22, ty25, ty28, ty39, ty110, ty122, resA]; try rfl
   ·rfl
   ·exact Sub.refl _
  have d1 : decide (60 < (l.length : Int)) = false := by simpa using c1
  cases hsl : smallB l
  ·rw [hsl] at hs
   have hf : littleB ls = false := by
    cases h : littleB ls
    ·rfl
    ·have := (littleB_iff.1 h l hlm).2; rw [hsl] at this; cases this
   rw [hf]
   repeat (first
    | refine RunS.any (by rfl) (by simp only [smEval, Nat.reduceAdd, Nat.reduceMul, Nat.reduceSub, Nat.reduceBEq, Nat.reduceEqDiff, Nat.reduceLeDiff, Nat.reduceLT, Nat.reduceMod, reduceIte, Int.reduceLE, Int.reduceLT, Int.reduceToNat, Nat.reducePow, ty3, ty4, ty9, ty22, ty25, ty28, ty39, ty110, ty122, hx, hj0, d1]; try rfl) (by rfl) (by simp only [smPut, Nat.reduceBEq, reduceIte]; exact ⟨rfl, rfl⟩) ?_
    | refine RunS.callQ (by rfl) rfl (by simp only [smArg, Nat.reduceBEq, reduceIte]; try rfl) (by first | exact hs) rfl (by rfl) (by rfl) ?_
    | refine RunS.skip (by rfl) (by simp only [smPut, Nat.reduceBEq, reduceIte]; try rfl) ?_
    | refine W.seq ?_ | refine W.block ?_ | refine W.regionK (by decide) fun N hN => ?_
    | (refine RunS.nil (hN _ _ _ ?_); clear hN N; simp only [smLen, Nat.reduceAdd, Nat.reduceMul, reduceIte, Nat.reduceEqDiff])
    | ((first | refine W.exit ?_ | refine W.ret ?_ | refine W.skip ?_); try simp only [smLen, reduceIte, Nat.reduceEqDiff])
    | refine W.condF (by rfl) ?_ | refine W.condT (by rfl) ?_)
   refine Fin.pureS Wk.refl (xs := ?_) ?_ rfl ?_ ?_
   rotate_left
   ·simp only [smEval, Nat.reduceAdd, Nat.reduceMul, Nat.reduceSub, Nat.reduceBEq, Nat.reduceEqDiff, Nat.reduceLeDiff, Nat.reduceLT, Nat.reduceMod, reduceIte, Int.reduceLE, Int.reduceLT, Int.reduceToNat, Nat.reducePow, ty3, ty4, ty9, ty22, ty25, ty28, ty39, ty110, ty122, resA]; try rfl
   ·rfl
   ·exact Sub.refl _
  ·rw [hsl] at hs
   repeat (first
    | refine RunS.any (by rfl) (by simp only [smEval, Nat.reduceAdd, Nat.reduceMul, Nat.reduceSub, Nat.reduceBEq, Nat.reduceEqDiff, Nat.reduceLeDiff, Nat.reduceLT, Nat.reduceMod, reduceIte, Int.reduceLE, Int.reduceLT, Int.reduceToNat, Nat.reducePow, ty3, ty4, ty9, ty22, ty25, ty28, ty39, ty110, ty122, hx, hj0, d1, hw1]; try rfl) (by rfl) (by simp only [smPut, Nat.reduceBEq, reduceIte]; exact ⟨rfl, rfl⟩) ?_
    | refine RunS.callQ (by rfl) rfl (by simp only [smArg, Nat.reduceBEq, reduceIte]; try rfl) (by first | exact hs) rfl (by rfl) (by rfl) ?_
    | refine RunS.skip (by rfl) (by simp only [smPut, Nat.reduceBEq, reduceIte]; try rfl) ?_
    | refine W.seq ?_ | refine W.block ?_ | refine W.regionK (by decide) fun N hN => ?_
    | (refine RunS.nil (hN _ _ _ ?_); clear hN N; simp only [smLen, Nat.reduceAdd, Nat.reduceMul, reduceIte, Nat.reduceEqDiff])
    | ((first | refine W.exit ?_ | refine W.ret ?_ | refine W.skip ?_); try simp only [smLen, reduceIte, Nat.reduceEqDiff])
    | refine W.condF (by rfl) ?_ | refine W.condT (by rfl) ?_)
   refine ⟨j + 1, ⟨by omega, fun y hy => ?_⟩, by omega, ?_⟩
   ·rw [take_snoc hx] at hy
    rcases List.mem_append.1 hy with hy | hy
    ·exact hall y hy
    ·rw [List.mem_singleton.1 hy]; exact ⟨by omega, hsl⟩
   ·refine Wk.keep [] (by rfl) ?_ ?_ <;> simp only [smKeep, Nat.reduceBEq, Nat.reduceLT, reduceIte]
 ·have hje : j = ls.length := by omega
  rw [hje, List.take_length] at hall
  rw [littleB_iff.2 hall]
  repeat (first
   | refine RunS.any (by rfl) (by simp only [smEval, Nat.reduceAdd, Nat.reduceMul, Nat.reduceSub, Nat.reduceBEq, Nat.reduceEqDiff, Nat.reduceLeDiff, Nat.reduceLT, Nat.reduceMod, reduceIte, Int.reduceLE, Int.reduceLT, Int.reduceToNat, Nat.reducePow, ty3, ty4, ty9, ty22, ty25, ty28, ty39, ty110, ty122]; try rfl) (by rfl) (by simp only [smPut, Nat.reduceBEq, reduceIte]; exact ⟨rfl, rfl⟩) ?_
   | refine RunS.skip (by rfl) (by simp only [smPut, Nat.reduceBEq, reduceIte]; try rfl) ?_
   | refine W.seq ?_ | refine W.block ?_ | refine W.regionK (by decide) fun N hN => ?_
   | (refine RunS.nil (hN _ _ _ ?_); clear hN N; simp only [smLen, Nat.reduceAdd, Nat.reduceMul, reduceIte, Nat.reduceEqDiff])
   | ((first | refine W.exit ?_ | refine W.ret ?_ | refine W.skip ?_); try simp only [smLen, reduceIte, Nat.reduceEqDiff])
   | refine W.condF (by rfl) ?_ | refine W.condT (by rfl) ?_)
  refine Fin.pureS Wk.refl (xs := ?_) ?_ rfl ?_ ?_
  rotate_left
  ·simp only [smEval, Nat.reduceAdd, Nat.reduceMul, Nat.reduceSub, Nat.reduceBEq, Nat.reduceEqDiff, Nat.reduceLeDiff, Nat.reduceLT, Nat.reduceMod, reduceIte, Int.reduceLE, Int.reduceLT, Int.reduceToNat, Nat.reducePow, ty3, ty4, ty9, ty22, ty25, ty28, ty39, ty110, ty122, resA]; try rfl
  ·rfl
  ·exact Sub.refl _
theorem smallRow1 (x : Tm) : ACall Try.prog 28 [.one (.row 0 1)] [.row 25 4 [treeC x]] (vB (smallB [x])) [.row 25 4 [treeC x]] :=
 ACall.rows (small_ok [x]) rfl
theorem littleRow (l m : List Tm) : ACall Try.prog 40 [.one (.row 0 2)] [.row 22 1 [[tsF l], [tsF m]]] (vB (littleB [l, m])) [.row 22 1 [[tsF l], [tsF m]]] :=
 ACall.rows (little_ok [l, m] (by simp)) rfl
set_option maxRecDepth 100000 in
set_option maxHeartbeats 4000000 in
theorem substsLaw_ok (t : Tm) (l m : List Tm) (n : Int) : ACall Try.prog 11 [tA t, tsA l, tsA m, vI n] [] (vB true) [] := by
 have h0 := sane_ok
 have h1 := smallRow1 t
 have h2 := littleRow l m
 rw [treeC_eq t] at h1
 cases hb : smallB [t]
 ·rw [hb] at h1
  refine acall_of Try.func11 (by decide) rfl Try.results11 (by rw [Try.ntmps11]; simp) (by simp) ?_
  rw [Try.ntmps11]
  simp only [enumL, List.length_nil, List.length_cons, Nat.reduceAdd]
  repeat (first
   | refine RunS.any (by rfl) (by simp only [smEval, Nat.reduceAdd, Nat.reduceMul, Nat.reduceSub, Nat.reduceBEq, Nat.reduceEqDiff, Nat.reduceLeDiff, Nat.reduceLT, Nat.reduceMod, reduceIte, Int.reduceLE, Int.reduceLT, Int.reduceToNat, Nat.reducePow, ty3, ty4, ty9, ty22, ty25, ty28, ty39, ty110, ty122, treeC_eq t]; try rfl) (by rfl) (by simp only [smPut, Nat.reduceBEq, reduceIte]; exact ⟨rfl, rfl⟩) ?_
   | refine RunS.callQ (by rfl) rfl (by simp only [smArg, Nat.reduceBEq, reduceIte]; try rfl) (by first | exact h0) rfl (by rfl) (by rfl) ?_
   | refine RunS.skip (by rfl) (by simp only [smPut, Nat.reduceBEq, reduceIte]; try rfl) ?_
   | refine W.seq ?_ | refine W.block ?_ | refine W.regionK (by decide) fun N hN => ?_
   | (refine RunS.nil (hN _ _ _ ?_); clear hN N; simp only [smLen, Nat.reduceAdd, Nat.reduceMul, reduceIte, Nat.reduceEqDiff])
   | ((first | refine W.exit ?_ | refine W.ret ?_ | refine W.skip ?_); try simp only [smLen, reduceIte, Nat.reduceEqDiff])
   | refine W.condF (by rfl) ?_ | refine W.condT (by rfl) ?_)
  refine RunS.callH rfl (by rfl) (h1) [17] rfl rfl (by simp only [smArg, Nat.reduceBEq, reduceIte]; try rfl) (by simp only [smPut, Nat.reduceBEq, reduceIte, List.append_nil]; try rfl) (by rfl) (by simp only [enumL, List.forall_mem_cons, List.not_mem_nil, false_implies, implies_true, and_true, look_cons, look_nil, smPut, Nat.reduceBEq, reduceIte, Nat.reduceAdd]; try trivial) (by simp only [smPut, Nat.reduceBEq, reduceIte]; try rfl) (by simp only [smPut, Nat.reduceBEq, reduceIte]; try rfl) ?_
  repeat (first
   | refine RunS.any (by rfl) (by simp only [smEval, Nat.reduceAdd, Nat.reduceMul, Nat.reduceSub, Nat.reduceBEq, Nat.reduceEqDiff, Nat.reduceLeDiff, Nat.reduceLT, Nat.reduceMod, reduceIte, Int.reduceLE, Int.reduceLT, Int.reduceToNat, Nat.reducePow, ty3, ty4, ty9, ty22, ty25, ty28, ty39, ty110, ty122]; try rfl) (by rfl) (by simp only [smPut, Nat.reduceBEq, reduceIte]; exact ⟨rfl, rfl⟩) ?_
   | refine RunS.skip (by rfl) (by simp only [smPut, Nat.reduceBEq, reduceIte]; try rfl) ?_
   | refine W.seq ?_ | refine W.block ?_ | refine W.regionK (by decide) fun N hN => ?_
   | (refine RunS.nil (hN _ _ _ ?_); clear hN N; simp only [smLen, Nat.reduceAdd, Nat.reduceMul, reduceIte, Nat.reduceEqDiff])
   | ((first | refine W.exit ?_ | refine W.ret ?_ | refine W.skip ?_); try simp only [smLen, reduceIte, Nat.reduceEqDiff])
   | refine W.condF (by rfl) ?_ | refine W.condT (by rfl) ?_)
  refine Fin.pureS Wk.refl (xs := ?_) ?_ rfl ?_ ?_
  rotate_left
  ·simp only [smEval, Nat.reduceAdd, Nat.reduceMul, Nat.reduceSub, Nat.reduceBEq, Nat.reduceEqDiff, Nat.reduceLeDiff, Nat.reduceLT, Nat.reduceMod, reduceIte, Int.reduceLE, Int.reduceLT, Int.reduceToNat, Nat.reducePow, ty3, ty4, ty9, ty22, ty25, ty28, ty39, ty110, ty122, resA]; try rfl
  ·rfl
  ·exact Sub.refl _
 rw [hb] at h1
 cases hb2 : littleB [l, m]
 ·rw [hb2] at h2
  refine acall_of Try.func11 (by decide) rfl Try.results11 (by rw [Try.ntmps11]; simp) (by simp) ?_
  rw [Try.ntmps11]
  simp only [enumL, List.length_nil, List.length_cons, Nat.reduceAdd]
  repeat (first
   | refine RunS.any (by rfl) (by simp only [smEval, Nat.reduceAdd, Nat.reduceMul, Nat.reduceSub, Nat.reduceBEq, Nat.reduceEqDiff, Nat.reduceLeDiff, Nat.reduceLT, Nat.reduceMod, reduceIte, Int.reduceLE, Int.reduceLT, Int.reduceToNat, Nat.reducePow, ty3, ty4, ty9, ty22, ty25, ty28, ty39, ty110, ty122, treeC_eq t]; try rfl) (by rfl) (by simp only [smPut, Nat.reduceBEq, reduceIte]; exact ⟨rfl, rfl⟩) ?_
   | refine RunS.callQ (by rfl) rfl (by simp only [smArg, Nat.reduceBEq, reduceIte]; try rfl) (by first | exact h0) rfl (by rfl) (by rfl) ?_
   | refine RunS.skip (by rfl) (by simp only [smPut, Nat.reduceBEq, reduceIte]; try rfl) ?_
   | refine W.seq ?_ | refine W.block ?_ | refine W.regionK (by decide) fun N hN => ?_
   | (refine RunS.nil (hN _ _ _ ?_); clear hN N; simp only [smLen, Nat.reduceAdd, Nat.reduceMul, reduceIte, Nat.reduceEqDiff])
   | ((first | refine W.exit ?_ | refine W.ret ?_ | refine W.skip ?_); try simp only [smLen, reduceIte, Nat.reduceEqDiff])
   | refine W.condF (by rfl) ?_ | refine W.condT (by rfl) ?_)
  refine RunS.callH rfl (by rfl) (h1) [17] rfl rfl (by simp only [smArg, Nat.reduceBEq, reduceIte]; try rfl) (by simp only [smPut, Nat.reduceBEq, reduceIte, List.append_nil]; try rfl) (by rfl) (by simp only [enumL, List.forall_mem_cons, List.not_mem_nil, false_implies, implies_true, and_true, look_cons, look_nil, smPut, Nat.reduceBEq, reduceIte, Nat.reduceAdd]; try trivial) (by simp only [smPut, Nat.reduceBEq, reduceIte]; try rfl) (by simp only [smPut, Nat.reduceBEq, reduceIte]; try rfl) ?_
  repeat (first
   | refine RunS.any (by rfl) (by simp only [smEval, Nat.reduceAdd, Nat.reduceMul, Nat.reduceSub, Nat.reduceBEq, Nat.reduceEqDiff, Nat.reduceLeDiff, Nat.reduceLT, Nat.reduceMod, reduceIte, Int.reduceLE, Int.reduceLT, Int.reduceToNat, Nat.reducePow, ty3, ty4, ty9, ty22, ty25, ty28, ty39, ty110, ty122]; try rfl) (by rfl) (by simp only [smPut, Nat.reduceBEq, reduceIte]; exact ⟨rfl, rfl⟩) ?_
   | refine RunS.skip (by rfl) (by simp only [smPut, Nat.reduceBEq, reduceIte]; try rfl) ?_
   | refine W.seq ?_ | refine W.block ?_ | refine W.regionK (by decide) fun N hN => ?_
   | (refine RunS.nil (hN _ _ _ ?_); clear hN N; simp only [smLen, Nat.reduceAdd, Nat.reduceMul, reduceIte, Nat.reduceEqDiff])
   | ((first | refine W.exit ?_ | refine W.ret ?_ | refine W.skip ?_); try simp only [smLen, reduceIte, Nat.reduceEqDiff])
   | refine W.condF (by rfl) ?_ | refine W.condT (by rfl) ?_)
  refine RunS.callH rfl (by rfl) (h2) [23] rfl rfl (by simp only [smArg, Nat.reduceBEq, reduceIte]; try rfl) (by simp only [smPut, Nat.reduceBEq, reduceIte, List.append_nil]; try rfl) (by rfl) (by simp only [enumL, List.forall_mem_cons, List.not_mem_nil, false_implies, implies_true, and_true, look_cons, look_nil, smPut, Nat.reduceBEq, reduceIte, Nat.reduceAdd]; try trivial) (by simp only [smPut, Nat.reduceBEq, reduceIte]; try rfl) (by simp only [smPut, Nat.reduceBEq, reduceIte]; try rfl) ?_
  repeat (first
   | refine RunS.any (by rfl) (by simp only [smEval, Nat.reduceAdd, Nat.reduceMul, Nat.reduceSub, Nat.reduceBEq, Nat.reduceEqDiff, Nat.reduceLeDiff, Nat.reduceLT, Nat.reduceMod, reduceIte, Int.reduceLE, Int.reduceLT, Int.reduceToNat, Nat.reducePow, ty3, ty4, ty9, ty22, ty25, ty28, ty39, ty110, ty122]; try rfl) (by rfl) (by simp only [smPut, Nat.reduceBEq, reduceIte]; exact ⟨rfl, rfl⟩) ?_
   | refine RunS.skip (by rfl) (by simp only [smPut, Nat.reduceBEq, reduceIte]; try rfl) ?_
   | refine W.seq ?_ | refine W.block ?_ | refine W.regionK (by decide) fun N hN => ?_
   | (refine RunS.nil (hN _ _ _ ?_); clear hN N; simp only [smLen, Nat.reduceAdd, Nat.reduceMul, reduceIte, Nat.reduceEqDiff])
   | ((first | refine W.exit ?_ | refine W.ret ?_ | refine W.skip ?_); try simp only [smLen, reduceIte, Nat.reduceEqDiff])
   | refine W.condF (by rfl) ?_ | refine W.condT (by rfl) ?_)
  refine Fin.pureS Wk.refl (xs := ?_) ?_ rfl ?_ ?_
  rotate_left
  ·simp only [smEval, Nat.reduceAdd, Nat.reduceMul, Nat.reduceSub, Nat.reduceBEq, Nat.reduceEqDiff, Nat.reduceLeDiff, Nat.reduceLT, Nat.reduceMod, reduceIte, Int.reduceLE, Int.reduceLT, Int.reduceToNat, Nat.reducePow, ty3, ty4, ty9, ty22, ty25, ty28, ty39, ty110, ty122, resA]; try rfl
  ·rfl
  ·exact Sub.refl _
 rw [hb2] at h2
 have hzt := smallB_size hb (List.mem_cons_self ..)
 have hlt := littleB_iff.1 hb2
 have hzl : ∀ x ∈ l, x.size ≤ 100000 := fun x hx => by have := smallB_size (hlt l (List.mem_cons_self ..)).2 hx; omega
 have hzm : ∀ x ∈ m, x.size ≤ 100000 := fun x hx => by have := smallB_size (hlt m (List.mem_cons_of_mem _ (List.mem_cons_self ..))).2 hx; omega
 have k1 := subst_ok' t l
 have k2 := refSubst_ok t l (by omega) hzl
 have k3 := shift_ok' t n
 have k4 := refShift_ok t n (by omega)
 have e1 : (if isB t = true then (if shB n t = true then (repT (shF n) t).getD Tm.zero else Tm.zero) else Tm.zero) = (if isB t = true then (if shB n t = true then shT n t else Tm.zero) else Tm.zero) := by
  split
  ·rename_i h1
   split
   ·rename_i h2; rw [shift_law h1 h2]; rfl
   ·rfl
  ·rfl
 have e2 : (if isB t = true then (if shB n t = true then (if (repT (shF n) t).isSome = true then 0 else 2) else 1) else 3) = (if isB t = true then (if shB n t = true then (0 : Int) else 1) else 3) := by
  split
  ·rename_i h1
   split
   ·rename_i h2; rw [shift_law h1 h2]; rfl
   ·rfl
  ·rfl
 rw [e1, e2] at k3
 have k5 := compose_ok' l m
 have k6 := refCompose_ok l m hzl hzm
 clear e1 e2 hzt hlt hzl hzm
 obtain ⟨x, hx⟩ : ∃ x, x = (substR t l).getD Tm.zero := ⟨_, rfl⟩
 obtain ⟨xe, hxe⟩ : ∃ x : Int, x = (if (substR t l).isSome then 0 else substE t l) := ⟨_, rfl⟩
 obtain ⟨z, hz⟩ : ∃ x, x = (if isB t = true then (if shB n t = true then shT n t else Tm.zero) else Tm.zero) := ⟨_, rfl⟩
 obtain ⟨ze, hze⟩ : ∃ x : Int, x = (if isB t = true then (if shB n t = true then (0 : Int) else 1) else 3) := ⟨_, rfl⟩
 obtain ⟨c, hc⟩ : ∃ x, x = (composeR l m).getD [] := ⟨_, rfl⟩
 obtain ⟨ce, hce⟩ : ∃ x : Int, x = (if (composeR l m).isSome then 0 else composeE l m) := ⟨_, rfl⟩
 rw [← hx, ← hxe] at k1 k2
 rw [← hz, ← hze] at k3 k4
 rw [← hc, ← hce] at k5 k6
 clear hx hxe hz hze hc hce
 have s1 := refSame_ok x x
 have s2 := refSame_ok z z
 have s3 := sameAll_ok c c
 rw [sameB_refl] at s1 s2
 rw [sameL_iff.2 rfl] at s3
 have d1 : decide (xe ≠ xe) = false := by simp
 have d2 : decide (ze ≠ ze) = false := by simp
 have d3 : decide (ce = ce) = true := by simp
 refine acall_of Try.func11 (by decide) rfl Try.results11 (by rw [Try.ntmps11]; simp) (by simp) ?_
 rw [Try.ntmps11]
 simp only [enumL, List.length_nil, List.length_cons, Nat.reduceAdd]
 repeat (first
  | refine RunS.any (by rfl) (by simp only [smEval, Nat.reduceAdd, Nat.reduceMul, Nat.reduceSub, Nat.reduceBEq, Nat.reduceEqDiff, Nat.reduceLeDiff, Nat.reduceLT, Nat.reduceMod, reduceIte, Int.reduceLE, Int.reduceLT, Int.reduceToNat, Nat.reducePow, ty3, ty4, ty9, ty22, ty25, ty28, ty39, ty110, ty122, treeC_eq t]; try rfl) (by rfl) (by simp only [smPut, Nat.reduceBEq, reduceIte]; exact ⟨rfl, rfl⟩) ?_
  | refine RunS.callQ (by rfl) rfl (by simp only [smArg, Nat.reduceBEq, reduceIte]; try rfl) (by first | exact h0) rfl (by rfl) (by rfl) ?_
  | refine RunS.skip (by rfl) (by simp only [smPut, Nat.reduceBEq, reduceIte]; try rfl) ?_
  | refine W.seq ?_ | refine W.block ?_ | refine W.regionK (by decide) fun N hN => ?_
  | (refine RunS.nil (hN _ _ _ ?_); clear hN N; simp only [smLen, Nat.reduceAdd, Nat.reduceMul, reduceIte, Nat.reduceEqDiff])
  | ((first | refine W.exit ?_ | refine W.ret ?_ | refine W.skip ?_); try simp only [smLen, reduceIte, Nat.reduceEqDiff])
  | refine W.condF (by rfl) ?_ | refine W.condT (by rfl) ?_)
 refine RunS.callH rfl (by rfl) (h1) [17] rfl rfl (by simp only [smArg, Nat.reduceBEq, reduceIte]; try rfl) (by simp only [smPut, Nat.reduceBEq, reduceIte, List.append_nil]; try rfl) (by rfl) (by simp only [enumL, List.forall_mem_cons, List.not_mem_nil, false_implies, implies_true, and_true, look_cons, look_nil, smPut, Nat.reduceBEq, reduceIte, Nat.reduceAdd]; try trivial) (by simp only [smPut, Nat.reduceBEq, reduceIte]; try rfl) (by simp only [smPut, Nat.reduceBEq, reduceIte]; try rfl) ?_
 repeat (first
  | refine RunS.any (by rfl) (by simp only [smEval, Nat.reduceAdd, Nat.reduceMul, Nat.reduceSub, Nat.reduceBEq, Nat.reduceEqDiff, Nat.reduceLeDiff, Nat.reduceLT, Nat.reduceMod, reduceIte, Int.reduceLE, Int.reduceLT, Int.reduceToNat, Nat.reducePow, ty3, ty4, ty9, ty22, ty25, ty28, ty39, ty110, ty122]; try rfl) (by rfl) (by simp only [smPut, Nat.reduceBEq, reduceIte]; exact ⟨rfl, rfl⟩) ?_
  | refine RunS.skip (by rfl) (by simp only [smPut, Nat.reduceBEq, reduceIte]; try rfl) ?_
  | refine W.seq ?_ | refine W.block ?_ | refine W.regionK (by decide) fun N hN => ?_
  | (refine RunS.nil (hN _ _ _ ?_); clear hN N; simp only [smLen, Nat.reduceAdd, Nat.reduceMul, reduceIte, Nat.reduceEqDiff])
  | ((first | refine W.exit ?_ | refine W.ret ?_ | refine W.skip ?_); try simp only [smLen, reduceIte, Nat.reduceEqDiff])
  | refine W.condF (by rfl) ?_ | refine W.condT (by rfl) ?_)
 refine RunS.callH rfl (by rfl) (h2) [23] rfl rfl (by simp only [smArg, Nat.reduceBEq, reduceIte]; try rfl) (by simp only [smPut, Nat.reduceBEq, reduceIte, List.append_nil]; try rfl) (by rfl) (by simp only [enumL, List.forall_mem_cons, List.not_mem_nil, false_implies, implies_true, and_true, look_cons, look_nil, smPut, Nat.reduceBEq, reduceIte, Nat.reduceAdd]; try trivial) (by simp only [smPut, Nat.reduceBEq, reduceIte]; try rfl) (by simp only [smPut, Nat.reduceBEq, reduceIte]; try rfl) ?_
 repeat (first
  | refine RunS.any (by rfl) (by simp only [smEval, Nat.reduceAdd, Nat.reduceMul, Nat.reduceSub, Nat.reduceBEq, Nat.reduceEqDiff, Nat.reduceLeDiff, Nat.reduceLT, Nat.reduceMod, reduceIte, Int.reduceLE, Int.reduceLT, Int.reduceToNat, Nat.reducePow, ty3, ty4, ty9, ty22, ty25, ty28, ty39, ty110, ty122, d1, d2, d3]; try rfl) (by rfl) (by simp only [smPut, Nat.reduceBEq, reduceIte]; exact ⟨rfl, rfl⟩) ?_
  | refine RunS.callQ (by rfl) rfl (by simp only [smArg, Nat.reduceBEq, reduceIte]; try rfl) (by first | exact k1 | exact k2 | exact k3 | exact k4 | exact s1 | exact s2 | exact k5 | exact k6 | exact s3) rfl (by rfl) (by rfl) ?_
  | refine RunS.skip (by rfl) (by simp only [smPut, Nat.reduceBEq, reduceIte]; try rfl) ?_
  | refine W.seq ?_ | refine W.block ?_ | refine W.regionK (by decide) fun N hN => ?_
  | (refine RunS.nil (hN _ _ _ ?_); clear hN N; simp only [smLen, Nat.reduceAdd, Nat.reduceMul, reduceIte, Nat.reduceEqDiff])
  | ((first | refine W.exit ?_ | refine W.ret ?_ | refine W.skip ?_); try simp only [smLen, reduceIte, Nat.reduceEqDiff])
  | refine W.condF (by rfl) ?_ | refine W.condT (by rfl) ?_)
 refine Fin.pureS Wk.refl (xs := ?_) ?_ rfl ?_ ?_
 rotate_left
 ·simp only [smEval, Nat.reduceAdd, Nat.reduceMul, Nat.reduceSub, Nat.reduceBEq, Nat.reduceEqDiff, Nat.reduceLeDiff, Nat.reduceLT, Nat.reduceMod, reduceIte, Int.reduceLE, Int.reduceLT, Int.reduceToNat, Nat.reducePow, ty3, ty4, ty9, ty22, ty25, ty28, ty39, ty110, ty122, resA]; try rfl
 ·rfl
 ·exact Sub.refl _
theorem substsLaw_calls (t : Tm) (l m : List Tm) (n : Int) (P Q R : Nat → Prop) (w : World) (v : Value) (A B : Option Addr) (c d : Nat) (ht : TmV P w v t) (hl : TmC Q w A c l) (hm : TmC R w B d m) :
  Calls Try.prog 11 #[v, .slice A l.length c, .slice B m.length d, .int .i64 n] w fun e w' => e = .returned (.bool true) ∧ Below w.heap.size w w' :=
 ACall.law (substsLaw_ok t l m n) w _ (All2.cons ht.all (All2.cons hl.all (All2.cons hm.all (All2.cons (.val rfl) (All2.nil _)))))
end Go.Proofs.Ytfhgknmkpegpbaa
