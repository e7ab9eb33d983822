/- Shift: function 47. -/
import Derived.Test.YtfhgknmkpegpbaaCT62
import Derived.Test.YtfhgknmkpegpbaaM3
import Derived.Test.YtfhgknmkpegpbaaCT50
import Derived.Test.YtfhgknmkpegpbaaM6
set_option linter.unusedVariables false
set_option linter.unusedSimpArgs false
namespace Go.Proofs.Ytfhgknmkpegpbaa
open Go.RowKit Go.Shelf
attribute [local go_sem] Oper.semAt_some

/-- A variable that Shift refuses. -/
def shBad (n : Int) (y : Tm) : Prop := y.k = 1 ∧ (n < -y.n ∨ 100000 - y.n ≤ n)
open Classical in
noncomputable def shB (n : Int) (t : Tm) : Bool := decide (∀ y ∈ t.pre, ¬ shBad n y)
theorem shB_iff {n : Int} {t : Tm} : shB n t = true ↔ ∀ y ∈ t.pre, ¬ shBad n y := by unfold shB; simp
/-- A tree in new memory and an error. -/
def RetTf (w : World) (r : Tm) (er : Int) (e : Ending) (w' : World) : Prop :=
  ∃ A c, e = .returned (.tuple #[.agg #[.int .i64 r.k, .int .i64 r.n, .string r.s, .slice A r.l.length c], .int .i64 er]) ∧ r.s.size ≤ 9223372036854775807 ∧ TmC (w.heap.size ≤ ·) w' A c r.l ∧ Below w.heap.size w w'
/-- What stands behind Shift's last step. -/
def SEnd (w : World) (r : Tm) (er : Int) (W : World) : Prop :=
  ∃ A c, Blk W (w.heap.size + 1 + 1) 25 #[.int .i64 r.k, .int .i64 r.n, .string r.s, .slice A r.l.length c] ∧ Blk W (w.heap.size + 1 + 1 + 1) 28 #[.int .i64 er] ∧ r.s.size ≤ 9223372036854775807 ∧ TmC (w.heap.size ≤ ·) W A c r.l ∧ Below w.heap.size w W
theorem SEnd.put {w W : World} {r : Tm} {er : Int} {D : Nat} (h : SEnd w r er W) (hD : w.heap.size + 2 ≤ D) (hk : W.heap[D]? = some (.deferred (some []))) : SEnd w r er (W.putObj D (.deferred none)) := by
  obtain ⟨A, c, h1, h5, h2, h3, h4⟩ := h
  exact ⟨A, c, put_cells hk rfl _ _ h1 rfl, put_cells hk rfl _ _ h5 rfl, h2, h3.keptCells (put_cells hk rfl), h4.trans (Below.putObj_ (Nat.le_refl _) _ _ (.deferred none) _ (by omega))⟩
theorem SEnd.res {w W : World} {r : Tm} {er : Int} (h : SEnd w r er W) {fn : Func} (hf : fn.results = #[.cell 4 25, .cell 5 28]) {tmps : Array Value} (h4 : tmps.getD 4 undef = .pointer (some ⟨w.heap.size + 1 + 1, 0, none⟩)) (h5 : tmps.getD 5 undef = .pointer (some ⟨w.heap.size + 1 + 1 + 1, 0, none⟩)) : ∃ v, (results fn tmps).run Try.prog W = .ok v W ∧ RetTf w r er (.returned v) W := by
  obtain ⟨A, c, h1, h7, h2, h3, h6⟩ := h
  obtain ⟨⟨b0, b1, b2, b3⟩, -⟩ := h1.four
  obtain ⟨e0, -⟩ := h7.one
  have h4' : tmps[4]?.getD undef = .pointer (some ⟨w.heap.size + 1 + 1, 0, none⟩) := by simpa using h4
  have h5' : tmps[5]?.getD undef = .pointer (some ⟨w.heap.size + 1 + 1 + 1, 0, none⟩) := by simpa using h5
  refine ⟨.tuple #[.agg #[.int .i64 r.k, .int .i64 r.n, .string r.s, .slice A r.l.length c], .int .i64 er], ?_, A, c, rfl, h2, h3, h6⟩
  simp [results, hf, h4', h5', go_sem, b0, b1, b2, b3, e0]

set_option maxRecDepth 100000 in
set_option maxHeartbeats 8000000 in
theorem shift_calls (t : Tm) (n : Int) (P : Nat → Prop) (w : World) (v : Value) (hv : TmV P w v t) :
    Calls Try.prog 47 #[v, .int .i64 n] w (RetTf w (if isB t = true then (if shB n t = true then (repT (shF n) t).getD Tm.zero else Tm.zero) else Tm.zero) (if isB t = true then (if shB n t = true then (if (repT (shF n) t).isSome = true then 0 else 2) else 1) else 3)) := by
  refine (callsIn_wide (n := 5)).1 ?_
  obtain ⟨A, c, rfl, hs, hc⟩ := hv
  obtain ⟨W0, hW0⟩ : ∃ W0, W0 = (((w.alloc (.cells #[.int .i64 t.k, .int .i64 t.n, .string t.s, .slice A t.l.length c] 25)).alloc (.cells #[.int .i64 n] 3)).alloc (.cells #[.int .i64 0, .int .i64 0, .string ⟨#[]⟩, .slice none 0 0] 25)).alloc (.cells #[.int .i64 0] 28) := ⟨_, rfl⟩
  have HB0 := Lib.hid (show Below w.heap.size w W0 from by rw [hW0]; exact ((((Below.refl _ _).alloc (Nat.le_refl _) _).alloc (by simp) _).alloc (by simp; omega) _).alloc (by simp; omega) _)
  have HX0 := Lib.hid (show Blk W0 w.heap.size 25 #[.int .i64 t.k, .int .i64 t.n, .string t.s, .slice A t.l.length c] from by rw [hW0]; exact (((Blk.new _ _ _).alloc _).alloc _).alloc _)
  have HN0 := Lib.hid (show Blk W0 (w.heap.size + 1) 3 #[.int .i64 n] from by rw [hW0]; exact ((Blk.new' (by simp)).alloc _).alloc _)
  have HY0 := Lib.hid (show Blk W0 (w.heap.size + 1 + 1) 25 #[.int .i64 0, .int .i64 0, .string ⟨#[]⟩, .slice none 0 0] from by rw [hW0]; exact (Blk.new' (by simp)).alloc _)
  have HE0 := Lib.hid (show Blk W0 (w.heap.size + 1 + 1 + 1) 28 #[.int .i64 0] from by rw [hW0]; exact Blk.new' (by simp))
  have Hc := Lib.hid (hc.inside.mono (Q := (· < w.heap.size)) (fun g h => h.2)); clear hc
  obtain ⟨b, hb⟩ : ∃ b, b = isB t := ⟨_, rfl⟩
  obtain ⟨sb, hsb⟩ : ∃ b, b = shB n t := ⟨_, rfl⟩
  obtain ⟨R, hR⟩ : ∃ b, b = repT (shF n) t := ⟨_, rfl⟩
  rw [← hb, ← hsb, ← hR]
  obtain ⟨rt, hrt⟩ : ∃ r, r = (if b = true then (if sb = true then R.getD Tm.zero else Tm.zero) else Tm.zero) := ⟨_, rfl⟩
  obtain ⟨re, hre⟩ : ∃ r : Int, r = (if b = true then (if sb = true then (if R.isSome = true then 0 else 2) else 1) else 3) := ⟨_, rfl⟩
  rw [← hrt, ← hre]
  have hcall := (callsIn_wide (n := 4)).2 (check_calls t _ W0 _ ⟨A, c, rfl, hs, Hc.out.stay HB0.out (Nat.le_refl _)⟩)
  rw [← hb] at hcall
  have Hrt := Lib.hid hrt; have Hre := Lib.hid hre; clear hrt hre
  have Hcall := Lib.hid hcall; have Hb := Lib.hid hb; have Hsb := Lib.hid hsb; have HR := Lib.hid hR; have HW := Lib.hid hW0; clear hcall hb hsb hR hW0
  refine callsIn_of_wp_marks Try.func47 rfl trivial ?_ rfl
  simp only [Try.ntmps47, List.size_toArray, List.length_cons, List.length_nil, Nat.reduceAdd, Nat.reduceSub, Array.replicate_succ, Array.replicate_zero, List.push_toArray, List.append_toArray, List.nil_append, List.cons_append]
  gi_wp2_with fail
  rw [← HW.out]
  refine ⟨trivial, ?_⟩
  refine Hcall.out.mono ?_
  rintro e w1 ⟨rfl, hb⟩
  have HX1 := Lib.hid (HX0.out.below hb HX0.out.lt); have HN1 := Lib.hid (HN0.out.below hb HN0.out.lt); have HY1 := Lib.hid (HY0.out.below hb HY0.out.lt); have HE1 := Lib.hid (HE0.out.below hb HE0.out.lt); have HB1 := Lib.hid (HB0.out.trans (hb.mono HB0.out.size))
  clear hb Hcall HX0 HN0 HY0 HE0 HB0 HW
  cases b
  case false =>
    have hE : SEnd w Tm.zero 3 (((((w1.setCell ⟨w.heap.size + 1 + 1, 0, none⟩ (.int .i64 0)).setCell ⟨w.heap.size + 1 + 1, 1, none⟩ (.int .i64 0)).setCell ⟨w.heap.size + 1 + 1, 2, none⟩ (.string ⟨#[]⟩)).setCell ⟨w.heap.size + 1 + 1, 3, none⟩ (.slice none 0 0)).setCell ⟨w.heap.size + 1 + 1 + 1, 0, none⟩ (.int .i64 3)) := by
      have h1 := set4_at w1 (w.heap.size + 1 + 1) _ 25 HY1.out rfl (.int .i64 0) (.int .i64 0) (.string ⟨#[]⟩) (.slice none 0 0)
      have hbut : But (w.heap.size + 1 + 1) w1 _ := ((((But.refl (w.heap.size + 1 + 1) w1).setCell 0 (.int .i64 0)).setCell 1 (.int .i64 0)).setCell 2 (.string ⟨#[]⟩)).setCell 3 (.slice none 0 0)
      have h2 := (hbut.block _ HE1.out.lt (by omega)).trans HE1.out
      have h3 := (show Blk _ (w.heap.size + 1 + 1 + 1) 28 #[.int .i64 0] from h2).set_ 0 (.int .i64 3)
      exact ⟨none, 0, h1.far (by simp) _, h3, by show (0 : Nat) ≤ _; omega, TmC.nil _ _ (by omega) (fun _ => rfl), (HB1.out.trans (hbut.below (by omega) HB1.out.size)).setCell (p := ⟨w.heap.size + 1 + 1 + 1, 0, none⟩) (by simp; omega) _⟩
    obtain rfl : rt = Tm.zero := by rw [Hrt.out]; rfl
    obtain rfl : re = 3 := by rw [Hre.out]; rfl
    have he : errT false = 3 := rfl
    rw [he]
    have he2 : ((3 : Int) != 0) = true := rfl
    have HE := Lib.hid hE; clear hE
    have ly := HY1.out.lt; have le := HE1.out.lt
    obtain ⟨⟨d0, d1, d2, d3⟩, ⟨g0, g1, g2, g3⟩⟩ := HY1.out.four
    obtain ⟨k0, k1⟩ := HE1.out.one
    gi_wp2
    refine leaves_marks (N := w.heap.size + 2) (fun W' => SEnd w Tm.zero 3 W') (fun W5 D5 h1 hD5 hk5 => h1.put hD5 hk5) (fun W5 h1 => h1.res rfl rfl rfl) [] _ trivial HE.out
  have he : errT true = 0 := rfl
  rw [he]
  have lx := HX1.out.lt
  obtain ⟨⟨a0, a1, a2, a3⟩, -⟩ := HX1.out.four
  gi_wp2_with (refine ⟨trivial, ?_⟩; gi_at_call 95; refine (nodes_in Fence.wide _ trivial rfl _ _ _ _ _ _ _).mono ?_; rintro e w' ⟨rfl, rfl⟩)
  obtain ⟨W2, hW2⟩ : ∃ W2, W2 = w1.alloc (.cells #[.int .i64 t.k, .int .i64 t.n, .string t.s, .slice A t.l.length c] 25) := ⟨_, rfl⟩
  rw [← hW2]
  have hb2 : Below w1.heap.size w1 W2 := by rw [hW2]; exact (Below.refl _ _).alloc (Nat.le_refl _) _
  have hbox : Blk W2 w1.heap.size 25 #[.int .i64 t.k, .int .i64 t.n, .string t.s, .slice A t.l.length c] := by rw [hW2]; exact Blk.new _ _ _
  have HX2 := Lib.hid (HX1.out.below hb2 HX1.out.lt); have HN2 := Lib.hid (HN1.out.below hb2 HN1.out.lt); have HY2 := Lib.hid (HY1.out.below hb2 HY1.out.lt); have HE2 := Lib.hid (HE1.out.below hb2 HE1.out.lt); have HB2 := Lib.hid (HB1.out.trans (hb2.mono HB1.out.size))
  have hsz2 : w.heap.size + 4 ≤ W2.heap.size := by have := HE2.out.lt; omega
  clear hb2 hW2 HX1 HN1 HY1 HE1 HB1 a0 a1 a2 a3 lx
  have hokt := (isB_iff.1 Hb.out.symm).1
  obtain ⟨xe, hxe⟩ : ∃ xe : EW w.heap.size w, xe.1 = (t, A, c) := ⟨⟨(t, A, c), hokt, hs, Hc.out⟩, rfl⟩
  have hseq := nodes_stops Fence.wide rfl (5 - 1) trivial trivial rfl w1.heap.size w.heap.size w xe W2 (by omega) HB2.out (by rw [hxe]; exact hbox)
  rw [hxe] at hseq
  obtain ⟨I, hIdef⟩ : ∃ I : List (EW w.heap.size w) → World → Prop, I = fun ys W => Blk W w.heap.size 25 #[.int .i64 t.k, .int .i64 t.n, .string t.s, .slice A t.l.length c] ∧ Blk W (w.heap.size + 1) 3 #[.int .i64 n] ∧ Blk W (w.heap.size + 1 + 1) 25 #[.int .i64 0, .int .i64 0, .string ⟨#[]⟩, .slice none 0 0] ∧ Blk W (w.heap.size + 1 + 1 + 1) 28 #[.int .i64 0] ∧ Below w.heap.size w W ∧ W2.heap.size ≤ W.heap.size ∧ ∀ y ∈ ys, ¬ shBad n y.1.1 := ⟨_, rfl⟩
  have hIown : OwnFrom W2.heap.size I := by
    intro ys X Y row h hg hr
    rw [hIdef] at h ⊢
    obtain ⟨h1, h2, h3, h4, h5, h6, h7⟩ := h
    have hk := own_cells hg hr
    exact ⟨hk _ _ h1 rfl, hk _ _ h2 rfl, hk _ _ h3 rfl, hk _ _ h4 rfl, h5.grown hg h5.size (fun r e => by have := (hr r e).1; omega), Nat.le_trans h6 hg.size, h7⟩
  obtain ⟨Ix, hIxdef⟩ : ∃ Ix : Code → List (EW w.heap.size w) → World → Prop, Ix = fun cd pre W => cd = Code.ret ∧ (∃ y ∈ pre, shBad n y.1.1) ∧ SEnd w Tm.zero 1 W := ⟨_, rfl⟩
  have hIxown : ∀ cd, OwnFrom W2.heap.size (Ix cd) := by
    intro cd ys X Y row h hg hr
    rw [hIxdef] at h ⊢
    obtain ⟨h1, h2, A5, c5, h3, h4, h5, h6, h7⟩ := h
    have hk := own_cells hg hr
    exact ⟨h1, h2, A5, c5, hk _ _ h3 rfl, hk _ _ h4 rfl, h5, h6.keptCells hk, h7.grown hg h7.size (fun r e => by have := (hr r e).1; omega)⟩
  have hI0 : I [] W2 := by rw [hIdef]; exact ⟨HX2.out, HN2.out, HY2.out, HE2.out, HB2.out, Nat.le_refl _, fun y hy => by cases hy⟩
  have HIdef := Lib.hid hIdef; have HIx := Lib.hid hIxdef; clear hIdef hIxdef
  refine wpIn_rangeFunc_ownH rfl (by decide) (gf := 134) (lb := #[.pointer (some ⟨w1.heap.size, 0, none⟩)]) rfl trivial (enters_of Try.func134 (by kernel_rfl) rfl) hseq KpT.trans (fun W l o o' h1 h2 h3 h4 => kpT_b (B := W2.heap.size) (by omega) W l o o' h1 h2 h3 h4) (Below.refl _ _) (fun _ => rfl)
    I Ix hIown hIxown hI0
    (fun y a' W => ∃ Bx, W2.heap.size ≤ Bx ∧ Blk W Bx 25 #[.int .i64 y.1.1.k, .int .i64 y.1.1.n, .string y.1.1.s, .slice y.1.2.1 y.1.1.l.length y.1.2.2] ∧ a' = { tmps := #[.agg #[.int .i64 t.k, .int .i64 t.n, .string t.s, .slice A t.l.length c], .int .i64 n, .pointer (some ⟨w.heap.size, 0, none⟩), .pointer (some ⟨w.heap.size + 1, 0, none⟩), .pointer (some ⟨w.heap.size + 1 + 1, 0, none⟩), .pointer (some ⟨w.heap.size + 1 + 1 + 1, 0, none⟩), .int .i64 0, .pointer (some ⟨Bx, 0, none⟩), .agg #[.int .i64 t.k, .int .i64 t.n, .string t.s, .slice A t.l.length c], .int .i64 0, .int .i64 0, .bool false, undef, undef, .agg #[.int .i64 t.k, .int .i64 t.n, .string t.s, .slice A t.l.length c], .func (.func 134) #[] #[.pointer (some ⟨w1.heap.size, 0, none⟩)], .agg #[.int .i64 y.1.1.k, .int .i64 y.1.1.n, .string y.1.1.s, .slice y.1.2.1 y.1.1.l.length y.1.2.2], undef, undef, undef, undef, undef, undef, undef, undef, undef, undef, undef, undef, undef, undef, undef, undef, undef, undef, undef, undef, undef, undef, undef], defers := [] })
    (fun y a' _ X Y row hs hg hr => by
      obtain ⟨Bx, h1, h2, h3⟩ := hs
      exact ⟨Bx, h1, own_cells hg hr _ _ h2 rfl, h3⟩)
    ?assign ?body ?done ?stop
  case assign =>
    rintro l2 pre y W K hI hK
    simp only [EW.encs]
    have hsW : W2.heap.size ≤ W.heap.size := by have h := hI; rw [HIdef.out] at h; exact h.2.2.2.2.2.1
    gi_wp2
    exact hK _ _ ((KeepsOthers.alloc _ _).from _) (KpT.alloc (by omega) _) (hIown.alloc _ hI) ⟨W.heap.size, hsW, Blk.new _ _ _, rfl⟩
  case body =>
    rintro l2 pre y a' W hl ⟨r, hr⟩ hI ⟨Bx, hBx, hbx, rfl⟩ hlt
    rw [HIdef.out] at hI
    obtain ⟨hx, hn, hy, he5, hB, hS, hgood⟩ := hI
    obtain ⟨⟨x0, x1, x2, x3⟩, -⟩ := hbx.four; obtain ⟨n0, -⟩ := hn.one
    have hlbx := hbx.lt; have hln := hn.lt
    have hyd := y.2.1
    have HI := Lib.hid (show I pre W from by rw [HIdef.out]; exact ⟨hx, hn, hy, he5, hB, hS, hgood⟩)
    have hok1 : ¬ shBad n y.1.1 → I (pre ++ [y]) W := fun h => by rw [HIdef.out]; exact ⟨hx, hn, hy, he5, hB, hS, fun z hz => (List.mem_append.1 hz).elim (hgood z) (fun h2 => by rw [List.mem_singleton.1 h2]; exact h)⟩
    have Hok1 := Lib.hid hok1; have Hy := Lib.hid hy; have He5 := Lib.hid he5; have HB := Lib.hid hB; clear hok1 hx hn hgood hy he5 hB
    by_cases hk1 : y.1.1.k = 1
    case neg =>
      have hkb : (y.1.1.k == 1) = false := by simpa using hk1
      gi_wp2
      exact ⟨KeepsFrom.refl _ _, KpT.refl _ _, Hok1.out (fun h => hk1 h.1)⟩
    rw [hk1] at x0
    have hvb := var_bd y.2.1 hk1
    obtain ⟨m, hm⟩ : ∃ m, m = y.1.1.n := ⟨_, rfl⟩
    rw [← hm] at x1 hvb
    have hm0 : 0 ≤ m := hvb.1; have hm1 : m ≤ 100000 := by omega
    by_cases hA : n < -m
    case pos =>
      have dA : decide (n < -m) = true := decide_eq_true hA
      have hbad : shBad n y.1.1 := ⟨hk1, by rw [← hm]; omega⟩
      have hE : SEnd w Tm.zero 1 (((((W.setCell ⟨w.heap.size + 1 + 1, 0, none⟩ (.int .i64 0)).setCell ⟨w.heap.size + 1 + 1, 1, none⟩ (.int .i64 0)).setCell ⟨w.heap.size + 1 + 1, 2, none⟩ (.string ⟨#[]⟩)).setCell ⟨w.heap.size + 1 + 1, 3, none⟩ (.slice none 0 0)).setCell ⟨w.heap.size + 1 + 1 + 1, 0, none⟩ (.int .i64 1)) := by
        have h1 := set4_at W (w.heap.size + 1 + 1) _ 25 Hy.out rfl (.int .i64 0) (.int .i64 0) (.string ⟨#[]⟩) (.slice none 0 0)
        have hbut : But (w.heap.size + 1 + 1) W _ := ((((But.refl (w.heap.size + 1 + 1) W).setCell 0 (.int .i64 0)).setCell 1 (.int .i64 0)).setCell 2 (.string ⟨#[]⟩)).setCell 3 (.slice none 0 0)
        have h2 := (hbut.block _ He5.out.lt (by omega)).trans He5.out
        have h3 := (show Blk _ (w.heap.size + 1 + 1 + 1) 28 #[.int .i64 0] from h2).set_ 0 (.int .i64 1)
        exact ⟨none, 0, h1.far (by simp) _, h3, by show (0 : Nat) ≤ _; omega, TmC.nil _ _ (by omega) (fun _ => rfl), (HB.out.trans (hbut.below (by omega) HB.out.size)).setCell (p := ⟨w.heap.size + 1 + 1 + 1, 0, none⟩) (by simp; omega) _⟩
      have hE2 := Lib.hid hE; clear hE
      have HIx2 := Lib.hid (show Ix Code.ret (pre ++ [y]) (((((W.setCell ⟨w.heap.size + 1 + 1, 0, none⟩ (.int .i64 0)).setCell ⟨w.heap.size + 1 + 1, 1, none⟩ (.int .i64 0)).setCell ⟨w.heap.size + 1 + 1, 2, none⟩ (.string ⟨#[]⟩)).setCell ⟨w.heap.size + 1 + 1, 3, none⟩ (.slice none 0 0)).setCell ⟨w.heap.size + 1 + 1 + 1, 0, none⟩ (.int .i64 1)) from by rw [HIx.out]; exact ⟨rfl, ⟨y, by simp, hbad⟩, hE2.out⟩); clear hbad
      have ly := Hy.out.lt; have le := He5.out.lt
      obtain ⟨⟨d0, d1_, d2_, d3⟩, ⟨g0, g1, g2, g3⟩⟩ := Hy.out.four
      obtain ⟨k0, k1⟩ := He5.out.one
      gi_wp2
      exact ⟨(((((KeepsOthers.setCell _ _ _).trans (KeepsOthers.setCell _ _ _)).trans (KeepsOthers.setCell _ _ _)).trans (KeepsOthers.setCell _ _ _)).trans (KeepsOthers.setCell _ _ _)).from _, HIx2.out⟩
    have dA : decide (n < -m) = false := decide_eq_false hA
    by_cases hC : 100000 - m ≤ n
    case pos =>
      have dC : decide (100000 - m ≤ n) = true := decide_eq_true hC
      have hbad : shBad n y.1.1 := ⟨hk1, by rw [← hm]; omega⟩
      have hE : SEnd w Tm.zero 1 (((((W.setCell ⟨w.heap.size + 1 + 1, 0, none⟩ (.int .i64 0)).setCell ⟨w.heap.size + 1 + 1, 1, none⟩ (.int .i64 0)).setCell ⟨w.heap.size + 1 + 1, 2, none⟩ (.string ⟨#[]⟩)).setCell ⟨w.heap.size + 1 + 1, 3, none⟩ (.slice none 0 0)).setCell ⟨w.heap.size + 1 + 1 + 1, 0, none⟩ (.int .i64 1)) := by
        have h1 := set4_at W (w.heap.size + 1 + 1) _ 25 Hy.out rfl (.int .i64 0) (.int .i64 0) (.string ⟨#[]⟩) (.slice none 0 0)
        have hbut : But (w.heap.size + 1 + 1) W _ := ((((But.refl (w.heap.size + 1 + 1) W).setCell 0 (.int .i64 0)).setCell 1 (.int .i64 0)).setCell 2 (.string ⟨#[]⟩)).setCell 3 (.slice none 0 0)
        have h2 := (hbut.block _ He5.out.lt (by omega)).trans He5.out
        have h3 := (show Blk _ (w.heap.size + 1 + 1 + 1) 28 #[.int .i64 0] from h2).set_ 0 (.int .i64 1)
        exact ⟨none, 0, h1.far (by simp) _, h3, by show (0 : Nat) ≤ _; omega, TmC.nil _ _ (by omega) (fun _ => rfl), (HB.out.trans (hbut.below (by omega) HB.out.size)).setCell (p := ⟨w.heap.size + 1 + 1 + 1, 0, none⟩) (by simp; omega) _⟩
      have hE2 := Lib.hid hE; clear hE
      have HIx2 := Lib.hid (show Ix Code.ret (pre ++ [y]) (((((W.setCell ⟨w.heap.size + 1 + 1, 0, none⟩ (.int .i64 0)).setCell ⟨w.heap.size + 1 + 1, 1, none⟩ (.int .i64 0)).setCell ⟨w.heap.size + 1 + 1, 2, none⟩ (.string ⟨#[]⟩)).setCell ⟨w.heap.size + 1 + 1, 3, none⟩ (.slice none 0 0)).setCell ⟨w.heap.size + 1 + 1 + 1, 0, none⟩ (.int .i64 1)) from by rw [HIx.out]; exact ⟨rfl, ⟨y, by simp, hbad⟩, hE2.out⟩); clear hbad
      have ly := Hy.out.lt; have le := He5.out.lt
      obtain ⟨⟨d0, d1_, d2_, d3⟩, ⟨g0, g1, g2, g3⟩⟩ := Hy.out.four
      obtain ⟨k0, k1⟩ := He5.out.one
      gi_wp2
      exact ⟨(((((KeepsOthers.setCell _ _ _).trans (KeepsOthers.setCell _ _ _)).trans (KeepsOthers.setCell _ _ _)).trans (KeepsOthers.setCell _ _ _)).trans (KeepsOthers.setCell _ _ _)).from _, HIx2.out⟩
    have dC : decide (100000 - m ≤ n) = false := decide_eq_false hC
    have hgd := Hok1.out (fun h => by have := h.2; rw [← hm] at this; omega)
    have Hgd := Lib.hid hgd; clear hgd
    gi_wp2
    exact ⟨KeepsFrom.refl _ _, KpT.refl _ _, Hgd.out⟩
  case stop =>
    rintro D c2 pre W hD hSp hIx hDk
    rw [HIx.out] at hIx
    obtain ⟨rfl, ⟨y, hy, hyb⟩, hE⟩ := hIx
    have hsf : sb = false := by
      rw [Hsb.out, ← Bool.not_eq_true, shB_iff]
      intro h
      exact h y.1.1 (hSp.subset (List.mem_map.2 ⟨y, hy, rfl⟩)) hyb
    subst hsf
    obtain rfl : rt = Tm.zero := by rw [Hrt.out]; rfl
    obtain rfl : re = 1 := by rw [Hre.out]; rfl
    have HE := Lib.hid hE; clear hE hy hyb hSp
    gi_wp2
    refine leaves_marks (N := w.heap.size + 2) (fun W' => SEnd w Tm.zero 1 W') (fun W5 D5 h1 hD5 hk5 => h1.put hD5 hk5) (fun W5 h1 => h1.res rfl rfl rfl) [{ target := .collected D, args := #[] }] _ ⟨⟨D, rfl, by omega, hDk, fun e he => by simp at he⟩, trivial⟩ HE.out
  case done =>
    rintro D ys W hD hys hI hDk
    rw [HIdef.out] at hI
    obtain ⟨hx, hn, hy, he5, hB, hS, hgood⟩ := hI
    have hst : sb = true := by
      rw [Hsb.out, shB_iff]
      intro y hy
      have h1 : ys.map EW.tm = t.pre := hys
      rw [← h1] at hy
      obtain ⟨z, hz, rfl⟩ := List.mem_map.1 hy
      exact hgood z hz
    subst hst
    obtain ⟨rr, hrr⟩ : ∃ r, r = R.getD Tm.zero := ⟨_, rfl⟩
    obtain ⟨q, hq⟩ : ∃ q : Int, q = if R.isSome = true then 0 else 2 := ⟨_, rfl⟩
    obtain rfl : rr = rt := by rw [Hrt.out, hrr]; rfl
    obtain rfl : q = re := by rw [Hre.out, hq]; rfl
    have hti := isB_iff.1 Hb.out.symm
    have hcall := (callsIn_wide (n := 4)).2 (replaced_calls 96 (w.heap.size + 1) (shF n) (fun _ => False) (fun W' => Blk W' (w.heap.size + 1) 3 #[.int .i64 n]) W (fun b W' W'' h1 h2 h3 => h2.but h3 (by omega)) (fun g hg => hg.elim) (fun _ _ => rfl) (fun m x hx => by unfold shF at hx; injection hx with hx; rw [← hx]; show (1 : Nat) + 0 ≤ _; omega) (fun W' m h1 h2 h3 => shift1_calls _ (w.heap.size + 1) n W' m h1) t _ _ ⟨A, c, rfl, hs, Hc.out.stay hB (Nat.le_refl _)⟩ hn (by omega) (fun x hx hk => var_bd (okB_pre t hti.1 x hx) hk))
    rw [← HR.out] at hcall
    have Hcall := Lib.hid hcall; have Hrr := Lib.hid hrr; have Hq := Lib.hid hq; clear hcall hrr hq hti hgood hys Hrt Hre
    obtain ⟨⟨a0, a1, a2, a3⟩, -⟩ := hx.four; have hlx := hx.lt; have hln := hn.lt
    have Hy := Lib.hid hy; have He5 := Lib.hid he5; have HB := Lib.hid hB; have Hn := Lib.hid hn; clear hy he5 hB hx hn
    gi_wp2_with fail
    refine ⟨trivial, ?_⟩
    refine Hcall.out.mono ?_
    rintro e w5 ⟨A5, c5, rfl, hs5, hc5, hb5⟩
    rw [← Hrr.out, ← Hq.out]
    rw [← Hrr.out] at hs5 hc5
    have hY5 := Hy.out.below hb5 Hy.out.lt; have hE5 := He5.out.below hb5 He5.out.lt; have hB5 := HB.out.trans (hb5.mono HB.out.size)
    have hDl : D < W.heap.size := (Array.getElem?_eq_some_iff.1 hDk).1
    have hD5 : w5.heap[D]? = some (.deferred (some [])) := (hb5.block D hDl).trans hDk
    have hWs : w.heap.size + 4 ≤ W.heap.size := by omega
    have hE : SEnd w rr q (((((w5.setCell ⟨w.heap.size + 1 + 1, 0, none⟩ (.int .i64 rr.k)).setCell ⟨w.heap.size + 1 + 1, 1, none⟩ (.int .i64 rr.n)).setCell ⟨w.heap.size + 1 + 1, 2, none⟩ (.string rr.s)).setCell ⟨w.heap.size + 1 + 1, 3, none⟩ (.slice A5 rr.l.length c5)).setCell ⟨w.heap.size + 1 + 1 + 1, 0, none⟩ (.int .i64 q)) := by
      have h1 := set4_at w5 (w.heap.size + 1 + 1) _ 25 hY5 rfl (.int .i64 rr.k) (.int .i64 rr.n) (.string rr.s) (.slice A5 rr.l.length c5)
      have hbut : But (w.heap.size + 1 + 1) w5 _ := ((((But.refl (w.heap.size + 1 + 1) w5).setCell 0 (.int .i64 rr.k)).setCell 1 (.int .i64 rr.n)).setCell 2 (.string rr.s)).setCell 3 (.slice A5 rr.l.length c5)
      have h2 := (hbut.block _ hE5.lt (by omega)).trans hE5
      have h3 := (show Blk _ (w.heap.size + 1 + 1 + 1) 28 #[.int .i64 0] from h2).set_ 0 (.int .i64 q)
      exact ⟨A5, c5, h1.far (by simp) _, h3, hs5, by have hu : ∀ g, W.heap.size ≤ g → g ≠ w.heap.size + 1 + 1 ∧ g ≠ w.heap.size + 1 + 1 + 1 := fun g hg => (by omega); exact (((hc5.but hbut (fun g hg => (hu g hg).1)).setCell ⟨w.heap.size + 1 + 1 + 1, 0, none⟩ (.int .i64 q) (fun g hg => (hu g hg).2)).mono (fun g hg => by have hg2 : W.heap.size ≤ g := hg; omega)), (hB5.trans (hbut.below (by omega) hB5.size)).setCell (p := ⟨w.heap.size + 1 + 1 + 1, 0, none⟩) (by simp; omega) _⟩
    have hD6 : (((((w5.setCell ⟨w.heap.size + 1 + 1, 0, none⟩ (.int .i64 rr.k)).setCell ⟨w.heap.size + 1 + 1, 1, none⟩ (.int .i64 rr.n)).setCell ⟨w.heap.size + 1 + 1, 2, none⟩ (.string rr.s)).setCell ⟨w.heap.size + 1 + 1, 3, none⟩ (.slice A5 rr.l.length c5)).setCell ⟨w.heap.size + 1 + 1 + 1, 0, none⟩ (.int .i64 q)).heap[D]? = some (.deferred (some [])) := by
      have hbut := ((((But.refl (w.heap.size + 1 + 1) w5).setCell 0 (.int .i64 rr.k)).setCell 1 (.int .i64 rr.n)).setCell 2 (.string rr.s)).setCell 3 (.slice A5 rr.l.length c5)
      exact (Below.heap_setCell _ _ _ D (by show D ≠ w.heap.size + 1 + 1 + 1; omega)).trans ((hbut.block D (Array.getElem?_eq_some_iff.1 hD5).1 (by omega)).trans hD5)
    obtain ⟨⟨k0, k1, k2, k3⟩, ⟨m0, m1, m2, m3⟩⟩ := hY5.four; obtain ⟨j0, j1⟩ := hE5.one; have hly := hY5.lt; have hle := hE5.lt
    have HE := Lib.hid hE; have HD6 := Lib.hid hD6; clear hE hD6 hD5 hY5 hE5 hB5 hc5 hs5 hb5
    gi_wp2
    refine leaves_marks (N := w.heap.size + 2) (fun W' => SEnd w rr q W') (fun W5 D5 h1 hD5 hk5 => h1.put hD5 hk5) (fun W5 h1 => h1.res rfl rfl rfl) [{ target := .collected D, args := #[] }] _ ⟨⟨D, rfl, by omega, HD6.out, fun e he => by simp at he⟩, trivial⟩ HE.out
end Go.Proofs.Ytfhgknmkpegpbaa
