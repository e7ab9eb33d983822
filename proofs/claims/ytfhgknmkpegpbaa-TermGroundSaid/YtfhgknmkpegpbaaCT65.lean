/- Times: function 49. -/
import Derived.Test.YtfhgknmkpegpbaaM3
import Derived.Test.YtfhgknmkpegpbaaCT50
import Derived.Test.YtfhgknmkpegpbaaCT56
import Derived.Test.YtfhgknmkpegpbaaM6
set_option linter.unusedVariables false
set_option linter.unusedSimpArgs false
namespace Go.Proofs.Ytfhgknmkpegpbaa
open Go.RowKit Go.Shelf
attribute [local go_sem] Oper.semAt_some

/-- How often a variable stands among nodes. -/
def tmN (x : Int) (l : List Tm) : Nat := l.countP (fun y => decide (y.k = 1 ∧ y.n = x))
theorem tmN_snoc (x : Int) (l : List Tm) (y : Tm) : tmN x (l ++ [y]) = tmN x l + (if y.k = 1 ∧ y.n = x then 1 else 0) := by
  unfold tmN; rw [List.countP_append, List.countP_singleton]; simp
set_option maxRecDepth 100000 in
set_option maxHeartbeats 8000000 in
theorem times_calls (t : Tm) (x : Int) (P : Nat → Prop) (w : World) (v : Value) (hv : TmV P w v t) (hi : isB t = true) :
    Calls Try.prog 49 #[v, .int .i64 x] w (RetA w (.tuple #[.int .i64 (tmN x t.pre : Nat), .int .i64 0])) := by
  refine (callsIn_wide (n := 5)).1 ?_
  obtain ⟨A, c, rfl, hs, hc⟩ := hv
  obtain ⟨W0, hW0⟩ : ∃ W0, W0 = (w.alloc (.cells #[.int .i64 t.k, .int .i64 t.n, .string t.s, .slice A t.l.length c] 25)).alloc (.cells #[.int .i64 x] 3) := ⟨_, rfl⟩
  have HB0 := Lib.hid (show Below w.heap.size w W0 from by rw [hW0]; exact ((Below.refl _ _).alloc (Nat.le_refl _) _).alloc (by simp) _)
  have HX0 := Lib.hid (show Blk W0 w.heap.size 25 #[.int .i64 t.k, .int .i64 t.n, .string t.s, .slice A t.l.length c] from by rw [hW0]; exact (Blk.new _ _ _).alloc _)
  have HN0 := Lib.hid (show Blk W0 (w.heap.size + 1) 3 #[.int .i64 x] from by rw [hW0]; exact Blk.new' (by simp))
  have Hc := Lib.hid (hc.inside.mono (Q := (· < w.heap.size)) (fun g h => h.2)); clear hc
  have hcall := (callsIn_wide (n := 4)).2 (check_calls t _ W0 _ ⟨A, c, rfl, hs, Hc.out.stay HB0.out (Nat.le_refl _)⟩)
  rw [hi] at hcall
  have Hcall := Lib.hid hcall; have Hb := Lib.hid hi; have HW := Lib.hid hW0; clear hcall hi hW0
  refine callsIn_of_wp_marks Try.func49 rfl trivial ?_ rfl
  simp only [Try.ntmps49, List.size_toArray, List.length_cons, List.length_nil, Nat.reduceAdd, Nat.reduceSub, Array.replicate_succ, Array.replicate_zero, List.push_toArray, List.append_toArray, List.nil_append, List.cons_append]
  gi_wp2_with fail
  rw [← HW.out]
  refine ⟨trivial, ?_⟩
  refine Hcall.out.mono ?_
  rintro e w1 ⟨rfl, hb⟩
  have HX1 := Lib.hid (HX0.out.below hb HX0.out.lt); have HN1 := Lib.hid (HN0.out.below hb HN0.out.lt); have HB1 := Lib.hid (HB0.out.trans (hb.mono HB0.out.size))
  clear hb Hcall HX0 HN0 HB0 HW
  have he : errT true = 0 := rfl
  rw [he]
  obtain ⟨V1, hV1⟩ : ∃ V, V = w1.alloc (.cells #[.int .i64 0] 3) := ⟨_, rfl⟩
  have hb1 : Below w1.heap.size w1 V1 := by rw [hV1]; exact (Below.refl _ _).alloc (Nat.le_refl _) _
  have HK1 := Lib.hid (show Blk V1 w1.heap.size 3 #[.int .i64 0] from by rw [hV1]; exact Blk.new _ _ _)
  have hszw : w.heap.size + 1 < w1.heap.size := HN1.out.lt
  have HX1b := Lib.hid (HX1.out.below hb1 HX1.out.lt); have HN1b := Lib.hid (HN1.out.below hb1 HN1.out.lt); have HB1b := Lib.hid (HB1.out.trans (hb1.mono HB1.out.size))
  obtain ⟨⟨a0, a1, a2, a3⟩, -⟩ := HX1.out.four; have lx := HX1.out.lt
  have hVs : V1.heap.size = w1.heap.size + 1 := by rw [hV1]; simp
  have HV1 := Lib.hid hV1; clear hV1 hb1 HX1 HN1 HB1
  gi_wp2_with (rw [← HV1.out]; refine ⟨trivial, ?_⟩; gi_at_call 95; refine (nodes_in Fence.wide _ trivial rfl _ _ _ _ _ _ _).mono ?_; rintro e w' ⟨rfl, rfl⟩)
  obtain ⟨W2, hW2⟩ : ∃ W2, W2 = V1.alloc (.cells #[.int .i64 t.k, .int .i64 t.n, .string t.s, .slice A t.l.length c] 25) := ⟨_, rfl⟩
  rw [← hW2]
  have hb2 : Below V1.heap.size V1 W2 := by rw [hW2]; exact (Below.refl _ _).alloc (Nat.le_refl _) _
  have hbox : Blk W2 V1.heap.size 25 #[.int .i64 t.k, .int .i64 t.n, .string t.s, .slice A t.l.length c] := by rw [hW2]; exact Blk.new _ _ _
  have HN2 := Lib.hid (HN1b.out.below hb2 HN1b.out.lt); have HK2 := Lib.hid (HK1.out.below hb2 HK1.out.lt); have HB2 := Lib.hid (HB1b.out.trans (hb2.mono HB1b.out.size))
  have hsz2 : w1.heap.size + 1 < W2.heap.size := by have := hbox.lt; omega
  obtain ⟨cb, hcb⟩ : ∃ b, b = w1.heap.size := ⟨_, rfl⟩
  rw [← hcb] at HK2 hsz2 hszw hVs ⊢
  rw [hVs] at hbox
  clear hb2 hW2 HX1b HN1b HB1b a0 a1 a2 a3 lx HK1 HV1 hVs hcb
  have hti := isB_iff.1 Hb.out
  obtain ⟨xe, hxe⟩ : ∃ xe : EW w.heap.size w, xe.1 = (t, A, c) := ⟨⟨(t, A, c), hti.1, hs, Hc.out⟩, rfl⟩
  have hseq := nodes_stops Fence.wide rfl (5 - 1) trivial trivial rfl (cb + 1) w.heap.size w xe W2 (by omega) HB2.out (by rw [hxe]; exact hbox)
  rw [hxe] at hseq
  obtain ⟨I, hIdef⟩ : ∃ I : List (EW w.heap.size w) → World → Prop, I = fun ys W => Blk W (w.heap.size + 1) 3 #[.int .i64 x] ∧ Blk W cb 3 #[.int .i64 (tmN x (ys.map EW.tm) : Nat)] ∧ Below w.heap.size w W ∧ W2.heap.size ≤ W.heap.size := ⟨_, rfl⟩
  have hIown : OwnFrom W2.heap.size I := by
    intro ys X Y row h hg hr
    rw [hIdef] at h ⊢
    obtain ⟨h1, h2, h3, h4⟩ := h
    have hk := own_cells hg hr
    exact ⟨hk _ _ h1 rfl, hk _ _ h2 rfl, h3.grown hg h3.size (fun r e => by have := (hr r e).1; omega), Nat.le_trans h4 hg.size⟩
  have hI0 : I [] W2 := by rw [hIdef]; exact ⟨HN2.out, HK2.out, HB2.out, Nat.le_refl _⟩
  have HIdef := Lib.hid hIdef; clear hIdef
  refine wpIn_rangeFunc_ownH rfl (by decide) (gf := 134) (lb := #[.pointer (some ⟨cb + 1, 0, none⟩)]) rfl trivial (enters_of Try.func134 (by kernel_rfl) rfl) hseq KpT.trans (fun W l o o' h1 h2 h3 h4 => kpT_b (B := W2.heap.size) (by omega) W l o o' h1 h2 h3 h4) (Below.refl _ _) (fun _ => rfl)
    I (fun _ _ _ => False) hIown (fun _ _ _ _ _ hs _ _ => hs) hI0
    (fun y a' W => ∃ Bx, W2.heap.size ≤ Bx ∧ Blk W Bx 25 #[.int .i64 y.1.1.k, .int .i64 y.1.1.n, .string y.1.1.s, .slice y.1.2.1 y.1.1.l.length y.1.2.2] ∧ a' = { tmps := #[.agg #[.int .i64 t.k, .int .i64 t.n, .string t.s, .slice A t.l.length c], .int .i64 x, .pointer (some ⟨w.heap.size, 0, none⟩), .pointer (some ⟨w.heap.size + 1, 0, none⟩), .int .i64 0, .int .i64 0, .int .i64 0, .pointer (some ⟨cb, 0, none⟩), .pointer (some ⟨Bx, 0, none⟩), .agg #[.int .i64 t.k, .int .i64 t.n, .string t.s, .slice A t.l.length c], .int .i64 0, .int .i64 0, .bool false, undef, .agg #[.int .i64 t.k, .int .i64 t.n, .string t.s, .slice A t.l.length c], .func (.func 134) #[] #[.pointer (some ⟨cb + 1, 0, none⟩)], .agg #[.int .i64 y.1.1.k, .int .i64 y.1.1.n, .string y.1.1.s, .slice y.1.2.1 y.1.1.l.length y.1.2.2], undef, undef, undef, undef, undef, undef, undef, undef, undef, undef, undef, undef], defers := [] })
    (fun y a' _ X Y row hs hg hr => by
      obtain ⟨Bx, h1, h2, h3⟩ := hs
      exact ⟨Bx, h1, own_cells hg hr _ _ h2 rfl, h3⟩)
    ?assign ?body ?done ?stop
  case assign =>
    rintro l2 pre y W K hI hK
    simp only [EW.encs]
    have hsW : W2.heap.size ≤ W.heap.size := by have h := hI; rw [HIdef.out] at h; exact h.2.2.2
    gi_wp2
    exact hK _ _ ((KeepsOthers.alloc _ _).from _) (KpT.alloc (by omega) _) (hIown.alloc _ hI) ⟨W.heap.size, hsW, Blk.new _ _ _, rfl⟩
  case body =>
    rintro l2 pre y a' W hl ⟨r, hr⟩ hI ⟨Bx, hBx, hbx, rfl⟩ hlt
    rw [HIdef.out] at hI
    obtain ⟨hn, hk, hB, hS⟩ := hI
    obtain ⟨⟨x0, x1, x2, x3⟩, -⟩ := hbx.four; obtain ⟨n0, -⟩ := hn.one; obtain ⟨k0, k1⟩ := hk.one
    have hlbx := hbx.lt; have hln := hn.lt; have hlk := hk.lt
    have hsnoc : tmN x ((pre ++ [y]).map EW.tm) = tmN x (pre.map EW.tm) + (if y.1.1.k = 1 ∧ y.1.1.n = x then 1 else 0) := by rw [List.map_append, List.map_singleton, tmN_snoc]; rfl
    have hcn : tmN x (pre.map EW.tm) ≤ 4000 := by have h1 : tmN x (pre.map EW.tm) ≤ (pre.map EW.tm).length := List.countP_le_length; rw [List.length_map] at h1; have h2 : pre.length < t.size := hlt; omega
    obtain ⟨q, hq⟩ : ∃ q, q = tmN x (pre.map EW.tm) := ⟨_, rfl⟩
    rw [← hq] at hsnoc hcn hk k0
    have Hsn := Lib.hid hsnoc; have Hn := Lib.hid hn; have Hk := Lib.hid hk; have HB := Lib.hid hB; clear hsnoc hn hk hB hq
    by_cases hk1 : y.1.1.k = 1
    case neg =>
      have hkb : (y.1.1.k == 1) = false := by simpa using hk1
      have hne : ¬(y.1.1.k = 1 ∧ y.1.1.n = x) := fun h => hk1 h.1
      have HI2 := Lib.hid (show I (pre ++ [y]) W from by rw [HIdef.out]; exact ⟨Hn.out, by rw [Hsn.out, if_neg hne]; exact Hk.out, HB.out, hS⟩); clear hne
      gi_wp2
      exact ⟨KeepsFrom.refl _ _, KpT.refl _ _, HI2.out⟩
    by_cases hx1 : y.1.1.n = x
    case neg =>
      rw [hk1] at x0
      have hxb : (y.1.1.n == x) = false := by simpa using hx1
      have hne : ¬(y.1.1.k = 1 ∧ y.1.1.n = x) := fun h => hx1 h.2
      have HI2 := Lib.hid (show I (pre ++ [y]) W from by rw [HIdef.out]; exact ⟨Hn.out, by rw [Hsn.out, if_neg hne]; exact Hk.out, HB.out, hS⟩); clear hne
      gi_wp2
      exact ⟨KeepsFrom.refl _ _, KpT.refl _ _, HI2.out⟩
    have hyes : y.1.1.k = 1 ∧ y.1.1.n = x := ⟨hk1, hx1⟩
    rw [hk1] at x0; rw [hx1] at x1
    have HI2 := Lib.hid (show I (pre ++ [y]) (W.setCell ⟨cb, 0, none⟩ (.int .i64 ((q : Int) + 1))) from by
      rw [HIdef.out]
      refine ⟨Hn.out.far (by show w.heap.size + 1 ≠ cb; omega) _, ?_, HB.out.setCell (p := ⟨cb, 0, none⟩) (by show w.heap.size ≤ cb; omega) _, by simpa using hS⟩
      rw [Hsn.out, if_pos hyes]
      have h1 := Hk.out.set_ 0 (.int .i64 ((q : Int) + 1))
      exact h1)
    have hKp : KpT w.heap.size W (W.setCell ⟨cb, 0, none⟩ (.int .i64 ((q : Int) + 1))) := ⟨(Below.refl _ _).setCell (p := ⟨cb, 0, none⟩) (by show w.heap.size ≤ cb; omega) _, fun g cs hb => hb.far (by show g ≠ cb; intro e; subst e; exact absurd rfl (Blk.ne_ hb Hk.out (by decide))) _⟩
    have HKp := Lib.hid hKp; clear hKp hyes hk1 hx1
    have hq0 : (0 : Int) ≤ (q : Int) := by omega
    have hq1 : (q : Int) ≤ 100000 := by omega
    gi_wp2
    exact ⟨(KeepsOthers.setCell _ _ _).from _, HKp.out, HI2.out⟩
  case stop =>
    rintro D c2 pre W hD hSp h hDk
    exact h.elim
  case done =>
    rintro D ys W hD hys hI hDk
    rw [HIdef.out] at hI
    obtain ⟨hn, hk, hB, hS⟩ := hI
    have h1 : ys.map EW.tm = t.pre := hys
    rw [h1] at hk
    obtain ⟨k0, -⟩ := hk.one; have hlk := hk.lt
    have HB := Lib.hid hB; clear hB hn hk h1 hys
    gi_wp2
    refine leaves_marks (N := w.heap.size) (fun W' => Below w.heap.size w W') (fun W5 D5 h1 hD5 hk5 => h1.trans (Below.putObj_ (B := w.heap.size) (Nat.le_refl _) W5 D5 (.deferred none) (.deferred none) hD5)) (fun W5 h1 => ⟨.tuple #[.int .i64 (tmN x t.pre : Nat), .int .i64 0], by simp [results, Try.results49, go_sem], rfl, h1⟩) [{ target := .collected D, args := #[] }] _ ⟨⟨D, rfl, by omega, hDk, fun e he => by simp at he⟩, trivial⟩ HB.out
end Go.Proofs.Ytfhgknmkpegpbaa
