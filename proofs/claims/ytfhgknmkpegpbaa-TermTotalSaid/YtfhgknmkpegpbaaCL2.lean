/- The walk of TermTotal. -/
import Derived.Test.YtfhgknmkpegpbaaM8
import Derived.Test.YtfhgknmkpegpbaaCT46
import Derived.Test.YtfhgknmkpegpbaaCP1
set_option linter.unusedVariables false
set_option linter.unusedSimpArgs false
namespace Go.Proofs.Ytfhgknmkpegpbaa
open Go.RowKit

theorem Blk.new' {W : World} {g : Nat} {t : TypeId} {cs : Array Value} (h : g = W.heap.size) : Blk (W.alloc (.cells cs t)) g t cs := by rw [h]; exact Blk.new _ _ _
theorem TmC.lit3 {P : Nat → Prop} {W : World} (ts : List (Tm × Option Addr × Nat)) (h : ∀ e ∈ ts, e.1.s.size ≤ 9223372036854775807 ∧ TmC P W e.2.1 e.2.2 e.1.l) (hl : ts.length ≤ 100) :
    TmC (fun g => P g ∨ g = W.heap.size) (W.alloc (.cells (ts.flatMap encE).toArray 25)) (some ⟨W.heap.size, 0, none⟩) ts.length (ts.map (fun e => e.1)) :=
  TmC.lit ts (fun e he => ⟨(h e he).1, ((h e he).2.stay ((Below.refl _ _).alloc (Nat.le_refl _) _) (Nat.le_refl _)).mono (fun g hg => Or.inl hg)⟩) (Blk.new _ _ _) (Or.inr rfl) (by omega)

set_option maxRecDepth 100000 in
set_option maxHeartbeats 8000000 in
theorem total_calls (x y z : Tm) (P : Nat → Prop) (v0 v1 v2 : Value) (w : World) (hx : TmV P w v0 x) (hy : TmV P w v1 y) (hz : TmV P w v2 z) :
    Calls Try.prog 4 #[v0, v1, v2] w fun e w' => e = .returned (.bool true) ∧ Below w.heap.size w w' := by
  obtain ⟨A, a, rfl, hxs, hxc⟩ := hx
  obtain ⟨B, b, rfl, hys, hyc⟩ := hy
  obtain ⟨C, c, rfl, hzs, hzc⟩ := hz
  obtain ⟨W0, hW0⟩ : ∃ W0, W0 = ((w.alloc (.cells #[.int .i64 x.k, .int .i64 x.n, .string x.s, .slice A x.l.length a] 25)).alloc (.cells #[.int .i64 y.k, .int .i64 y.n, .string y.s, .slice B y.l.length b] 25)).alloc (.cells #[.int .i64 z.k, .int .i64 z.n, .string z.s, .slice C z.l.length c] 25) := ⟨_, rfl⟩
  have HB0 := Lib.hid (show Below w.heap.size w W0 from by rw [hW0]; exact (((Below.refl _ _).alloc (Nat.le_refl _) _).alloc (by simp) _).alloc (by simp; omega) _)
  have HX0 := Lib.hid (show Blk W0 w.heap.size 25 #[.int .i64 x.k, .int .i64 x.n, .string x.s, .slice A x.l.length a] from by rw [hW0]; exact ((Blk.new' rfl).alloc _).alloc _)
  have HY0 := Lib.hid (show Blk W0 (w.heap.size + 1) 25 #[.int .i64 y.k, .int .i64 y.n, .string y.s, .slice B y.l.length b] from by rw [hW0]; exact (Blk.new' (by simp)).alloc _)
  have HZ0 := Lib.hid (show Blk W0 (w.heap.size + 1 + 1) 25 #[.int .i64 z.k, .int .i64 z.n, .string z.s, .slice C z.l.length c] from by rw [hW0]; exact Blk.new' (by simp))
  have Hxc := Lib.hid (hxc.stay HB0.out (Nat.le_refl _)); have Hyc := Lib.hid (hyc.stay HB0.out (Nat.le_refl _)); have Hzc := Lib.hid (hzc.stay HB0.out (Nat.le_refl _)); clear hxc hyc hzc
  have HW := Lib.hid hW0; clear hW0
  go_enter Try.func4, Try.ntmps4
  go_wp2_with fail
  rw [← HW.out]
  refine (sane_calls W0).mono ?_
  rintro e w1 ⟨rfl, hb1⟩
  have HB1 := Lib.hid (HB0.out.trans (hb1.mono HB0.out.size))
  have HX1 := Lib.hid (HX0.out.below hb1 HX0.out.lt)
  have HY1 := Lib.hid (HY0.out.below hb1 HY0.out.lt)
  have HZ1 := Lib.hid (HZ0.out.below hb1 HZ0.out.lt)
  have Hxc1 := Lib.hid (Hxc.out.stay hb1 (Nat.le_refl _)); have Hyc1 := Lib.hid (Hyc.out.stay hb1 (Nat.le_refl _)); have Hzc1 := Lib.hid (Hzc.out.stay hb1 (Nat.le_refl _))
  have hsz := HB1.out.size
  clear hb1 HW Hxc Hyc Hzc HX0 HY0 HZ0 HB0
  obtain ⟨⟨x0, x1, x2, x3⟩, -⟩ := HX1.out.four
  obtain ⟨⟨y0, y1, y2, y3⟩, -⟩ := HY1.out.four
  obtain ⟨⟨z0, z1, z2, z3⟩, -⟩ := HZ1.out.four
  have lx := HX1.out.lt
  have ly := HY1.out.lt
  have lz := HZ1.out.lt
  go_wp2_with fail
  obtain ⟨W2, hW2⟩ : ∃ W2, W2 = w1.alloc (.cells #[.int .i64 x.k, .int .i64 x.n, .string x.s, .slice A x.l.length a, .int .i64 y.k, .int .i64 y.n, .string y.s, .slice B y.l.length b, .int .i64 z.k, .int .i64 z.n, .string z.s, .slice C z.l.length c] 25) := ⟨_, rfl⟩
  rw [← hW2]
  have hb2 : Below w1.heap.size w1 W2 := by rw [hW2]; exact (Below.refl _ _).alloc (Nat.le_refl _) _
  have hL : TmC (fun g => P g ∨ g = w1.heap.size) W2 (some ⟨w1.heap.size, 0, none⟩) 3 [x, y, z] := by
    rw [hW2]; exact TmC.lit3 [(x, A, a), (y, B, b), (z, C, c)] (fun e he => by
      simp only [List.mem_cons, List.not_mem_nil, or_false] at he
      rcases he with rfl | rfl | rfl
      · exact ⟨hxs, Hxc1.out⟩
      · exact ⟨hys, Hyc1.out⟩
      · exact ⟨hzs, Hzc1.out⟩) (by simp)
  replace HB1 := Lib.hid (HB1.out.trans (hb2.mono HB1.out.size))
  replace HX1 := Lib.hid (HX1.out.below hb2 HX1.out.lt)
  replace Hxc1 := Lib.hid (Hxc1.out.stay hb2 (Nat.le_refl _))
  replace HY1 := Lib.hid (HY1.out.below hb2 HY1.out.lt)
  replace Hyc1 := Lib.hid (Hyc1.out.stay hb2 (Nat.le_refl _))
  replace HZ1 := Lib.hid (HZ1.out.below hb2 HZ1.out.lt)
  replace Hzc1 := Lib.hid (Hzc1.out.stay hb2 (Nat.le_refl _))
  clear x0 x1 x2 x3 y0 y1 y2 y3 z0 z1 z2 z3 lx ly lz
  clear hb2 hW2
  have hcall := right_calls [x, y, z] _ _ _ _ hL
  obtain ⟨r, hr⟩ : ∃ r, r = rightB [x, y, z] := ⟨_, rfl⟩
  rw [← hr] at hcall
  have Hcall := Lib.hid hcall; clear hcall hL
  have Hr := Lib.hid hr; clear hr
  refine Hcall.out.mono ?_
  rintro e w3 ⟨rfl, hb⟩
  replace HB1 := Lib.hid (HB1.out.trans (hb.mono HB1.out.size))
  replace HX1 := Lib.hid (HX1.out.below hb HX1.out.lt)
  replace Hxc1 := Lib.hid (Hxc1.out.stay hb (Nat.le_refl _))
  replace HY1 := Lib.hid (HY1.out.below hb HY1.out.lt)
  replace Hyc1 := Lib.hid (Hyc1.out.stay hb (Nat.le_refl _))
  replace HZ1 := Lib.hid (HZ1.out.below hb HZ1.out.lt)
  replace Hzc1 := Lib.hid (Hzc1.out.stay hb (Nat.le_refl _))
  clear hb Hcall
  cases r
  case false =>
    go_wp2
    go_ret
    exact ⟨rfl, HB1.out⟩
  have hall := (rightB_iff.1 Hr.out.symm).2
  have HIx := Lib.hid (hall x (by simp)); have HIy := Lib.hid (hall y (by simp)); have HIz := Lib.hid (hall z (by simp)); clear hall
  have hlaw := ord_law x y z
  obtain ⟨oxy, hoxy⟩ : ∃ o, o = Tm.ord x y := ⟨_, rfl⟩
  obtain ⟨oyx, hoyx⟩ : ∃ o, o = Tm.ord y x := ⟨_, rfl⟩
  obtain ⟨oyz, hoyz⟩ : ∃ o, o = Tm.ord y z := ⟨_, rfl⟩
  obtain ⟨oxz, hoxz⟩ : ∃ o, o = Tm.ord x z := ⟨_, rfl⟩
  obtain ⟨sxy, hsxy⟩ : ∃ o, o = sameB x y := ⟨_, rfl⟩
  rw [← hoxy, ← hoyx, ← hoyz, ← hoxz, ← hsxy] at hlaw
  have Hlaw := Lib.hid hlaw; clear hlaw
  have Hxy := Lib.hid (show ∀ W, TmC P W A a x.l → TmC P W B b y.l → Calls Try.prog 27 #[.agg #[.int .i64 x.k, .int .i64 x.n, .string x.s, .slice A x.l.length a], .agg #[.int .i64 y.k, .int .i64 y.n, .string y.s, .slice B y.l.length b]] W (RetA W (.tuple #[.int .i64 oxy, .int .i64 0])) from fun W h1 h2 => by
    have h := compareTop_calls x y P P W _ _ ⟨A, a, rfl, hxs, h1⟩ ⟨B, b, rfl, hys, h2⟩
    have ha : allIs [x, y] = true := by simp [allIs, HIx.out, HIy.out]
    rw [ha, if_pos rfl, ← hoxy, show errT true = 0 from rfl] at h
    exact h)
  have Hyx := Lib.hid (show ∀ W, TmC P W B b y.l → TmC P W A a x.l → Calls Try.prog 27 #[.agg #[.int .i64 y.k, .int .i64 y.n, .string y.s, .slice B y.l.length b], .agg #[.int .i64 x.k, .int .i64 x.n, .string x.s, .slice A x.l.length a]] W (RetA W (.tuple #[.int .i64 oyx, .int .i64 0])) from fun W h1 h2 => by
    have h := compareTop_calls y x P P W _ _ ⟨B, b, rfl, hys, h1⟩ ⟨A, a, rfl, hxs, h2⟩
    have ha : allIs [y, x] = true := by simp [allIs, HIy.out, HIx.out]
    rw [ha, if_pos rfl, ← hoyx, show errT true = 0 from rfl] at h
    exact h)
  have Hyz := Lib.hid (show ∀ W, TmC P W B b y.l → TmC P W C c z.l → Calls Try.prog 27 #[.agg #[.int .i64 y.k, .int .i64 y.n, .string y.s, .slice B y.l.length b], .agg #[.int .i64 z.k, .int .i64 z.n, .string z.s, .slice C z.l.length c]] W (RetA W (.tuple #[.int .i64 oyz, .int .i64 0])) from fun W h1 h2 => by
    have h := compareTop_calls y z P P W _ _ ⟨B, b, rfl, hys, h1⟩ ⟨C, c, rfl, hzs, h2⟩
    have ha : allIs [y, z] = true := by simp [allIs, HIy.out, HIz.out]
    rw [ha, if_pos rfl, ← hoyz, show errT true = 0 from rfl] at h
    exact h)
  have Hxz := Lib.hid (show ∀ W, TmC P W A a x.l → TmC P W C c z.l → Calls Try.prog 27 #[.agg #[.int .i64 x.k, .int .i64 x.n, .string x.s, .slice A x.l.length a], .agg #[.int .i64 z.k, .int .i64 z.n, .string z.s, .slice C z.l.length c]] W (RetA W (.tuple #[.int .i64 oxz, .int .i64 0])) from fun W h1 h2 => by
    have h := compareTop_calls x z P P W _ _ ⟨A, a, rfl, hxs, h1⟩ ⟨C, c, rfl, hzs, h2⟩
    have ha : allIs [x, z] = true := by simp [allIs, HIx.out, HIz.out]
    rw [ha, if_pos rfl, ← hoxz, show errT true = 0 from rfl] at h
    exact h)
  have Hsame := Lib.hid (show ∀ W, TmC P W A a x.l → TmC P W B b y.l → Calls Try.prog 24 #[.agg #[.int .i64 x.k, .int .i64 x.n, .string x.s, .slice A x.l.length a], .agg #[.int .i64 y.k, .int .i64 y.n, .string y.s, .slice B y.l.length b]] W (RetB W sxy) from fun W h1 h2 => by rw [hsxy]; exact same_calls x P P W _ _ y ⟨A, a, rfl, hxs, h1⟩ ⟨B, b, rfl, hys, h2⟩)
  clear hoxy hoyx hoyz hoxz hsxy HIx HIy HIz Hr
  obtain ⟨⟨x0, x1, x2, x3⟩, -⟩ := HX1.out.four
  have lx := HX1.out.lt
  obtain ⟨⟨y0, y1, y2, y3⟩, -⟩ := HY1.out.four
  have ly := HY1.out.lt
  obtain ⟨⟨z0, z1, z2, z3⟩, -⟩ := HZ1.out.four
  have lz := HZ1.out.lt
  go_wp2_with fail
  refine (Hxy.out _ Hxc1.out Hyc1.out).mono ?_
  rintro e w4 ⟨rfl, hb⟩
  replace HB1 := Lib.hid (HB1.out.trans (hb.mono HB1.out.size))
  replace HX1 := Lib.hid (HX1.out.below hb HX1.out.lt)
  replace Hxc1 := Lib.hid (Hxc1.out.stay hb (Nat.le_refl _))
  replace HY1 := Lib.hid (HY1.out.below hb HY1.out.lt)
  replace Hyc1 := Lib.hid (Hyc1.out.stay hb (Nat.le_refl _))
  replace HZ1 := Lib.hid (HZ1.out.below hb HZ1.out.lt)
  replace Hzc1 := Lib.hid (Hzc1.out.stay hb (Nat.le_refl _))
  clear x0 x1 x2 x3 y0 y1 y2 y3 z0 z1 z2 z3 lx ly lz
  clear hb Hxy
  obtain ⟨⟨x0, x1, x2, x3⟩, -⟩ := HX1.out.four
  have lx := HX1.out.lt
  obtain ⟨⟨y0, y1, y2, y3⟩, -⟩ := HY1.out.four
  have ly := HY1.out.lt
  obtain ⟨⟨z0, z1, z2, z3⟩, -⟩ := HZ1.out.four
  have lz := HZ1.out.lt
  go_wp2_with fail
  refine (Hyx.out _ Hyc1.out Hxc1.out).mono ?_
  rintro e w5 ⟨rfl, hb⟩
  replace HB1 := Lib.hid (HB1.out.trans (hb.mono HB1.out.size))
  replace HX1 := Lib.hid (HX1.out.below hb HX1.out.lt)
  replace Hxc1 := Lib.hid (Hxc1.out.stay hb (Nat.le_refl _))
  replace HY1 := Lib.hid (HY1.out.below hb HY1.out.lt)
  replace Hyc1 := Lib.hid (Hyc1.out.stay hb (Nat.le_refl _))
  replace HZ1 := Lib.hid (HZ1.out.below hb HZ1.out.lt)
  replace Hzc1 := Lib.hid (Hzc1.out.stay hb (Nat.le_refl _))
  clear x0 x1 x2 x3 y0 y1 y2 y3 z0 z1 z2 z3 lx ly lz
  clear hb Hyx
  obtain ⟨⟨x0, x1, x2, x3⟩, -⟩ := HX1.out.four
  have lx := HX1.out.lt
  obtain ⟨⟨y0, y1, y2, y3⟩, -⟩ := HY1.out.four
  have ly := HY1.out.lt
  obtain ⟨⟨z0, z1, z2, z3⟩, -⟩ := HZ1.out.four
  have lz := HZ1.out.lt
  go_wp2_with fail
  refine (Hyz.out _ Hyc1.out Hzc1.out).mono ?_
  rintro e w6 ⟨rfl, hb⟩
  replace HB1 := Lib.hid (HB1.out.trans (hb.mono HB1.out.size))
  replace HX1 := Lib.hid (HX1.out.below hb HX1.out.lt)
  replace Hxc1 := Lib.hid (Hxc1.out.stay hb (Nat.le_refl _))
  replace HY1 := Lib.hid (HY1.out.below hb HY1.out.lt)
  replace Hyc1 := Lib.hid (Hyc1.out.stay hb (Nat.le_refl _))
  replace HZ1 := Lib.hid (HZ1.out.below hb HZ1.out.lt)
  replace Hzc1 := Lib.hid (Hzc1.out.stay hb (Nat.le_refl _))
  clear x0 x1 x2 x3 y0 y1 y2 y3 z0 z1 z2 z3 lx ly lz
  clear hb Hyz
  obtain ⟨⟨x0, x1, x2, x3⟩, -⟩ := HX1.out.four
  have lx := HX1.out.lt
  obtain ⟨⟨y0, y1, y2, y3⟩, -⟩ := HY1.out.four
  have ly := HY1.out.lt
  obtain ⟨⟨z0, z1, z2, z3⟩, -⟩ := HZ1.out.four
  have lz := HZ1.out.lt
  go_wp2_with fail
  refine (Hxz.out _ Hxc1.out Hzc1.out).mono ?_
  rintro e w7 ⟨rfl, hb⟩
  replace HB1 := Lib.hid (HB1.out.trans (hb.mono HB1.out.size))
  replace HX1 := Lib.hid (HX1.out.below hb HX1.out.lt)
  replace Hxc1 := Lib.hid (Hxc1.out.stay hb (Nat.le_refl _))
  replace HY1 := Lib.hid (HY1.out.below hb HY1.out.lt)
  replace Hyc1 := Lib.hid (Hyc1.out.stay hb (Nat.le_refl _))
  replace HZ1 := Lib.hid (HZ1.out.below hb HZ1.out.lt)
  replace Hzc1 := Lib.hid (Hzc1.out.stay hb (Nat.le_refl _))
  clear x0 x1 x2 x3 y0 y1 y2 y3 z0 z1 z2 z3 lx ly lz
  clear hb Hxz
  obtain ⟨h1, h2, h3, h4, h5, h6⟩ := Hlaw.out
  subst h2
  clear Hlaw
  obtain ⟨t1, t2, t3, t4, t5, t6⟩ := h6
  obtain ⟨⟨x0, x1, x2, x3⟩, -⟩ := HX1.out.four
  have lx := HX1.out.lt
  obtain ⟨⟨y0, y1, y2, y3⟩, -⟩ := HY1.out.four
  have ly := HY1.out.lt
  obtain ⟨⟨z0, z1, z2, z3⟩, -⟩ := HZ1.out.four
  have lz := HZ1.out.lt
  rcases h1 with rfl | rfl | rfl
  · have hs : sxy = false := by rw [← h3]; rfl
    subst hs
    clear h3
    go_wp2_with fail
    refine (Hsame.out _ Hxc1.out Hyc1.out).mono ?_
    rintro e w8 ⟨rfl, hb⟩
    have HB8 := Lib.hid (HB1.out.trans (hb.mono HB1.out.size))
    clear hb Hsame
    rcases h4 with rfl | rfl | rfl <;> rcases h5 with rfl | rfl | rfl <;> first
      | (exfalso; omega)
      | (clear t1 t2 t3 t4 t5 t6; go_wp2; go_ret; exact ⟨rfl, HB8.out⟩)
  · have hs : sxy = true := by rw [← h3]; rfl
    subst hs
    clear h3
    go_wp2_with fail
    refine (Hsame.out _ Hxc1.out Hyc1.out).mono ?_
    rintro e w8 ⟨rfl, hb⟩
    have HB8 := Lib.hid (HB1.out.trans (hb.mono HB1.out.size))
    clear hb Hsame
    rcases h4 with rfl | rfl | rfl <;> rcases h5 with rfl | rfl | rfl <;> first
      | (exfalso; omega)
      | (clear t1 t2 t3 t4 t5 t6; go_wp2; go_ret; exact ⟨rfl, HB8.out⟩)
  · have hs : sxy = false := by rw [← h3]; rfl
    subst hs
    clear h3
    go_wp2_with fail
    refine (Hsame.out _ Hxc1.out Hyc1.out).mono ?_
    rintro e w8 ⟨rfl, hb⟩
    have HB8 := Lib.hid (HB1.out.trans (hb.mono HB1.out.size))
    clear hb Hsame
    rcases h4 with rfl | rfl | rfl <;> rcases h5 with rfl | rfl | rfl <;> first
      | (exfalso; omega)
      | (clear t1 t2 t3 t4 t5 t6; go_wp2; go_ret; exact ⟨rfl, HB8.out⟩)
end Go.Proofs.Ytfhgknmkpegpbaa
