/- The walk of TermLeast. -/
import Derived.Test.YtfhgknmkpegpbaaM8
import Derived.Test.YtfhgknmkpegpbaaCT46
import Derived.Test.YtfhgknmkpegpbaaCT54
set_option linter.unusedVariables false
set_option linter.unusedSimpArgs false
namespace Go.Proofs.Ytfhgknmkpegpbaa
open Go.RowKit

set_option maxRecDepth 100000 in
set_option maxHeartbeats 8000000 in
theorem leastLaw_calls (x : Tm) (vx : Value) (y : Tm) (vy : Value) (z : Tm) (vz : Value) (h : Tm) (vh : Value) (P : Nat → Prop) (w : World) (hx : TmV P w vx x) (hy : TmV P w vy y) (hz : TmV P w vz z) (hh : TmV P w vh h) :
    Calls Try.prog 6 #[vx, vy, vz, vh] w fun e w' => e = .returned (.bool true) ∧ Below w.heap.size w w' := by
  obtain ⟨Ax, cx, rfl, sx, hxc⟩ := hx
  obtain ⟨Ay, cy, rfl, sy, hyc⟩ := hy
  obtain ⟨Az, cz, rfl, sz, hzc⟩ := hz
  obtain ⟨Ah, ch, rfl, sh, hhc⟩ := hh
  obtain ⟨W0, hW0⟩ : ∃ W0, W0 = ((((w.alloc (.cells #[.int .i64 x.k, .int .i64 x.n, .string x.s, .slice Ax x.l.length cx] 25)).alloc (.cells #[.int .i64 y.k, .int .i64 y.n, .string y.s, .slice Ay y.l.length cy] 25)).alloc (.cells #[.int .i64 z.k, .int .i64 z.n, .string z.s, .slice Az z.l.length cz] 25)).alloc (.cells #[.int .i64 h.k, .int .i64 h.n, .string h.s, .slice Ah h.l.length ch] 25)) := ⟨_, rfl⟩
  have HB := Lib.hid (show Below w.heap.size w W0 from by rw [hW0]; exact (((((Below.refl _ _).alloc (by simp; try omega) _).alloc (by simp; try omega) _).alloc (by simp; try omega) _).alloc (by simp; try omega) _))
  have Hbx := Lib.hid (show Blk W0 (w.heap.size) 25 #[.int .i64 x.k, .int .i64 x.n, .string x.s, .slice Ax x.l.length cx] from by rw [hW0]; exact ((((Blk.new' rfl).alloc _).alloc _).alloc _))
  have Hby := Lib.hid (show Blk W0 (w.heap.size + 1) 25 #[.int .i64 y.k, .int .i64 y.n, .string y.s, .slice Ay y.l.length cy] from by rw [hW0]; exact (((Blk.new' (by simp)).alloc _).alloc _))
  have Hbz := Lib.hid (show Blk W0 (w.heap.size + 1 + 1) 25 #[.int .i64 z.k, .int .i64 z.n, .string z.s, .slice Az z.l.length cz] from by rw [hW0]; exact ((Blk.new' (by simp)).alloc _))
  have Hbh := Lib.hid (show Blk W0 (w.heap.size + 1 + 1 + 1) 25 #[.int .i64 h.k, .int .i64 h.n, .string h.s, .slice Ah h.l.length ch] from by rw [hW0]; exact (Blk.new' (by simp)))
  have Hxc := Lib.hid ((hxc.mono (Q := (fun _ => True)) (fun _ _ => trivial)).stay HB.out (Nat.le_refl _)); clear hxc
  have Hyc := Lib.hid ((hyc.mono (Q := (fun _ => True)) (fun _ _ => trivial)).stay HB.out (Nat.le_refl _)); clear hyc
  have Hzc := Lib.hid ((hzc.mono (Q := (fun _ => True)) (fun _ _ => trivial)).stay HB.out (Nat.le_refl _)); clear hzc
  have Hhc := Lib.hid ((hhc.mono (Q := (fun _ => True)) (fun _ _ => trivial)).stay HB.out (Nat.le_refl _)); clear hhc
  have HW := Lib.hid hW0; clear hW0
  go_enter Try.func6, Try.ntmps6
  go_wp2_with fail
  rw [← HW.out]
  clear HW
  refine (sane_calls W0).mono ?_
  rintro e w1 ⟨rfl, hb⟩
  replace HB := Lib.hid (HB.out.trans (hb.mono HB.out.size))
  replace Hbx := Lib.hid (Hbx.out.below hb Hbx.out.lt)
  replace Hby := Lib.hid (Hby.out.below hb Hby.out.lt)
  replace Hbz := Lib.hid (Hbz.out.below hb Hbz.out.lt)
  replace Hbh := Lib.hid (Hbh.out.below hb Hbh.out.lt)
  replace Hxc := Lib.hid (Hxc.out.stay hb (Nat.le_refl _))
  replace Hyc := Lib.hid (Hyc.out.stay hb (Nat.le_refl _))
  replace Hzc := Lib.hid (Hzc.out.stay hb (Nat.le_refl _))
  replace Hhc := Lib.hid (Hhc.out.stay hb (Nat.le_refl _))
  clear hb
  obtain ⟨⟨bx0, bx1, bx2, bx3⟩, -⟩ := Hbx.out.four
  have bxl := Hbx.out.lt
  obtain ⟨⟨by0, by1, by2, by3⟩, -⟩ := Hby.out.four
  have byl := Hby.out.lt
  obtain ⟨⟨bz0, bz1, bz2, bz3⟩, -⟩ := Hbz.out.four
  have bzl := Hbz.out.lt
  obtain ⟨⟨bh0, bh1, bh2, bh3⟩, -⟩ := Hbh.out.four
  have bhl := Hbh.out.lt
  go_wp2_with fail
  obtain ⟨Wlit, hWlit⟩ : ∃ W, W = w1.alloc (.cells #[.int .i64 x.k, .int .i64 x.n, .string x.s, .slice Ax x.l.length cx, .int .i64 y.k, .int .i64 y.n, .string y.s, .slice Ay y.l.length cy, .int .i64 z.k, .int .i64 z.n, .string z.s, .slice Az z.l.length cz, .int .i64 h.k, .int .i64 h.n, .string h.s, .slice Ah h.l.length ch] 25) := ⟨_, rfl⟩
  rw [← hWlit]
  have hb : Below w1.heap.size w1 Wlit := by rw [hWlit]; exact (Below.refl _ _).alloc (Nat.le_refl _) _
  have hlit : TmC (fun _ => True) Wlit (some ⟨w1.heap.size, 0, none⟩) 4 [x, y, z, h] := by
    rw [hWlit]; exact (TmC.lit3 (P := (fun _ => True)) [(x, Ax, cx), (y, Ay, cy), (z, Az, cz), (h, Ah, ch)] (fun e he => by
      simp only [List.mem_cons, List.not_mem_nil, or_false] at he
      rcases he with rfl | rfl | rfl | rfl
      · exact ⟨sx, Hxc.out⟩
      · exact ⟨sy, Hyc.out⟩
      · exact ⟨sz, Hzc.out⟩
      · exact ⟨sh, Hhc.out⟩
      ) (by simp)).mono (fun _ _ => trivial)
  clear bx0 bx1 bx2 bx3 bxl by0 by1 by2 by3 byl bz0 bz1 bz2 bz3 bzl bh0 bh1 bh2 bh3 bhl
  replace HB := Lib.hid (HB.out.trans (hb.mono HB.out.size))
  replace Hbx := Lib.hid (Hbx.out.below hb Hbx.out.lt)
  replace Hby := Lib.hid (Hby.out.below hb Hby.out.lt)
  replace Hbz := Lib.hid (Hbz.out.below hb Hbz.out.lt)
  replace Hbh := Lib.hid (Hbh.out.below hb Hbh.out.lt)
  replace Hxc := Lib.hid (Hxc.out.stay hb (Nat.le_refl _))
  replace Hyc := Lib.hid (Hyc.out.stay hb (Nat.le_refl _))
  replace Hzc := Lib.hid (Hzc.out.stay hb (Nat.le_refl _))
  replace Hhc := Lib.hid (Hhc.out.stay hb (Nat.le_refl _))
  clear hb hWlit
  have hcall := right_calls [x, y, z, h] _ _ _ _ hlit; clear hlit
  obtain ⟨r, hr⟩ : ∃ r, r = rightB [x, y, z, h] := ⟨_, rfl⟩
  rw [← hr] at hcall
  have Hcall := Lib.hid hcall; clear hcall
  have Hr := Lib.hid hr; clear hr
  refine (Hcall.out).mono ?_
  rintro e w2 ⟨rfl, hb⟩
  replace HB := Lib.hid (HB.out.trans (hb.mono HB.out.size))
  replace Hbx := Lib.hid (Hbx.out.below hb Hbx.out.lt)
  replace Hby := Lib.hid (Hby.out.below hb Hby.out.lt)
  replace Hbz := Lib.hid (Hbz.out.below hb Hbz.out.lt)
  replace Hbh := Lib.hid (Hbh.out.below hb Hbh.out.lt)
  replace Hxc := Lib.hid (Hxc.out.stay hb (Nat.le_refl _))
  replace Hyc := Lib.hid (Hyc.out.stay hb (Nat.le_refl _))
  replace Hzc := Lib.hid (Hzc.out.stay hb (Nat.le_refl _))
  replace Hhc := Lib.hid (Hhc.out.stay hb (Nat.le_refl _))
  clear hb
  clear Hcall
  cases r
  case false =>
    go_wp2
    go_ret
    exact ⟨rfl, HB.out⟩
  have hall := (rightB_iff.1 Hr.out.symm).2
  have ix := hall x (by simp)
  have iy := hall y (by simp)
  have iz := hall z (by simp)
  have ih := hall h (by simp)
  clear hall Hr
  obtain ⟨b1, b2, b3, b4, b5, b6, b7, b8, b9, b10, b11, b12⟩ := least_law ix iy iz ih
  obtain ⟨g1, eg1⟩ : ∃ t, t = genR x y := ⟨_, rfl⟩
  rw [← eg1] at b1 b2 b3 b4 b8 b9 b12
  obtain ⟨g2, eg2⟩ : ∃ t, t = genR x x := ⟨_, rfl⟩
  rw [← eg2] at b5 b7
  obtain ⟨g3, eg3⟩ : ∃ t, t = genR y x := ⟨_, rfl⟩
  rw [← eg3] at b6 b8
  obtain ⟨g4, eg4⟩ : ∃ t, t = genR g1 z := ⟨_, rfl⟩
  rw [← eg4] at b9 b12
  obtain ⟨g5, eg5⟩ : ∃ t, t = genR y z := ⟨_, rfl⟩
  rw [← eg5] at b10 b11 b12
  obtain ⟨g6, eg6⟩ : ∃ t, t = genR x g5 := ⟨_, rfl⟩
  rw [← eg6] at b11 b12
  have Hg1 := Lib.hid (show ∀ W v v2, TmV (fun _ => True) W v x → TmV (fun _ => True) W v2 y → Calls Try.prog 37 #[v, v2] W (RetTm W g1) from fun W v v2 h1 h2 => by rw [eg1]; exact general_ok x y _ _ W v v2 h1 h2 ix iy)
  have Hg2 := Lib.hid (show ∀ W v v2, TmV (fun _ => True) W v x → TmV (fun _ => True) W v2 x → Calls Try.prog 37 #[v, v2] W (RetTm W g2) from fun W v v2 h1 h2 => by rw [eg2]; exact general_ok x x _ _ W v v2 h1 h2 ix ix)
  have Hg3 := Lib.hid (show ∀ W v v2, TmV (fun _ => True) W v y → TmV (fun _ => True) W v2 x → Calls Try.prog 37 #[v, v2] W (RetTm W g3) from fun W v v2 h1 h2 => by rw [eg3]; exact general_ok y x _ _ W v v2 h1 h2 iy ix)
  have Hg4 := Lib.hid (show ∀ W v v2, TmV (fun _ => True) W v g1 → TmV (fun _ => True) W v2 z → Calls Try.prog 37 #[v, v2] W (RetTm W g4) from fun W v v2 h1 h2 => by rw [eg4]; exact general_ok g1 z _ _ W v v2 h1 h2 b1 iz)
  have Hg5 := Lib.hid (show ∀ W v v2, TmV (fun _ => True) W v y → TmV (fun _ => True) W v2 z → Calls Try.prog 37 #[v, v2] W (RetTm W g5) from fun W v v2 h1 h2 => by rw [eg5]; exact general_ok y z _ _ W v v2 h1 h2 iy iz)
  have Hg6 := Lib.hid (show ∀ W v v2, TmV (fun _ => True) W v x → TmV (fun _ => True) W v2 g5 → Calls Try.prog 37 #[v, v2] W (RetTm W g6) from fun W v v2 h1 h2 => by rw [eg6]; exact general_ok x g5 _ _ W v v2 h1 h2 ix b10)
  have Hi1 := Lib.hid (show ∀ W v v2, TmV (fun _ => True) W v g1 → TmV (fun _ => True) W v2 x → Calls Try.prog 38 #[v, v2] W (RetB W true) from fun W v v2 h1 h2 => by have h3 := instance_calls g1 x _ _ W v v2 h1 h2 b1 ix; rw [show (matchR g1 x).isSome = true from b2] at h3; exact h3)
  have Hi2 := Lib.hid (show ∀ W v v2, TmV (fun _ => True) W v g1 → TmV (fun _ => True) W v2 y → Calls Try.prog 38 #[v, v2] W (RetB W true) from fun W v v2 h1 h2 => by have h3 := instance_calls g1 y _ _ W v v2 h1 h2 b1 iy; rw [show (matchR g1 y).isSome = true from b3] at h3; exact h3)
  obtain ⟨q1, eq1⟩ : ∃ q, q = instB h x := ⟨_, rfl⟩
  obtain ⟨q2, eq2⟩ : ∃ q, q = instB h y := ⟨_, rfl⟩
  obtain ⟨q3, eq3⟩ : ∃ q, q = instB h g1 := ⟨_, rfl⟩
  rw [← eq1, ← eq2, ← eq3] at b4
  have Hq1 := Lib.hid (show ∀ W v v2, TmV (fun _ => True) W v h → TmV (fun _ => True) W v2 x → Calls Try.prog 38 #[v, v2] W (RetB W q1) from fun W v v2 h1 h2 => by have h3 := instance_calls h x _ _ W v v2 h1 h2 ih ix; rw [show (matchR h x).isSome = q1 from eq1.symm] at h3; exact h3)
  have Hq2 := Lib.hid (show ∀ W v v2, TmV (fun _ => True) W v h → TmV (fun _ => True) W v2 y → Calls Try.prog 38 #[v, v2] W (RetB W q2) from fun W v v2 h1 h2 => by have h3 := instance_calls h y _ _ W v v2 h1 h2 ih iy; rw [show (matchR h y).isSome = q2 from eq2.symm] at h3; exact h3)
  have Hq3 := Lib.hid (show ∀ W v v2, TmV (fun _ => True) W v h → TmV (fun _ => True) W v2 g1 → Calls Try.prog 38 #[v, v2] W (RetB W q3) from fun W v v2 h1 h2 => by have h3 := instance_calls h g1 _ _ W v v2 h1 h2 ih b1; rw [show (matchR h g1).isSome = q3 from eq3.symm] at h3; exact h3)
  have Hv1 := Lib.hid (show ∀ W v v2, TmV (fun _ => True) W v g2 → TmV (fun _ => True) W v2 x → Calls Try.prog 39 #[v, v2] W (RetB W true) from fun W v v2 h1 h2 => by have h3 := variantLaw_calls g2 x _ _ W v v2 h1 h2 b5 ix; rw [b7] at h3; exact h3)
  have Hv2 := Lib.hid (show ∀ W v v2, TmV (fun _ => True) W v g3 → TmV (fun _ => True) W v2 g1 → Calls Try.prog 39 #[v, v2] W (RetB W true) from fun W v v2 h1 h2 => by have h3 := variantLaw_calls g3 g1 _ _ W v v2 h1 h2 b6 b1; rw [b8] at h3; exact h3)
  have Hv3 := Lib.hid (show ∀ W v v2, TmV (fun _ => True) W v g4 → TmV (fun _ => True) W v2 g6 → Calls Try.prog 39 #[v, v2] W (RetB W true) from fun W v v2 h1 h2 => by have h3 := variantLaw_calls g4 g6 _ _ W v v2 h1 h2 b9 b11; rw [b12] at h3; exact h3)
  have B4 := Lib.hid b4
  clear b1 b2 b3 b4 b5 b6 b7 b8 b9 b10 b11 b12 ix iy iz ih eg1 eg2 eg3 eg4 eg5 eg6 eq1 eq2 eq3
  obtain ⟨⟨bx0, bx1, bx2, bx3⟩, -⟩ := Hbx.out.four
  have bxl := Hbx.out.lt
  obtain ⟨⟨by0, by1, by2, by3⟩, -⟩ := Hby.out.four
  have byl := Hby.out.lt
  obtain ⟨⟨bz0, bz1, bz2, bz3⟩, -⟩ := Hbz.out.four
  have bzl := Hbz.out.lt
  obtain ⟨⟨bh0, bh1, bh2, bh3⟩, -⟩ := Hbh.out.four
  have bhl := Hbh.out.lt
  go_wp2_with fail
  refine (Hg1.out _ _ _ ⟨Ax, cx, rfl, sx, Hxc.out⟩ ⟨Ay, cy, rfl, sy, Hyc.out⟩).mono ?_
  rintro e w3 ⟨Ag1, cg1, rfl, sg1, hg1c, hb⟩
  clear bx0 bx1 bx2 bx3 bxl by0 by1 by2 by3 byl bz0 bz1 bz2 bz3 bzl bh0 bh1 bh2 bh3 bhl
  replace HB := Lib.hid (HB.out.trans (hb.mono HB.out.size))
  replace Hbx := Lib.hid (Hbx.out.below hb Hbx.out.lt)
  replace Hby := Lib.hid (Hby.out.below hb Hby.out.lt)
  replace Hbz := Lib.hid (Hbz.out.below hb Hbz.out.lt)
  replace Hbh := Lib.hid (Hbh.out.below hb Hbh.out.lt)
  replace Hxc := Lib.hid (Hxc.out.stay hb (Nat.le_refl _))
  replace Hyc := Lib.hid (Hyc.out.stay hb (Nat.le_refl _))
  replace Hzc := Lib.hid (Hzc.out.stay hb (Nat.le_refl _))
  replace Hhc := Lib.hid (Hhc.out.stay hb (Nat.le_refl _))
  clear hb
  have Hg1c := Lib.hid (hg1c.mono (Q := (fun _ => True)) (fun _ _ => trivial)); clear hg1c
  obtain ⟨V3, hV3⟩ : ∃ V, V = w3.alloc (.cells #[.int .i64 g1.k, .int .i64 g1.n, .string g1.s, .slice Ag1 g1.l.length cg1] 25) := ⟨_, rfl⟩
  have hb : Below w3.heap.size w3 V3 := by rw [hV3]; exact (Below.refl _ _).alloc (Nat.le_refl _) _
  have Hbg1 := Lib.hid (show Blk V3 w3.heap.size 25 #[.int .i64 g1.k, .int .i64 g1.n, .string g1.s, .slice Ag1 g1.l.length cg1] from by rw [hV3]; exact Blk.new _ _ _)
  replace HB := Lib.hid (HB.out.trans (hb.mono HB.out.size))
  replace Hbx := Lib.hid (Hbx.out.below hb Hbx.out.lt)
  replace Hby := Lib.hid (Hby.out.below hb Hby.out.lt)
  replace Hbz := Lib.hid (Hbz.out.below hb Hbz.out.lt)
  replace Hbh := Lib.hid (Hbh.out.below hb Hbh.out.lt)
  replace Hxc := Lib.hid (Hxc.out.stay hb (Nat.le_refl _))
  replace Hyc := Lib.hid (Hyc.out.stay hb (Nat.le_refl _))
  replace Hzc := Lib.hid (Hzc.out.stay hb (Nat.le_refl _))
  replace Hhc := Lib.hid (Hhc.out.stay hb (Nat.le_refl _))
  replace Hg1c := Lib.hid (Hg1c.out.stay hb (Nat.le_refl _))
  clear hb
  have HV3 := Lib.hid hV3; clear hV3
  go_upto_region 6 with (fail)
  rw [← HV3.out]
  clear HV3
  obtain ⟨⟨bx0, bx1, bx2, bx3⟩, -⟩ := Hbx.out.four
  have bxl := Hbx.out.lt
  obtain ⟨⟨by0, by1, by2, by3⟩, -⟩ := Hby.out.four
  have byl := Hby.out.lt
  obtain ⟨⟨bz0, bz1, bz2, bz3⟩, -⟩ := Hbz.out.four
  have bzl := Hbz.out.lt
  obtain ⟨⟨bh0, bh1, bh2, bh3⟩, -⟩ := Hbh.out.four
  have bhl := Hbh.out.lt
  obtain ⟨⟨bg10, bg11, bg12, bg13⟩, -⟩ := Hbg1.out.four
  have bg1l := Hbg1.out.lt
  go_wp2_with fail
  refine (Hi1.out _ _ _ ⟨Ag1, cg1, rfl, sg1, Hg1c.out⟩ ⟨Ax, cx, rfl, sx, Hxc.out⟩).mono ?_
  rintro e w4 ⟨rfl, hb⟩
  clear bx0 bx1 bx2 bx3 bxl by0 by1 by2 by3 byl bz0 bz1 bz2 bz3 bzl bh0 bh1 bh2 bh3 bhl bg10 bg11 bg12 bg13 bg1l
  replace HB := Lib.hid (HB.out.trans (hb.mono HB.out.size))
  replace Hbx := Lib.hid (Hbx.out.below hb Hbx.out.lt)
  replace Hby := Lib.hid (Hby.out.below hb Hby.out.lt)
  replace Hbz := Lib.hid (Hbz.out.below hb Hbz.out.lt)
  replace Hbh := Lib.hid (Hbh.out.below hb Hbh.out.lt)
  replace Hbg1 := Lib.hid (Hbg1.out.below hb Hbg1.out.lt)
  replace Hxc := Lib.hid (Hxc.out.stay hb (Nat.le_refl _))
  replace Hyc := Lib.hid (Hyc.out.stay hb (Nat.le_refl _))
  replace Hzc := Lib.hid (Hzc.out.stay hb (Nat.le_refl _))
  replace Hhc := Lib.hid (Hhc.out.stay hb (Nat.le_refl _))
  replace Hg1c := Lib.hid (Hg1c.out.stay hb (Nat.le_refl _))
  clear hb
  obtain ⟨⟨bx0, bx1, bx2, bx3⟩, -⟩ := Hbx.out.four
  have bxl := Hbx.out.lt
  obtain ⟨⟨by0, by1, by2, by3⟩, -⟩ := Hby.out.four
  have byl := Hby.out.lt
  obtain ⟨⟨bz0, bz1, bz2, bz3⟩, -⟩ := Hbz.out.four
  have bzl := Hbz.out.lt
  obtain ⟨⟨bh0, bh1, bh2, bh3⟩, -⟩ := Hbh.out.four
  have bhl := Hbh.out.lt
  obtain ⟨⟨bg10, bg11, bg12, bg13⟩, -⟩ := Hbg1.out.four
  have bg1l := Hbg1.out.lt
  go_wp2_with fail
  refine (Hi2.out _ _ _ ⟨Ag1, cg1, rfl, sg1, Hg1c.out⟩ ⟨Ay, cy, rfl, sy, Hyc.out⟩).mono ?_
  rintro e w5 ⟨rfl, hb⟩
  clear bx0 bx1 bx2 bx3 bxl by0 by1 by2 by3 byl bz0 bz1 bz2 bz3 bzl bh0 bh1 bh2 bh3 bhl bg10 bg11 bg12 bg13 bg1l
  replace HB := Lib.hid (HB.out.trans (hb.mono HB.out.size))
  replace Hbx := Lib.hid (Hbx.out.below hb Hbx.out.lt)
  replace Hby := Lib.hid (Hby.out.below hb Hby.out.lt)
  replace Hbz := Lib.hid (Hbz.out.below hb Hbz.out.lt)
  replace Hbh := Lib.hid (Hbh.out.below hb Hbh.out.lt)
  replace Hbg1 := Lib.hid (Hbg1.out.below hb Hbg1.out.lt)
  replace Hxc := Lib.hid (Hxc.out.stay hb (Nat.le_refl _))
  replace Hyc := Lib.hid (Hyc.out.stay hb (Nat.le_refl _))
  replace Hzc := Lib.hid (Hzc.out.stay hb (Nat.le_refl _))
  replace Hhc := Lib.hid (Hhc.out.stay hb (Nat.le_refl _))
  replace Hg1c := Lib.hid (Hg1c.out.stay hb (Nat.le_refl _))
  clear hb
  obtain ⟨⟨bx0, bx1, bx2, bx3⟩, -⟩ := Hbx.out.four
  have bxl := Hbx.out.lt
  obtain ⟨⟨by0, by1, by2, by3⟩, -⟩ := Hby.out.four
  have byl := Hby.out.lt
  obtain ⟨⟨bz0, bz1, bz2, bz3⟩, -⟩ := Hbz.out.four
  have bzl := Hbz.out.lt
  obtain ⟨⟨bh0, bh1, bh2, bh3⟩, -⟩ := Hbh.out.four
  have bhl := Hbh.out.lt
  obtain ⟨⟨bg10, bg11, bg12, bg13⟩, -⟩ := Hbg1.out.four
  have bg1l := Hbg1.out.lt
  go_wp2_with fail
  refine (Hq1.out _ _ _ ⟨Ah, ch, rfl, sh, Hhc.out⟩ ⟨Ax, cx, rfl, sx, Hxc.out⟩).mono ?_
  rintro e w6 ⟨rfl, hb⟩
  clear bx0 bx1 bx2 bx3 bxl by0 by1 by2 by3 byl bz0 bz1 bz2 bz3 bzl bh0 bh1 bh2 bh3 bhl bg10 bg11 bg12 bg13 bg1l
  replace HB := Lib.hid (HB.out.trans (hb.mono HB.out.size))
  replace Hbx := Lib.hid (Hbx.out.below hb Hbx.out.lt)
  replace Hby := Lib.hid (Hby.out.below hb Hby.out.lt)
  replace Hbz := Lib.hid (Hbz.out.below hb Hbz.out.lt)
  replace Hbh := Lib.hid (Hbh.out.below hb Hbh.out.lt)
  replace Hbg1 := Lib.hid (Hbg1.out.below hb Hbg1.out.lt)
  replace Hxc := Lib.hid (Hxc.out.stay hb (Nat.le_refl _))
  replace Hyc := Lib.hid (Hyc.out.stay hb (Nat.le_refl _))
  replace Hzc := Lib.hid (Hzc.out.stay hb (Nat.le_refl _))
  replace Hhc := Lib.hid (Hhc.out.stay hb (Nat.le_refl _))
  replace Hg1c := Lib.hid (Hg1c.out.stay hb (Nat.le_refl _))
  clear hb
  cases q1
  case false =>
    obtain ⟨⟨bx0, bx1, bx2, bx3⟩, -⟩ := Hbx.out.four
    have bxl := Hbx.out.lt
    obtain ⟨⟨by0, by1, by2, by3⟩, -⟩ := Hby.out.four
    have byl := Hby.out.lt
    obtain ⟨⟨bz0, bz1, bz2, bz3⟩, -⟩ := Hbz.out.four
    have bzl := Hbz.out.lt
    obtain ⟨⟨bh0, bh1, bh2, bh3⟩, -⟩ := Hbh.out.four
    have bhl := Hbh.out.lt
    obtain ⟨⟨bg10, bg11, bg12, bg13⟩, -⟩ := Hbg1.out.four
    have bg1l := Hbg1.out.lt
    go_wp2_with fail
    refine (Hg2.out _ _ _ ⟨Ax, cx, rfl, sx, Hxc.out⟩ ⟨Ax, cx, rfl, sx, Hxc.out⟩).mono ?_
    rintro e w7 ⟨Ag2, cg2, rfl, sg2, hg2c, hb⟩
    clear bx0 bx1 bx2 bx3 bxl by0 by1 by2 by3 byl bz0 bz1 bz2 bz3 bzl bh0 bh1 bh2 bh3 bhl bg10 bg11 bg12 bg13 bg1l
    replace HB := Lib.hid (HB.out.trans (hb.mono HB.out.size))
    replace Hbx := Lib.hid (Hbx.out.below hb Hbx.out.lt)
    replace Hby := Lib.hid (Hby.out.below hb Hby.out.lt)
    replace Hbz := Lib.hid (Hbz.out.below hb Hbz.out.lt)
    replace Hbh := Lib.hid (Hbh.out.below hb Hbh.out.lt)
    replace Hbg1 := Lib.hid (Hbg1.out.below hb Hbg1.out.lt)
    replace Hxc := Lib.hid (Hxc.out.stay hb (Nat.le_refl _))
    replace Hyc := Lib.hid (Hyc.out.stay hb (Nat.le_refl _))
    replace Hzc := Lib.hid (Hzc.out.stay hb (Nat.le_refl _))
    replace Hhc := Lib.hid (Hhc.out.stay hb (Nat.le_refl _))
    replace Hg1c := Lib.hid (Hg1c.out.stay hb (Nat.le_refl _))
    clear hb
    have Hg2c := Lib.hid (hg2c.mono (Q := (fun _ => True)) (fun _ _ => trivial)); clear hg2c
    obtain ⟨V7, hV7⟩ : ∃ V, V = w7.alloc (.cells #[.int .i64 g2.k, .int .i64 g2.n, .string g2.s, .slice Ag2 g2.l.length cg2] 25) := ⟨_, rfl⟩
    have hb : Below w7.heap.size w7 V7 := by rw [hV7]; exact (Below.refl _ _).alloc (Nat.le_refl _) _
    have Hbg2 := Lib.hid (show Blk V7 w7.heap.size 25 #[.int .i64 g2.k, .int .i64 g2.n, .string g2.s, .slice Ag2 g2.l.length cg2] from by rw [hV7]; exact Blk.new _ _ _)
    replace HB := Lib.hid (HB.out.trans (hb.mono HB.out.size))
    replace Hbx := Lib.hid (Hbx.out.below hb Hbx.out.lt)
    replace Hby := Lib.hid (Hby.out.below hb Hby.out.lt)
    replace Hbz := Lib.hid (Hbz.out.below hb Hbz.out.lt)
    replace Hbh := Lib.hid (Hbh.out.below hb Hbh.out.lt)
    replace Hbg1 := Lib.hid (Hbg1.out.below hb Hbg1.out.lt)
    replace Hxc := Lib.hid (Hxc.out.stay hb (Nat.le_refl _))
    replace Hyc := Lib.hid (Hyc.out.stay hb (Nat.le_refl _))
    replace Hzc := Lib.hid (Hzc.out.stay hb (Nat.le_refl _))
    replace Hhc := Lib.hid (Hhc.out.stay hb (Nat.le_refl _))
    replace Hg1c := Lib.hid (Hg1c.out.stay hb (Nat.le_refl _))
    replace Hg2c := Lib.hid (Hg2c.out.stay hb (Nat.le_refl _))
    clear hb
    have HV7 := Lib.hid hV7; clear hV7
    go_upto_region 11 with (fail)
    rw [← HV7.out]
    clear HV7
    obtain ⟨⟨bx0, bx1, bx2, bx3⟩, -⟩ := Hbx.out.four
    have bxl := Hbx.out.lt
    obtain ⟨⟨by0, by1, by2, by3⟩, -⟩ := Hby.out.four
    have byl := Hby.out.lt
    obtain ⟨⟨bz0, bz1, bz2, bz3⟩, -⟩ := Hbz.out.four
    have bzl := Hbz.out.lt
    obtain ⟨⟨bh0, bh1, bh2, bh3⟩, -⟩ := Hbh.out.four
    have bhl := Hbh.out.lt
    obtain ⟨⟨bg10, bg11, bg12, bg13⟩, -⟩ := Hbg1.out.four
    have bg1l := Hbg1.out.lt
    obtain ⟨⟨bg20, bg21, bg22, bg23⟩, -⟩ := Hbg2.out.four
    have bg2l := Hbg2.out.lt
    go_wp2_with fail
    refine (Hg3.out _ _ _ ⟨Ay, cy, rfl, sy, Hyc.out⟩ ⟨Ax, cx, rfl, sx, Hxc.out⟩).mono ?_
    rintro e w8 ⟨Ag3, cg3, rfl, sg3, hg3c, hb⟩
    clear bx0 bx1 bx2 bx3 bxl by0 by1 by2 by3 byl bz0 bz1 bz2 bz3 bzl bh0 bh1 bh2 bh3 bhl bg10 bg11 bg12 bg13 bg1l bg20 bg21 bg22 bg23 bg2l
    replace HB := Lib.hid (HB.out.trans (hb.mono HB.out.size))
    replace Hbx := Lib.hid (Hbx.out.below hb Hbx.out.lt)
    replace Hby := Lib.hid (Hby.out.below hb Hby.out.lt)
    replace Hbz := Lib.hid (Hbz.out.below hb Hbz.out.lt)
    replace Hbh := Lib.hid (Hbh.out.below hb Hbh.out.lt)
    replace Hbg1 := Lib.hid (Hbg1.out.below hb Hbg1.out.lt)
    replace Hbg2 := Lib.hid (Hbg2.out.below hb Hbg2.out.lt)
    replace Hxc := Lib.hid (Hxc.out.stay hb (Nat.le_refl _))
    replace Hyc := Lib.hid (Hyc.out.stay hb (Nat.le_refl _))
    replace Hzc := Lib.hid (Hzc.out.stay hb (Nat.le_refl _))
    replace Hhc := Lib.hid (Hhc.out.stay hb (Nat.le_refl _))
    replace Hg1c := Lib.hid (Hg1c.out.stay hb (Nat.le_refl _))
    replace Hg2c := Lib.hid (Hg2c.out.stay hb (Nat.le_refl _))
    clear hb
    have Hg3c := Lib.hid (hg3c.mono (Q := (fun _ => True)) (fun _ _ => trivial)); clear hg3c
    obtain ⟨V8, hV8⟩ : ∃ V, V = w8.alloc (.cells #[.int .i64 g3.k, .int .i64 g3.n, .string g3.s, .slice Ag3 g3.l.length cg3] 25) := ⟨_, rfl⟩
    have hb : Below w8.heap.size w8 V8 := by rw [hV8]; exact (Below.refl _ _).alloc (Nat.le_refl _) _
    have Hbg3 := Lib.hid (show Blk V8 w8.heap.size 25 #[.int .i64 g3.k, .int .i64 g3.n, .string g3.s, .slice Ag3 g3.l.length cg3] from by rw [hV8]; exact Blk.new _ _ _)
    replace HB := Lib.hid (HB.out.trans (hb.mono HB.out.size))
    replace Hbx := Lib.hid (Hbx.out.below hb Hbx.out.lt)
    replace Hby := Lib.hid (Hby.out.below hb Hby.out.lt)
    replace Hbz := Lib.hid (Hbz.out.below hb Hbz.out.lt)
    replace Hbh := Lib.hid (Hbh.out.below hb Hbh.out.lt)
    replace Hbg1 := Lib.hid (Hbg1.out.below hb Hbg1.out.lt)
    replace Hbg2 := Lib.hid (Hbg2.out.below hb Hbg2.out.lt)
    replace Hxc := Lib.hid (Hxc.out.stay hb (Nat.le_refl _))
    replace Hyc := Lib.hid (Hyc.out.stay hb (Nat.le_refl _))
    replace Hzc := Lib.hid (Hzc.out.stay hb (Nat.le_refl _))
    replace Hhc := Lib.hid (Hhc.out.stay hb (Nat.le_refl _))
    replace Hg1c := Lib.hid (Hg1c.out.stay hb (Nat.le_refl _))
    replace Hg2c := Lib.hid (Hg2c.out.stay hb (Nat.le_refl _))
    replace Hg3c := Lib.hid (Hg3c.out.stay hb (Nat.le_refl _))
    clear hb
    have HV8 := Lib.hid hV8; clear hV8
    go_upto_region 12 with (fail)
    rw [← HV8.out]
    clear HV8
    obtain ⟨⟨bx0, bx1, bx2, bx3⟩, -⟩ := Hbx.out.four
    have bxl := Hbx.out.lt
    obtain ⟨⟨by0, by1, by2, by3⟩, -⟩ := Hby.out.four
    have byl := Hby.out.lt
    obtain ⟨⟨bz0, bz1, bz2, bz3⟩, -⟩ := Hbz.out.four
    have bzl := Hbz.out.lt
    obtain ⟨⟨bh0, bh1, bh2, bh3⟩, -⟩ := Hbh.out.four
    have bhl := Hbh.out.lt
    obtain ⟨⟨bg10, bg11, bg12, bg13⟩, -⟩ := Hbg1.out.four
    have bg1l := Hbg1.out.lt
    obtain ⟨⟨bg20, bg21, bg22, bg23⟩, -⟩ := Hbg2.out.four
    have bg2l := Hbg2.out.lt
    obtain ⟨⟨bg30, bg31, bg32, bg33⟩, -⟩ := Hbg3.out.four
    have bg3l := Hbg3.out.lt
    go_wp2_with fail
    refine (Hv1.out _ _ _ ⟨Ag2, cg2, rfl, sg2, Hg2c.out⟩ ⟨Ax, cx, rfl, sx, Hxc.out⟩).mono ?_
    rintro e w9 ⟨rfl, hb⟩
    clear bx0 bx1 bx2 bx3 bxl by0 by1 by2 by3 byl bz0 bz1 bz2 bz3 bzl bh0 bh1 bh2 bh3 bhl bg10 bg11 bg12 bg13 bg1l bg20 bg21 bg22 bg23 bg2l bg30 bg31 bg32 bg33 bg3l
    replace HB := Lib.hid (HB.out.trans (hb.mono HB.out.size))
    replace Hbx := Lib.hid (Hbx.out.below hb Hbx.out.lt)
    replace Hby := Lib.hid (Hby.out.below hb Hby.out.lt)
    replace Hbz := Lib.hid (Hbz.out.below hb Hbz.out.lt)
    replace Hbh := Lib.hid (Hbh.out.below hb Hbh.out.lt)
    replace Hbg1 := Lib.hid (Hbg1.out.below hb Hbg1.out.lt)
    replace Hbg2 := Lib.hid (Hbg2.out.below hb Hbg2.out.lt)
    replace Hbg3 := Lib.hid (Hbg3.out.below hb Hbg3.out.lt)
    replace Hxc := Lib.hid (Hxc.out.stay hb (Nat.le_refl _))
    replace Hyc := Lib.hid (Hyc.out.stay hb (Nat.le_refl _))
    replace Hzc := Lib.hid (Hzc.out.stay hb (Nat.le_refl _))
    replace Hhc := Lib.hid (Hhc.out.stay hb (Nat.le_refl _))
    replace Hg1c := Lib.hid (Hg1c.out.stay hb (Nat.le_refl _))
    replace Hg2c := Lib.hid (Hg2c.out.stay hb (Nat.le_refl _))
    replace Hg3c := Lib.hid (Hg3c.out.stay hb (Nat.le_refl _))
    clear hb
    obtain ⟨⟨bx0, bx1, bx2, bx3⟩, -⟩ := Hbx.out.four
    have bxl := Hbx.out.lt
    obtain ⟨⟨by0, by1, by2, by3⟩, -⟩ := Hby.out.four
    have byl := Hby.out.lt
    obtain ⟨⟨bz0, bz1, bz2, bz3⟩, -⟩ := Hbz.out.four
    have bzl := Hbz.out.lt
    obtain ⟨⟨bh0, bh1, bh2, bh3⟩, -⟩ := Hbh.out.four
    have bhl := Hbh.out.lt
    obtain ⟨⟨bg10, bg11, bg12, bg13⟩, -⟩ := Hbg1.out.four
    have bg1l := Hbg1.out.lt
    obtain ⟨⟨bg20, bg21, bg22, bg23⟩, -⟩ := Hbg2.out.four
    have bg2l := Hbg2.out.lt
    obtain ⟨⟨bg30, bg31, bg32, bg33⟩, -⟩ := Hbg3.out.four
    have bg3l := Hbg3.out.lt
    go_wp2_with fail
    refine (Hv2.out _ _ _ ⟨Ag3, cg3, rfl, sg3, Hg3c.out⟩ ⟨Ag1, cg1, rfl, sg1, Hg1c.out⟩).mono ?_
    rintro e w10 ⟨rfl, hb⟩
    clear bx0 bx1 bx2 bx3 bxl by0 by1 by2 by3 byl bz0 bz1 bz2 bz3 bzl bh0 bh1 bh2 bh3 bhl bg10 bg11 bg12 bg13 bg1l bg20 bg21 bg22 bg23 bg2l bg30 bg31 bg32 bg33 bg3l
    replace HB := Lib.hid (HB.out.trans (hb.mono HB.out.size))
    replace Hbx := Lib.hid (Hbx.out.below hb Hbx.out.lt)
    replace Hby := Lib.hid (Hby.out.below hb Hby.out.lt)
    replace Hbz := Lib.hid (Hbz.out.below hb Hbz.out.lt)
    replace Hbh := Lib.hid (Hbh.out.below hb Hbh.out.lt)
    replace Hbg1 := Lib.hid (Hbg1.out.below hb Hbg1.out.lt)
    replace Hbg2 := Lib.hid (Hbg2.out.below hb Hbg2.out.lt)
    replace Hbg3 := Lib.hid (Hbg3.out.below hb Hbg3.out.lt)
    replace Hxc := Lib.hid (Hxc.out.stay hb (Nat.le_refl _))
    replace Hyc := Lib.hid (Hyc.out.stay hb (Nat.le_refl _))
    replace Hzc := Lib.hid (Hzc.out.stay hb (Nat.le_refl _))
    replace Hhc := Lib.hid (Hhc.out.stay hb (Nat.le_refl _))
    replace Hg1c := Lib.hid (Hg1c.out.stay hb (Nat.le_refl _))
    replace Hg2c := Lib.hid (Hg2c.out.stay hb (Nat.le_refl _))
    replace Hg3c := Lib.hid (Hg3c.out.stay hb (Nat.le_refl _))
    clear hb
    obtain ⟨⟨bx0, bx1, bx2, bx3⟩, -⟩ := Hbx.out.four
    have bxl := Hbx.out.lt
    obtain ⟨⟨by0, by1, by2, by3⟩, -⟩ := Hby.out.four
    have byl := Hby.out.lt
    obtain ⟨⟨bz0, bz1, bz2, bz3⟩, -⟩ := Hbz.out.four
    have bzl := Hbz.out.lt
    obtain ⟨⟨bh0, bh1, bh2, bh3⟩, -⟩ := Hbh.out.four
    have bhl := Hbh.out.lt
    obtain ⟨⟨bg10, bg11, bg12, bg13⟩, -⟩ := Hbg1.out.four
    have bg1l := Hbg1.out.lt
    obtain ⟨⟨bg20, bg21, bg22, bg23⟩, -⟩ := Hbg2.out.four
    have bg2l := Hbg2.out.lt
    obtain ⟨⟨bg30, bg31, bg32, bg33⟩, -⟩ := Hbg3.out.four
    have bg3l := Hbg3.out.lt
    go_wp2_with fail
    refine (Hg4.out _ _ _ ⟨Ag1, cg1, rfl, sg1, Hg1c.out⟩ ⟨Az, cz, rfl, sz, Hzc.out⟩).mono ?_
    rintro e w11 ⟨Ag4, cg4, rfl, sg4, hg4c, hb⟩
    clear bx0 bx1 bx2 bx3 bxl by0 by1 by2 by3 byl bz0 bz1 bz2 bz3 bzl bh0 bh1 bh2 bh3 bhl bg10 bg11 bg12 bg13 bg1l bg20 bg21 bg22 bg23 bg2l bg30 bg31 bg32 bg33 bg3l
    replace HB := Lib.hid (HB.out.trans (hb.mono HB.out.size))
    replace Hbx := Lib.hid (Hbx.out.below hb Hbx.out.lt)
    replace Hby := Lib.hid (Hby.out.below hb Hby.out.lt)
    replace Hbz := Lib.hid (Hbz.out.below hb Hbz.out.lt)
    replace Hbh := Lib.hid (Hbh.out.below hb Hbh.out.lt)
    replace Hbg1 := Lib.hid (Hbg1.out.below hb Hbg1.out.lt)
    replace Hbg2 := Lib.hid (Hbg2.out.below hb Hbg2.out.lt)
    replace Hbg3 := Lib.hid (Hbg3.out.below hb Hbg3.out.lt)
    replace Hxc := Lib.hid (Hxc.out.stay hb (Nat.le_refl _))
    replace Hyc := Lib.hid (Hyc.out.stay hb (Nat.le_refl _))
    replace Hzc := Lib.hid (Hzc.out.stay hb (Nat.le_refl _))
    replace Hhc := Lib.hid (Hhc.out.stay hb (Nat.le_refl _))
    replace Hg1c := Lib.hid (Hg1c.out.stay hb (Nat.le_refl _))
    replace Hg2c := Lib.hid (Hg2c.out.stay hb (Nat.le_refl _))
    replace Hg3c := Lib.hid (Hg3c.out.stay hb (Nat.le_refl _))
    clear hb
    have Hg4c := Lib.hid (hg4c.mono (Q := (fun _ => True)) (fun _ _ => trivial)); clear hg4c
    obtain ⟨V11, hV11⟩ : ∃ V, V = w11.alloc (.cells #[.int .i64 g4.k, .int .i64 g4.n, .string g4.s, .slice Ag4 g4.l.length cg4] 25) := ⟨_, rfl⟩
    have hb : Below w11.heap.size w11 V11 := by rw [hV11]; exact (Below.refl _ _).alloc (Nat.le_refl _) _
    have Hbg4 := Lib.hid (show Blk V11 w11.heap.size 25 #[.int .i64 g4.k, .int .i64 g4.n, .string g4.s, .slice Ag4 g4.l.length cg4] from by rw [hV11]; exact Blk.new _ _ _)
    replace HB := Lib.hid (HB.out.trans (hb.mono HB.out.size))
    replace Hbx := Lib.hid (Hbx.out.below hb Hbx.out.lt)
    replace Hby := Lib.hid (Hby.out.below hb Hby.out.lt)
    replace Hbz := Lib.hid (Hbz.out.below hb Hbz.out.lt)
    replace Hbh := Lib.hid (Hbh.out.below hb Hbh.out.lt)
    replace Hbg1 := Lib.hid (Hbg1.out.below hb Hbg1.out.lt)
    replace Hbg2 := Lib.hid (Hbg2.out.below hb Hbg2.out.lt)
    replace Hbg3 := Lib.hid (Hbg3.out.below hb Hbg3.out.lt)
    replace Hxc := Lib.hid (Hxc.out.stay hb (Nat.le_refl _))
    replace Hyc := Lib.hid (Hyc.out.stay hb (Nat.le_refl _))
    replace Hzc := Lib.hid (Hzc.out.stay hb (Nat.le_refl _))
    replace Hhc := Lib.hid (Hhc.out.stay hb (Nat.le_refl _))
    replace Hg1c := Lib.hid (Hg1c.out.stay hb (Nat.le_refl _))
    replace Hg2c := Lib.hid (Hg2c.out.stay hb (Nat.le_refl _))
    replace Hg3c := Lib.hid (Hg3c.out.stay hb (Nat.le_refl _))
    replace Hg4c := Lib.hid (Hg4c.out.stay hb (Nat.le_refl _))
    clear hb
    have HV11 := Lib.hid hV11; clear hV11
    go_upto_region 15 with (fail)
    rw [← HV11.out]
    clear HV11
    obtain ⟨⟨bx0, bx1, bx2, bx3⟩, -⟩ := Hbx.out.four
    have bxl := Hbx.out.lt
    obtain ⟨⟨by0, by1, by2, by3⟩, -⟩ := Hby.out.four
    have byl := Hby.out.lt
    obtain ⟨⟨bz0, bz1, bz2, bz3⟩, -⟩ := Hbz.out.four
    have bzl := Hbz.out.lt
    obtain ⟨⟨bh0, bh1, bh2, bh3⟩, -⟩ := Hbh.out.four
    have bhl := Hbh.out.lt
    obtain ⟨⟨bg10, bg11, bg12, bg13⟩, -⟩ := Hbg1.out.four
    have bg1l := Hbg1.out.lt
    obtain ⟨⟨bg20, bg21, bg22, bg23⟩, -⟩ := Hbg2.out.four
    have bg2l := Hbg2.out.lt
    obtain ⟨⟨bg30, bg31, bg32, bg33⟩, -⟩ := Hbg3.out.four
    have bg3l := Hbg3.out.lt
    obtain ⟨⟨bg40, bg41, bg42, bg43⟩, -⟩ := Hbg4.out.four
    have bg4l := Hbg4.out.lt
    go_wp2_with fail
    refine (Hg5.out _ _ _ ⟨Ay, cy, rfl, sy, Hyc.out⟩ ⟨Az, cz, rfl, sz, Hzc.out⟩).mono ?_
    rintro e w12 ⟨Ag5, cg5, rfl, sg5, hg5c, hb⟩
    clear bx0 bx1 bx2 bx3 bxl by0 by1 by2 by3 byl bz0 bz1 bz2 bz3 bzl bh0 bh1 bh2 bh3 bhl bg10 bg11 bg12 bg13 bg1l bg20 bg21 bg22 bg23 bg2l bg30 bg31 bg32 bg33 bg3l bg40 bg41 bg42 bg43 bg4l
    replace HB := Lib.hid (HB.out.trans (hb.mono HB.out.size))
    replace Hbx := Lib.hid (Hbx.out.below hb Hbx.out.lt)
    replace Hby := Lib.hid (Hby.out.below hb Hby.out.lt)
    replace Hbz := Lib.hid (Hbz.out.below hb Hbz.out.lt)
    replace Hbh := Lib.hid (Hbh.out.below hb Hbh.out.lt)
    replace Hbg1 := Lib.hid (Hbg1.out.below hb Hbg1.out.lt)
    replace Hbg2 := Lib.hid (Hbg2.out.below hb Hbg2.out.lt)
    replace Hbg3 := Lib.hid (Hbg3.out.below hb Hbg3.out.lt)
    replace Hbg4 := Lib.hid (Hbg4.out.below hb Hbg4.out.lt)
    replace Hxc := Lib.hid (Hxc.out.stay hb (Nat.le_refl _))
    replace Hyc := Lib.hid (Hyc.out.stay hb (Nat.le_refl _))
    replace Hzc := Lib.hid (Hzc.out.stay hb (Nat.le_refl _))
    replace Hhc := Lib.hid (Hhc.out.stay hb (Nat.le_refl _))
    replace Hg1c := Lib.hid (Hg1c.out.stay hb (Nat.le_refl _))
    replace Hg2c := Lib.hid (Hg2c.out.stay hb (Nat.le_refl _))
    replace Hg3c := Lib.hid (Hg3c.out.stay hb (Nat.le_refl _))
    replace Hg4c := Lib.hid (Hg4c.out.stay hb (Nat.le_refl _))
    clear hb
    have Hg5c := Lib.hid (hg5c.mono (Q := (fun _ => True)) (fun _ _ => trivial)); clear hg5c
    obtain ⟨V12, hV12⟩ : ∃ V, V = w12.alloc (.cells #[.int .i64 g5.k, .int .i64 g5.n, .string g5.s, .slice Ag5 g5.l.length cg5] 25) := ⟨_, rfl⟩
    have hb : Below w12.heap.size w12 V12 := by rw [hV12]; exact (Below.refl _ _).alloc (Nat.le_refl _) _
    have Hbg5 := Lib.hid (show Blk V12 w12.heap.size 25 #[.int .i64 g5.k, .int .i64 g5.n, .string g5.s, .slice Ag5 g5.l.length cg5] from by rw [hV12]; exact Blk.new _ _ _)
    replace HB := Lib.hid (HB.out.trans (hb.mono HB.out.size))
    replace Hbx := Lib.hid (Hbx.out.below hb Hbx.out.lt)
    replace Hby := Lib.hid (Hby.out.below hb Hby.out.lt)
    replace Hbz := Lib.hid (Hbz.out.below hb Hbz.out.lt)
    replace Hbh := Lib.hid (Hbh.out.below hb Hbh.out.lt)
    replace Hbg1 := Lib.hid (Hbg1.out.below hb Hbg1.out.lt)
    replace Hbg2 := Lib.hid (Hbg2.out.below hb Hbg2.out.lt)
    replace Hbg3 := Lib.hid (Hbg3.out.below hb Hbg3.out.lt)
    replace Hbg4 := Lib.hid (Hbg4.out.below hb Hbg4.out.lt)
    replace Hxc := Lib.hid (Hxc.out.stay hb (Nat.le_refl _))
    replace Hyc := Lib.hid (Hyc.out.stay hb (Nat.le_refl _))
    replace Hzc := Lib.hid (Hzc.out.stay hb (Nat.le_refl _))
    replace Hhc := Lib.hid (Hhc.out.stay hb (Nat.le_refl _))
    replace Hg1c := Lib.hid (Hg1c.out.stay hb (Nat.le_refl _))
    replace Hg2c := Lib.hid (Hg2c.out.stay hb (Nat.le_refl _))
    replace Hg3c := Lib.hid (Hg3c.out.stay hb (Nat.le_refl _))
    replace Hg4c := Lib.hid (Hg4c.out.stay hb (Nat.le_refl _))
    replace Hg5c := Lib.hid (Hg5c.out.stay hb (Nat.le_refl _))
    clear hb
    have HV12 := Lib.hid hV12; clear hV12
    go_upto_region 16 with (fail)
    rw [← HV12.out]
    clear HV12
    obtain ⟨⟨bx0, bx1, bx2, bx3⟩, -⟩ := Hbx.out.four
    have bxl := Hbx.out.lt
    obtain ⟨⟨by0, by1, by2, by3⟩, -⟩ := Hby.out.four
    have byl := Hby.out.lt
    obtain ⟨⟨bz0, bz1, bz2, bz3⟩, -⟩ := Hbz.out.four
    have bzl := Hbz.out.lt
    obtain ⟨⟨bh0, bh1, bh2, bh3⟩, -⟩ := Hbh.out.four
    have bhl := Hbh.out.lt
    obtain ⟨⟨bg10, bg11, bg12, bg13⟩, -⟩ := Hbg1.out.four
    have bg1l := Hbg1.out.lt
    obtain ⟨⟨bg20, bg21, bg22, bg23⟩, -⟩ := Hbg2.out.four
    have bg2l := Hbg2.out.lt
    obtain ⟨⟨bg30, bg31, bg32, bg33⟩, -⟩ := Hbg3.out.four
    have bg3l := Hbg3.out.lt
    obtain ⟨⟨bg40, bg41, bg42, bg43⟩, -⟩ := Hbg4.out.four
    have bg4l := Hbg4.out.lt
    obtain ⟨⟨bg50, bg51, bg52, bg53⟩, -⟩ := Hbg5.out.four
    have bg5l := Hbg5.out.lt
    go_wp2_with fail
    refine (Hg6.out _ _ _ ⟨Ax, cx, rfl, sx, Hxc.out⟩ ⟨Ag5, cg5, rfl, sg5, Hg5c.out⟩).mono ?_
    rintro e w13 ⟨Ag6, cg6, rfl, sg6, hg6c, hb⟩
    clear bx0 bx1 bx2 bx3 bxl by0 by1 by2 by3 byl bz0 bz1 bz2 bz3 bzl bh0 bh1 bh2 bh3 bhl bg10 bg11 bg12 bg13 bg1l bg20 bg21 bg22 bg23 bg2l bg30 bg31 bg32 bg33 bg3l bg40 bg41 bg42 bg43 bg4l bg50 bg51 bg52 bg53 bg5l
    replace HB := Lib.hid (HB.out.trans (hb.mono HB.out.size))
    replace Hbx := Lib.hid (Hbx.out.below hb Hbx.out.lt)
    replace Hby := Lib.hid (Hby.out.below hb Hby.out.lt)
    replace Hbz := Lib.hid (Hbz.out.below hb Hbz.out.lt)
    replace Hbh := Lib.hid (Hbh.out.below hb Hbh.out.lt)
    replace Hbg1 := Lib.hid (Hbg1.out.below hb Hbg1.out.lt)
    replace Hbg2 := Lib.hid (Hbg2.out.below hb Hbg2.out.lt)
    replace Hbg3 := Lib.hid (Hbg3.out.below hb Hbg3.out.lt)
    replace Hbg4 := Lib.hid (Hbg4.out.below hb Hbg4.out.lt)
    replace Hbg5 := Lib.hid (Hbg5.out.below hb Hbg5.out.lt)
    replace Hxc := Lib.hid (Hxc.out.stay hb (Nat.le_refl _))
    replace Hyc := Lib.hid (Hyc.out.stay hb (Nat.le_refl _))
    replace Hzc := Lib.hid (Hzc.out.stay hb (Nat.le_refl _))
    replace Hhc := Lib.hid (Hhc.out.stay hb (Nat.le_refl _))
    replace Hg1c := Lib.hid (Hg1c.out.stay hb (Nat.le_refl _))
    replace Hg2c := Lib.hid (Hg2c.out.stay hb (Nat.le_refl _))
    replace Hg3c := Lib.hid (Hg3c.out.stay hb (Nat.le_refl _))
    replace Hg4c := Lib.hid (Hg4c.out.stay hb (Nat.le_refl _))
    replace Hg5c := Lib.hid (Hg5c.out.stay hb (Nat.le_refl _))
    clear hb
    have Hg6c := Lib.hid (hg6c.mono (Q := (fun _ => True)) (fun _ _ => trivial)); clear hg6c
    obtain ⟨V13, hV13⟩ : ∃ V, V = w13.alloc (.cells #[.int .i64 g6.k, .int .i64 g6.n, .string g6.s, .slice Ag6 g6.l.length cg6] 25) := ⟨_, rfl⟩
    have hb : Below w13.heap.size w13 V13 := by rw [hV13]; exact (Below.refl _ _).alloc (Nat.le_refl _) _
    have Hbg6 := Lib.hid (show Blk V13 w13.heap.size 25 #[.int .i64 g6.k, .int .i64 g6.n, .string g6.s, .slice Ag6 g6.l.length cg6] from by rw [hV13]; exact Blk.new _ _ _)
    replace HB := Lib.hid (HB.out.trans (hb.mono HB.out.size))
    replace Hbx := Lib.hid (Hbx.out.below hb Hbx.out.lt)
    replace Hby := Lib.hid (Hby.out.below hb Hby.out.lt)
    replace Hbz := Lib.hid (Hbz.out.below hb Hbz.out.lt)
    replace Hbh := Lib.hid (Hbh.out.below hb Hbh.out.lt)
    replace Hbg1 := Lib.hid (Hbg1.out.below hb Hbg1.out.lt)
    replace Hbg2 := Lib.hid (Hbg2.out.below hb Hbg2.out.lt)
    replace Hbg3 := Lib.hid (Hbg3.out.below hb Hbg3.out.lt)
    replace Hbg4 := Lib.hid (Hbg4.out.below hb Hbg4.out.lt)
    replace Hbg5 := Lib.hid (Hbg5.out.below hb Hbg5.out.lt)
    replace Hxc := Lib.hid (Hxc.out.stay hb (Nat.le_refl _))
    replace Hyc := Lib.hid (Hyc.out.stay hb (Nat.le_refl _))
    replace Hzc := Lib.hid (Hzc.out.stay hb (Nat.le_refl _))
    replace Hhc := Lib.hid (Hhc.out.stay hb (Nat.le_refl _))
    replace Hg1c := Lib.hid (Hg1c.out.stay hb (Nat.le_refl _))
    replace Hg2c := Lib.hid (Hg2c.out.stay hb (Nat.le_refl _))
    replace Hg3c := Lib.hid (Hg3c.out.stay hb (Nat.le_refl _))
    replace Hg4c := Lib.hid (Hg4c.out.stay hb (Nat.le_refl _))
    replace Hg5c := Lib.hid (Hg5c.out.stay hb (Nat.le_refl _))
    replace Hg6c := Lib.hid (Hg6c.out.stay hb (Nat.le_refl _))
    clear hb
    have HV13 := Lib.hid hV13; clear hV13
    go_upto_region 17 with (fail)
    rw [← HV13.out]
    clear HV13
    obtain ⟨⟨bx0, bx1, bx2, bx3⟩, -⟩ := Hbx.out.four
    have bxl := Hbx.out.lt
    obtain ⟨⟨by0, by1, by2, by3⟩, -⟩ := Hby.out.four
    have byl := Hby.out.lt
    obtain ⟨⟨bz0, bz1, bz2, bz3⟩, -⟩ := Hbz.out.four
    have bzl := Hbz.out.lt
    obtain ⟨⟨bh0, bh1, bh2, bh3⟩, -⟩ := Hbh.out.four
    have bhl := Hbh.out.lt
    obtain ⟨⟨bg10, bg11, bg12, bg13⟩, -⟩ := Hbg1.out.four
    have bg1l := Hbg1.out.lt
    obtain ⟨⟨bg20, bg21, bg22, bg23⟩, -⟩ := Hbg2.out.four
    have bg2l := Hbg2.out.lt
    obtain ⟨⟨bg30, bg31, bg32, bg33⟩, -⟩ := Hbg3.out.four
    have bg3l := Hbg3.out.lt
    obtain ⟨⟨bg40, bg41, bg42, bg43⟩, -⟩ := Hbg4.out.four
    have bg4l := Hbg4.out.lt
    obtain ⟨⟨bg50, bg51, bg52, bg53⟩, -⟩ := Hbg5.out.four
    have bg5l := Hbg5.out.lt
    obtain ⟨⟨bg60, bg61, bg62, bg63⟩, -⟩ := Hbg6.out.four
    have bg6l := Hbg6.out.lt
    go_wp2_with fail
    refine (Hv3.out _ _ _ ⟨Ag4, cg4, rfl, sg4, Hg4c.out⟩ ⟨Ag6, cg6, rfl, sg6, Hg6c.out⟩).mono ?_
    rintro e w14 ⟨rfl, hb⟩
    clear bx0 bx1 bx2 bx3 bxl by0 by1 by2 by3 byl bz0 bz1 bz2 bz3 bzl bh0 bh1 bh2 bh3 bhl bg10 bg11 bg12 bg13 bg1l bg20 bg21 bg22 bg23 bg2l bg30 bg31 bg32 bg33 bg3l bg40 bg41 bg42 bg43 bg4l bg50 bg51 bg52 bg53 bg5l bg60 bg61 bg62 bg63 bg6l
    replace HB := Lib.hid (HB.out.trans (hb.mono HB.out.size))
    replace Hbx := Lib.hid (Hbx.out.below hb Hbx.out.lt)
    replace Hby := Lib.hid (Hby.out.below hb Hby.out.lt)
    replace Hbz := Lib.hid (Hbz.out.below hb Hbz.out.lt)
    replace Hbh := Lib.hid (Hbh.out.below hb Hbh.out.lt)
    replace Hbg1 := Lib.hid (Hbg1.out.below hb Hbg1.out.lt)
    replace Hbg2 := Lib.hid (Hbg2.out.below hb Hbg2.out.lt)
    replace Hbg3 := Lib.hid (Hbg3.out.below hb Hbg3.out.lt)
    replace Hbg4 := Lib.hid (Hbg4.out.below hb Hbg4.out.lt)
    replace Hbg5 := Lib.hid (Hbg5.out.below hb Hbg5.out.lt)
    replace Hbg6 := Lib.hid (Hbg6.out.below hb Hbg6.out.lt)
    replace Hxc := Lib.hid (Hxc.out.stay hb (Nat.le_refl _))
    replace Hyc := Lib.hid (Hyc.out.stay hb (Nat.le_refl _))
    replace Hzc := Lib.hid (Hzc.out.stay hb (Nat.le_refl _))
    replace Hhc := Lib.hid (Hhc.out.stay hb (Nat.le_refl _))
    replace Hg1c := Lib.hid (Hg1c.out.stay hb (Nat.le_refl _))
    replace Hg2c := Lib.hid (Hg2c.out.stay hb (Nat.le_refl _))
    replace Hg3c := Lib.hid (Hg3c.out.stay hb (Nat.le_refl _))
    replace Hg4c := Lib.hid (Hg4c.out.stay hb (Nat.le_refl _))
    replace Hg5c := Lib.hid (Hg5c.out.stay hb (Nat.le_refl _))
    replace Hg6c := Lib.hid (Hg6c.out.stay hb (Nat.le_refl _))
    clear hb
    go_wp2
    go_ret
    exact ⟨rfl, HB.out⟩
  obtain ⟨⟨bx0, bx1, bx2, bx3⟩, -⟩ := Hbx.out.four
  have bxl := Hbx.out.lt
  obtain ⟨⟨by0, by1, by2, by3⟩, -⟩ := Hby.out.four
  have byl := Hby.out.lt
  obtain ⟨⟨bz0, bz1, bz2, bz3⟩, -⟩ := Hbz.out.four
  have bzl := Hbz.out.lt
  obtain ⟨⟨bh0, bh1, bh2, bh3⟩, -⟩ := Hbh.out.four
  have bhl := Hbh.out.lt
  obtain ⟨⟨bg10, bg11, bg12, bg13⟩, -⟩ := Hbg1.out.four
  have bg1l := Hbg1.out.lt
  go_wp2_with fail
  refine (Hq2.out _ _ _ ⟨Ah, ch, rfl, sh, Hhc.out⟩ ⟨Ay, cy, rfl, sy, Hyc.out⟩).mono ?_
  rintro e w7 ⟨rfl, hb⟩
  clear bx0 bx1 bx2 bx3 bxl by0 by1 by2 by3 byl bz0 bz1 bz2 bz3 bzl bh0 bh1 bh2 bh3 bhl bg10 bg11 bg12 bg13 bg1l
  replace HB := Lib.hid (HB.out.trans (hb.mono HB.out.size))
  replace Hbx := Lib.hid (Hbx.out.below hb Hbx.out.lt)
  replace Hby := Lib.hid (Hby.out.below hb Hby.out.lt)
  replace Hbz := Lib.hid (Hbz.out.below hb Hbz.out.lt)
  replace Hbh := Lib.hid (Hbh.out.below hb Hbh.out.lt)
  replace Hbg1 := Lib.hid (Hbg1.out.below hb Hbg1.out.lt)
  replace Hxc := Lib.hid (Hxc.out.stay hb (Nat.le_refl _))
  replace Hyc := Lib.hid (Hyc.out.stay hb (Nat.le_refl _))
  replace Hzc := Lib.hid (Hzc.out.stay hb (Nat.le_refl _))
  replace Hhc := Lib.hid (Hhc.out.stay hb (Nat.le_refl _))
  replace Hg1c := Lib.hid (Hg1c.out.stay hb (Nat.le_refl _))
  clear hb
  cases q2
  case false =>
    obtain ⟨⟨bx0, bx1, bx2, bx3⟩, -⟩ := Hbx.out.four
    have bxl := Hbx.out.lt
    obtain ⟨⟨by0, by1, by2, by3⟩, -⟩ := Hby.out.four
    have byl := Hby.out.lt
    obtain ⟨⟨bz0, bz1, bz2, bz3⟩, -⟩ := Hbz.out.four
    have bzl := Hbz.out.lt
    obtain ⟨⟨bh0, bh1, bh2, bh3⟩, -⟩ := Hbh.out.four
    have bhl := Hbh.out.lt
    obtain ⟨⟨bg10, bg11, bg12, bg13⟩, -⟩ := Hbg1.out.four
    have bg1l := Hbg1.out.lt
    go_wp2_with fail
    refine (Hg2.out _ _ _ ⟨Ax, cx, rfl, sx, Hxc.out⟩ ⟨Ax, cx, rfl, sx, Hxc.out⟩).mono ?_
    rintro e w8 ⟨Ag2, cg2, rfl, sg2, hg2c, hb⟩
    clear bx0 bx1 bx2 bx3 bxl by0 by1 by2 by3 byl bz0 bz1 bz2 bz3 bzl bh0 bh1 bh2 bh3 bhl bg10 bg11 bg12 bg13 bg1l
    replace HB := Lib.hid (HB.out.trans (hb.mono HB.out.size))
    replace Hbx := Lib.hid (Hbx.out.below hb Hbx.out.lt)
    replace Hby := Lib.hid (Hby.out.below hb Hby.out.lt)
    replace Hbz := Lib.hid (Hbz.out.below hb Hbz.out.lt)
    replace Hbh := Lib.hid (Hbh.out.below hb Hbh.out.lt)
    replace Hbg1 := Lib.hid (Hbg1.out.below hb Hbg1.out.lt)
    replace Hxc := Lib.hid (Hxc.out.stay hb (Nat.le_refl _))
    replace Hyc := Lib.hid (Hyc.out.stay hb (Nat.le_refl _))
    replace Hzc := Lib.hid (Hzc.out.stay hb (Nat.le_refl _))
    replace Hhc := Lib.hid (Hhc.out.stay hb (Nat.le_refl _))
    replace Hg1c := Lib.hid (Hg1c.out.stay hb (Nat.le_refl _))
    clear hb
    have Hg2c := Lib.hid (hg2c.mono (Q := (fun _ => True)) (fun _ _ => trivial)); clear hg2c
    obtain ⟨V8, hV8⟩ : ∃ V, V = w8.alloc (.cells #[.int .i64 g2.k, .int .i64 g2.n, .string g2.s, .slice Ag2 g2.l.length cg2] 25) := ⟨_, rfl⟩
    have hb : Below w8.heap.size w8 V8 := by rw [hV8]; exact (Below.refl _ _).alloc (Nat.le_refl _) _
    have Hbg2 := Lib.hid (show Blk V8 w8.heap.size 25 #[.int .i64 g2.k, .int .i64 g2.n, .string g2.s, .slice Ag2 g2.l.length cg2] from by rw [hV8]; exact Blk.new _ _ _)
    replace HB := Lib.hid (HB.out.trans (hb.mono HB.out.size))
    replace Hbx := Lib.hid (Hbx.out.below hb Hbx.out.lt)
    replace Hby := Lib.hid (Hby.out.below hb Hby.out.lt)
    replace Hbz := Lib.hid (Hbz.out.below hb Hbz.out.lt)
    replace Hbh := Lib.hid (Hbh.out.below hb Hbh.out.lt)
    replace Hbg1 := Lib.hid (Hbg1.out.below hb Hbg1.out.lt)
    replace Hxc := Lib.hid (Hxc.out.stay hb (Nat.le_refl _))
    replace Hyc := Lib.hid (Hyc.out.stay hb (Nat.le_refl _))
    replace Hzc := Lib.hid (Hzc.out.stay hb (Nat.le_refl _))
    replace Hhc := Lib.hid (Hhc.out.stay hb (Nat.le_refl _))
    replace Hg1c := Lib.hid (Hg1c.out.stay hb (Nat.le_refl _))
    replace Hg2c := Lib.hid (Hg2c.out.stay hb (Nat.le_refl _))
    clear hb
    have HV8 := Lib.hid hV8; clear hV8
    go_upto_region 11 with (fail)
    rw [← HV8.out]
    clear HV8
    obtain ⟨⟨bx0, bx1, bx2, bx3⟩, -⟩ := Hbx.out.four
    have bxl := Hbx.out.lt
    obtain ⟨⟨by0, by1, by2, by3⟩, -⟩ := Hby.out.four
    have byl := Hby.out.lt
    obtain ⟨⟨bz0, bz1, bz2, bz3⟩, -⟩ := Hbz.out.four
    have bzl := Hbz.out.lt
    obtain ⟨⟨bh0, bh1, bh2, bh3⟩, -⟩ := Hbh.out.four
    have bhl := Hbh.out.lt
    obtain ⟨⟨bg10, bg11, bg12, bg13⟩, -⟩ := Hbg1.out.four
    have bg1l := Hbg1.out.lt
    obtain ⟨⟨bg20, bg21, bg22, bg23⟩, -⟩ := Hbg2.out.four
    have bg2l := Hbg2.out.lt
    go_wp2_with fail
    refine (Hg3.out _ _ _ ⟨Ay, cy, rfl, sy, Hyc.out⟩ ⟨Ax, cx, rfl, sx, Hxc.out⟩).mono ?_
    rintro e w9 ⟨Ag3, cg3, rfl, sg3, hg3c, hb⟩
    clear bx0 bx1 bx2 bx3 bxl by0 by1 by2 by3 byl bz0 bz1 bz2 bz3 bzl bh0 bh1 bh2 bh3 bhl bg10 bg11 bg12 bg13 bg1l bg20 bg21 bg22 bg23 bg2l
    replace HB := Lib.hid (HB.out.trans (hb.mono HB.out.size))
    replace Hbx := Lib.hid (Hbx.out.below hb Hbx.out.lt)
    replace Hby := Lib.hid (Hby.out.below hb Hby.out.lt)
    replace Hbz := Lib.hid (Hbz.out.below hb Hbz.out.lt)
    replace Hbh := Lib.hid (Hbh.out.below hb Hbh.out.lt)
    replace Hbg1 := Lib.hid (Hbg1.out.below hb Hbg1.out.lt)
    replace Hbg2 := Lib.hid (Hbg2.out.below hb Hbg2.out.lt)
    replace Hxc := Lib.hid (Hxc.out.stay hb (Nat.le_refl _))
    replace Hyc := Lib.hid (Hyc.out.stay hb (Nat.le_refl _))
    replace Hzc := Lib.hid (Hzc.out.stay hb (Nat.le_refl _))
    replace Hhc := Lib.hid (Hhc.out.stay hb (Nat.le_refl _))
    replace Hg1c := Lib.hid (Hg1c.out.stay hb (Nat.le_refl _))
    replace Hg2c := Lib.hid (Hg2c.out.stay hb (Nat.le_refl _))
    clear hb
    have Hg3c := Lib.hid (hg3c.mono (Q := (fun _ => True)) (fun _ _ => trivial)); clear hg3c
    obtain ⟨V9, hV9⟩ : ∃ V, V = w9.alloc (.cells #[.int .i64 g3.k, .int .i64 g3.n, .string g3.s, .slice Ag3 g3.l.length cg3] 25) := ⟨_, rfl⟩
    have hb : Below w9.heap.size w9 V9 := by rw [hV9]; exact (Below.refl _ _).alloc (Nat.le_refl _) _
    have Hbg3 := Lib.hid (show Blk V9 w9.heap.size 25 #[.int .i64 g3.k, .int .i64 g3.n, .string g3.s, .slice Ag3 g3.l.length cg3] from by rw [hV9]; exact Blk.new _ _ _)
    replace HB := Lib.hid (HB.out.trans (hb.mono HB.out.size))
    replace Hbx := Lib.hid (Hbx.out.below hb Hbx.out.lt)
    replace Hby := Lib.hid (Hby.out.below hb Hby.out.lt)
    replace Hbz := Lib.hid (Hbz.out.below hb Hbz.out.lt)
    replace Hbh := Lib.hid (Hbh.out.below hb Hbh.out.lt)
    replace Hbg1 := Lib.hid (Hbg1.out.below hb Hbg1.out.lt)
    replace Hbg2 := Lib.hid (Hbg2.out.below hb Hbg2.out.lt)
    replace Hxc := Lib.hid (Hxc.out.stay hb (Nat.le_refl _))
    replace Hyc := Lib.hid (Hyc.out.stay hb (Nat.le_refl _))
    replace Hzc := Lib.hid (Hzc.out.stay hb (Nat.le_refl _))
    replace Hhc := Lib.hid (Hhc.out.stay hb (Nat.le_refl _))
    replace Hg1c := Lib.hid (Hg1c.out.stay hb (Nat.le_refl _))
    replace Hg2c := Lib.hid (Hg2c.out.stay hb (Nat.le_refl _))
    replace Hg3c := Lib.hid (Hg3c.out.stay hb (Nat.le_refl _))
    clear hb
    have HV9 := Lib.hid hV9; clear hV9
    go_upto_region 12 with (fail)
    rw [← HV9.out]
    clear HV9
    obtain ⟨⟨bx0, bx1, bx2, bx3⟩, -⟩ := Hbx.out.four
    have bxl := Hbx.out.lt
    obtain ⟨⟨by0, by1, by2, by3⟩, -⟩ := Hby.out.four
    have byl := Hby.out.lt
    obtain ⟨⟨bz0, bz1, bz2, bz3⟩, -⟩ := Hbz.out.four
    have bzl := Hbz.out.lt
    obtain ⟨⟨bh0, bh1, bh2, bh3⟩, -⟩ := Hbh.out.four
    have bhl := Hbh.out.lt
    obtain ⟨⟨bg10, bg11, bg12, bg13⟩, -⟩ := Hbg1.out.four
    have bg1l := Hbg1.out.lt
    obtain ⟨⟨bg20, bg21, bg22, bg23⟩, -⟩ := Hbg2.out.four
    have bg2l := Hbg2.out.lt
    obtain ⟨⟨bg30, bg31, bg32, bg33⟩, -⟩ := Hbg3.out.four
    have bg3l := Hbg3.out.lt
    go_wp2_with fail
    refine (Hv1.out _ _ _ ⟨Ag2, cg2, rfl, sg2, Hg2c.out⟩ ⟨Ax, cx, rfl, sx, Hxc.out⟩).mono ?_
    rintro e w10 ⟨rfl, hb⟩
    clear bx0 bx1 bx2 bx3 bxl by0 by1 by2 by3 byl bz0 bz1 bz2 bz3 bzl bh0 bh1 bh2 bh3 bhl bg10 bg11 bg12 bg13 bg1l bg20 bg21 bg22 bg23 bg2l bg30 bg31 bg32 bg33 bg3l
    replace HB := Lib.hid (HB.out.trans (hb.mono HB.out.size))
    replace Hbx := Lib.hid (Hbx.out.below hb Hbx.out.lt)
    replace Hby := Lib.hid (Hby.out.below hb Hby.out.lt)
    replace Hbz := Lib.hid (Hbz.out.below hb Hbz.out.lt)
    replace Hbh := Lib.hid (Hbh.out.below hb Hbh.out.lt)
    replace Hbg1 := Lib.hid (Hbg1.out.below hb Hbg1.out.lt)
    replace Hbg2 := Lib.hid (Hbg2.out.below hb Hbg2.out.lt)
    replace Hbg3 := Lib.hid (Hbg3.out.below hb Hbg3.out.lt)
    replace Hxc := Lib.hid (Hxc.out.stay hb (Nat.le_refl _))
    replace Hyc := Lib.hid (Hyc.out.stay hb (Nat.le_refl _))
    replace Hzc := Lib.hid (Hzc.out.stay hb (Nat.le_refl _))
    replace Hhc := Lib.hid (Hhc.out.stay hb (Nat.le_refl _))
    replace Hg1c := Lib.hid (Hg1c.out.stay hb (Nat.le_refl _))
    replace Hg2c := Lib.hid (Hg2c.out.stay hb (Nat.le_refl _))
    replace Hg3c := Lib.hid (Hg3c.out.stay hb (Nat.le_refl _))
    clear hb
    obtain ⟨⟨bx0, bx1, bx2, bx3⟩, -⟩ := Hbx.out.four
    have bxl := Hbx.out.lt
    obtain ⟨⟨by0, by1, by2, by3⟩, -⟩ := Hby.out.four
    have byl := Hby.out.lt
    obtain ⟨⟨bz0, bz1, bz2, bz3⟩, -⟩ := Hbz.out.four
    have bzl := Hbz.out.lt
    obtain ⟨⟨bh0, bh1, bh2, bh3⟩, -⟩ := Hbh.out.four
    have bhl := Hbh.out.lt
    obtain ⟨⟨bg10, bg11, bg12, bg13⟩, -⟩ := Hbg1.out.four
    have bg1l := Hbg1.out.lt
    obtain ⟨⟨bg20, bg21, bg22, bg23⟩, -⟩ := Hbg2.out.four
    have bg2l := Hbg2.out.lt
    obtain ⟨⟨bg30, bg31, bg32, bg33⟩, -⟩ := Hbg3.out.four
    have bg3l := Hbg3.out.lt
    go_wp2_with fail
    refine (Hv2.out _ _ _ ⟨Ag3, cg3, rfl, sg3, Hg3c.out⟩ ⟨Ag1, cg1, rfl, sg1, Hg1c.out⟩).mono ?_
    rintro e w11 ⟨rfl, hb⟩
    clear bx0 bx1 bx2 bx3 bxl by0 by1 by2 by3 byl bz0 bz1 bz2 bz3 bzl bh0 bh1 bh2 bh3 bhl bg10 bg11 bg12 bg13 bg1l bg20 bg21 bg22 bg23 bg2l bg30 bg31 bg32 bg33 bg3l
    replace HB := Lib.hid (HB.out.trans (hb.mono HB.out.size))
    replace Hbx := Lib.hid (Hbx.out.below hb Hbx.out.lt)
    replace Hby := Lib.hid (Hby.out.below hb Hby.out.lt)
    replace Hbz := Lib.hid (Hbz.out.below hb Hbz.out.lt)
    replace Hbh := Lib.hid (Hbh.out.below hb Hbh.out.lt)
    replace Hbg1 := Lib.hid (Hbg1.out.below hb Hbg1.out.lt)
    replace Hbg2 := Lib.hid (Hbg2.out.below hb Hbg2.out.lt)
    replace Hbg3 := Lib.hid (Hbg3.out.below hb Hbg3.out.lt)
    replace Hxc := Lib.hid (Hxc.out.stay hb (Nat.le_refl _))
    replace Hyc := Lib.hid (Hyc.out.stay hb (Nat.le_refl _))
    replace Hzc := Lib.hid (Hzc.out.stay hb (Nat.le_refl _))
    replace Hhc := Lib.hid (Hhc.out.stay hb (Nat.le_refl _))
    replace Hg1c := Lib.hid (Hg1c.out.stay hb (Nat.le_refl _))
    replace Hg2c := Lib.hid (Hg2c.out.stay hb (Nat.le_refl _))
    replace Hg3c := Lib.hid (Hg3c.out.stay hb (Nat.le_refl _))
    clear hb
    obtain ⟨⟨bx0, bx1, bx2, bx3⟩, -⟩ := Hbx.out.four
    have bxl := Hbx.out.lt
    obtain ⟨⟨by0, by1, by2, by3⟩, -⟩ := Hby.out.four
    have byl := Hby.out.lt
    obtain ⟨⟨bz0, bz1, bz2, bz3⟩, -⟩ := Hbz.out.four
    have bzl := Hbz.out.lt
    obtain ⟨⟨bh0, bh1, bh2, bh3⟩, -⟩ := Hbh.out.four
    have bhl := Hbh.out.lt
    obtain ⟨⟨bg10, bg11, bg12, bg13⟩, -⟩ := Hbg1.out.four
    have bg1l := Hbg1.out.lt
    obtain ⟨⟨bg20, bg21, bg22, bg23⟩, -⟩ := Hbg2.out.four
    have bg2l := Hbg2.out.lt
    obtain ⟨⟨bg30, bg31, bg32, bg33⟩, -⟩ := Hbg3.out.four
    have bg3l := Hbg3.out.lt
    go_wp2_with fail
    refine (Hg4.out _ _ _ ⟨Ag1, cg1, rfl, sg1, Hg1c.out⟩ ⟨Az, cz, rfl, sz, Hzc.out⟩).mono ?_
    rintro e w12 ⟨Ag4, cg4, rfl, sg4, hg4c, hb⟩
    clear bx0 bx1 bx2 bx3 bxl by0 by1 by2 by3 byl bz0 bz1 bz2 bz3 bzl bh0 bh1 bh2 bh3 bhl bg10 bg11 bg12 bg13 bg1l bg20 bg21 bg22 bg23 bg2l bg30 bg31 bg32 bg33 bg3l
    replace HB := Lib.hid (HB.out.trans (hb.mono HB.out.size))
    replace Hbx := Lib.hid (Hbx.out.below hb Hbx.out.lt)
    replace Hby := Lib.hid (Hby.out.below hb Hby.out.lt)
    replace Hbz := Lib.hid (Hbz.out.below hb Hbz.out.lt)
    replace Hbh := Lib.hid (Hbh.out.below hb Hbh.out.lt)
    replace Hbg1 := Lib.hid (Hbg1.out.below hb Hbg1.out.lt)
    replace Hbg2 := Lib.hid (Hbg2.out.below hb Hbg2.out.lt)
    replace Hbg3 := Lib.hid (Hbg3.out.below hb Hbg3.out.lt)
    replace Hxc := Lib.hid (Hxc.out.stay hb (Nat.le_refl _))
    replace Hyc := Lib.hid (Hyc.out.stay hb (Nat.le_refl _))
    replace Hzc := Lib.hid (Hzc.out.stay hb (Nat.le_refl _))
    replace Hhc := Lib.hid (Hhc.out.stay hb (Nat.le_refl _))
    replace Hg1c := Lib.hid (Hg1c.out.stay hb (Nat.le_refl _))
    replace Hg2c := Lib.hid (Hg2c.out.stay hb (Nat.le_refl _))
    replace Hg3c := Lib.hid (Hg3c.out.stay hb (Nat.le_refl _))
    clear hb
    have Hg4c := Lib.hid (hg4c.mono (Q := (fun _ => True)) (fun _ _ => trivial)); clear hg4c
    obtain ⟨V12, hV12⟩ : ∃ V, V = w12.alloc (.cells #[.int .i64 g4.k, .int .i64 g4.n, .string g4.s, .slice Ag4 g4.l.length cg4] 25) := ⟨_, rfl⟩
    have hb : Below w12.heap.size w12 V12 := by rw [hV12]; exact (Below.refl _ _).alloc (Nat.le_refl _) _
    have Hbg4 := Lib.hid (show Blk V12 w12.heap.size 25 #[.int .i64 g4.k, .int .i64 g4.n, .string g4.s, .slice Ag4 g4.l.length cg4] from by rw [hV12]; exact Blk.new _ _ _)
    replace HB := Lib.hid (HB.out.trans (hb.mono HB.out.size))
    replace Hbx := Lib.hid (Hbx.out.below hb Hbx.out.lt)
    replace Hby := Lib.hid (Hby.out.below hb Hby.out.lt)
    replace Hbz := Lib.hid (Hbz.out.below hb Hbz.out.lt)
    replace Hbh := Lib.hid (Hbh.out.below hb Hbh.out.lt)
    replace Hbg1 := Lib.hid (Hbg1.out.below hb Hbg1.out.lt)
    replace Hbg2 := Lib.hid (Hbg2.out.below hb Hbg2.out.lt)
    replace Hbg3 := Lib.hid (Hbg3.out.below hb Hbg3.out.lt)
    replace Hxc := Lib.hid (Hxc.out.stay hb (Nat.le_refl _))
    replace Hyc := Lib.hid (Hyc.out.stay hb (Nat.le_refl _))
    replace Hzc := Lib.hid (Hzc.out.stay hb (Nat.le_refl _))
    replace Hhc := Lib.hid (Hhc.out.stay hb (Nat.le_refl _))
    replace Hg1c := Lib.hid (Hg1c.out.stay hb (Nat.le_refl _))
    replace Hg2c := Lib.hid (Hg2c.out.stay hb (Nat.le_refl _))
    replace Hg3c := Lib.hid (Hg3c.out.stay hb (Nat.le_refl _))
    replace Hg4c := Lib.hid (Hg4c.out.stay hb (Nat.le_refl _))
    clear hb
    have HV12 := Lib.hid hV12; clear hV12
    go_upto_region 15 with (fail)
    rw [← HV12.out]
    clear HV12
    obtain ⟨⟨bx0, bx1, bx2, bx3⟩, -⟩ := Hbx.out.four
    have bxl := Hbx.out.lt
    obtain ⟨⟨by0, by1, by2, by3⟩, -⟩ := Hby.out.four
    have byl := Hby.out.lt
    obtain ⟨⟨bz0, bz1, bz2, bz3⟩, -⟩ := Hbz.out.four
    have bzl := Hbz.out.lt
    obtain ⟨⟨bh0, bh1, bh2, bh3⟩, -⟩ := Hbh.out.four
    have bhl := Hbh.out.lt
    obtain ⟨⟨bg10, bg11, bg12, bg13⟩, -⟩ := Hbg1.out.four
    have bg1l := Hbg1.out.lt
    obtain ⟨⟨bg20, bg21, bg22, bg23⟩, -⟩ := Hbg2.out.four
    have bg2l := Hbg2.out.lt
    obtain ⟨⟨bg30, bg31, bg32, bg33⟩, -⟩ := Hbg3.out.four
    have bg3l := Hbg3.out.lt
    obtain ⟨⟨bg40, bg41, bg42, bg43⟩, -⟩ := Hbg4.out.four
    have bg4l := Hbg4.out.lt
    go_wp2_with fail
    refine (Hg5.out _ _ _ ⟨Ay, cy, rfl, sy, Hyc.out⟩ ⟨Az, cz, rfl, sz, Hzc.out⟩).mono ?_
    rintro e w13 ⟨Ag5, cg5, rfl, sg5, hg5c, hb⟩
    clear bx0 bx1 bx2 bx3 bxl by0 by1 by2 by3 byl bz0 bz1 bz2 bz3 bzl bh0 bh1 bh2 bh3 bhl bg10 bg11 bg12 bg13 bg1l bg20 bg21 bg22 bg23 bg2l bg30 bg31 bg32 bg33 bg3l bg40 bg41 bg42 bg43 bg4l
    replace HB := Lib.hid (HB.out.trans (hb.mono HB.out.size))
    replace Hbx := Lib.hid (Hbx.out.below hb Hbx.out.lt)
    replace Hby := Lib.hid (Hby.out.below hb Hby.out.lt)
    replace Hbz := Lib.hid (Hbz.out.below hb Hbz.out.lt)
    replace Hbh := Lib.hid (Hbh.out.below hb Hbh.out.lt)
    replace Hbg1 := Lib.hid (Hbg1.out.below hb Hbg1.out.lt)
    replace Hbg2 := Lib.hid (Hbg2.out.below hb Hbg2.out.lt)
    replace Hbg3 := Lib.hid (Hbg3.out.below hb Hbg3.out.lt)
    replace Hbg4 := Lib.hid (Hbg4.out.below hb Hbg4.out.lt)
    replace Hxc := Lib.hid (Hxc.out.stay hb (Nat.le_refl _))
    replace Hyc := Lib.hid (Hyc.out.stay hb (Nat.le_refl _))
    replace Hzc := Lib.hid (Hzc.out.stay hb (Nat.le_refl _))
    replace Hhc := Lib.hid (Hhc.out.stay hb (Nat.le_refl _))
    replace Hg1c := Lib.hid (Hg1c.out.stay hb (Nat.le_refl _))
    replace Hg2c := Lib.hid (Hg2c.out.stay hb (Nat.le_refl _))
    replace Hg3c := Lib.hid (Hg3c.out.stay hb (Nat.le_refl _))
    replace Hg4c := Lib.hid (Hg4c.out.stay hb (Nat.le_refl _))
    clear hb
    have Hg5c := Lib.hid (hg5c.mono (Q := (fun _ => True)) (fun _ _ => trivial)); clear hg5c
    obtain ⟨V13, hV13⟩ : ∃ V, V = w13.alloc (.cells #[.int .i64 g5.k, .int .i64 g5.n, .string g5.s, .slice Ag5 g5.l.length cg5] 25) := ⟨_, rfl⟩
    have hb : Below w13.heap.size w13 V13 := by rw [hV13]; exact (Below.refl _ _).alloc (Nat.le_refl _) _
    have Hbg5 := Lib.hid (show Blk V13 w13.heap.size 25 #[.int .i64 g5.k, .int .i64 g5.n, .string g5.s, .slice Ag5 g5.l.length cg5] from by rw [hV13]; exact Blk.new _ _ _)
    replace HB := Lib.hid (HB.out.trans (hb.mono HB.out.size))
    replace Hbx := Lib.hid (Hbx.out.below hb Hbx.out.lt)
    replace Hby := Lib.hid (Hby.out.below hb Hby.out.lt)
    replace Hbz := Lib.hid (Hbz.out.below hb Hbz.out.lt)
    replace Hbh := Lib.hid (Hbh.out.below hb Hbh.out.lt)
    replace Hbg1 := Lib.hid (Hbg1.out.below hb Hbg1.out.lt)
    replace Hbg2 := Lib.hid (Hbg2.out.below hb Hbg2.out.lt)
    replace Hbg3 := Lib.hid (Hbg3.out.below hb Hbg3.out.lt)
    replace Hbg4 := Lib.hid (Hbg4.out.below hb Hbg4.out.lt)
    replace Hxc := Lib.hid (Hxc.out.stay hb (Nat.le_refl _))
    replace Hyc := Lib.hid (Hyc.out.stay hb (Nat.le_refl _))
    replace Hzc := Lib.hid (Hzc.out.stay hb (Nat.le_refl _))
    replace Hhc := Lib.hid (Hhc.out.stay hb (Nat.le_refl _))
    replace Hg1c := Lib.hid (Hg1c.out.stay hb (Nat.le_refl _))
    replace Hg2c := Lib.hid (Hg2c.out.stay hb (Nat.le_refl _))
    replace Hg3c := Lib.hid (Hg3c.out.stay hb (Nat.le_refl _))
    replace Hg4c := Lib.hid (Hg4c.out.stay hb (Nat.le_refl _))
    replace Hg5c := Lib.hid (Hg5c.out.stay hb (Nat.le_refl _))
    clear hb
    have HV13 := Lib.hid hV13; clear hV13
    go_upto_region 16 with (fail)
    rw [← HV13.out]
    clear HV13
    obtain ⟨⟨bx0, bx1, bx2, bx3⟩, -⟩ := Hbx.out.four
    have bxl := Hbx.out.lt
    obtain ⟨⟨by0, by1, by2, by3⟩, -⟩ := Hby.out.four
    have byl := Hby.out.lt
    obtain ⟨⟨bz0, bz1, bz2, bz3⟩, -⟩ := Hbz.out.four
    have bzl := Hbz.out.lt
    obtain ⟨⟨bh0, bh1, bh2, bh3⟩, -⟩ := Hbh.out.four
    have bhl := Hbh.out.lt
    obtain ⟨⟨bg10, bg11, bg12, bg13⟩, -⟩ := Hbg1.out.four
    have bg1l := Hbg1.out.lt
    obtain ⟨⟨bg20, bg21, bg22, bg23⟩, -⟩ := Hbg2.out.four
    have bg2l := Hbg2.out.lt
    obtain ⟨⟨bg30, bg31, bg32, bg33⟩, -⟩ := Hbg3.out.four
    have bg3l := Hbg3.out.lt
    obtain ⟨⟨bg40, bg41, bg42, bg43⟩, -⟩ := Hbg4.out.four
    have bg4l := Hbg4.out.lt
    obtain ⟨⟨bg50, bg51, bg52, bg53⟩, -⟩ := Hbg5.out.four
    have bg5l := Hbg5.out.lt
    go_wp2_with fail
    refine (Hg6.out _ _ _ ⟨Ax, cx, rfl, sx, Hxc.out⟩ ⟨Ag5, cg5, rfl, sg5, Hg5c.out⟩).mono ?_
    rintro e w14 ⟨Ag6, cg6, rfl, sg6, hg6c, hb⟩
    clear bx0 bx1 bx2 bx3 bxl by0 by1 by2 by3 byl bz0 bz1 bz2 bz3 bzl bh0 bh1 bh2 bh3 bhl bg10 bg11 bg12 bg13 bg1l bg20 bg21 bg22 bg23 bg2l bg30 bg31 bg32 bg33 bg3l bg40 bg41 bg42 bg43 bg4l bg50 bg51 bg52 bg53 bg5l
    replace HB := Lib.hid (HB.out.trans (hb.mono HB.out.size))
    replace Hbx := Lib.hid (Hbx.out.below hb Hbx.out.lt)
    replace Hby := Lib.hid (Hby.out.below hb Hby.out.lt)
    replace Hbz := Lib.hid (Hbz.out.below hb Hbz.out.lt)
    replace Hbh := Lib.hid (Hbh.out.below hb Hbh.out.lt)
    replace Hbg1 := Lib.hid (Hbg1.out.below hb Hbg1.out.lt)
    replace Hbg2 := Lib.hid (Hbg2.out.below hb Hbg2.out.lt)
    replace Hbg3 := Lib.hid (Hbg3.out.below hb Hbg3.out.lt)
    replace Hbg4 := Lib.hid (Hbg4.out.below hb Hbg4.out.lt)
    replace Hbg5 := Lib.hid (Hbg5.out.below hb Hbg5.out.lt)
    replace Hxc := Lib.hid (Hxc.out.stay hb (Nat.le_refl _))
    replace Hyc := Lib.hid (Hyc.out.stay hb (Nat.le_refl _))
    replace Hzc := Lib.hid (Hzc.out.stay hb (Nat.le_refl _))
    replace Hhc := Lib.hid (Hhc.out.stay hb (Nat.le_refl _))
    replace Hg1c := Lib.hid (Hg1c.out.stay hb (Nat.le_refl _))
    replace Hg2c := Lib.hid (Hg2c.out.stay hb (Nat.le_refl _))
    replace Hg3c := Lib.hid (Hg3c.out.stay hb (Nat.le_refl _))
    replace Hg4c := Lib.hid (Hg4c.out.stay hb (Nat.le_refl _))
    replace Hg5c := Lib.hid (Hg5c.out.stay hb (Nat.le_refl _))
    clear hb
    have Hg6c := Lib.hid (hg6c.mono (Q := (fun _ => True)) (fun _ _ => trivial)); clear hg6c
    obtain ⟨V14, hV14⟩ : ∃ V, V = w14.alloc (.cells #[.int .i64 g6.k, .int .i64 g6.n, .string g6.s, .slice Ag6 g6.l.length cg6] 25) := ⟨_, rfl⟩
    have hb : Below w14.heap.size w14 V14 := by rw [hV14]; exact (Below.refl _ _).alloc (Nat.le_refl _) _
    have Hbg6 := Lib.hid (show Blk V14 w14.heap.size 25 #[.int .i64 g6.k, .int .i64 g6.n, .string g6.s, .slice Ag6 g6.l.length cg6] from by rw [hV14]; exact Blk.new _ _ _)
    replace HB := Lib.hid (HB.out.trans (hb.mono HB.out.size))
    replace Hbx := Lib.hid (Hbx.out.below hb Hbx.out.lt)
    replace Hby := Lib.hid (Hby.out.below hb Hby.out.lt)
    replace Hbz := Lib.hid (Hbz.out.below hb Hbz.out.lt)
    replace Hbh := Lib.hid (Hbh.out.below hb Hbh.out.lt)
    replace Hbg1 := Lib.hid (Hbg1.out.below hb Hbg1.out.lt)
    replace Hbg2 := Lib.hid (Hbg2.out.below hb Hbg2.out.lt)
    replace Hbg3 := Lib.hid (Hbg3.out.below hb Hbg3.out.lt)
    replace Hbg4 := Lib.hid (Hbg4.out.below hb Hbg4.out.lt)
    replace Hbg5 := Lib.hid (Hbg5.out.below hb Hbg5.out.lt)
    replace Hxc := Lib.hid (Hxc.out.stay hb (Nat.le_refl _))
    replace Hyc := Lib.hid (Hyc.out.stay hb (Nat.le_refl _))
    replace Hzc := Lib.hid (Hzc.out.stay hb (Nat.le_refl _))
    replace Hhc := Lib.hid (Hhc.out.stay hb (Nat.le_refl _))
    replace Hg1c := Lib.hid (Hg1c.out.stay hb (Nat.le_refl _))
    replace Hg2c := Lib.hid (Hg2c.out.stay hb (Nat.le_refl _))
    replace Hg3c := Lib.hid (Hg3c.out.stay hb (Nat.le_refl _))
    replace Hg4c := Lib.hid (Hg4c.out.stay hb (Nat.le_refl _))
    replace Hg5c := Lib.hid (Hg5c.out.stay hb (Nat.le_refl _))
    replace Hg6c := Lib.hid (Hg6c.out.stay hb (Nat.le_refl _))
    clear hb
    have HV14 := Lib.hid hV14; clear hV14
    go_upto_region 17 with (fail)
    rw [← HV14.out]
    clear HV14
    obtain ⟨⟨bx0, bx1, bx2, bx3⟩, -⟩ := Hbx.out.four
    have bxl := Hbx.out.lt
    obtain ⟨⟨by0, by1, by2, by3⟩, -⟩ := Hby.out.four
    have byl := Hby.out.lt
    obtain ⟨⟨bz0, bz1, bz2, bz3⟩, -⟩ := Hbz.out.four
    have bzl := Hbz.out.lt
    obtain ⟨⟨bh0, bh1, bh2, bh3⟩, -⟩ := Hbh.out.four
    have bhl := Hbh.out.lt
    obtain ⟨⟨bg10, bg11, bg12, bg13⟩, -⟩ := Hbg1.out.four
    have bg1l := Hbg1.out.lt
    obtain ⟨⟨bg20, bg21, bg22, bg23⟩, -⟩ := Hbg2.out.four
    have bg2l := Hbg2.out.lt
    obtain ⟨⟨bg30, bg31, bg32, bg33⟩, -⟩ := Hbg3.out.four
    have bg3l := Hbg3.out.lt
    obtain ⟨⟨bg40, bg41, bg42, bg43⟩, -⟩ := Hbg4.out.four
    have bg4l := Hbg4.out.lt
    obtain ⟨⟨bg50, bg51, bg52, bg53⟩, -⟩ := Hbg5.out.four
    have bg5l := Hbg5.out.lt
    obtain ⟨⟨bg60, bg61, bg62, bg63⟩, -⟩ := Hbg6.out.four
    have bg6l := Hbg6.out.lt
    go_wp2_with fail
    refine (Hv3.out _ _ _ ⟨Ag4, cg4, rfl, sg4, Hg4c.out⟩ ⟨Ag6, cg6, rfl, sg6, Hg6c.out⟩).mono ?_
    rintro e w15 ⟨rfl, hb⟩
    clear bx0 bx1 bx2 bx3 bxl by0 by1 by2 by3 byl bz0 bz1 bz2 bz3 bzl bh0 bh1 bh2 bh3 bhl bg10 bg11 bg12 bg13 bg1l bg20 bg21 bg22 bg23 bg2l bg30 bg31 bg32 bg33 bg3l bg40 bg41 bg42 bg43 bg4l bg50 bg51 bg52 bg53 bg5l bg60 bg61 bg62 bg63 bg6l
    replace HB := Lib.hid (HB.out.trans (hb.mono HB.out.size))
    replace Hbx := Lib.hid (Hbx.out.below hb Hbx.out.lt)
    replace Hby := Lib.hid (Hby.out.below hb Hby.out.lt)
    replace Hbz := Lib.hid (Hbz.out.below hb Hbz.out.lt)
    replace Hbh := Lib.hid (Hbh.out.below hb Hbh.out.lt)
    replace Hbg1 := Lib.hid (Hbg1.out.below hb Hbg1.out.lt)
    replace Hbg2 := Lib.hid (Hbg2.out.below hb Hbg2.out.lt)
    replace Hbg3 := Lib.hid (Hbg3.out.below hb Hbg3.out.lt)
    replace Hbg4 := Lib.hid (Hbg4.out.below hb Hbg4.out.lt)
    replace Hbg5 := Lib.hid (Hbg5.out.below hb Hbg5.out.lt)
    replace Hbg6 := Lib.hid (Hbg6.out.below hb Hbg6.out.lt)
    replace Hxc := Lib.hid (Hxc.out.stay hb (Nat.le_refl _))
    replace Hyc := Lib.hid (Hyc.out.stay hb (Nat.le_refl _))
    replace Hzc := Lib.hid (Hzc.out.stay hb (Nat.le_refl _))
    replace Hhc := Lib.hid (Hhc.out.stay hb (Nat.le_refl _))
    replace Hg1c := Lib.hid (Hg1c.out.stay hb (Nat.le_refl _))
    replace Hg2c := Lib.hid (Hg2c.out.stay hb (Nat.le_refl _))
    replace Hg3c := Lib.hid (Hg3c.out.stay hb (Nat.le_refl _))
    replace Hg4c := Lib.hid (Hg4c.out.stay hb (Nat.le_refl _))
    replace Hg5c := Lib.hid (Hg5c.out.stay hb (Nat.le_refl _))
    replace Hg6c := Lib.hid (Hg6c.out.stay hb (Nat.le_refl _))
    clear hb
    go_wp2
    go_ret
    exact ⟨rfl, HB.out⟩
  obtain rfl : q3 = true := by have := B4.out; simpa using this
  obtain ⟨⟨bx0, bx1, bx2, bx3⟩, -⟩ := Hbx.out.four
  have bxl := Hbx.out.lt
  obtain ⟨⟨by0, by1, by2, by3⟩, -⟩ := Hby.out.four
  have byl := Hby.out.lt
  obtain ⟨⟨bz0, bz1, bz2, bz3⟩, -⟩ := Hbz.out.four
  have bzl := Hbz.out.lt
  obtain ⟨⟨bh0, bh1, bh2, bh3⟩, -⟩ := Hbh.out.four
  have bhl := Hbh.out.lt
  obtain ⟨⟨bg10, bg11, bg12, bg13⟩, -⟩ := Hbg1.out.four
  have bg1l := Hbg1.out.lt
  go_wp2_with fail
  refine (Hq3.out _ _ _ ⟨Ah, ch, rfl, sh, Hhc.out⟩ ⟨Ag1, cg1, rfl, sg1, Hg1c.out⟩).mono ?_
  rintro e w8 ⟨rfl, hb⟩
  clear bx0 bx1 bx2 bx3 bxl by0 by1 by2 by3 byl bz0 bz1 bz2 bz3 bzl bh0 bh1 bh2 bh3 bhl bg10 bg11 bg12 bg13 bg1l
  replace HB := Lib.hid (HB.out.trans (hb.mono HB.out.size))
  replace Hbx := Lib.hid (Hbx.out.below hb Hbx.out.lt)
  replace Hby := Lib.hid (Hby.out.below hb Hby.out.lt)
  replace Hbz := Lib.hid (Hbz.out.below hb Hbz.out.lt)
  replace Hbh := Lib.hid (Hbh.out.below hb Hbh.out.lt)
  replace Hbg1 := Lib.hid (Hbg1.out.below hb Hbg1.out.lt)
  replace Hxc := Lib.hid (Hxc.out.stay hb (Nat.le_refl _))
  replace Hyc := Lib.hid (Hyc.out.stay hb (Nat.le_refl _))
  replace Hzc := Lib.hid (Hzc.out.stay hb (Nat.le_refl _))
  replace Hhc := Lib.hid (Hhc.out.stay hb (Nat.le_refl _))
  replace Hg1c := Lib.hid (Hg1c.out.stay hb (Nat.le_refl _))
  clear hb
  obtain ⟨⟨bx0, bx1, bx2, bx3⟩, -⟩ := Hbx.out.four
  have bxl := Hbx.out.lt
  obtain ⟨⟨by0, by1, by2, by3⟩, -⟩ := Hby.out.four
  have byl := Hby.out.lt
  obtain ⟨⟨bz0, bz1, bz2, bz3⟩, -⟩ := Hbz.out.four
  have bzl := Hbz.out.lt
  obtain ⟨⟨bh0, bh1, bh2, bh3⟩, -⟩ := Hbh.out.four
  have bhl := Hbh.out.lt
  obtain ⟨⟨bg10, bg11, bg12, bg13⟩, -⟩ := Hbg1.out.four
  have bg1l := Hbg1.out.lt
  go_wp2_with fail
  refine (Hg2.out _ _ _ ⟨Ax, cx, rfl, sx, Hxc.out⟩ ⟨Ax, cx, rfl, sx, Hxc.out⟩).mono ?_
  rintro e w9 ⟨Ag2, cg2, rfl, sg2, hg2c, hb⟩
  clear bx0 bx1 bx2 bx3 bxl by0 by1 by2 by3 byl bz0 bz1 bz2 bz3 bzl bh0 bh1 bh2 bh3 bhl bg10 bg11 bg12 bg13 bg1l
  replace HB := Lib.hid (HB.out.trans (hb.mono HB.out.size))
  replace Hbx := Lib.hid (Hbx.out.below hb Hbx.out.lt)
  replace Hby := Lib.hid (Hby.out.below hb Hby.out.lt)
  replace Hbz := Lib.hid (Hbz.out.below hb Hbz.out.lt)
  replace Hbh := Lib.hid (Hbh.out.below hb Hbh.out.lt)
  replace Hbg1 := Lib.hid (Hbg1.out.below hb Hbg1.out.lt)
  replace Hxc := Lib.hid (Hxc.out.stay hb (Nat.le_refl _))
  replace Hyc := Lib.hid (Hyc.out.stay hb (Nat.le_refl _))
  replace Hzc := Lib.hid (Hzc.out.stay hb (Nat.le_refl _))
  replace Hhc := Lib.hid (Hhc.out.stay hb (Nat.le_refl _))
  replace Hg1c := Lib.hid (Hg1c.out.stay hb (Nat.le_refl _))
  clear hb
  have Hg2c := Lib.hid (hg2c.mono (Q := (fun _ => True)) (fun _ _ => trivial)); clear hg2c
  obtain ⟨V9, hV9⟩ : ∃ V, V = w9.alloc (.cells #[.int .i64 g2.k, .int .i64 g2.n, .string g2.s, .slice Ag2 g2.l.length cg2] 25) := ⟨_, rfl⟩
  have hb : Below w9.heap.size w9 V9 := by rw [hV9]; exact (Below.refl _ _).alloc (Nat.le_refl _) _
  have Hbg2 := Lib.hid (show Blk V9 w9.heap.size 25 #[.int .i64 g2.k, .int .i64 g2.n, .string g2.s, .slice Ag2 g2.l.length cg2] from by rw [hV9]; exact Blk.new _ _ _)
  replace HB := Lib.hid (HB.out.trans (hb.mono HB.out.size))
  replace Hbx := Lib.hid (Hbx.out.below hb Hbx.out.lt)
  replace Hby := Lib.hid (Hby.out.below hb Hby.out.lt)
  replace Hbz := Lib.hid (Hbz.out.below hb Hbz.out.lt)
  replace Hbh := Lib.hid (Hbh.out.below hb Hbh.out.lt)
  replace Hbg1 := Lib.hid (Hbg1.out.below hb Hbg1.out.lt)
  replace Hxc := Lib.hid (Hxc.out.stay hb (Nat.le_refl _))
  replace Hyc := Lib.hid (Hyc.out.stay hb (Nat.le_refl _))
  replace Hzc := Lib.hid (Hzc.out.stay hb (Nat.le_refl _))
  replace Hhc := Lib.hid (Hhc.out.stay hb (Nat.le_refl _))
  replace Hg1c := Lib.hid (Hg1c.out.stay hb (Nat.le_refl _))
  replace Hg2c := Lib.hid (Hg2c.out.stay hb (Nat.le_refl _))
  clear hb
  have HV9 := Lib.hid hV9; clear hV9
  go_upto_region 11 with (fail)
  rw [← HV9.out]
  clear HV9
  obtain ⟨⟨bx0, bx1, bx2, bx3⟩, -⟩ := Hbx.out.four
  have bxl := Hbx.out.lt
  obtain ⟨⟨by0, by1, by2, by3⟩, -⟩ := Hby.out.four
  have byl := Hby.out.lt
  obtain ⟨⟨bz0, bz1, bz2, bz3⟩, -⟩ := Hbz.out.four
  have bzl := Hbz.out.lt
  obtain ⟨⟨bh0, bh1, bh2, bh3⟩, -⟩ := Hbh.out.four
  have bhl := Hbh.out.lt
  obtain ⟨⟨bg10, bg11, bg12, bg13⟩, -⟩ := Hbg1.out.four
  have bg1l := Hbg1.out.lt
  obtain ⟨⟨bg20, bg21, bg22, bg23⟩, -⟩ := Hbg2.out.four
  have bg2l := Hbg2.out.lt
  go_wp2_with fail
  refine (Hg3.out _ _ _ ⟨Ay, cy, rfl, sy, Hyc.out⟩ ⟨Ax, cx, rfl, sx, Hxc.out⟩).mono ?_
  rintro e w10 ⟨Ag3, cg3, rfl, sg3, hg3c, hb⟩
  clear bx0 bx1 bx2 bx3 bxl by0 by1 by2 by3 byl bz0 bz1 bz2 bz3 bzl bh0 bh1 bh2 bh3 bhl bg10 bg11 bg12 bg13 bg1l bg20 bg21 bg22 bg23 bg2l
  replace HB := Lib.hid (HB.out.trans (hb.mono HB.out.size))
  replace Hbx := Lib.hid (Hbx.out.below hb Hbx.out.lt)
  replace Hby := Lib.hid (Hby.out.below hb Hby.out.lt)
  replace Hbz := Lib.hid (Hbz.out.below hb Hbz.out.lt)
  replace Hbh := Lib.hid (Hbh.out.below hb Hbh.out.lt)
  replace Hbg1 := Lib.hid (Hbg1.out.below hb Hbg1.out.lt)
  replace Hbg2 := Lib.hid (Hbg2.out.below hb Hbg2.out.lt)
  replace Hxc := Lib.hid (Hxc.out.stay hb (Nat.le_refl _))
  replace Hyc := Lib.hid (Hyc.out.stay hb (Nat.le_refl _))
  replace Hzc := Lib.hid (Hzc.out.stay hb (Nat.le_refl _))
  replace Hhc := Lib.hid (Hhc.out.stay hb (Nat.le_refl _))
  replace Hg1c := Lib.hid (Hg1c.out.stay hb (Nat.le_refl _))
  replace Hg2c := Lib.hid (Hg2c.out.stay hb (Nat.le_refl _))
  clear hb
  have Hg3c := Lib.hid (hg3c.mono (Q := (fun _ => True)) (fun _ _ => trivial)); clear hg3c
  obtain ⟨V10, hV10⟩ : ∃ V, V = w10.alloc (.cells #[.int .i64 g3.k, .int .i64 g3.n, .string g3.s, .slice Ag3 g3.l.length cg3] 25) := ⟨_, rfl⟩
  have hb : Below w10.heap.size w10 V10 := by rw [hV10]; exact (Below.refl _ _).alloc (Nat.le_refl _) _
  have Hbg3 := Lib.hid (show Blk V10 w10.heap.size 25 #[.int .i64 g3.k, .int .i64 g3.n, .string g3.s, .slice Ag3 g3.l.length cg3] from by rw [hV10]; exact Blk.new _ _ _)
  replace HB := Lib.hid (HB.out.trans (hb.mono HB.out.size))
  replace Hbx := Lib.hid (Hbx.out.below hb Hbx.out.lt)
  replace Hby := Lib.hid (Hby.out.below hb Hby.out.lt)
  replace Hbz := Lib.hid (Hbz.out.below hb Hbz.out.lt)
  replace Hbh := Lib.hid (Hbh.out.below hb Hbh.out.lt)
  replace Hbg1 := Lib.hid (Hbg1.out.below hb Hbg1.out.lt)
  replace Hbg2 := Lib.hid (Hbg2.out.below hb Hbg2.out.lt)
  replace Hxc := Lib.hid (Hxc.out.stay hb (Nat.le_refl _))
  replace Hyc := Lib.hid (Hyc.out.stay hb (Nat.le_refl _))
  replace Hzc := Lib.hid (Hzc.out.stay hb (Nat.le_refl _))
  replace Hhc := Lib.hid (Hhc.out.stay hb (Nat.le_refl _))
  replace Hg1c := Lib.hid (Hg1c.out.stay hb (Nat.le_refl _))
  replace Hg2c := Lib.hid (Hg2c.out.stay hb (Nat.le_refl _))
  replace Hg3c := Lib.hid (Hg3c.out.stay hb (Nat.le_refl _))
  clear hb
  have HV10 := Lib.hid hV10; clear hV10
  go_upto_region 12 with (fail)
  rw [← HV10.out]
  clear HV10
  obtain ⟨⟨bx0, bx1, bx2, bx3⟩, -⟩ := Hbx.out.four
  have bxl := Hbx.out.lt
  obtain ⟨⟨by0, by1, by2, by3⟩, -⟩ := Hby.out.four
  have byl := Hby.out.lt
  obtain ⟨⟨bz0, bz1, bz2, bz3⟩, -⟩ := Hbz.out.four
  have bzl := Hbz.out.lt
  obtain ⟨⟨bh0, bh1, bh2, bh3⟩, -⟩ := Hbh.out.four
  have bhl := Hbh.out.lt
  obtain ⟨⟨bg10, bg11, bg12, bg13⟩, -⟩ := Hbg1.out.four
  have bg1l := Hbg1.out.lt
  obtain ⟨⟨bg20, bg21, bg22, bg23⟩, -⟩ := Hbg2.out.four
  have bg2l := Hbg2.out.lt
  obtain ⟨⟨bg30, bg31, bg32, bg33⟩, -⟩ := Hbg3.out.four
  have bg3l := Hbg3.out.lt
  go_wp2_with fail
  refine (Hv1.out _ _ _ ⟨Ag2, cg2, rfl, sg2, Hg2c.out⟩ ⟨Ax, cx, rfl, sx, Hxc.out⟩).mono ?_
  rintro e w11 ⟨rfl, hb⟩
  clear bx0 bx1 bx2 bx3 bxl by0 by1 by2 by3 byl bz0 bz1 bz2 bz3 bzl bh0 bh1 bh2 bh3 bhl bg10 bg11 bg12 bg13 bg1l bg20 bg21 bg22 bg23 bg2l bg30 bg31 bg32 bg33 bg3l
  replace HB := Lib.hid (HB.out.trans (hb.mono HB.out.size))
  replace Hbx := Lib.hid (Hbx.out.below hb Hbx.out.lt)
  replace Hby := Lib.hid (Hby.out.below hb Hby.out.lt)
  replace Hbz := Lib.hid (Hbz.out.below hb Hbz.out.lt)
  replace Hbh := Lib.hid (Hbh.out.below hb Hbh.out.lt)
  replace Hbg1 := Lib.hid (Hbg1.out.below hb Hbg1.out.lt)
  replace Hbg2 := Lib.hid (Hbg2.out.below hb Hbg2.out.lt)
  replace Hbg3 := Lib.hid (Hbg3.out.below hb Hbg3.out.lt)
  replace Hxc := Lib.hid (Hxc.out.stay hb (Nat.le_refl _))
  replace Hyc := Lib.hid (Hyc.out.stay hb (Nat.le_refl _))
  replace Hzc := Lib.hid (Hzc.out.stay hb (Nat.le_refl _))
  replace Hhc := Lib.hid (Hhc.out.stay hb (Nat.le_refl _))
  replace Hg1c := Lib.hid (Hg1c.out.stay hb (Nat.le_refl _))
  replace Hg2c := Lib.hid (Hg2c.out.stay hb (Nat.le_refl _))
  replace Hg3c := Lib.hid (Hg3c.out.stay hb (Nat.le_refl _))
  clear hb
  obtain ⟨⟨bx0, bx1, bx2, bx3⟩, -⟩ := Hbx.out.four
  have bxl := Hbx.out.lt
  obtain ⟨⟨by0, by1, by2, by3⟩, -⟩ := Hby.out.four
  have byl := Hby.out.lt
  obtain ⟨⟨bz0, bz1, bz2, bz3⟩, -⟩ := Hbz.out.four
  have bzl := Hbz.out.lt
  obtain ⟨⟨bh0, bh1, bh2, bh3⟩, -⟩ := Hbh.out.four
  have bhl := Hbh.out.lt
  obtain ⟨⟨bg10, bg11, bg12, bg13⟩, -⟩ := Hbg1.out.four
  have bg1l := Hbg1.out.lt
  obtain ⟨⟨bg20, bg21, bg22, bg23⟩, -⟩ := Hbg2.out.four
  have bg2l := Hbg2.out.lt
  obtain ⟨⟨bg30, bg31, bg32, bg33⟩, -⟩ := Hbg3.out.four
  have bg3l := Hbg3.out.lt
  go_wp2_with fail
  refine (Hv2.out _ _ _ ⟨Ag3, cg3, rfl, sg3, Hg3c.out⟩ ⟨Ag1, cg1, rfl, sg1, Hg1c.out⟩).mono ?_
  rintro e w12 ⟨rfl, hb⟩
  clear bx0 bx1 bx2 bx3 bxl by0 by1 by2 by3 byl bz0 bz1 bz2 bz3 bzl bh0 bh1 bh2 bh3 bhl bg10 bg11 bg12 bg13 bg1l bg20 bg21 bg22 bg23 bg2l bg30 bg31 bg32 bg33 bg3l
  replace HB := Lib.hid (HB.out.trans (hb.mono HB.out.size))
  replace Hbx := Lib.hid (Hbx.out.below hb Hbx.out.lt)
  replace Hby := Lib.hid (Hby.out.below hb Hby.out.lt)
  replace Hbz := Lib.hid (Hbz.out.below hb Hbz.out.lt)
  replace Hbh := Lib.hid (Hbh.out.below hb Hbh.out.lt)
  replace Hbg1 := Lib.hid (Hbg1.out.below hb Hbg1.out.lt)
  replace Hbg2 := Lib.hid (Hbg2.out.below hb Hbg2.out.lt)
  replace Hbg3 := Lib.hid (Hbg3.out.below hb Hbg3.out.lt)
  replace Hxc := Lib.hid (Hxc.out.stay hb (Nat.le_refl _))
  replace Hyc := Lib.hid (Hyc.out.stay hb (Nat.le_refl _))
  replace Hzc := Lib.hid (Hzc.out.stay hb (Nat.le_refl _))
  replace Hhc := Lib.hid (Hhc.out.stay hb (Nat.le_refl _))
  replace Hg1c := Lib.hid (Hg1c.out.stay hb (Nat.le_refl _))
  replace Hg2c := Lib.hid (Hg2c.out.stay hb (Nat.le_refl _))
  replace Hg3c := Lib.hid (Hg3c.out.stay hb (Nat.le_refl _))
  clear hb
  obtain ⟨⟨bx0, bx1, bx2, bx3⟩, -⟩ := Hbx.out.four
  have bxl := Hbx.out.lt
  obtain ⟨⟨by0, by1, by2, by3⟩, -⟩ := Hby.out.four
  have byl := Hby.out.lt
  obtain ⟨⟨bz0, bz1, bz2, bz3⟩, -⟩ := Hbz.out.four
  have bzl := Hbz.out.lt
  obtain ⟨⟨bh0, bh1, bh2, bh3⟩, -⟩ := Hbh.out.four
  have bhl := Hbh.out.lt
  obtain ⟨⟨bg10, bg11, bg12, bg13⟩, -⟩ := Hbg1.out.four
  have bg1l := Hbg1.out.lt
  obtain ⟨⟨bg20, bg21, bg22, bg23⟩, -⟩ := Hbg2.out.four
  have bg2l := Hbg2.out.lt
  obtain ⟨⟨bg30, bg31, bg32, bg33⟩, -⟩ := Hbg3.out.four
  have bg3l := Hbg3.out.lt
  go_wp2_with fail
  refine (Hg4.out _ _ _ ⟨Ag1, cg1, rfl, sg1, Hg1c.out⟩ ⟨Az, cz, rfl, sz, Hzc.out⟩).mono ?_
  rintro e w13 ⟨Ag4, cg4, rfl, sg4, hg4c, hb⟩
  clear bx0 bx1 bx2 bx3 bxl by0 by1 by2 by3 byl bz0 bz1 bz2 bz3 bzl bh0 bh1 bh2 bh3 bhl bg10 bg11 bg12 bg13 bg1l bg20 bg21 bg22 bg23 bg2l bg30 bg31 bg32 bg33 bg3l
  replace HB := Lib.hid (HB.out.trans (hb.mono HB.out.size))
  replace Hbx := Lib.hid (Hbx.out.below hb Hbx.out.lt)
  replace Hby := Lib.hid (Hby.out.below hb Hby.out.lt)
  replace Hbz := Lib.hid (Hbz.out.below hb Hbz.out.lt)
  replace Hbh := Lib.hid (Hbh.out.below hb Hbh.out.lt)
  replace Hbg1 := Lib.hid (Hbg1.out.below hb Hbg1.out.lt)
  replace Hbg2 := Lib.hid (Hbg2.out.below hb Hbg2.out.lt)
  replace Hbg3 := Lib.hid (Hbg3.out.below hb Hbg3.out.lt)
  replace Hxc := Lib.hid (Hxc.out.stay hb (Nat.le_refl _))
  replace Hyc := Lib.hid (Hyc.out.stay hb (Nat.le_refl _))
  replace Hzc := Lib.hid (Hzc.out.stay hb (Nat.le_refl _))
  replace Hhc := Lib.hid (Hhc.out.stay hb (Nat.le_refl _))
  replace Hg1c := Lib.hid (Hg1c.out.stay hb (Nat.le_refl _))
  replace Hg2c := Lib.hid (Hg2c.out.stay hb (Nat.le_refl _))
  replace Hg3c := Lib.hid (Hg3c.out.stay hb (Nat.le_refl _))
  clear hb
  have Hg4c := Lib.hid (hg4c.mono (Q := (fun _ => True)) (fun _ _ => trivial)); clear hg4c
  obtain ⟨V13, hV13⟩ : ∃ V, V = w13.alloc (.cells #[.int .i64 g4.k, .int .i64 g4.n, .string g4.s, .slice Ag4 g4.l.length cg4] 25) := ⟨_, rfl⟩
  have hb : Below w13.heap.size w13 V13 := by rw [hV13]; exact (Below.refl _ _).alloc (Nat.le_refl _) _
  have Hbg4 := Lib.hid (show Blk V13 w13.heap.size 25 #[.int .i64 g4.k, .int .i64 g4.n, .string g4.s, .slice Ag4 g4.l.length cg4] from by rw [hV13]; exact Blk.new _ _ _)
  replace HB := Lib.hid (HB.out.trans (hb.mono HB.out.size))
  replace Hbx := Lib.hid (Hbx.out.below hb Hbx.out.lt)
  replace Hby := Lib.hid (Hby.out.below hb Hby.out.lt)
  replace Hbz := Lib.hid (Hbz.out.below hb Hbz.out.lt)
  replace Hbh := Lib.hid (Hbh.out.below hb Hbh.out.lt)
  replace Hbg1 := Lib.hid (Hbg1.out.below hb Hbg1.out.lt)
  replace Hbg2 := Lib.hid (Hbg2.out.below hb Hbg2.out.lt)
  replace Hbg3 := Lib.hid (Hbg3.out.below hb Hbg3.out.lt)
  replace Hxc := Lib.hid (Hxc.out.stay hb (Nat.le_refl _))
  replace Hyc := Lib.hid (Hyc.out.stay hb (Nat.le_refl _))
  replace Hzc := Lib.hid (Hzc.out.stay hb (Nat.le_refl _))
  replace Hhc := Lib.hid (Hhc.out.stay hb (Nat.le_refl _))
  replace Hg1c := Lib.hid (Hg1c.out.stay hb (Nat.le_refl _))
  replace Hg2c := Lib.hid (Hg2c.out.stay hb (Nat.le_refl _))
  replace Hg3c := Lib.hid (Hg3c.out.stay hb (Nat.le_refl _))
  replace Hg4c := Lib.hid (Hg4c.out.stay hb (Nat.le_refl _))
  clear hb
  have HV13 := Lib.hid hV13; clear hV13
  go_upto_region 15 with (fail)
  rw [← HV13.out]
  clear HV13
  obtain ⟨⟨bx0, bx1, bx2, bx3⟩, -⟩ := Hbx.out.four
  have bxl := Hbx.out.lt
  obtain ⟨⟨by0, by1, by2, by3⟩, -⟩ := Hby.out.four
  have byl := Hby.out.lt
  obtain ⟨⟨bz0, bz1, bz2, bz3⟩, -⟩ := Hbz.out.four
  have bzl := Hbz.out.lt
  obtain ⟨⟨bh0, bh1, bh2, bh3⟩, -⟩ := Hbh.out.four
  have bhl := Hbh.out.lt
  obtain ⟨⟨bg10, bg11, bg12, bg13⟩, -⟩ := Hbg1.out.four
  have bg1l := Hbg1.out.lt
  obtain ⟨⟨bg20, bg21, bg22, bg23⟩, -⟩ := Hbg2.out.four
  have bg2l := Hbg2.out.lt
  obtain ⟨⟨bg30, bg31, bg32, bg33⟩, -⟩ := Hbg3.out.four
  have bg3l := Hbg3.out.lt
  obtain ⟨⟨bg40, bg41, bg42, bg43⟩, -⟩ := Hbg4.out.four
  have bg4l := Hbg4.out.lt
  go_wp2_with fail
  refine (Hg5.out _ _ _ ⟨Ay, cy, rfl, sy, Hyc.out⟩ ⟨Az, cz, rfl, sz, Hzc.out⟩).mono ?_
  rintro e w14 ⟨Ag5, cg5, rfl, sg5, hg5c, hb⟩
  clear bx0 bx1 bx2 bx3 bxl by0 by1 by2 by3 byl bz0 bz1 bz2 bz3 bzl bh0 bh1 bh2 bh3 bhl bg10 bg11 bg12 bg13 bg1l bg20 bg21 bg22 bg23 bg2l bg30 bg31 bg32 bg33 bg3l bg40 bg41 bg42 bg43 bg4l
  replace HB := Lib.hid (HB.out.trans (hb.mono HB.out.size))
  replace Hbx := Lib.hid (Hbx.out.below hb Hbx.out.lt)
  replace Hby := Lib.hid (Hby.out.below hb Hby.out.lt)
  replace Hbz := Lib.hid (Hbz.out.below hb Hbz.out.lt)
  replace Hbh := Lib.hid (Hbh.out.below hb Hbh.out.lt)
  replace Hbg1 := Lib.hid (Hbg1.out.below hb Hbg1.out.lt)
  replace Hbg2 := Lib.hid (Hbg2.out.below hb Hbg2.out.lt)
  replace Hbg3 := Lib.hid (Hbg3.out.below hb Hbg3.out.lt)
  replace Hbg4 := Lib.hid (Hbg4.out.below hb Hbg4.out.lt)
  replace Hxc := Lib.hid (Hxc.out.stay hb (Nat.le_refl _))
  replace Hyc := Lib.hid (Hyc.out.stay hb (Nat.le_refl _))
  replace Hzc := Lib.hid (Hzc.out.stay hb (Nat.le_refl _))
  replace Hhc := Lib.hid (Hhc.out.stay hb (Nat.le_refl _))
  replace Hg1c := Lib.hid (Hg1c.out.stay hb (Nat.le_refl _))
  replace Hg2c := Lib.hid (Hg2c.out.stay hb (Nat.le_refl _))
  replace Hg3c := Lib.hid (Hg3c.out.stay hb (Nat.le_refl _))
  replace Hg4c := Lib.hid (Hg4c.out.stay hb (Nat.le_refl _))
  clear hb
  have Hg5c := Lib.hid (hg5c.mono (Q := (fun _ => True)) (fun _ _ => trivial)); clear hg5c
  obtain ⟨V14, hV14⟩ : ∃ V, V = w14.alloc (.cells #[.int .i64 g5.k, .int .i64 g5.n, .string g5.s, .slice Ag5 g5.l.length cg5] 25) := ⟨_, rfl⟩
  have hb : Below w14.heap.size w14 V14 := by rw [hV14]; exact (Below.refl _ _).alloc (Nat.le_refl _) _
  have Hbg5 := Lib.hid (show Blk V14 w14.heap.size 25 #[.int .i64 g5.k, .int .i64 g5.n, .string g5.s, .slice Ag5 g5.l.length cg5] from by rw [hV14]; exact Blk.new _ _ _)
  replace HB := Lib.hid (HB.out.trans (hb.mono HB.out.size))
  replace Hbx := Lib.hid (Hbx.out.below hb Hbx.out.lt)
  replace Hby := Lib.hid (Hby.out.below hb Hby.out.lt)
  replace Hbz := Lib.hid (Hbz.out.below hb Hbz.out.lt)
  replace Hbh := Lib.hid (Hbh.out.below hb Hbh.out.lt)
  replace Hbg1 := Lib.hid (Hbg1.out.below hb Hbg1.out.lt)
  replace Hbg2 := Lib.hid (Hbg2.out.below hb Hbg2.out.lt)
  replace Hbg3 := Lib.hid (Hbg3.out.below hb Hbg3.out.lt)
  replace Hbg4 := Lib.hid (Hbg4.out.below hb Hbg4.out.lt)
  replace Hxc := Lib.hid (Hxc.out.stay hb (Nat.le_refl _))
  replace Hyc := Lib.hid (Hyc.out.stay hb (Nat.le_refl _))
  replace Hzc := Lib.hid (Hzc.out.stay hb (Nat.le_refl _))
  replace Hhc := Lib.hid (Hhc.out.stay hb (Nat.le_refl _))
  replace Hg1c := Lib.hid (Hg1c.out.stay hb (Nat.le_refl _))
  replace Hg2c := Lib.hid (Hg2c.out.stay hb (Nat.le_refl _))
  replace Hg3c := Lib.hid (Hg3c.out.stay hb (Nat.le_refl _))
  replace Hg4c := Lib.hid (Hg4c.out.stay hb (Nat.le_refl _))
  replace Hg5c := Lib.hid (Hg5c.out.stay hb (Nat.le_refl _))
  clear hb
  have HV14 := Lib.hid hV14; clear hV14
  go_upto_region 16 with (fail)
  rw [← HV14.out]
  clear HV14
  obtain ⟨⟨bx0, bx1, bx2, bx3⟩, -⟩ := Hbx.out.four
  have bxl := Hbx.out.lt
  obtain ⟨⟨by0, by1, by2, by3⟩, -⟩ := Hby.out.four
  have byl := Hby.out.lt
  obtain ⟨⟨bz0, bz1, bz2, bz3⟩, -⟩ := Hbz.out.four
  have bzl := Hbz.out.lt
  obtain ⟨⟨bh0, bh1, bh2, bh3⟩, -⟩ := Hbh.out.four
  have bhl := Hbh.out.lt
  obtain ⟨⟨bg10, bg11, bg12, bg13⟩, -⟩ := Hbg1.out.four
  have bg1l := Hbg1.out.lt
  obtain ⟨⟨bg20, bg21, bg22, bg23⟩, -⟩ := Hbg2.out.four
  have bg2l := Hbg2.out.lt
  obtain ⟨⟨bg30, bg31, bg32, bg33⟩, -⟩ := Hbg3.out.four
  have bg3l := Hbg3.out.lt
  obtain ⟨⟨bg40, bg41, bg42, bg43⟩, -⟩ := Hbg4.out.four
  have bg4l := Hbg4.out.lt
  obtain ⟨⟨bg50, bg51, bg52, bg53⟩, -⟩ := Hbg5.out.four
  have bg5l := Hbg5.out.lt
  go_wp2_with fail
  refine (Hg6.out _ _ _ ⟨Ax, cx, rfl, sx, Hxc.out⟩ ⟨Ag5, cg5, rfl, sg5, Hg5c.out⟩).mono ?_
  rintro e w15 ⟨Ag6, cg6, rfl, sg6, hg6c, hb⟩
  clear bx0 bx1 bx2 bx3 bxl by0 by1 by2 by3 byl bz0 bz1 bz2 bz3 bzl bh0 bh1 bh2 bh3 bhl bg10 bg11 bg12 bg13 bg1l bg20 bg21 bg22 bg23 bg2l bg30 bg31 bg32 bg33 bg3l bg40 bg41 bg42 bg43 bg4l bg50 bg51 bg52 bg53 bg5l
  replace HB := Lib.hid (HB.out.trans (hb.mono HB.out.size))
  replace Hbx := Lib.hid (Hbx.out.below hb Hbx.out.lt)
  replace Hby := Lib.hid (Hby.out.below hb Hby.out.lt)
  replace Hbz := Lib.hid (Hbz.out.below hb Hbz.out.lt)
  replace Hbh := Lib.hid (Hbh.out.below hb Hbh.out.lt)
  replace Hbg1 := Lib.hid (Hbg1.out.below hb Hbg1.out.lt)
  replace Hbg2 := Lib.hid (Hbg2.out.below hb Hbg2.out.lt)
  replace Hbg3 := Lib.hid (Hbg3.out.below hb Hbg3.out.lt)
  replace Hbg4 := Lib.hid (Hbg4.out.below hb Hbg4.out.lt)
  replace Hbg5 := Lib.hid (Hbg5.out.below hb Hbg5.out.lt)
  replace Hxc := Lib.hid (Hxc.out.stay hb (Nat.le_refl _))
  replace Hyc := Lib.hid (Hyc.out.stay hb (Nat.le_refl _))
  replace Hzc := Lib.hid (Hzc.out.stay hb (Nat.le_refl _))
  replace Hhc := Lib.hid (Hhc.out.stay hb (Nat.le_refl _))
  replace Hg1c := Lib.hid (Hg1c.out.stay hb (Nat.le_refl _))
  replace Hg2c := Lib.hid (Hg2c.out.stay hb (Nat.le_refl _))
  replace Hg3c := Lib.hid (Hg3c.out.stay hb (Nat.le_refl _))
  replace Hg4c := Lib.hid (Hg4c.out.stay hb (Nat.le_refl _))
  replace Hg5c := Lib.hid (Hg5c.out.stay hb (Nat.le_refl _))
  clear hb
  have Hg6c := Lib.hid (hg6c.mono (Q := (fun _ => True)) (fun _ _ => trivial)); clear hg6c
  obtain ⟨V15, hV15⟩ : ∃ V, V = w15.alloc (.cells #[.int .i64 g6.k, .int .i64 g6.n, .string g6.s, .slice Ag6 g6.l.length cg6] 25) := ⟨_, rfl⟩
  have hb : Below w15.heap.size w15 V15 := by rw [hV15]; exact (Below.refl _ _).alloc (Nat.le_refl _) _
  have Hbg6 := Lib.hid (show Blk V15 w15.heap.size 25 #[.int .i64 g6.k, .int .i64 g6.n, .string g6.s, .slice Ag6 g6.l.length cg6] from by rw [hV15]; exact Blk.new _ _ _)
  replace HB := Lib.hid (HB.out.trans (hb.mono HB.out.size))
  replace Hbx := Lib.hid (Hbx.out.below hb Hbx.out.lt)
  replace Hby := Lib.hid (Hby.out.below hb Hby.out.lt)
  replace Hbz := Lib.hid (Hbz.out.below hb Hbz.out.lt)
  replace Hbh := Lib.hid (Hbh.out.below hb Hbh.out.lt)
  replace Hbg1 := Lib.hid (Hbg1.out.below hb Hbg1.out.lt)
  replace Hbg2 := Lib.hid (Hbg2.out.below hb Hbg2.out.lt)
  replace Hbg3 := Lib.hid (Hbg3.out.below hb Hbg3.out.lt)
  replace Hbg4 := Lib.hid (Hbg4.out.below hb Hbg4.out.lt)
  replace Hbg5 := Lib.hid (Hbg5.out.below hb Hbg5.out.lt)
  replace Hxc := Lib.hid (Hxc.out.stay hb (Nat.le_refl _))
  replace Hyc := Lib.hid (Hyc.out.stay hb (Nat.le_refl _))
  replace Hzc := Lib.hid (Hzc.out.stay hb (Nat.le_refl _))
  replace Hhc := Lib.hid (Hhc.out.stay hb (Nat.le_refl _))
  replace Hg1c := Lib.hid (Hg1c.out.stay hb (Nat.le_refl _))
  replace Hg2c := Lib.hid (Hg2c.out.stay hb (Nat.le_refl _))
  replace Hg3c := Lib.hid (Hg3c.out.stay hb (Nat.le_refl _))
  replace Hg4c := Lib.hid (Hg4c.out.stay hb (Nat.le_refl _))
  replace Hg5c := Lib.hid (Hg5c.out.stay hb (Nat.le_refl _))
  replace Hg6c := Lib.hid (Hg6c.out.stay hb (Nat.le_refl _))
  clear hb
  have HV15 := Lib.hid hV15; clear hV15
  go_upto_region 17 with (fail)
  rw [← HV15.out]
  clear HV15
  obtain ⟨⟨bx0, bx1, bx2, bx3⟩, -⟩ := Hbx.out.four
  have bxl := Hbx.out.lt
  obtain ⟨⟨by0, by1, by2, by3⟩, -⟩ := Hby.out.four
  have byl := Hby.out.lt
  obtain ⟨⟨bz0, bz1, bz2, bz3⟩, -⟩ := Hbz.out.four
  have bzl := Hbz.out.lt
  obtain ⟨⟨bh0, bh1, bh2, bh3⟩, -⟩ := Hbh.out.four
  have bhl := Hbh.out.lt
  obtain ⟨⟨bg10, bg11, bg12, bg13⟩, -⟩ := Hbg1.out.four
  have bg1l := Hbg1.out.lt
  obtain ⟨⟨bg20, bg21, bg22, bg23⟩, -⟩ := Hbg2.out.four
  have bg2l := Hbg2.out.lt
  obtain ⟨⟨bg30, bg31, bg32, bg33⟩, -⟩ := Hbg3.out.four
  have bg3l := Hbg3.out.lt
  obtain ⟨⟨bg40, bg41, bg42, bg43⟩, -⟩ := Hbg4.out.four
  have bg4l := Hbg4.out.lt
  obtain ⟨⟨bg50, bg51, bg52, bg53⟩, -⟩ := Hbg5.out.four
  have bg5l := Hbg5.out.lt
  obtain ⟨⟨bg60, bg61, bg62, bg63⟩, -⟩ := Hbg6.out.four
  have bg6l := Hbg6.out.lt
  go_wp2_with fail
  refine (Hv3.out _ _ _ ⟨Ag4, cg4, rfl, sg4, Hg4c.out⟩ ⟨Ag6, cg6, rfl, sg6, Hg6c.out⟩).mono ?_
  rintro e w16 ⟨rfl, hb⟩
  clear bx0 bx1 bx2 bx3 bxl by0 by1 by2 by3 byl bz0 bz1 bz2 bz3 bzl bh0 bh1 bh2 bh3 bhl bg10 bg11 bg12 bg13 bg1l bg20 bg21 bg22 bg23 bg2l bg30 bg31 bg32 bg33 bg3l bg40 bg41 bg42 bg43 bg4l bg50 bg51 bg52 bg53 bg5l bg60 bg61 bg62 bg63 bg6l
  replace HB := Lib.hid (HB.out.trans (hb.mono HB.out.size))
  replace Hbx := Lib.hid (Hbx.out.below hb Hbx.out.lt)
  replace Hby := Lib.hid (Hby.out.below hb Hby.out.lt)
  replace Hbz := Lib.hid (Hbz.out.below hb Hbz.out.lt)
  replace Hbh := Lib.hid (Hbh.out.below hb Hbh.out.lt)
  replace Hbg1 := Lib.hid (Hbg1.out.below hb Hbg1.out.lt)
  replace Hbg2 := Lib.hid (Hbg2.out.below hb Hbg2.out.lt)
  replace Hbg3 := Lib.hid (Hbg3.out.below hb Hbg3.out.lt)
  replace Hbg4 := Lib.hid (Hbg4.out.below hb Hbg4.out.lt)
  replace Hbg5 := Lib.hid (Hbg5.out.below hb Hbg5.out.lt)
  replace Hbg6 := Lib.hid (Hbg6.out.below hb Hbg6.out.lt)
  replace Hxc := Lib.hid (Hxc.out.stay hb (Nat.le_refl _))
  replace Hyc := Lib.hid (Hyc.out.stay hb (Nat.le_refl _))
  replace Hzc := Lib.hid (Hzc.out.stay hb (Nat.le_refl _))
  replace Hhc := Lib.hid (Hhc.out.stay hb (Nat.le_refl _))
  replace Hg1c := Lib.hid (Hg1c.out.stay hb (Nat.le_refl _))
  replace Hg2c := Lib.hid (Hg2c.out.stay hb (Nat.le_refl _))
  replace Hg3c := Lib.hid (Hg3c.out.stay hb (Nat.le_refl _))
  replace Hg4c := Lib.hid (Hg4c.out.stay hb (Nat.le_refl _))
  replace Hg5c := Lib.hid (Hg5c.out.stay hb (Nat.le_refl _))
  replace Hg6c := Lib.hid (Hg6c.out.stay hb (Nat.le_refl _))
  clear hb
  go_wp2
  go_ret
  exact ⟨rfl, HB.out⟩
end Go.Proofs.Ytfhgknmkpegpbaa
