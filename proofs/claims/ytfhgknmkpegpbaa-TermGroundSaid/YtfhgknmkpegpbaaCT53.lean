/- Variant: function 31; the law's instance and variant: functions 38, 39. -/
import Derived.Test.YtfhgknmkpegpbaaM5
import Derived.Test.YtfhgknmkpegpbaaM2
import Derived.Test.YtfhgknmkpegpbaaCP4
set_option linter.unusedVariables false
set_option linter.unusedSimpArgs false
namespace Go.Proofs.Ytfhgknmkpegpbaa
open Go.RowKit

set_option maxRecDepth 100000 in
set_option maxHeartbeats 4000000 in
theorem variant_calls (t u : Tm) (P Q : Nat → Prop) (w : World) (v v2 : Value) (hv : TmV P w v t) (hv2 : TmV Q w v2 u) :
    Calls Try.prog 31 #[v, v2] w (RetA w (.tuple #[.bool (if allIs [t, u] = true then vntB t u else false), .int .i64 (errT (allIs [t, u]))])) := by
  obtain ⟨A, c, rfl, hs, hc⟩ := hv
  obtain ⟨B, d, rfl, hs', hd⟩ := hv2
  obtain ⟨W1, hW1⟩ : ∃ W1, W1 = ((w.alloc (.cells #[.int .i64 t.k, .int .i64 t.n, .string t.s, .slice A t.l.length c] 25)).alloc (.cells #[.int .i64 u.k, .int .i64 u.n, .string u.s, .slice B u.l.length d] 25)).alloc (.cells #[.int .i64 t.k, .int .i64 t.n, .string t.s, .slice A t.l.length c, .int .i64 u.k, .int .i64 u.n, .string u.s, .slice B u.l.length d] 25) := ⟨_, rfl⟩
  have hB1 : Below w.heap.size w W1 := by rw [hW1]; exact (((Below.refl _ _).alloc (Nat.le_refl _) _).alloc (by simp) _).alloc (by simp; omega) _
  have hX : Blk W1 w.heap.size 25 #[.int .i64 t.k, .int .i64 t.n, .string t.s, .slice A t.l.length c] := by rw [hW1]; exact ((Blk.new w 25 _).alloc _).alloc _
  have hY : Blk W1 (w.heap.size + 1) 25 #[.int .i64 u.k, .int .i64 u.n, .string u.s, .slice B u.l.length d] := by
    rw [hW1]
    have := Blk.new (w.alloc (.cells #[.int .i64 t.k, .int .i64 t.n, .string t.s, .slice A t.l.length c] 25)) 25 #[.int .i64 u.k, .int .i64 u.n, .string u.s, .slice B u.l.length d]
    rw [show (w.alloc (.cells #[.int .i64 t.k, .int .i64 t.n, .string t.s, .slice A t.l.length c] 25)).heap.size = w.heap.size + 1 from by simp] at this
    exact this.alloc _
  have hZ : Blk W1 (w.heap.size + 1 + 1) 25 #[.int .i64 t.k, .int .i64 t.n, .string t.s, .slice A t.l.length c, .int .i64 u.k, .int .i64 u.n, .string u.s, .slice B u.l.length d] := by
    rw [hW1]
    have := Blk.new ((w.alloc (.cells #[.int .i64 t.k, .int .i64 t.n, .string t.s, .slice A t.l.length c] 25)).alloc (.cells #[.int .i64 u.k, .int .i64 u.n, .string u.s, .slice B u.l.length d] 25)) 25 #[.int .i64 t.k, .int .i64 t.n, .string t.s, .slice A t.l.length c, .int .i64 u.k, .int .i64 u.n, .string u.s, .slice B u.l.length d]
    rw [show ((w.alloc (.cells #[.int .i64 t.k, .int .i64 t.n, .string t.s, .slice A t.l.length c] 25)).alloc (.cells #[.int .i64 u.k, .int .i64 u.n, .string u.s, .slice B u.l.length d] 25)).heap.size = w.heap.size + 1 + 1 from by simp] at this
    exact this
  have hc1 := (hc.inside.belowP hB1 (fun g h => h.2)).mono (Q := fun g => g < w.heap.size) (fun g h => h.2)
  have hd1 := (hd.inside.belowP hB1 (fun g h => h.2)).mono (Q := fun g => g < w.heap.size) (fun g h => h.2)
  have hcall := checked_calls [t, u] _ _ 2 W1 (TmC.lit (P := fun g => g < w.heap.size ∨ g = w.heap.size + 1 + 1) [(t, A, c), (u, B, d)] (by simp; exact ⟨⟨hs, hc1.mono (fun g h => Or.inl h)⟩, hs', hd1.mono (fun g h => Or.inl h)⟩) hZ (Or.inr rfl) (by simp))
  obtain ⟨b, hb⟩ : ∃ b, b = allIs [t, u] := ⟨_, rfl⟩
  rw [← hb] at hcall ⊢
  obtain ⟨R, hR⟩ : ∃ R, R = if b = true then vntB t u else false := ⟨_, rfl⟩
  rw [← hR]
  have HR := Lib.hid hR; clear hR
  have Hb := Lib.hid hb; clear hb
  have Hcall := Lib.hid hcall; clear hcall hZ
  have Hc := Lib.hid hc1; clear hc hc1
  have Hd := Lib.hid hd1; clear hd hd1
  have HX := Lib.hid hX; clear hX
  have HY := Lib.hid hY; clear hY
  have HB1 := Lib.hid hB1; clear hB1
  have HW := Lib.hid hW1; clear hW1
  go_enter Try.func31, Try.ntmps31
  go_wp2_with fail
  rw [← HW.out]
  refine Hcall.out.mono ?_
  rintro e w1 ⟨rfl, hb1⟩
  have hsz := HB1.out.size
  have lx := HX.out.lt
  have ly := HY.out.lt
  have hX1 := HX.out.below hb1 lx
  have hY1 := HY.out.below hb1 ly
  obtain ⟨⟨a0, a1, a2, a3⟩, -⟩ := hX1.four
  have HX1 := Lib.hid hX1; clear hX1
  have HY1 := Lib.hid hY1; clear hY1
  have HB2 := Lib.hid (HB1.out.trans (hb1.mono hsz))
  have Hc1 := Lib.hid (Hc.out.stay hb1 (Nat.le_refl _))
  have Hd1 := Lib.hid (Hd.out.stay hb1 (Nat.le_refl _))
  clear hb1 lx ly
  cases b
  · have he : (errT false != 0) = true := rfl
    have hr : R = false := by have := HR.out; simpa using this
    subst hr
    go_wp2
    exact bodyPost_ret (v := .tuple #[.bool false, .int .i64 (errT false)]) (by simp [results, Try.results31, go_sem]) rfl (R := RetA w _) ⟨rfl, HB2.out⟩
  have he : (errT true != 0) = false := rfl
  have hr : R = vntB t u := by have := HR.out; simpa using this
  have Hr := Lib.hid hr; clear hr HR
  have Hok := Lib.hid (show allB [t] = true from by rw [allB_one]; have := Hb.out; simp [allIs] at this; exact this.1)
  have Hou := Lib.hid (show allB [u] = true from by rw [allB_one]; have := Hb.out; simp [allIs] at this; exact this.2)
  have hbb : Below w1.heap.size w1 (w1.alloc (.cells #[.int .i64 t.k, .int .i64 t.n, .string t.s, .slice A t.l.length c] 25)) := (Below.refl _ _).alloc (Nat.le_refl _) _
  have hcall := normal_calls [t] (fun g => g < w.heap.size ∨ g = w1.heap.size) _ 1 (w1.alloc (.cells #[.int .i64 t.k, .int .i64 t.n, .string t.s, .slice A t.l.length c] 25)) (TmC.lit [(t, A, c)] (by simp; exact ⟨hs, (Hc1.out.stay hbb (Nat.le_refl _)).mono (fun g h => Or.inl h)⟩) (Blk.new _ _ _) (Or.inr rfl) (by simp))
  rw [Hok.out, if_pos rfl, if_pos rfl] at hcall
  obtain ⟨x, hx⟩ : ∃ x, x = normT (ixL [t]) t := ⟨_, rfl⟩
  rw [show normR [t] = [x] from by rw [hx]; rfl] at hcall
  have Hx := Lib.hid hx; clear hx
  obtain ⟨xs, hxs⟩ : ∃ xs, xs = varsL [t] := ⟨_, rfl⟩
  rw [← hxs] at hcall; clear hxs
  have Hcall2 := Lib.hid hcall; clear hcall Hcall
  have HBB := Lib.hid hbb; clear hbb
  go_wp2_with fail
  refine Hcall2.out.mono ?_
  rintro e w2 ⟨A1, c1, v1, rfl, hc2, -, -, hb2⟩
  have hb12 := HBB.out.trans (hb2.mono HBB.out.size)
  have hY2 := HY1.out.below hb12 HY1.out.lt
  obtain ⟨⟨b0, b1, b2, b3⟩, -⟩ := hY2.four
  have ly2 := hY2.lt
  have Hd2 := Lib.hid (Hd1.out.stay hb12 (Nat.le_refl _))
  have HB3 := Lib.hid (HB2.out.trans (hb12.mono HB2.out.size))
  have Hc2 := Lib.hid (hc2.mono (Q := fun _ => True) (fun _ _ => trivial))
  clear hc2 hb2 hb12 hY2 a0 a1 a2 a3 HBB Hcall2 hsz
  have hbb : Below w2.heap.size w2 (w2.alloc (.cells #[.int .i64 u.k, .int .i64 u.n, .string u.s, .slice B u.l.length d] 25)) := (Below.refl _ _).alloc (Nat.le_refl _) _
  have hcall := normal_calls [u] (fun g => g < w.heap.size ∨ g = w2.heap.size) _ 1 (w2.alloc (.cells #[.int .i64 u.k, .int .i64 u.n, .string u.s, .slice B u.l.length d] 25)) (TmC.lit [(u, B, d)] (by simp; exact ⟨hs', (Hd2.out.stay hbb (Nat.le_refl _)).mono (fun g h => Or.inl h)⟩) (Blk.new _ _ _) (Or.inr rfl) (by simp))
  rw [Hou.out, if_pos rfl, if_pos rfl] at hcall
  obtain ⟨y, hy⟩ : ∃ y, y = normT (ixL [u]) u := ⟨_, rfl⟩
  rw [show normR [u] = [y] from by rw [hy]; rfl] at hcall
  have Hy := Lib.hid hy; clear hy
  obtain ⟨ys, hys⟩ : ∃ ys, ys = varsL [u] := ⟨_, rfl⟩
  rw [← hys] at hcall; clear hys
  have Hcall3 := Lib.hid hcall; clear hcall
  have HBB := Lib.hid hbb; clear hbb
  have hl1 : ([x] : List Tm).length = 1 := rfl
  have hl2 : ([y] : List Tm).length = 1 := rfl
  rw [hl1]
  go_wp2_with fail
  refine Hcall3.out.mono ?_
  rintro e w3 ⟨A2, c2, v2, rfl, hd3, -, -, hb3⟩
  have hb23 := HBB.out.trans (hb3.mono HBB.out.size)
  have hc3 := Hc2.out.stay hb23 (Nat.le_refl _)
  have HB4 := Lib.hid (HB3.out.trans (hb23.mono HB3.out.size))
  have hd3' := hd3.mono (Q := fun _ => True) (fun _ _ => trivial)
  clear hb3 hb23 hd3 b0 b1 b2 b3 HBB Hcall3 ly2
  rw [hl2]
  obtain ⟨g, off, Ai, ci, rfl, -, ⟨e0, e1, e2, e3⟩, hxs, hxc⟩ := hc3.at_ (i := 0) rfl
  obtain ⟨g', off', Bi, di, rfl, -, ⟨f0, f1, f2, f3⟩, hys, hyc⟩ := hd3'.at_ (i := 0) rfl
  simp only [Nat.zero_mul, Nat.add_zero] at e0 e1 e2 e3 f0 f1 f2 f3
  obtain ⟨r, hr⟩ : ∃ r, r = sameB x y := ⟨_, rfl⟩
  have hrr : r = R := by rw [hr, Hr.out, Hx.out, Hy.out]; rfl
  have hcall := same_calls x (fun _ => True) (fun _ => True) w3.drew _ _ y ⟨Ai, ci, rfl, hxs, hxc.kept (fun _ _ _ => rfl)⟩ ⟨Bi, di, rfl, hys, hyc.kept (fun _ _ _ => rfl)⟩
  rw [← hr, hrr] at hcall
  have Hcall := Lib.hid hcall; clear hcall hxc hyc hc3 hd3' hr hrr
  have hk0 : (0 : Int) < (1 : Int) := by omega
  go_wp2_with fail
  go_region_held3 (fun W => W.cell? ⟨g, off, none⟩ = some (.int .i64 x.k) ∧ W.cell? ⟨g, off + 1, none⟩ = some (.int .i64 x.n) ∧ W.cell? ⟨g, off + 2, none⟩ = some (.string x.s) ∧ W.cell? ⟨g, off + 3, none⟩ = some (.slice Ai x.l.length ci) ∧ W.cell? ⟨g', off', none⟩ = some (.int .i64 y.k) ∧ W.cell? ⟨g', off' + 1, none⟩ = some (.int .i64 y.n) ∧ W.cell? ⟨g', off' + 2, none⟩ = some (.string y.s) ∧ W.cell? ⟨g', off' + 3, none⟩ = some (.slice Bi y.l.length di))
    (first
      | exact ⟨e0, e1, e2, e3, f0, f1, f2, f3⟩
      | (go_split_ands; refine ⟨?_, ?_, ?_, ?_, ?_, ?_, ?_, ?_⟩ <;> exact keep_cell hb (by assumption)))
    ((go_at_call 24; refine Hcall.out.mono ?_; rintro e w4 ⟨rfl, hb⟩))
  have HB5 := Lib.hid (HB4.out.trans ((Below.refl _ w3).drew.trans (hb.mono HB4.out.size))); clear hb
  go_wp2
  exact bodyPost_ret (v := .tuple #[.bool R, .int .i64 0]) (by simp [results, Try.results31, go_sem]) rfl (R := RetA w _) ⟨rfl, HB5.out⟩


set_option maxRecDepth 100000 in
set_option maxHeartbeats 4000000 in
theorem instance_calls (t u : Tm) (P Q : Nat → Prop) (w : World) (v v2 : Value) (hv : TmV P w v t) (hv2 : TmV Q w v2 u) (h1 : isB t = true) (h2 : isB u = true) :
    Calls Try.prog 38 #[v, v2] w (RetB w ((matchR t u).isSome)) := by
  obtain ⟨A, c, rfl, hs, hc⟩ := hv
  obtain ⟨B, d, rfl, hs', hd⟩ := hv2
  obtain ⟨W1, hW1⟩ : ∃ W1, W1 = (w.alloc (.cells #[.int .i64 t.k, .int .i64 t.n, .string t.s, .slice A t.l.length c] 25)).alloc (.cells #[.int .i64 u.k, .int .i64 u.n, .string u.s, .slice B u.l.length d] 25) := ⟨_, rfl⟩
  have hB1 : Below w.heap.size w W1 := by rw [hW1]; exact ((Below.refl _ _).alloc (Nat.le_refl _) _).alloc (by simp) _
  have hX : Blk W1 w.heap.size 25 #[.int .i64 t.k, .int .i64 t.n, .string t.s, .slice A t.l.length c] := by rw [hW1]; exact (Blk.new w 25 _).alloc _
  have hY : Blk W1 (w.heap.size + 1) 25 #[.int .i64 u.k, .int .i64 u.n, .string u.s, .slice B u.l.length d] := by
    rw [hW1]
    have := Blk.new (w.alloc (.cells #[.int .i64 t.k, .int .i64 t.n, .string t.s, .slice A t.l.length c] 25)) 25 #[.int .i64 u.k, .int .i64 u.n, .string u.s, .slice B u.l.length d]
    rw [show (w.alloc (.cells #[.int .i64 t.k, .int .i64 t.n, .string t.s, .slice A t.l.length c] 25)).heap.size = w.heap.size + 1 from by simp] at this
    exact this
  have hcall := matchTop_calls t u _ _ W1 _ _ ⟨A, c, rfl, hs, hc.stay hB1 (Nat.le_refl _)⟩ ⟨B, d, rfl, hs', hd.stay hB1 (Nat.le_refl _)⟩
  have ha : allIs [t, u] = true := by simp [allIs, h1, h2]
  rw [ha, if_pos rfl] at hcall
  obtain ⟨R, hR⟩ : ∃ R, R = matchR t u := ⟨_, rfl⟩
  rw [← hR] at hcall ⊢
  obtain ⟨b, hb⟩ : ∃ b, b = R.isSome := ⟨_, rfl⟩
  rw [← hb]
  have Hb := Lib.hid hb; clear hb
  have Hcall := Lib.hid hcall; clear hcall hR ha
  have he : (errT true == 0) = true := rfl
  have lx := hX.lt
  have ly := hY.lt
  obtain ⟨⟨a0, a1, a2, a3⟩, -⟩ := hX.four
  obtain ⟨⟨b0, b1, b2, b3⟩, -⟩ := hY.four
  have HB1 := Lib.hid hB1; clear hB1 hX hY hc hd
  have HW := Lib.hid hW1; clear hW1
  go_enter Try.func38, Try.ntmps38
  go_wp2_with fail
  rw [← HW.out]
  clear HW
  go_wp2_with fail
  refine Hcall.out.mono ?_
  rintro e w1 ⟨A1, c1, rfl, -, hb⟩
  have HB := Lib.hid (HB1.out.trans (hb.mono HB1.out.size)); clear hb
  rw [← Hb.out]
  go_wp2
  go_ret
  exact ⟨rfl, HB.out⟩

set_option maxRecDepth 100000 in
set_option maxHeartbeats 4000000 in
theorem variantLaw_calls (t u : Tm) (P Q : Nat → Prop) (w : World) (v v2 : Value) (hv : TmV P w v t) (hv2 : TmV Q w v2 u) (h1 : isB t = true) (h2 : isB u = true) :
    Calls Try.prog 39 #[v, v2] w (RetB w (vntB t u)) := by
  obtain ⟨A, c, rfl, hs, hc⟩ := hv
  obtain ⟨B, d, rfl, hs', hd⟩ := hv2
  obtain ⟨W1, hW1⟩ : ∃ W1, W1 = (w.alloc (.cells #[.int .i64 t.k, .int .i64 t.n, .string t.s, .slice A t.l.length c] 25)).alloc (.cells #[.int .i64 u.k, .int .i64 u.n, .string u.s, .slice B u.l.length d] 25) := ⟨_, rfl⟩
  have hB1 : Below w.heap.size w W1 := by rw [hW1]; exact ((Below.refl _ _).alloc (Nat.le_refl _) _).alloc (by simp) _
  have hX : Blk W1 w.heap.size 25 #[.int .i64 t.k, .int .i64 t.n, .string t.s, .slice A t.l.length c] := by rw [hW1]; exact (Blk.new w 25 _).alloc _
  have hY : Blk W1 (w.heap.size + 1) 25 #[.int .i64 u.k, .int .i64 u.n, .string u.s, .slice B u.l.length d] := by
    rw [hW1]
    have := Blk.new (w.alloc (.cells #[.int .i64 t.k, .int .i64 t.n, .string t.s, .slice A t.l.length c] 25)) 25 #[.int .i64 u.k, .int .i64 u.n, .string u.s, .slice B u.l.length d]
    rw [show (w.alloc (.cells #[.int .i64 t.k, .int .i64 t.n, .string t.s, .slice A t.l.length c] 25)).heap.size = w.heap.size + 1 from by simp] at this
    exact this
  have hcall := variant_calls t u _ _ W1 _ _ ⟨A, c, rfl, hs, hc.stay hB1 (Nat.le_refl _)⟩ ⟨B, d, rfl, hs', hd.stay hB1 (Nat.le_refl _)⟩
  have ha : allIs [t, u] = true := by simp [allIs, h1, h2]
  rw [ha, if_pos rfl] at hcall
  obtain ⟨R, hR⟩ : ∃ R, R = vntB t u := ⟨_, rfl⟩
  rw [← hR] at hcall ⊢
  have Hcall := Lib.hid hcall; clear hcall hR ha
  have he : (errT true == 0) = true := rfl
  have lx := hX.lt
  have ly := hY.lt
  obtain ⟨⟨a0, a1, a2, a3⟩, -⟩ := hX.four
  obtain ⟨⟨b0, b1, b2, b3⟩, -⟩ := hY.four
  have HB1 := Lib.hid hB1; clear hB1 hX hY hc hd
  have HW := Lib.hid hW1; clear hW1
  go_enter Try.func39, Try.ntmps39
  go_wp2_with fail
  rw [← HW.out]
  clear HW
  go_wp2_with fail
  refine Hcall.out.mono ?_
  rintro e w1 ⟨rfl, hb⟩
  have HB := Lib.hid (HB1.out.trans (hb.mono HB1.out.size)); clear hb
  go_wp2
  go_ret
  exact ⟨rfl, HB.out⟩
end Go.Proofs.Ytfhgknmkpegpbaa
