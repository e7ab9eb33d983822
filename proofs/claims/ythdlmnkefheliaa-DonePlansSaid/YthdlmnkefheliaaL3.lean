import Derived.Test.YthdlmnkefheliaaR9
import Derived.Test.YthdlmnkefheliaaD33
import Derived.Deep.RegionHeld3
set_option linter.unusedVariables false
set_option linter.unusedSimpArgs false
namespace Go.Proofs.Ythdlmnkefheliaa
open Go.RowKit
attribute [local go_sem ↓] Go.wp_at_zero Go.wp_at_succ

set_option maxRecDepth 100000 in
set_option maxHeartbeats 4000000 in
theorem movesLaw_calls (t : Thr) (v : Value) (a b : Int) (w : World) (hv : ThrV w v t) :
    Calls Try.prog 4 #[v, .int .i64 a, .int .i64 b] w fun e w' => e = .returned (.bool true) ∧ Below w.heap.size w w' := by
  have hv0 := hv
  obtain ⟨gr, ou, ps, ms, en⟩ := t
  obtain ⟨A1, c1, A2, c2, rfl, k1, ⟨k2, k2'⟩, k3, k4, ⟨k5, k5'⟩, k6⟩ := hv
  simp only at k1 k4
  have hp63 : ps.length ≤ 9223372036854775807 := by omega
  have hm63 : ms.length ≤ 9223372036854775807 := by omega
  clear k1 k2 k2' k3 k4 k5 k5' k6
  simp only at hv0 ⊢
  obtain ⟨W0, hW0⟩ : ∃ W0, W0 = w.alloc (.cells #[.int .i64 gr, .int .i64 ou, .slice A1 ps.length c1, .slice A2 ms.length c2, .bool en] 25) := ⟨_, rfl⟩
  have hB0 : Below w.heap.size w W0 := by rw [hW0]; exact (Below.refl _ _).alloc (Nat.le_refl _) _
  have hbx : Blk W0 w.heap.size 25 #[.int .i64 gr, .int .i64 ou, .slice A1 ps.length c1, .slice A2 ms.length c2, .bool en] := by rw [hW0]; exact Blk.new _ _ _
  have HV0 := Lib.hid (hv0.below hB0 (Nat.le_refl _)); clear hv0
  have HX0 := Lib.hid hbx; clear hbx
  have HB0 := Lib.hid hB0; clear hB0
  have HW := Lib.hid hW0; clear hW0
  have hsane := sane_calls W0
  have Hsane := Lib.hid hsane; clear hsane
  have H63 := Lib.hid (And.intro hp63 hm63)
  obtain ⟨bf, hbf⟩ : ∃ bf, fewB ⟨gr, ou, ps, ms, en⟩ = bf := ⟨_, rfl⟩
  have Hfew := Lib.hid hbf
  cases bf
  · clear hbf
    go_enter Try.func4, Try.ntmps4
    go_wp2_with fail
    rw [← HW.out]
    refine Hsane.out.mono ?_
    rintro e w1 ⟨rfl, hb⟩
    have HX1 := Lib.hid (HX0.out.below hb HX0.out.lt)
    have HV1 := Lib.hid (HV0.out.below hb (Nat.le_refl _))
    have HB1 := Lib.hid (HB0.out.trans (hb.mono HB0.out.size))
    clear hb
    try clear b0 b1 b2 b3 b4
    obtain ⟨⟨b0, b1, b2, b3, b4⟩, -⟩ := HX1.out.five
    have lx1 := HX1.out.lt
    go_wp2_with fail
    refine (few_calls false ⟨gr, ou, ps, ms, en⟩ _ _ Hfew.out.symm HV1.out).mono ?_
    rintro e w2 ⟨rfl, hb⟩
    have HX2 := Lib.hid (HX1.out.below hb HX1.out.lt)
    have HV2 := Lib.hid (HV1.out.below hb (Nat.le_refl _))
    have HB2 := Lib.hid (HB1.out.trans (hb.mono HB1.out.size))
    clear hb
    try clear b0 b1 b2 b3 b4
    obtain ⟨⟨b0, b1, b2, b3, b4⟩, -⟩ := HX2.out.five
    have lx2 := HX2.out.lt
    go_wp2
    go_ret
    exact ⟨rfl, HB2.out⟩
  have Hlens := Lib.hid (fewB_lens hbf)
  clear hbf
  go_enter Try.func4, Try.ntmps4
  go_wp2_with fail
  rw [← HW.out]
  refine Hsane.out.mono ?_
  rintro e w1 ⟨rfl, hb⟩
  have HX1 := Lib.hid (HX0.out.below hb HX0.out.lt)
  have HV1 := Lib.hid (HV0.out.below hb (Nat.le_refl _))
  have HB1 := Lib.hid (HB0.out.trans (hb.mono HB0.out.size))
  clear hb
  try clear b0 b1 b2 b3 b4
  obtain ⟨⟨b0, b1, b2, b3, b4⟩, -⟩ := HX1.out.five
  have lx1 := HX1.out.lt
  go_wp2_with fail
  refine (few_calls true ⟨gr, ou, ps, ms, en⟩ _ _ Hfew.out.symm HV1.out).mono ?_
  rintro e w2 ⟨rfl, hb⟩
  have HX2 := Lib.hid (HX1.out.below hb HX1.out.lt)
  have HV2 := Lib.hid (HV1.out.below hb (Nat.le_refl _))
  have HB2 := Lib.hid (HB1.out.trans (hb.mono HB1.out.size))
  clear hb
  try clear b0 b1 b2 b3 b4
  obtain ⟨⟨b0, b1, b2, b3, b4⟩, -⟩ := HX2.out.five
  have lx2 := HX2.out.lt
  go_wp2_with fail
  refine (matches_calls ⟨gr, ou, ps, ms, en⟩ _ a b 3 5 _ HV2.out Hlens.out (by omega) (by omega) (by omega)).mono ?_
  rintro e w3 ⟨rfl, hb⟩
  have HB3 := Lib.hid (HB2.out.trans (hb.mono HB2.out.size))
  clear hb
  go_wp2
  go_ret
  exact ⟨rfl, HB3.out⟩

set_option maxRecDepth 100000 in
set_option maxHeartbeats 4000000 in
theorem startsLaw_calls (t : Thr) (v : Value) (a b : Int) (w : World) (hv : ThrV w v t) :
    Calls Try.prog 3 #[v, .int .i64 a, .int .i64 b] w fun e w' => e = .returned (.bool true) ∧ Below w.heap.size w w' := by
  have hv0 := hv
  obtain ⟨gr, ou, ps, ms, en⟩ := t
  obtain ⟨A1, c1, A2, c2, rfl, k1, ⟨k2, k2'⟩, k3, k4, ⟨k5, k5'⟩, k6⟩ := hv
  simp only at k1 k4
  have hp63 : ps.length ≤ 9223372036854775807 := by omega
  have hm63 : ms.length ≤ 9223372036854775807 := by omega
  clear k1 k2 k2' k3 k4 k5 k5' k6
  simp only at hv0 ⊢
  obtain ⟨W0, hW0⟩ : ∃ W0, W0 = w.alloc (.cells #[.int .i64 gr, .int .i64 ou, .slice A1 ps.length c1, .slice A2 ms.length c2, .bool en] 25) := ⟨_, rfl⟩
  have hB0 : Below w.heap.size w W0 := by rw [hW0]; exact (Below.refl _ _).alloc (Nat.le_refl _) _
  have hbx : Blk W0 w.heap.size 25 #[.int .i64 gr, .int .i64 ou, .slice A1 ps.length c1, .slice A2 ms.length c2, .bool en] := by rw [hW0]; exact Blk.new _ _ _
  have HV0 := Lib.hid (hv0.below hB0 (Nat.le_refl _)); clear hv0
  have HX0 := Lib.hid hbx; clear hbx
  have HB0 := Lib.hid hB0; clear hB0
  have HW := Lib.hid hW0; clear hW0
  have hsane := sane_calls W0
  have Hsane := Lib.hid hsane; clear hsane
  have H63 := Lib.hid (And.intro hp63 hm63)
  obtain ⟨bf, hbf⟩ : ∃ bf, fewB ⟨gr, ou, ps, ms, en⟩ = bf := ⟨_, rfl⟩
  have Hfew := Lib.hid hbf
  cases bf
  · clear hbf
    go_enter Try.func3, Try.ntmps3
    go_wp2_with fail
    rw [← HW.out]
    refine Hsane.out.mono ?_
    rintro e w1 ⟨rfl, hb⟩
    have HX1 := Lib.hid (HX0.out.below hb HX0.out.lt)
    have HV1 := Lib.hid (HV0.out.below hb (Nat.le_refl _))
    have HB1 := Lib.hid (HB0.out.trans (hb.mono HB0.out.size))
    clear hb
    try clear b0 b1 b2 b3 b4
    obtain ⟨⟨b0, b1, b2, b3, b4⟩, -⟩ := HX1.out.five
    have lx1 := HX1.out.lt
    go_wp2_with fail
    refine (few_calls false ⟨gr, ou, ps, ms, en⟩ _ _ Hfew.out.symm HV1.out).mono ?_
    rintro e w2 ⟨rfl, hb⟩
    have HX2 := Lib.hid (HX1.out.below hb HX1.out.lt)
    have HV2 := Lib.hid (HV1.out.below hb (Nat.le_refl _))
    have HB2 := Lib.hid (HB1.out.trans (hb.mono HB1.out.size))
    clear hb
    try clear b0 b1 b2 b3 b4
    obtain ⟨⟨b0, b1, b2, b3, b4⟩, -⟩ := HX2.out.five
    have lx2 := HX2.out.lt
    go_wp2
    go_ret
    exact ⟨rfl, HB2.out⟩
  have Hlens := Lib.hid (fewB_lens hbf)
  clear hbf
  go_enter Try.func3, Try.ntmps3
  go_wp2_with fail
  rw [← HW.out]
  refine Hsane.out.mono ?_
  rintro e w1 ⟨rfl, hb⟩
  have HX1 := Lib.hid (HX0.out.below hb HX0.out.lt)
  have HV1 := Lib.hid (HV0.out.below hb (Nat.le_refl _))
  have HB1 := Lib.hid (HB0.out.trans (hb.mono HB0.out.size))
  clear hb
  try clear b0 b1 b2 b3 b4
  obtain ⟨⟨b0, b1, b2, b3, b4⟩, -⟩ := HX1.out.five
  have lx1 := HX1.out.lt
  go_wp2_with fail
  refine (few_calls true ⟨gr, ou, ps, ms, en⟩ _ _ Hfew.out.symm HV1.out).mono ?_
  rintro e w2 ⟨rfl, hb⟩
  have HX2 := Lib.hid (HX1.out.below hb HX1.out.lt)
  have HV2 := Lib.hid (HV1.out.below hb (Nat.le_refl _))
  have HB2 := Lib.hid (HB1.out.trans (hb.mono HB1.out.size))
  clear hb
  try clear b0 b1 b2 b3 b4
  obtain ⟨⟨b0, b1, b2, b3, b4⟩, -⟩ := HX2.out.five
  have lx2 := HX2.out.lt
  obtain ⟨r, hr⟩ : ∃ r, r = newM a b := ⟨_, rfl⟩
  have hc1 := new_calls a b w2
  have hc2 := fun W => refNew_calls a b W
  rw [← hr] at hc1 hc2
  have Hc1 := Lib.hid hc1
  have Hc2 := Lib.hid hc2
  have Hrr := Lib.hid hr
  clear hc1 hc2 hr
  go_wp2_with fail
  refine Hc1.out.mono ?_
  obtain ⟨⟨gr2, ou2, ps2, ms2, en2⟩, n2⟩ := r
  rintro e w3 ⟨v3, rfl, hv3, hb⟩
  simp only at hv3
  have hv3' := hv3
  obtain ⟨G1, g1, G2, g2, rfl, -, -⟩ := hv3'
  obtain ⟨W3, hW3⟩ : ∃ W3, W3 = w3.alloc (.cells #[.int .i64 gr2, .int .i64 ou2, .slice G1 ps2.length g1, .slice G2 ms2.length g2, .bool en2] 25) := ⟨_, rfl⟩
  have hbW : Below w2.heap.size w2 W3 := by rw [hW3]; exact hb.alloc hb.size _
  have hu : Blk W3 w3.heap.size 25 #[.int .i64 gr2, .int .i64 ou2, .slice G1 ps2.length g1, .slice G2 ms2.length g2, .bool en2] := by rw [hW3]; exact Blk.new _ _ _
  have hVu : ThrV W3 (.agg #[.int .i64 gr2, .int .i64 ou2, .slice G1 ps2.length g1, .slice G2 ms2.length g2, .bool en2]) ⟨gr2, ou2, ps2, ms2, en2⟩ := by rw [hW3]; exact (hv3.alloc _).val
  have HX3 := Lib.hid (HX2.out.below hbW HX2.out.lt)
  have HV3 := Lib.hid (HV2.out.below hbW (Nat.le_refl _))
  have HB3 := Lib.hid (HB2.out.trans (hbW.mono HB2.out.size))
  have HU3 := Lib.hid hu
  have HVu3 := Lib.hid hVu
  have HW3 := Lib.hid hW3
  have lt23 : w.heap.size < w3.heap.size := Nat.lt_of_lt_of_le lx2 hb.size
  clear hb hbW hu hVu hW3 hv3 b0 b1 b2 b3 b4
  go_wp2_with fail
  rw [← HW3.out]
  refine (Hc2.out W3).mono ?_
  rintro e w4 ⟨v4, rfl, hv4, hb⟩
  simp only at hv4
  have hv4' := hv4
  obtain ⟨I1, i1, I2, i2, rfl, -, -⟩ := hv4'
  obtain ⟨W5, hW5⟩ : ∃ W5, W5 = w4.alloc (.cells #[.int .i64 gr2, .int .i64 ou2, .slice I1 ps2.length i1, .slice I2 ms2.length i2, .bool en2] 25) := ⟨_, rfl⟩
  have hbW : Below W3.heap.size W3 W5 := by rw [hW5]; exact hb.alloc hb.size _
  have hvk : Blk W5 w4.heap.size 25 #[.int .i64 gr2, .int .i64 ou2, .slice I1 ps2.length i1, .slice I2 ms2.length i2, .bool en2] := by rw [hW5]; exact Blk.new _ _ _
  have HVv5 := Lib.hid (show ThrV W5 (.agg #[.int .i64 gr2, .int .i64 ou2, .slice I1 ps2.length i1, .slice I2 ms2.length i2, .bool en2]) ⟨gr2, ou2, ps2, ms2, en2⟩ from by rw [hW5]; exact (hv4.alloc _).val)
  have hxk := HX3.out.below hbW HX3.out.lt
  have huk := HU3.out.below hbW HU3.out.lt
  have HV5 := Lib.hid (HV3.out.below hbW (Nat.le_refl _))
  have HVu5 := Lib.hid (HVu3.out.below hbW (Nat.le_refl _))
  have HB5 := Lib.hid (HB3.out.trans (hbW.mono HB3.out.size))
  obtain ⟨⟨u0, u1, u2, u3, u4⟩, -⟩ := huk.five
  obtain ⟨⟨y0, y1, y2, y3, y4⟩, -⟩ := hvk.five
  obtain ⟨⟨b0, b1, b2, b3, b4⟩, -⟩ := hxk.five
  have HX5 := Lib.hid hxk
  have hlens2 : Thr.Lens ⟨gr2, ou2, ps2, ms2, en2⟩ := by
    have h := newM_cases a b
    rw [← Hrr.out] at h
    rcases h with h | h
    · simp only at h
      subst h
      have := (newM_ok (p := a) (g := b) (by rw [← Hrr.out])).1
      rw [← Hrr.out] at this
      exact ok_lens this
    · simp only [Prod.mk.injEq] at h
      rw [h.1]
      exact ⟨by simp [Thr.zero], by simp [Thr.zero]⟩
  have Hlens2 := Lib.hid hlens2
  have HW5 := Lib.hid hW5
  clear hb hbW hvk hxk huk hlens2 hW5 hv4
  go_wp2_with fail
  rw [← HW5.out]
  go_region_held3 (fun W => (W.cell? ⟨w3.heap.size, 0, none⟩ = some (.int .i64 gr2) ∧ W.cell? ⟨w3.heap.size, 1, none⟩ = some (.int .i64 ou2) ∧ W.cell? ⟨w3.heap.size, 2, none⟩ = some (.slice G1 ps2.length g1) ∧ W.cell? ⟨w3.heap.size, 3, none⟩ = some (.slice G2 ms2.length g2) ∧ W.cell? ⟨w3.heap.size, 4, none⟩ = some (.bool en2)) ∧ (W.cell? ⟨w4.heap.size, 0, none⟩ = some (.int .i64 gr2) ∧ W.cell? ⟨w4.heap.size, 1, none⟩ = some (.int .i64 ou2) ∧ W.cell? ⟨w4.heap.size, 2, none⟩ = some (.slice I1 ps2.length i1) ∧ W.cell? ⟨w4.heap.size, 3, none⟩ = some (.slice I2 ms2.length i2) ∧ W.cell? ⟨w4.heap.size, 4, none⟩ = some (.bool en2)) ∧ (W.cell? ⟨w.heap.size, 0, none⟩ = some (.int .i64 gr) ∧ W.cell? ⟨w.heap.size, 1, none⟩ = some (.int .i64 ou) ∧ W.cell? ⟨w.heap.size, 2, none⟩ = some (.slice A1 ps.length c1) ∧ W.cell? ⟨w.heap.size, 3, none⟩ = some (.slice A2 ms.length c2) ∧ W.cell? ⟨w.heap.size, 4, none⟩ = some (.bool en)) ∧
      Hid (ThrV W (.agg #[.int .i64 gr2, .int .i64 ou2, .slice G1 ps2.length g1, .slice G2 ms2.length g2, .bool en2]) ⟨gr2, ou2, ps2, ms2, en2⟩) ∧ Hid (ThrV W (.agg #[.int .i64 gr2, .int .i64 ou2, .slice I1 ps2.length i1, .slice I2 ms2.length i2, .bool en2]) ⟨gr2, ou2, ps2, ms2, en2⟩) ∧ Hid (ThrV W (.agg #[.int .i64 gr, .int .i64 ou, .slice A1 ps.length c1, .slice A2 ms.length c2, .bool en]) ⟨gr, ou, ps, ms, en⟩) ∧ Hid (Blk W w.heap.size 25 #[.int .i64 gr, .int .i64 ou, .slice A1 ps.length c1, .slice A2 ms.length c2, .bool en]) ∧ Hid (Below w.heap.size w W))
    (first
      | exact ⟨⟨u0, u1, u2, u3, u4⟩, ⟨y0, y1, y2, y3, y4⟩, ⟨b0, b1, b2, b3, b4⟩, hid_thrV_drew HVu5, hid_thrV_drew HVv5, hid_thrV_drew HV5, hid_blk_drew HX5, hid_below_drew HB5⟩
      | (go_split_ands
         refine ⟨⟨?_, ?_, ?_, ?_, ?_⟩, ⟨?_, ?_, ?_, ?_, ?_⟩, ⟨?_, ?_, ?_, ?_, ?_⟩, ?_, ?_, ?_, ?_, ?_⟩ <;> first
           | exact keep_cell hb6 (by assumption)
           | exact keep_thrV hb6 (by assumption)
           | exact keep_blk hb6 (by assumption)
           | exact keep_below hb6 (by assumption)))
    (first
      | (go_at_call 19; refine (same_calls ⟨gr2, ou2, ps2, ms2, en2⟩ _ _ _ ?_ ?_ Hlens2.out).mono ?_; (go_split_ands; exact Hid.out (by assumption)); (go_split_ands; exact Hid.out (by assumption)); rintro e w6 ⟨rfl, hb6⟩)
      | (go_at_call 20; refine (checkr_calls (Thr.check ⟨gr, ou, ps, ms, en⟩) ⟨gr, ou, ps, ms, en⟩ _ _ rfl ?_ Hlens.out).mono ?_; (go_split_ands; exact Hid.out (by assumption)); rintro e w6 ⟨rfl, hb6⟩)
      | (go_at_call 21; refine (refCheckr_calls (Thr.check ⟨gr, ou, ps, ms, en⟩) ⟨gr, ou, ps, ms, en⟩ _ _ rfl ?_ Hlens.out.2).mono ?_; (go_split_ands; exact Hid.out (by assumption)); rintro e w6 ⟨rfl, hb6⟩))
  all_goals
    have HX6 : Hid (Blk w6 w.heap.size 25 #[.int .i64 gr, .int .i64 ou, .slice A1 ps.length c1, .slice A2 ms.length c2, .bool en]) := by go_split_ands; assumption
    have HV6 : Hid (ThrV w6 (.agg #[.int .i64 gr, .int .i64 ou, .slice A1 ps.length c1, .slice A2 ms.length c2, .bool en]) ⟨gr, ou, ps, ms, en⟩) := by go_split_ands; assumption
    have HB6 : Hid (Below w.heap.size w w6) := by go_split_ands; assumption
    clear u0 u1 u2 u3 u4 y0 y1 y2 y3 y4 b0 b1 b2 b3 b4
    obtain ⟨⟨b0, b1, b2, b3, b4⟩, -⟩ := HX6.out.five
    have lx6 := HX6.out.lt
    go_wp2_with fail
    refine (matches_calls ⟨gr, ou, ps, ms, en⟩ _ a b 0 2 _ HV6.out Hlens.out (by omega) (by omega) (by omega)).mono ?_
    rintro e w7 ⟨rfl, hb7⟩
    have HB7 := Lib.hid (HB6.out.trans (hb7.mono HB6.out.size))
    clear hb7
    go_wp2
    go_ret
    exact ⟨rfl, HB7.out⟩
end Go.Proofs.Ythdlmnkefheliaa
