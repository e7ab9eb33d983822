import Derived.Test.YthdlmnkefheliaaR9
import Derived.Test.YthdlmnkefheliaaR10
import Derived.Test.YthdlmnkefheliaaD33
import Derived.Test.YthdlmnkefheliaaP7
import Derived.Test.YthdlmnkefheliaaD35
import Derived.Deep.RegionHeld3
set_option linter.unusedVariables false
set_option linter.unusedSimpArgs false
namespace Go.Proofs.Ythdlmnkefheliaa
open Go.RowKit
attribute [local go_sem ↓] Go.wp_at_zero Go.wp_at_succ

theorem settleGo_lens (cs : List Int) : ∀ (f k : Nat) (t : Thr), t.ok = true → (settleGo cs f k t).1.Lens
  | 0, k, t, h => by rw [settleGo]; exact ok_lens h
  | f + 1, k, t, h => by
    rw [settleGo]
    split
    · exact ok_lens h
    · rename_i hm
      have hlen : 0 < t.mail.length := List.length_pos_iff.2 hm
      obtain ⟨h0, h1⟩ := idxM_range cs k t.mail.length hlen
      split
      · rename_i h2
        exact settleGo_lens cs f (k + 1) _ (deliver_mu h h0 h1 h2).2
      · exact ⟨by simp [Thr.zero], by simp [Thr.zero]⟩
theorem settleM_lens (t : Thr) (cs : List Int) : (settleM t cs).1.Lens := by
  unfold settleM
  split
  · rename_i h; exact settleGo_lens cs _ _ _ h
  · exact ⟨by simp [Thr.zero], by simp [Thr.zero]⟩

set_option maxRecDepth 100000 in
set_option maxHeartbeats 4000000 in
theorem settlesLaw_calls (t : Thr) (v : Value) (cs : List Int) (A : Option Addr) (c : Nat) (w : World) (hv : ThrV w v t) (hr : Rd w A (cs.flatMap encI)) (hl63 : cs.length ≤ 9223372036854775807) :
    Calls Try.prog 12 #[v, .slice A cs.length c] w fun e w' => e = .returned (.bool true) ∧ Below w.heap.size w w' := by
  have hv0 := hv
  obtain ⟨gr, ou, ps, ms, en⟩ := t
  obtain ⟨A1, c1, A2, c2, rfl, k1, ⟨k2, k2'⟩, k3, k4, ⟨k5, k5'⟩, k6⟩ := hv
  simp only at k1 k4
  have hp63 : ps.length ≤ 9223372036854775807 := by omega
  have hm63 : ms.length ≤ 9223372036854775807 := by omega
  clear k1 k2 k2' k3 k4 k5 k5' k6
  simp only at hv0 ⊢
  obtain ⟨W0, hW0⟩ : ∃ W0, W0 = w.alloc (.cells #[.int .i64 gr, .int .i64 ou, .slice A1 ps.length c1, .slice A2 ms.length c2, .bool en] 25) := ⟨_, rfl⟩
  have hB0 : Below w.heap.size w W0 := by rw [hW0]; exact (Below.refl _ _).alloc (Nat.le_refl _) _
  have hbx : Blk W0 w.heap.size 25 #[.int .i64 gr, .int .i64 ou, .slice A1 ps.length c1, .slice A2 ms.length c2, .bool en] := by rw [hW0]; exact Blk.new _ _ _
  have HV0 := Lib.hid (hv0.below hB0 (Nat.le_refl _)); clear hv0
  have HX0 := Lib.hid hbx; clear hbx
  have HB0 := Lib.hid hB0; clear hB0
  have HW := Lib.hid hW0; clear hW0
  have hsane := sane_calls W0
  have Hsane := Lib.hid hsane; clear hsane
  have HR := Lib.hid hr; clear hr
  have H63 := Lib.hid (And.intro hp63 hm63)
  by_cases hcs : cs.length ≤ 1000
  case neg =>
    obtain ⟨bf, hbf⟩ : ∃ bf, fewB ⟨gr, ou, ps, ms, en⟩ = bf := ⟨_, rfl⟩
    have Hfew := Lib.hid hbf
    cases bf
    · clear hbf
      go_enter Try.func12, Try.ntmps12
      go_wp2_with fail
      rw [← HW.out]
      refine Hsane.out.mono ?_
      rintro e w1 ⟨rfl, hb⟩
      have HX1 := Lib.hid (HX0.out.below hb HX0.out.lt)
      have HV1 := Lib.hid (HV0.out.below hb (Nat.le_refl _))
      have HB1 := Lib.hid (HB0.out.trans (hb.mono HB0.out.size))
      clear hb
      try clear b0 b1 b2 b3 b4
      obtain ⟨⟨b0, b1, b2, b3, b4⟩, -⟩ := HX1.out.five
      have lx1 := HX1.out.lt
      go_wp2_with fail
      refine (few_calls false ⟨gr, ou, ps, ms, en⟩ _ _ Hfew.out.symm HV1.out).mono ?_
      rintro e w2 ⟨rfl, hb⟩
      have HX2 := Lib.hid (HX1.out.below hb HX1.out.lt)
      have HV2 := Lib.hid (HV1.out.below hb (Nat.le_refl _))
      have HB2 := Lib.hid (HB1.out.trans (hb.mono HB1.out.size))
      clear hb
      try clear b0 b1 b2 b3 b4
      obtain ⟨⟨b0, b1, b2, b3, b4⟩, -⟩ := HX2.out.five
      have lx2 := HX2.out.lt
      go_wp2
      go_ret
      exact ⟨rfl, HB2.out⟩
    have Hlens := Lib.hid (fewB_lens hbf)
    clear hbf
    go_enter Try.func12, Try.ntmps12
    have hd0 : decide ((1000 : Int) < (cs.length : Int)) = true := decide_eq_true (by omega)
    have hd1 : decide (1000 < cs.length) = true := decide_eq_true (by omega)
    go_wp2_with fail
    rw [← HW.out]
    refine Hsane.out.mono ?_
    rintro e w1 ⟨rfl, hb⟩
    have HX1 := Lib.hid (HX0.out.below hb HX0.out.lt)
    have HV1 := Lib.hid (HV0.out.below hb (Nat.le_refl _))
    have HB1 := Lib.hid (HB0.out.trans (hb.mono HB0.out.size))
    clear hb
    try clear b0 b1 b2 b3 b4
    obtain ⟨⟨b0, b1, b2, b3, b4⟩, -⟩ := HX1.out.five
    have lx1 := HX1.out.lt
    go_wp2_with fail
    refine (few_calls true ⟨gr, ou, ps, ms, en⟩ _ _ Hfew.out.symm HV1.out).mono ?_
    rintro e w2 ⟨rfl, hb⟩
    have HX2 := Lib.hid (HX1.out.below hb HX1.out.lt)
    have HV2 := Lib.hid (HV1.out.below hb (Nat.le_refl _))
    have HB2 := Lib.hid (HB1.out.trans (hb.mono HB1.out.size))
    clear hb
    try clear b0 b1 b2 b3 b4
    obtain ⟨⟨b0, b1, b2, b3, b4⟩, -⟩ := HX2.out.five
    have lx2 := HX2.out.lt
    go_wp2
    go_ret
    exact ⟨rfl, HB2.out⟩
  obtain ⟨bf, hbf⟩ : ∃ bf, fewB ⟨gr, ou, ps, ms, en⟩ = bf := ⟨_, rfl⟩
  have Hfew := Lib.hid hbf
  cases bf
  · clear hbf
    go_enter Try.func12, Try.ntmps12
    go_wp2_with fail
    rw [← HW.out]
    refine Hsane.out.mono ?_
    rintro e w1 ⟨rfl, hb⟩
    have HX1 := Lib.hid (HX0.out.below hb HX0.out.lt)
    have HV1 := Lib.hid (HV0.out.below hb (Nat.le_refl _))
    have HB1 := Lib.hid (HB0.out.trans (hb.mono HB0.out.size))
    clear hb
    try clear b0 b1 b2 b3 b4
    obtain ⟨⟨b0, b1, b2, b3, b4⟩, -⟩ := HX1.out.five
    have lx1 := HX1.out.lt
    go_wp2_with fail
    refine (few_calls false ⟨gr, ou, ps, ms, en⟩ _ _ Hfew.out.symm HV1.out).mono ?_
    rintro e w2 ⟨rfl, hb⟩
    have HX2 := Lib.hid (HX1.out.below hb HX1.out.lt)
    have HV2 := Lib.hid (HV1.out.below hb (Nat.le_refl _))
    have HB2 := Lib.hid (HB1.out.trans (hb.mono HB1.out.size))
    clear hb
    try clear b0 b1 b2 b3 b4
    obtain ⟨⟨b0, b1, b2, b3, b4⟩, -⟩ := HX2.out.five
    have lx2 := HX2.out.lt
    go_wp2
    go_ret
    exact ⟨rfl, HB2.out⟩
  have Hlens := Lib.hid (fewB_lens hbf)
  clear hbf
  go_enter Try.func12, Try.ntmps12
  have hd0 : decide ((1000 : Int) < (cs.length : Int)) = false := decide_eq_false (by omega)
  have hd1 : decide (1000 < cs.length) = false := decide_eq_false (by omega)
  go_wp2_with fail
  rw [← HW.out]
  refine Hsane.out.mono ?_
  rintro e w1 ⟨rfl, hb⟩
  have HX1 := Lib.hid (HX0.out.below hb HX0.out.lt)
  have HV1 := Lib.hid (HV0.out.below hb (Nat.le_refl _))
  have HB1 := Lib.hid (HB0.out.trans (hb.mono HB0.out.size))
  clear hb
  try clear b0 b1 b2 b3 b4
  obtain ⟨⟨b0, b1, b2, b3, b4⟩, -⟩ := HX1.out.five
  have lx1 := HX1.out.lt
  go_wp2_with fail
  refine (few_calls true ⟨gr, ou, ps, ms, en⟩ _ _ Hfew.out.symm HV1.out).mono ?_
  rintro e w2 ⟨rfl, hb⟩
  have HX2 := Lib.hid (HX1.out.below hb HX1.out.lt)
  have HV2 := Lib.hid (HV1.out.below hb (Nat.le_refl _))
  have HB2 := Lib.hid (HB1.out.trans (hb.mono HB1.out.size))
  clear hb
  try clear b0 b1 b2 b3 b4
  obtain ⟨⟨b0, b1, b2, b3, b4⟩, -⟩ := HX2.out.five
  have lx2 := HX2.out.lt
  clear hd0 hd1
  obtain ⟨r, hr⟩ : ∃ r, r = settleM ⟨gr, ou, ps, ms, en⟩ cs := ⟨_, rfl⟩
  have hl2 := settleM_lens ⟨gr, ou, ps, ms, en⟩ cs
  have hnum := settleM_num ⟨gr, ou, ps, ms, en⟩ cs
  have hc1 := settle_calls ⟨gr, ou, ps, ms, en⟩ _ cs A c w2 HV2.out Hlens.out (HR.out.below HB2.out (Nat.le_refl _)) hcs
  have hc2 := fun W (hW : ThrV W (.agg #[.int .i64 gr, .int .i64 ou, .slice A1 ps.length c1, .slice A2 ms.length c2, .bool en]) ⟨gr, ou, ps, ms, en⟩) (hR : Rd W A (cs.flatMap encI)) => refSettle_calls ⟨gr, ou, ps, ms, en⟩ _ cs A c W hW Hlens.out hR hcs
  rw [← hr] at hc1 hc2 hl2 hnum
  obtain ⟨q, hq⟩ : ∃ q, q = quietM ⟨gr, ou, ps, ms, en⟩ := ⟨_, rfl⟩
  have hc3 := fun W (hW : ThrV W (.agg #[.int .i64 gr, .int .i64 ou, .slice A1 ps.length c1, .slice A2 ms.length c2, .bool en]) ⟨gr, ou, ps, ms, en⟩) => quiet_calls ⟨gr, ou, ps, ms, en⟩ _ W hW Hlens.out
  have hc4 := fun W (hW : ThrV W (.agg #[.int .i64 gr, .int .i64 ou, .slice A1 ps.length c1, .slice A2 ms.length c2, .bool en]) ⟨gr, ou, ps, ms, en⟩) => refQuiet_calls ⟨gr, ou, ps, ms, en⟩ _ W hW Hlens.out
  rw [← hq] at hc3 hc4
  have Hc1 := Lib.hid hc1
  have Hc2 := Lib.hid hc2
  have Hc3 := Lib.hid hc3
  have Hc4 := Lib.hid hc4
  obtain ⟨qb, qe⟩ := q
  clear hc1 hc2 hc3 hc4 hr hq
  go_wp2_with fail
  refine Hc1.out.mono ?_
  obtain ⟨⟨gr2, ou2, ps2, ms2, en2⟩, num, n2⟩ := r
  have Hlens2 := Lib.hid (show Thr.Lens ⟨gr2, ou2, ps2, ms2, en2⟩ from hl2)
  have Hnum := Lib.hid (show num ≤ 4 * (ms.length : Int) from hnum)
  clear hl2 hnum
  rintro e w3 ⟨v3, rfl, hv3, hb⟩
  simp only at hv3
  have hv3' := hv3
  obtain ⟨G1, g1, G2, g2, rfl, -, -⟩ := hv3'
  obtain ⟨W3, hW3⟩ : ∃ W3, W3 = w3.alloc (.cells #[.int .i64 gr2, .int .i64 ou2, .slice G1 ps2.length g1, .slice G2 ms2.length g2, .bool en2] 25) := ⟨_, rfl⟩
  have hbW : Below w2.heap.size w2 W3 := by rw [hW3]; exact hb.alloc hb.size _
  have hu : Blk W3 w3.heap.size 25 #[.int .i64 gr2, .int .i64 ou2, .slice G1 ps2.length g1, .slice G2 ms2.length g2, .bool en2] := by rw [hW3]; exact Blk.new _ _ _
  have hVu : ThrV W3 (.agg #[.int .i64 gr2, .int .i64 ou2, .slice G1 ps2.length g1, .slice G2 ms2.length g2, .bool en2]) ⟨gr2, ou2, ps2, ms2, en2⟩ := by rw [hW3]; exact (hv3.alloc _).val
  have HX3 := Lib.hid (HX2.out.below hbW HX2.out.lt)
  have HV3 := Lib.hid (HV2.out.below hbW (Nat.le_refl _))
  have HB3 := Lib.hid (HB2.out.trans (hbW.mono HB2.out.size))
  have HU3 := Lib.hid hu
  have HVu3 := Lib.hid hVu
  have HW3 := Lib.hid hW3
  have lt23 : w.heap.size < w3.heap.size := Nat.lt_of_lt_of_le lx2 hb.size
  have ltW3 : w.heap.size < W3.heap.size := HX3.out.lt
  have ltU3 : w3.heap.size < W3.heap.size := hu.lt
  obtain ⟨⟨x0, x1, x2, x3, x4⟩, -⟩ := HX3.out.five
  have hbw3 := HX2.out.below hb HX2.out.lt
  obtain ⟨⟨s0, s1, s2, s3, s4⟩, -⟩ := hbw3.five
  clear hb hbW hu hVu hW3 hv3 b0 b1 b2 b3 b4 hbw3
  go_wp2_with fail
  rw [← HW3.out]
  refine (Hc2.out W3 HV3.out (HR.out.below HB3.out (Nat.le_refl _))).mono ?_
  rintro e w4 ⟨v4, rfl, hv4, hb⟩
  simp only at hv4
  have hv4' := hv4
  obtain ⟨I1, i1, I2, i2, rfl, -, -⟩ := hv4'
  obtain ⟨W5, hW5⟩ : ∃ W5, W5 = w4.alloc (.cells #[.int .i64 gr2, .int .i64 ou2, .slice I1 ps2.length i1, .slice I2 ms2.length i2, .bool en2] 25) := ⟨_, rfl⟩
  have hbW : Below W3.heap.size W3 W5 := by rw [hW5]; exact hb.alloc hb.size _
  have hvk : Blk W5 w4.heap.size 25 #[.int .i64 gr2, .int .i64 ou2, .slice I1 ps2.length i1, .slice I2 ms2.length i2, .bool en2] := by rw [hW5]; exact Blk.new _ _ _
  have HVv5 := Lib.hid (show ThrV W5 (.agg #[.int .i64 gr2, .int .i64 ou2, .slice I1 ps2.length i1, .slice I2 ms2.length i2, .bool en2]) ⟨gr2, ou2, ps2, ms2, en2⟩ from by rw [hW5]; exact hv4.below ((Below.refl _ _).alloc (Nat.le_refl _) _) (Nat.le_refl _))
  have HX5 := Lib.hid (HX3.out.below hbW HX3.out.lt)
  have HU5 := Lib.hid (HU3.out.below hbW HU3.out.lt)
  have HY5 := Lib.hid hvk
  have HV5 := Lib.hid (HV3.out.below hbW (Nat.le_refl _))
  have HVu5 := Lib.hid (HVu3.out.below hbW (Nat.le_refl _))
  have HB5 := Lib.hid (HB3.out.trans (hbW.mono HB3.out.size))
  have hxw4 := HX3.out.below hb HX3.out.lt
  obtain ⟨⟨t0, t1, t2, t3, t4⟩, -⟩ := hxw4.five
  obtain ⟨⟨b0, b1, b2, b3, b4⟩, -⟩ := HX5.out.five
  have HW5 := Lib.hid hW5
  have lt34 : w3.heap.size < w4.heap.size := Nat.lt_of_lt_of_le ltU3 hb.size
  have lt04 : w.heap.size < w4.heap.size := Nat.lt_of_lt_of_le ltW3 hb.size
  clear hb hbW hvk hW5 hv4 x0 x1 x2 x3 x4 s0 s1 s2 s3 s4 hxw4
  go_wp2_with fail
  rw [← HW5.out]
  clear t0 t1 t2 t3 t4
  refine (Hc3.out W5 HV5.out).mono ?_
  rintro e w6 ⟨rfl, hb⟩
  have HU6 := Lib.hid (HU5.out.below hb HU5.out.lt)
  have HY6 := Lib.hid (HY5.out.below hb HY5.out.lt)
  have HVu6 := Lib.hid (HVu5.out.below hb (Nat.le_refl _))
  have HVv6 := Lib.hid (HVv5.out.below hb (Nat.le_refl _))
  have HX6 := Lib.hid (HX5.out.below hb HX5.out.lt)
  have HV6 := Lib.hid (HV5.out.below hb (Nat.le_refl _))
  have HB6 := Lib.hid (HB5.out.trans (hb.mono HB5.out.size))
  clear hb
  try clear b0 b1 b2 b3 b4
  obtain ⟨⟨b0, b1, b2, b3, b4⟩, -⟩ := HX6.out.five
  have lx6 := HX6.out.lt
  go_wp2_with fail
  refine (Hc4.out w6 HV6.out).mono ?_
  rintro e w7 ⟨rfl, hb⟩
  have HU7 := Lib.hid (HU6.out.below hb HU6.out.lt)
  have HY7 := Lib.hid (HY6.out.below hb HY6.out.lt)
  have HVu7 := Lib.hid (HVu6.out.below hb (Nat.le_refl _))
  have HVv7 := Lib.hid (HVv6.out.below hb (Nat.le_refl _))
  have HX7 := Lib.hid (HX6.out.below hb HX6.out.lt)
  have HV7 := Lib.hid (HV6.out.below hb (Nat.le_refl _))
  have HB7 := Lib.hid (HB6.out.trans (hb.mono HB6.out.size))
  clear hb
  try clear b0 b1 b2 b3 b4
  obtain ⟨⟨b0, b1, b2, b3, b4⟩, -⟩ := HX7.out.five
  have lx7 := HX7.out.lt
  obtain ⟨⟨u0, u1, u2, u3, u4⟩, -⟩ := HU7.out.five
  obtain ⟨⟨y0, y1, y2, y3, y4⟩, -⟩ := HY7.out.five
  have ly7 := HY7.out.lt
  have lu7 := HU7.out.lt
  go_wp2_with fail
  refine (same_calls ⟨gr2, ou2, ps2, ms2, en2⟩ _ _ w7 HVu7.out HVv7.out Hlens2.out).mono ?_
  rintro e w8 ⟨rfl, hb⟩
  have HX8 := Lib.hid (HX7.out.below hb HX7.out.lt)
  have HV8 := Lib.hid (HV7.out.below hb (Nat.le_refl _))
  have HB8 := Lib.hid (HB7.out.trans (hb.mono HB7.out.size))
  clear hb
  try clear b0 b1 b2 b3 b4
  obtain ⟨⟨b0, b1, b2, b3, b4⟩, -⟩ := HX8.out.five
  have lx8 := HX8.out.lt
  have h4 : -9223372036854775808 ≤ (4 : Int) * (ms.length : Int) ∧ (4 : Int) * (ms.length : Int) ≤ 9223372036854775807 := by have := Hlens.out.2; simp only at this; omega
  have hw4 : IntKind.i64.wrap ((4 : Int) * (ms.length : Int)) = (4 : Int) * (ms.length : Int) := IntWalk.i64_in _ h4
  clear h4
  have hle : decide (num ≤ (4 : Int) * (ms.length : Int)) = true := decide_eq_true Hnum.out
  have e1 : (num == num) = true := beq_self_eq_true num
  have e2 : (n2 == n2) = true := beq_self_eq_true n2
  have e3 : (qe == qe) = true := beq_self_eq_true qe
  have e4 : (qb == qb) = true := beq_self_eq_true qb
  clear u0 u1 u2 u3 u4 y0 y1 y2 y3 y4
  go_wp2
  go_ret
  exact ⟨rfl, HB8.out⟩
end Go.Proofs.Ythdlmnkefheliaa
