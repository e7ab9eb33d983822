import Derived.Test.YthdlmnkefheliaaR9
import Derived.Test.YthdlmnkefheliaaL4
import Derived.Test.YthdlmnkefheliaaP7
import Derived.Test.YthdlmnkefheliaaD30
import Derived.Test.YthdlmnkefheliaaD35
import Derived.Test.YthdlmnkefheliaaD33
import Derived.Deep.RegionHeld3
set_option linter.unusedVariables false
set_option linter.unusedSimpArgs false
namespace Go.Proofs.Ythdlmnkefheliaa
open Go.RowKit
attribute [local go_sem ↓] Go.wp_at_zero Go.wp_at_succ

set_option maxRecDepth 100000 in
set_option maxHeartbeats 4000000 in
theorem anyOrderLaw_calls (t : Thr) (v : Value) (xa : List Int) (A : Option Addr) (c : Nat) (bs : List Int) (A' : Option Addr) (c' : Nat) (w : World) (hv : ThrV w v t) (hr : Rd w A (xa.flatMap encI)) (hr' : Rd w A' (bs.flatMap encI)) (ha63 : xa.length ≤ 9223372036854775807) (hb63 : bs.length ≤ 9223372036854775807) :
    Calls Try.prog 11 #[v, .slice A xa.length c, .slice A' bs.length c'] w fun e w' => e = .returned (.bool true) ∧ Below w.heap.size w w' := by
  have hv0 := hv
  obtain ⟨gr, ou, ps, ms, en⟩ := t
  obtain ⟨A1, c1, A2, c2, rfl, k1, ⟨k2, k2'⟩, k3, k4, ⟨k5, k5'⟩, k6⟩ := hv
  simp only at k1 k4
  have hp63 : ps.length ≤ 9223372036854775807 := by omega
  have hm63 : ms.length ≤ 9223372036854775807 := by omega
  clear k1 k2 k2' k3 k4 k5 k5' k6
  simp only at hv0 ⊢
  obtain ⟨W0, hW0⟩ : ∃ W0, W0 = w.alloc (.cells #[.int .i64 gr, .int .i64 ou, .slice A1 ps.length c1, .slice A2 ms.length c2, .bool en] 25) := ⟨_, rfl⟩
  have hB0 : Below w.heap.size w W0 := by rw [hW0]; exact (Below.refl _ _).alloc (Nat.le_refl _) _
  have hbx : Blk W0 w.heap.size 25 #[.int .i64 gr, .int .i64 ou, .slice A1 ps.length c1, .slice A2 ms.length c2, .bool en] := by rw [hW0]; exact Blk.new _ _ _
  have HV0 := Lib.hid (hv0.below hB0 (Nat.le_refl _)); clear hv0
  have HX0 := Lib.hid hbx; clear hbx
  have HB0 := Lib.hid hB0; clear hB0
  have HW := Lib.hid hW0; clear hW0
  have hsane := sane_calls W0
  have Hsane := Lib.hid hsane; clear hsane
  have HR := Lib.hid hr; clear hr
  have HR' := Lib.hid hr'; clear hr'
  have H63 := Lib.hid (And.intro hp63 hm63)
  by_cases hm : ms.length ≤ 200
  case neg =>
    have d0 : decide ((200 : Int) < (ms.length : Int)) = true := decide_eq_true (by omega)
    have d1 : decide (200 < ms.length) = true := decide_eq_true (by omega)
    go_enter Try.func11, Try.ntmps11
    go_wp2_with fail
    rw [← HW.out]
    refine Hsane.out.mono ?_
    rintro e w1 ⟨rfl, hb⟩
    have HX1 := Lib.hid (HX0.out.below hb HX0.out.lt)
    have HV1 := Lib.hid (HV0.out.below hb (Nat.le_refl _))
    have HB1 := Lib.hid (HB0.out.trans (hb.mono HB0.out.size))
    clear hb
    try clear b0 b1 b2 b3 b4
    obtain ⟨⟨b0, b1, b2, b3, b4⟩, -⟩ := HX1.out.five
    have lx1 := HX1.out.lt
    go_wp2
    go_ret
    exact ⟨rfl, HB1.out⟩
  have Hm1 := Lib.hid (show (Thr.mail ⟨gr, ou, ps, ms, en⟩).length ≤ 100000 from by simp only; omega)
  have d0 : decide ((200 : Int) < (ms.length : Int)) = false := decide_eq_false (by omega)
  have d1 : decide (200 < ms.length) = false := decide_eq_false (by omega)
  by_cases hok : Thr.ok ⟨gr, ou, ps, ms, en⟩ = true
  case neg =>
    have Hck := Lib.hid (Thr.check_f hok)
    clear hok
    go_enter Try.func11, Try.ntmps11
    go_wp2_with fail
    rw [← HW.out]
    refine Hsane.out.mono ?_
    rintro e w1 ⟨rfl, hb⟩
    have HX1 := Lib.hid (HX0.out.below hb HX0.out.lt)
    have HV1 := Lib.hid (HV0.out.below hb (Nat.le_refl _))
    have HB1 := Lib.hid (HB0.out.trans (hb.mono HB0.out.size))
    clear hb
    try clear b0 b1 b2 b3 b4
    obtain ⟨⟨b0, b1, b2, b3, b4⟩, -⟩ := HX1.out.five
    have lx1 := HX1.out.lt
    go_wp2_with fail
    refine (refCheckr_calls 280 ⟨gr, ou, ps, ms, en⟩ _ _ Hck.out HV1.out Hm1.out).mono ?_
    rintro e w2 ⟨rfl, hb⟩
    have HX2 := Lib.hid (HX1.out.below hb HX1.out.lt)
    have HV2 := Lib.hid (HV1.out.below hb (Nat.le_refl _))
    have HB2 := Lib.hid (HB1.out.trans (hb.mono HB1.out.size))
    clear hb
    try clear b0 b1 b2 b3 b4
    obtain ⟨⟨b0, b1, b2, b3, b4⟩, -⟩ := HX2.out.five
    have lx2 := HX2.out.lt
    go_wp2
    go_ret
    exact ⟨rfl, HB2.out⟩
  have Hck := Lib.hid (Thr.check_t hok)
  have hgood := Thr.good_iff.1 hok
  have hgl := hgood.gls
  have Hgls := Lib.hid hgl
  obtain ⟨g, hg⟩ : ∃ g, g = Thr.goals ⟨gr, ou, ps, ms, en⟩ := ⟨_, rfl⟩
  have hg0 := hgl.bd
  rw [← hg] at hg0
  have Hg := Lib.hid hg
  by_cases hgz : g = 0
  case neg =>
    have d2 : decide ((0 : Int) < g) = true := decide_eq_true (by omega)
    clear hok hgood hgl hg
    go_enter Try.func11, Try.ntmps11
    go_wp2_with fail
    rw [← HW.out]
    refine Hsane.out.mono ?_
    rintro e w1 ⟨rfl, hb⟩
    have HX1 := Lib.hid (HX0.out.below hb HX0.out.lt)
    have HV1 := Lib.hid (HV0.out.below hb (Nat.le_refl _))
    have HB1 := Lib.hid (HB0.out.trans (hb.mono HB0.out.size))
    clear hb
    try clear b0 b1 b2 b3 b4
    obtain ⟨⟨b0, b1, b2, b3, b4⟩, -⟩ := HX1.out.five
    have lx1 := HX1.out.lt
    go_wp2_with fail
    refine (refCheckr_calls 0 ⟨gr, ou, ps, ms, en⟩ _ _ Hck.out HV1.out Hm1.out).mono ?_
    rintro e w2 ⟨rfl, hb⟩
    have HX2 := Lib.hid (HX1.out.below hb HX1.out.lt)
    have HV2 := Lib.hid (HV1.out.below hb (Nat.le_refl _))
    have HB2 := Lib.hid (HB1.out.trans (hb.mono HB1.out.size))
    clear hb
    try clear b0 b1 b2 b3 b4
    obtain ⟨⟨b0, b1, b2, b3, b4⟩, -⟩ := HX2.out.five
    have lx2 := HX2.out.lt
    go_wp2_with fail
    refine (refGoalsr_calls g ⟨gr, ou, ps, ms, en⟩ _ _ Hg.out HV2.out Hgls.out).mono ?_
    rintro e w3 ⟨rfl, hb⟩
    have HX3 := Lib.hid (HX2.out.below hb HX2.out.lt)
    have HV3 := Lib.hid (HV2.out.below hb (Nat.le_refl _))
    have HB3 := Lib.hid (HB2.out.trans (hb.mono HB2.out.size))
    clear hb
    try clear b0 b1 b2 b3 b4
    obtain ⟨⟨b0, b1, b2, b3, b4⟩, -⟩ := HX3.out.five
    have lx3 := HX3.out.lt
    go_wp2
    go_ret
    exact ⟨rfl, HB3.out⟩
  subst hgz
  have d2 : decide ((0 : Int) < 0) = false := decide_eq_false (by omega)
  by_cases hou : ou ≤ 549755813888
  case neg =>
    have d3 : decide ((549755813888 : Int) < ou) = true := decide_eq_true (by omega)
    clear hok hgood hgl hg
    go_enter Try.func11, Try.ntmps11
    go_wp2_with fail
    rw [← HW.out]
    refine Hsane.out.mono ?_
    rintro e w1 ⟨rfl, hb⟩
    have HX1 := Lib.hid (HX0.out.below hb HX0.out.lt)
    have HV1 := Lib.hid (HV0.out.below hb (Nat.le_refl _))
    have HB1 := Lib.hid (HB0.out.trans (hb.mono HB0.out.size))
    clear hb
    try clear b0 b1 b2 b3 b4
    obtain ⟨⟨b0, b1, b2, b3, b4⟩, -⟩ := HX1.out.five
    have lx1 := HX1.out.lt
    go_wp2_with fail
    refine (refCheckr_calls 0 ⟨gr, ou, ps, ms, en⟩ _ _ Hck.out HV1.out Hm1.out).mono ?_
    rintro e w2 ⟨rfl, hb⟩
    have HX2 := Lib.hid (HX1.out.below hb HX1.out.lt)
    have HV2 := Lib.hid (HV1.out.below hb (Nat.le_refl _))
    have HB2 := Lib.hid (HB1.out.trans (hb.mono HB1.out.size))
    clear hb
    try clear b0 b1 b2 b3 b4
    obtain ⟨⟨b0, b1, b2, b3, b4⟩, -⟩ := HX2.out.five
    have lx2 := HX2.out.lt
    go_wp2_with fail
    refine (refGoalsr_calls 0 ⟨gr, ou, ps, ms, en⟩ _ _ Hg.out HV2.out Hgls.out).mono ?_
    rintro e w3 ⟨rfl, hb⟩
    have HX3 := Lib.hid (HX2.out.below hb HX2.out.lt)
    have HV3 := Lib.hid (HV2.out.below hb (Nat.le_refl _))
    have HB3 := Lib.hid (HB2.out.trans (hb.mono HB2.out.size))
    clear hb
    try clear b0 b1 b2 b3 b4
    obtain ⟨⟨b0, b1, b2, b3, b4⟩, -⟩ := HX3.out.five
    have lx3 := HX3.out.lt
    go_wp2
    go_ret
    exact ⟨rfl, HB3.out⟩
  have d3 : decide ((549755813888 : Int) < ou) = false := decide_eq_false (by omega)
  by_cases has : xa.length ≤ 1000
  case neg =>
    have d4 : decide ((1000 : Int) < (xa.length : Int)) = true := decide_eq_true (by omega)
    have d5 : decide (1000 < xa.length) = true := decide_eq_true (by omega)
    clear hok hgood hgl hg
    go_enter Try.func11, Try.ntmps11
    go_wp2_with fail
    rw [← HW.out]
    refine Hsane.out.mono ?_
    rintro e w1 ⟨rfl, hb⟩
    have HX1 := Lib.hid (HX0.out.below hb HX0.out.lt)
    have HV1 := Lib.hid (HV0.out.below hb (Nat.le_refl _))
    have HB1 := Lib.hid (HB0.out.trans (hb.mono HB0.out.size))
    clear hb
    try clear b0 b1 b2 b3 b4
    obtain ⟨⟨b0, b1, b2, b3, b4⟩, -⟩ := HX1.out.five
    have lx1 := HX1.out.lt
    go_wp2_with fail
    refine (refCheckr_calls 0 ⟨gr, ou, ps, ms, en⟩ _ _ Hck.out HV1.out Hm1.out).mono ?_
    rintro e w2 ⟨rfl, hb⟩
    have HX2 := Lib.hid (HX1.out.below hb HX1.out.lt)
    have HV2 := Lib.hid (HV1.out.below hb (Nat.le_refl _))
    have HB2 := Lib.hid (HB1.out.trans (hb.mono HB1.out.size))
    clear hb
    try clear b0 b1 b2 b3 b4
    obtain ⟨⟨b0, b1, b2, b3, b4⟩, -⟩ := HX2.out.five
    have lx2 := HX2.out.lt
    go_wp2_with fail
    refine (refGoalsr_calls 0 ⟨gr, ou, ps, ms, en⟩ _ _ Hg.out HV2.out Hgls.out).mono ?_
    rintro e w3 ⟨rfl, hb⟩
    have HX3 := Lib.hid (HX2.out.below hb HX2.out.lt)
    have HV3 := Lib.hid (HV2.out.below hb (Nat.le_refl _))
    have HB3 := Lib.hid (HB2.out.trans (hb.mono HB2.out.size))
    clear hb
    try clear b0 b1 b2 b3 b4
    obtain ⟨⟨b0, b1, b2, b3, b4⟩, -⟩ := HX3.out.five
    have lx3 := HX3.out.lt
    go_wp2
    go_ret
    exact ⟨rfl, HB3.out⟩
  have d4 : decide ((1000 : Int) < (xa.length : Int)) = false := decide_eq_false (by omega)
  have d5 : decide (1000 < xa.length) = false := decide_eq_false (by omega)
  by_cases hbs : bs.length ≤ 1000
  case neg =>
    have d6 : decide ((1000 : Int) < (bs.length : Int)) = true := decide_eq_true (by omega)
    have d7 : decide (1000 < bs.length) = true := decide_eq_true (by omega)
    clear hok hgood hgl hg
    go_enter Try.func11, Try.ntmps11
    go_wp2_with fail
    rw [← HW.out]
    refine Hsane.out.mono ?_
    rintro e w1 ⟨rfl, hb⟩
    have HX1 := Lib.hid (HX0.out.below hb HX0.out.lt)
    have HV1 := Lib.hid (HV0.out.below hb (Nat.le_refl _))
    have HB1 := Lib.hid (HB0.out.trans (hb.mono HB0.out.size))
    clear hb
    try clear b0 b1 b2 b3 b4
    obtain ⟨⟨b0, b1, b2, b3, b4⟩, -⟩ := HX1.out.five
    have lx1 := HX1.out.lt
    go_wp2_with fail
    refine (refCheckr_calls 0 ⟨gr, ou, ps, ms, en⟩ _ _ Hck.out HV1.out Hm1.out).mono ?_
    rintro e w2 ⟨rfl, hb⟩
    have HX2 := Lib.hid (HX1.out.below hb HX1.out.lt)
    have HV2 := Lib.hid (HV1.out.below hb (Nat.le_refl _))
    have HB2 := Lib.hid (HB1.out.trans (hb.mono HB1.out.size))
    clear hb
    try clear b0 b1 b2 b3 b4
    obtain ⟨⟨b0, b1, b2, b3, b4⟩, -⟩ := HX2.out.five
    have lx2 := HX2.out.lt
    go_wp2_with fail
    refine (refGoalsr_calls 0 ⟨gr, ou, ps, ms, en⟩ _ _ Hg.out HV2.out Hgls.out).mono ?_
    rintro e w3 ⟨rfl, hb⟩
    have HX3 := Lib.hid (HX2.out.below hb HX2.out.lt)
    have HV3 := Lib.hid (HV2.out.below hb (Nat.le_refl _))
    have HB3 := Lib.hid (HB2.out.trans (hb.mono HB2.out.size))
    clear hb
    try clear b0 b1 b2 b3 b4
    obtain ⟨⟨b0, b1, b2, b3, b4⟩, -⟩ := HX3.out.five
    have lx3 := HX3.out.lt
    go_wp2
    go_ret
    exact ⟨rfl, HB3.out⟩
  have d6 : decide ((1000 : Int) < (bs.length : Int)) = false := decide_eq_false (by omega)
  have d7 : decide (1000 < bs.length) = false := decide_eq_false (by omega)
  have hstill : Thr.Still ⟨gr, ou, ps, ms, en⟩ := by
    refine still_of hok hg.symm ?_
    have h1 := reqs_le ⟨gr, ou, ps, ms, en⟩
    have h2 : (Thr.reqs ⟨gr, ou, ps, ms, en⟩ : Int) * gr ≤ 200 * 1048576 := Int.mul_le_mul (by simp only at h1; omega) hgood.gr1 (by have := hgood.gr0; simp only at this; omega) (by omega)
    simp only
    omega
  obtain ⟨na, hna⟩ := settleM_still hstill xa
  obtain ⟨nb, hnb⟩ := settleM_still hstill bs
  have hlens0 : Thr.Lens ⟨gr, ou, ps, ms, en⟩ := ok_lens hok
  have hlensE : (Thr.endsAt ⟨gr, ou, ps, ms, en⟩).Lens := ⟨hlens0.1, by simp [Thr.endsAt]⟩
  have hmE : (Thr.endsAt ⟨gr, ou, ps, ms, en⟩).mail = [] := rfl
  have Hc1 := Lib.hid (fun W (hW : ThrV W (.agg #[.int .i64 gr, .int .i64 ou, .slice A1 ps.length c1, .slice A2 ms.length c2, .bool en]) ⟨gr, ou, ps, ms, en⟩) (hR : Rd W A (xa.flatMap encI)) => settle_calls ⟨gr, ou, ps, ms, en⟩ _ xa A c W hW hlens0 hR has)
  have Hc2 := Lib.hid (fun W (hW : ThrV W (.agg #[.int .i64 gr, .int .i64 ou, .slice A1 ps.length c1, .slice A2 ms.length c2, .bool en]) ⟨gr, ou, ps, ms, en⟩) (hR : Rd W A' (bs.flatMap encI)) => settle_calls ⟨gr, ou, ps, ms, en⟩ _ bs A' c' W hW hlens0 hR hbs)
  rw [hna] at Hc1
  rw [hnb] at Hc2
  obtain ⟨E, hE⟩ : ∃ E, E = Thr.endsAt ⟨gr, ou, ps, ms, en⟩ := ⟨_, rfl⟩
  rw [← hE] at Hc1 Hc2 hlensE hmE
  clear hE hna hnb hstill hok hgood hgl hg has hbs
  obtain ⟨gr2, ou2, ps2, ms2, en2⟩ := E
  have Hlens2 := Lib.hid hlensE
  have Hmz := Lib.hid (show ms2.length = 0 from by simp only at hmE; rw [hmE]; rfl)
  clear hlensE hmE hlens0
  go_enter Try.func11, Try.ntmps11
  go_wp2_with fail
  rw [← HW.out]
  refine Hsane.out.mono ?_
  rintro e w1 ⟨rfl, hb⟩
  have HX1 := Lib.hid (HX0.out.below hb HX0.out.lt)
  have HV1 := Lib.hid (HV0.out.below hb (Nat.le_refl _))
  have HB1 := Lib.hid (HB0.out.trans (hb.mono HB0.out.size))
  clear hb
  try clear b0 b1 b2 b3 b4
  obtain ⟨⟨b0, b1, b2, b3, b4⟩, -⟩ := HX1.out.five
  have lx1 := HX1.out.lt
  go_wp2_with fail
  refine (refCheckr_calls 0 ⟨gr, ou, ps, ms, en⟩ _ _ Hck.out HV1.out Hm1.out).mono ?_
  rintro e w2 ⟨rfl, hb⟩
  have HX2 := Lib.hid (HX1.out.below hb HX1.out.lt)
  have HV2 := Lib.hid (HV1.out.below hb (Nat.le_refl _))
  have HB2 := Lib.hid (HB1.out.trans (hb.mono HB1.out.size))
  clear hb
  try clear b0 b1 b2 b3 b4
  obtain ⟨⟨b0, b1, b2, b3, b4⟩, -⟩ := HX2.out.five
  have lx2 := HX2.out.lt
  go_wp2_with fail
  refine (refGoalsr_calls 0 ⟨gr, ou, ps, ms, en⟩ _ _ Hg.out HV2.out Hgls.out).mono ?_
  rintro e w3 ⟨rfl, hb⟩
  have HX3 := Lib.hid (HX2.out.below hb HX2.out.lt)
  have HV3 := Lib.hid (HV2.out.below hb (Nat.le_refl _))
  have HB3 := Lib.hid (HB2.out.trans (hb.mono HB2.out.size))
  clear hb
  try clear b0 b1 b2 b3 b4
  obtain ⟨⟨b0, b1, b2, b3, b4⟩, -⟩ := HX3.out.five
  have lx3 := HX3.out.lt
  go_wp2_with fail
  clear d0 d1 d2 d3 d4 d5 d6 d7
  refine (Hc1.out w3 HV3.out (HR.out.below HB3.out (Nat.le_refl _))).mono ?_
  rintro e w4 ⟨v4, rfl, hv4, hb⟩
  simp only at hv4
  have hv4' := hv4
  obtain ⟨G1, g1, G2, g2, rfl, -, -⟩ := hv4'
  obtain ⟨W4, hW4⟩ : ∃ W4, W4 = w4.alloc (.cells #[.int .i64 gr2, .int .i64 ou2, .slice G1 ps2.length g1, .slice G2 ms2.length g2, .bool en2] 25) := ⟨_, rfl⟩
  have hbW : Below w3.heap.size w3 W4 := by rw [hW4]; exact hb.alloc hb.size _
  have hu : Blk W4 w4.heap.size 25 #[.int .i64 gr2, .int .i64 ou2, .slice G1 ps2.length g1, .slice G2 ms2.length g2, .bool en2] := by rw [hW4]; exact Blk.new _ _ _
  have hVu : ThrV W4 (.agg #[.int .i64 gr2, .int .i64 ou2, .slice G1 ps2.length g1, .slice G2 ms2.length g2, .bool en2]) ⟨gr2, ou2, ps2, ms2, en2⟩ := by rw [hW4]; exact (hv4.alloc _).val
  have HX4 := Lib.hid (HX3.out.below hbW HX3.out.lt)
  have HV4 := Lib.hid (HV3.out.below hbW (Nat.le_refl _))
  have HB4 := Lib.hid (HB3.out.trans (hbW.mono HB3.out.size))
  have HU4 := Lib.hid hu
  have HVu4 := Lib.hid hVu
  have HW4 := Lib.hid hW4
  have lt34 : w.heap.size < w4.heap.size := Nat.lt_of_lt_of_le lx3 hb.size
  have ltW4 : w.heap.size < W4.heap.size := HX4.out.lt
  have ltU4 : w4.heap.size < W4.heap.size := hu.lt
  obtain ⟨⟨x0, x1, x2, x3, x4⟩, -⟩ := HX4.out.five
  have hbw4 := HX3.out.below hb HX3.out.lt
  obtain ⟨⟨s0, s1, s2, s3, s4⟩, -⟩ := hbw4.five
  clear hb hbW hu hVu hW4 hv4 b0 b1 b2 b3 b4 hbw4
  go_wp2_with fail
  rw [← HW4.out]
  refine (Hc2.out W4 HV4.out (HR'.out.below HB4.out (Nat.le_refl _))).mono ?_
  rintro e w5 ⟨v5, rfl, hv5, hb⟩
  simp only at hv5
  have hv5' := hv5
  obtain ⟨I1, i1, I2, i2, rfl, -, -⟩ := hv5'
  obtain ⟨W5, hW5⟩ : ∃ W5, W5 = w5.alloc (.cells #[.int .i64 gr2, .int .i64 ou2, .slice I1 ps2.length i1, .slice I2 ms2.length i2, .bool en2] 25) := ⟨_, rfl⟩
  have hbW : Below W4.heap.size W4 W5 := by rw [hW5]; exact hb.alloc hb.size _
  have hvk : Blk W5 w5.heap.size 25 #[.int .i64 gr2, .int .i64 ou2, .slice I1 ps2.length i1, .slice I2 ms2.length i2, .bool en2] := by rw [hW5]; exact Blk.new _ _ _
  have HVv5 := Lib.hid (show ThrV W5 (.agg #[.int .i64 gr2, .int .i64 ou2, .slice I1 ps2.length i1, .slice I2 ms2.length i2, .bool en2]) ⟨gr2, ou2, ps2, ms2, en2⟩ from by rw [hW5]; exact (hv5.alloc _).val)
  have huk := HU4.out.below hbW HU4.out.lt
  have HVu5 := Lib.hid (HVu4.out.below hbW (Nat.le_refl _))
  have HB5 := Lib.hid (HB4.out.trans (hbW.mono HB4.out.size))
  have hxw5 := HX4.out.below hb HX4.out.lt
  obtain ⟨⟨t0, t1, t2, t3, t4⟩, -⟩ := hxw5.five
  have huw5 := HU4.out.below hb HU4.out.lt
  obtain ⟨⟨q0, q1, q2, q3, q4⟩, -⟩ := huw5.five
  obtain ⟨⟨u0, u1, u2, u3, u4⟩, -⟩ := huk.five
  obtain ⟨⟨y0, y1, y2, y3, y4⟩, -⟩ := hvk.five
  have HU5 := Lib.hid huk
  have HW5 := Lib.hid hW5
  have lt35 : w4.heap.size < w5.heap.size := Nat.lt_of_lt_of_le ltU4 hb.size
  have lt05 : w.heap.size < w5.heap.size := Nat.lt_of_lt_of_le ltW4 hb.size
  have ltU5 : w4.heap.size < W5.heap.size := HU5.out.lt
  have ltV5 : w5.heap.size < W5.heap.size := hvk.lt
  clear hb hbW hvk huk hW5 hv5 x0 x1 x2 x3 x4 s0 s1 s2 s3 s4 hxw5 huw5
  go_wp2_with fail
  rw [← HW5.out]
  clear t0 t1 t2 t3 t4 q0 q1 q2 q3 q4
  refine (same_calls ⟨gr2, ou2, ps2, ms2, en2⟩ _ _ W5 HVu5.out HVv5.out Hlens2.out).mono ?_
  rintro e w6 ⟨rfl, hb⟩
  have hu6 := HU5.out.below hb HU5.out.lt
  have lu6 := hu6.lt
  clear u0 u1 u2 u3 u4 y0 y1 y2 y3 y4
  obtain ⟨⟨u0, u1, u2, u3, u4⟩, -⟩ := hu6.five
  have HB6 := Lib.hid (HB5.out.trans (hb.mono HB5.out.size))
  have e0 := Hmz.out
  have e1 : ((ms2.length : Int) == 0) = true := by rw [e0]; rfl
  clear hb hu6
  go_wp2
  go_ret
  exact ⟨rfl, HB6.out⟩
end Go.Proofs.Ythdlmnkefheliaa
