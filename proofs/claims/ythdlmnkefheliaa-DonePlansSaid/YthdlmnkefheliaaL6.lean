import Derived.Test.YthdlmnkefheliaaR9
import Derived.Test.YthdlmnkefheliaaR12
import Derived.Test.YthdlmnkefheliaaD33
import Derived.Deep.RegionHeld3
set_option linter.unusedVariables false
set_option linter.unusedSimpArgs false
namespace Go.Proofs.Ythdlmnkefheliaa
open Go.RowKit
attribute [local go_sem ↓] Go.wp_at_zero Go.wp_at_succ

theorem balGo_lens : ∀ (ms : List (Int × Int)) (k : Nat) (t : Thr), t.Lens → (balGo ms k t).1.Lens
  | [], k, t, h => h
  | m :: ms, k, t, h => by
    rw [balGo]
    split
    · rename_i h0
      exact balGo_lens ms (k + 1) _ (ok_lens (moveM_ok h0))
    · split
      · exact h
      · exact ⟨by simp [Thr.zero], by simp [Thr.zero]⟩
theorem balanceM_lens {t : Thr} (h : t.Lens) : (balanceM t).1.Lens := by
  unfold balanceM
  split
  · split
    · exact balGo_lens _ _ _ h
    · exact ⟨by simp [Thr.zero], by simp [Thr.zero]⟩
  · exact ⟨by simp [Thr.zero], by simp [Thr.zero]⟩

set_option maxRecDepth 100000 in
set_option maxHeartbeats 4000000 in
theorem plansLaw_calls (t : Thr) (v : Value) (ls : List Int) (A : Option Addr) (c : Nat) (w : World) (hv : ThrV w v t) (hr : Rd w A (ls.flatMap encI)) (hlc : ls.length ≤ c) (hAc : A = none → c = 0) (hl63 : ls.length ≤ 9223372036854775807) :
    Calls Try.prog 5 #[.slice A ls.length c, v] w fun e w' => e = .returned (.bool true) ∧ Below w.heap.size w w' := by
  have hv0 := hv
  obtain ⟨gr, ou, ps, ms, en⟩ := t
  obtain ⟨A1, c1, A2, c2, rfl, k1, ⟨k2, k2'⟩, k3, k4, ⟨k5, k5'⟩, k6⟩ := hv
  simp only at k1 k4
  have hp63 : ps.length ≤ 9223372036854775807 := by omega
  have hm63 : ms.length ≤ 9223372036854775807 := by omega
  clear k1 k2 k2' k3 k4 k5 k5' k6
  simp only at hv0 ⊢
  obtain ⟨W0, hW0⟩ : ∃ W0, W0 = w.alloc (.cells #[.int .i64 gr, .int .i64 ou, .slice A1 ps.length c1, .slice A2 ms.length c2, .bool en] 25) := ⟨_, rfl⟩
  have hB0 : Below w.heap.size w W0 := by rw [hW0]; exact (Below.refl _ _).alloc (Nat.le_refl _) _
  have hbx : Blk W0 w.heap.size 25 #[.int .i64 gr, .int .i64 ou, .slice A1 ps.length c1, .slice A2 ms.length c2, .bool en] := by rw [hW0]; exact Blk.new _ _ _
  have HV0 := Lib.hid (hv0.below hB0 (Nat.le_refl _)); clear hv0
  have HX0 := Lib.hid hbx; clear hbx
  have HB0 := Lib.hid hB0; clear hB0
  have HW := Lib.hid hW0; clear hW0
  have hsane := sane_calls W0
  have Hsane := Lib.hid hsane; clear hsane
  have HR := Lib.hid hr; clear hr
  have HAc := Lib.hid hAc; clear hAc
  have H63 := Lib.hid (And.intro hp63 hm63)
  by_cases hcs : ls.length ≤ 100
  case neg =>
    go_enter Try.func5, Try.ntmps5
    have hd0 : decide ((100 : Int) < (ls.length : Int)) = true := decide_eq_true (by omega)
    have hd1 : decide (100 < ls.length) = true := decide_eq_true (by omega)
    go_wp2_with fail
    rw [← HW.out]
    refine Hsane.out.mono ?_
    rintro e w1 ⟨rfl, hb⟩
    have HX1 := Lib.hid (HX0.out.below hb HX0.out.lt)
    have HV1 := Lib.hid (HV0.out.below hb (Nat.le_refl _))
    have HB1 := Lib.hid (HB0.out.trans (hb.mono HB0.out.size))
    clear hb
    try clear b0 b1 b2 b3 b4
    obtain ⟨⟨b0, b1, b2, b3, b4⟩, -⟩ := HX1.out.five
    have lx1 := HX1.out.lt
    go_wp2
    go_ret
    exact ⟨rfl, HB1.out⟩
  obtain ⟨bf, hbf⟩ : ∃ bf, fewB ⟨gr, ou, ps, ms, en⟩ = bf := ⟨_, rfl⟩
  have Hfew := Lib.hid hbf
  cases bf
  · clear hbf
    go_enter Try.func5, Try.ntmps5
    have hd0 : decide ((100 : Int) < (ls.length : Int)) = false := decide_eq_false (by omega)
    have hd1 : decide (100 < ls.length) = false := decide_eq_false (by omega)
    go_wp2_with fail
    rw [← HW.out]
    refine Hsane.out.mono ?_
    rintro e w1 ⟨rfl, hb⟩
    have HX1 := Lib.hid (HX0.out.below hb HX0.out.lt)
    have HV1 := Lib.hid (HV0.out.below hb (Nat.le_refl _))
    have HB1 := Lib.hid (HB0.out.trans (hb.mono HB0.out.size))
    clear hb
    try clear b0 b1 b2 b3 b4
    obtain ⟨⟨b0, b1, b2, b3, b4⟩, -⟩ := HX1.out.five
    have lx1 := HX1.out.lt
    go_wp2_with fail
    refine (few_calls false ⟨gr, ou, ps, ms, en⟩ _ _ Hfew.out.symm HV1.out).mono ?_
    rintro e w2 ⟨rfl, hb⟩
    have HX2 := Lib.hid (HX1.out.below hb HX1.out.lt)
    have HV2 := Lib.hid (HV1.out.below hb (Nat.le_refl _))
    have HB2 := Lib.hid (HB1.out.trans (hb.mono HB1.out.size))
    clear hb
    try clear b0 b1 b2 b3 b4
    obtain ⟨⟨b0, b1, b2, b3, b4⟩, -⟩ := HX2.out.five
    have lx2 := HX2.out.lt
    go_wp2
    go_ret
    exact ⟨rfl, HB2.out⟩
  have Hlens := Lib.hid (fewB_lens hbf)
  clear hbf
  go_enter Try.func5, Try.ntmps5
  have hd0 : decide ((100 : Int) < (ls.length : Int)) = false := decide_eq_false (by omega)
  have hd1 : decide (100 < ls.length) = false := decide_eq_false (by omega)
  go_wp2_with fail
  rw [← HW.out]
  refine Hsane.out.mono ?_
  rintro e w1 ⟨rfl, hb⟩
  have HX1 := Lib.hid (HX0.out.below hb HX0.out.lt)
  have HV1 := Lib.hid (HV0.out.below hb (Nat.le_refl _))
  have HB1 := Lib.hid (HB0.out.trans (hb.mono HB0.out.size))
  clear hb
  try clear b0 b1 b2 b3 b4
  obtain ⟨⟨b0, b1, b2, b3, b4⟩, -⟩ := HX1.out.five
  have lx1 := HX1.out.lt
  go_wp2_with fail
  refine (few_calls true ⟨gr, ou, ps, ms, en⟩ _ _ Hfew.out.symm HV1.out).mono ?_
  rintro e w2 ⟨rfl, hb⟩
  have HX2 := Lib.hid (HX1.out.below hb HX1.out.lt)
  have HV2 := Lib.hid (HV1.out.below hb (Nat.le_refl _))
  have HB2 := Lib.hid (HB1.out.trans (hb.mono HB1.out.size))
  clear hb
  try clear b0 b1 b2 b3 b4
  obtain ⟨⟨b0, b1, b2, b3, b4⟩, -⟩ := HX2.out.five
  have lx2 := HX2.out.lt
  clear hd0 hd1
  obtain ⟨q, hq⟩ : ∃ q, q = planM ls := ⟨_, rfl⟩
  have hql := planM_len ls
  rw [← hq] at hql
  have Hq := Lib.hid hq; clear hq
  go_wp2_with fail
  refine (planr_calls q ls.length ls A c w2 Hq.out rfl (by omega) hlc HAc.out (HR.out.below HB2.out (Nat.le_refl _))).mono ?_
  obtain ⟨pl, pe⟩ := q
  rintro e w3 ⟨v3, rfl, hp, hb⟩
  simp only at hp hql
  obtain ⟨P1, p1, rfl⟩ := own_slice hp
  have HP3 := Lib.hid hp
  clear hp
  have HX3 := Lib.hid (HX2.out.below hb HX2.out.lt)
  have HV3 := Lib.hid (HV2.out.below hb (Nat.le_refl _))
  have HB3 := Lib.hid (HB2.out.trans (hb.mono HB2.out.size))
  clear hb
  try clear b0 b1 b2 b3 b4
  obtain ⟨⟨b0, b1, b2, b3, b4⟩, -⟩ := HX3.out.five
  have lx3 := HX3.out.lt
  go_wp2_with fail
  refine (refPlanr_calls (pl, pe) ls.length ls A c w3 Hq.out rfl (by omega) (HR.out.below HB3.out (Nat.le_refl _))).mono ?_
  rintro e w4 ⟨v4, rfl, hp, hb⟩
  simp only at hp
  obtain ⟨P2, p2, rfl⟩ := own_slice hp
  have HQ4 := Lib.hid hp
  have HP4 := Lib.hid (own_below HP3.out hb (Nat.le_refl _))
  clear hp
  have HX4 := Lib.hid (HX3.out.below hb HX3.out.lt)
  have HV4 := Lib.hid (HV3.out.below hb (Nat.le_refl _))
  have HB4 := Lib.hid (HB3.out.trans (hb.mono HB3.out.size))
  clear hb
  try clear b0 b1 b2 b3 b4
  obtain ⟨⟨b0, b1, b2, b3, b4⟩, -⟩ := HX4.out.five
  have lx4 := HX4.out.lt
  obtain ⟨r, hr⟩ : ∃ r, r = balanceM ⟨gr, ou, ps, ms, en⟩ := ⟨_, rfl⟩
  have hl2 := balanceM_lens Hlens.out
  have hc1 := balance_calls ⟨gr, ou, ps, ms, en⟩ _ w4 HV4.out Hlens.out
  have hc2 := fun W (hW : ThrV W (.agg #[.int .i64 gr, .int .i64 ou, .slice A1 ps.length c1, .slice A2 ms.length c2, .bool en]) ⟨gr, ou, ps, ms, en⟩) => refBalance_calls ⟨gr, ou, ps, ms, en⟩ _ W hW Hlens.out
  rw [← hr] at hc1 hc2 hl2
  have Hc1 := Lib.hid hc1
  have Hc2 := Lib.hid hc2
  clear hc1 hc2 hr
  go_wp2_with fail
  refine Hc1.out.mono ?_
  obtain ⟨⟨gr2, ou2, ps2, ms2, en2⟩, num, n2⟩ := r
  have Hlens2 := Lib.hid (show Thr.Lens ⟨gr2, ou2, ps2, ms2, en2⟩ from hl2)
  clear hl2
  rintro e w5 ⟨v5, rfl, hv5, hb⟩
  simp only at hv5
  have hv5' := hv5
  obtain ⟨G1, g1, G2, g2, rfl, -, -⟩ := hv5'
  obtain ⟨W5, hW5⟩ : ∃ W5, W5 = w5.alloc (.cells #[.int .i64 gr2, .int .i64 ou2, .slice G1 ps2.length g1, .slice G2 ms2.length g2, .bool en2] 25) := ⟨_, rfl⟩
  have hbW : Below w4.heap.size w4 W5 := by rw [hW5]; exact hb.alloc hb.size _
  have hu : Blk W5 w5.heap.size 25 #[.int .i64 gr2, .int .i64 ou2, .slice G1 ps2.length g1, .slice G2 ms2.length g2, .bool en2] := by rw [hW5]; exact Blk.new _ _ _
  have hVu : ThrV W5 (.agg #[.int .i64 gr2, .int .i64 ou2, .slice G1 ps2.length g1, .slice G2 ms2.length g2, .bool en2]) ⟨gr2, ou2, ps2, ms2, en2⟩ := by rw [hW5]; exact (hv5.alloc _).val
  have HX5 := Lib.hid (HX4.out.below hbW HX4.out.lt)
  have HV5 := Lib.hid (HV4.out.below hbW (Nat.le_refl _))
  have HB5 := Lib.hid (HB4.out.trans (hbW.mono HB4.out.size))
  have HP5 := Lib.hid (own_below HP4.out hbW (Nat.le_refl _))
  have HQ5 := Lib.hid (own_below HQ4.out hbW (Nat.le_refl _))
  have HU5 := Lib.hid hu
  have HVu5 := Lib.hid hVu
  have HW5 := Lib.hid hW5
  have lt45 : w.heap.size < w5.heap.size := Nat.lt_of_lt_of_le lx4 hb.size
  have ltW5 : w.heap.size < W5.heap.size := HX5.out.lt
  have ltU5 : w5.heap.size < W5.heap.size := hu.lt
  obtain ⟨⟨x0, x1, x2, x3, x4⟩, -⟩ := HX5.out.five
  have hbw5 := HX4.out.below hb HX4.out.lt
  obtain ⟨⟨s0, s1, s2, s3, s4⟩, -⟩ := hbw5.five
  clear hb hbW hu hVu hW5 hv5 b0 b1 b2 b3 b4 hbw5
  go_wp2_with fail
  rw [← HW5.out]
  refine (Hc2.out W5 HV5.out).mono ?_
  rintro e w6 ⟨v6, rfl, hv6, hb⟩
  simp only at hv6
  have hv6' := hv6
  obtain ⟨I1, i1, I2, i2, rfl, -, -⟩ := hv6'
  obtain ⟨W7, hW7⟩ : ∃ W7, W7 = w6.alloc (.cells #[.int .i64 gr2, .int .i64 ou2, .slice I1 ps2.length i1, .slice I2 ms2.length i2, .bool en2] 25) := ⟨_, rfl⟩
  have hbW : Below W5.heap.size W5 W7 := by rw [hW7]; exact hb.alloc hb.size _
  have hvk : Blk W7 w6.heap.size 25 #[.int .i64 gr2, .int .i64 ou2, .slice I1 ps2.length i1, .slice I2 ms2.length i2, .bool en2] := by rw [hW7]; exact Blk.new _ _ _
  have HVv7 := Lib.hid (show ThrV W7 (.agg #[.int .i64 gr2, .int .i64 ou2, .slice I1 ps2.length i1, .slice I2 ms2.length i2, .bool en2]) ⟨gr2, ou2, ps2, ms2, en2⟩ from by rw [hW7]; exact hv6.below ((Below.refl _ _).alloc (Nat.le_refl _) _) (Nat.le_refl _))
  have HU7 := Lib.hid (HU5.out.below hbW HU5.out.lt)
  have HY7 := Lib.hid hvk
  have HVu7 := Lib.hid (HVu5.out.below hbW (Nat.le_refl _))
  have HB7 := Lib.hid (HB5.out.trans (hbW.mono HB5.out.size))
  have HP7 := Lib.hid (own_rd (own_below HP5.out hbW (Nat.le_refl _)))
  have HQ7 := Lib.hid (own_rd (own_below HQ5.out hbW (Nat.le_refl _)))
  have HW7 := Lib.hid hW7
  clear hb hbW hvk hW7 hv6 x0 x1 x2 x3 x4 s0 s1 s2 s3 s4
  go_wp2_with fail
  rw [← HW7.out]
  refine (equalPr_calls true pl.length pl.length pl pl P1 P2 p1 p2 W7 (by simp) rfl rfl (by omega) (by omega) HP7.out HQ7.out).mono ?_
  rintro e w8 ⟨rfl, hb⟩
  have HU8 := Lib.hid (HU7.out.below hb HU7.out.lt)
  have HY8 := Lib.hid (HY7.out.below hb HY7.out.lt)
  have HVu8 := Lib.hid (HVu7.out.below hb (Nat.le_refl _))
  have HVv8 := Lib.hid (HVv7.out.below hb (Nat.le_refl _))
  have HB8 := Lib.hid (HB7.out.trans (hb.mono HB7.out.size))
  clear hb
  obtain ⟨⟨u0, u1, u2, u3, u4⟩, -⟩ := HU8.out.five
  obtain ⟨⟨y0, y1, y2, y3, y4⟩, -⟩ := HY8.out.five
  have ly8 := HY8.out.lt
  have lu8 := HU8.out.lt
  have e1 : (num == num) = true := beq_self_eq_true num
  have e2 : (n2 == n2) = true := beq_self_eq_true n2
  have e3 : (pe == pe) = true := beq_self_eq_true pe
  go_wp2_with fail
  refine (same_calls ⟨gr2, ou2, ps2, ms2, en2⟩ _ _ w8 HVu8.out HVv8.out Hlens2.out).mono ?_
  rintro e w9 ⟨rfl, hb⟩
  have HB9 := Lib.hid (HB8.out.trans (hb.mono HB8.out.size))
  clear hb u0 u1 u2 u3 u4 y0 y1 y2 y3 y4
  go_wp2
  go_ret
  exact ⟨rfl, HB9.out⟩
end Go.Proofs.Ythdlmnkefheliaa
