import Derived.Test.YthdlmnkefheliaaD32
import Derived.Test.YthdlmnkefheliaaD25
import Derived.Test.YthdlmnkefheliaaP6
import Derived.IntWalk
set_option linter.unusedVariables false
set_option linter.unusedSimpArgs false
namespace Go.Proofs.Ythdlmnkefheliaa
open Go.RowKit
attribute [local go_sem ↓] Go.wp_at_zero Go.wp_at_succ

theorem balGo_ge : ∀ (ms : List (Int × Int)) (k : Nat) (t : Thr), (balGo ms k t).2.2 = 0 → (k : Int) ≤ (balGo ms k t).2.1
  | [], k, t, _ => Int.le_refl _
  | m :: ms, k, t, h => by
    rw [balGo] at h ⊢
    split
    · rename_i h0
      rw [if_pos h0] at h
      have := balGo_ge ms (k + 1) _ h
      omega
    · rename_i h0
      rw [if_neg h0] at h
      split
      · exact Int.le_refl _
      · rename_i h1
        rw [if_neg h1] at h
        exact absurd h h0
theorem balanceM_ge (t : Thr) (h : (balanceM t).2.2 = 0) : 0 ≤ (balanceM t).2.1 := by
  unfold balanceM at *
  split at h
  · rename_i c
    rw [if_pos c]
    split at h
    · rename_i c2
      rw [if_pos c2]
      exact balGo_ge _ 0 t h
    · simp at h
  · rename_i c
    exact absurd h c
theorem keep_thrV {W W' : World} {v : Value} {t : Thr} (hb : Below W.heap.size W W') (h : Hid (ThrV W v t)) : Hid (ThrV W' v t) := Lib.hid (h.out.below hb (Nat.le_refl _))
theorem hid_thrV_drew {W : World} {v : Value} {t : Thr} (h : Hid (ThrV W v t)) : Hid (ThrV W.drew v t) := h
set_option maxRecDepth 100000 in
set_option maxHeartbeats 4000000 in
theorem keeps_calls (t : Thr) (v : Value) (w : World) (hv : ThrV w v t) :
    Calls Try.prog 8 #[v] w fun e w' => e = .returned (.bool true) ∧ Below w.heap.size w w' := by
  have hv0 := hv
  obtain ⟨gr, ou, ps, ms, en⟩ := t
  obtain ⟨A1, c1, A2, c2, rfl, k1, k2, k3, k4, k5, k6⟩ := hv
  have hpl63 : ps.length ≤ 9223372036854775807 := by simp only at k1 k2; omega
  have hml63 : ms.length ≤ 9223372036854775807 := by simp only at k4 k5; omega
  have HR1 := Lib.hid k3
  clear k1 k2 k3 k4 k5 k6
  simp only at hv0 HR1 ⊢
  obtain ⟨W0, hW0⟩ : ∃ W0, W0 = w.alloc (.cells #[.int .i64 gr, .int .i64 ou, .slice A1 ps.length c1, .slice A2 ms.length c2, .bool en] 25) := ⟨_, rfl⟩
  have hB0 : Below w.heap.size w W0 := by rw [hW0]; exact (Below.refl _ _).alloc (Nat.le_refl _) _
  have hbx : Blk W0 w.heap.size 25 #[.int .i64 gr, .int .i64 ou, .slice A1 ps.length c1, .slice A2 ms.length c2, .bool en] := by rw [hW0]; exact Blk.new _ _ _
  have hsz := hbx.lt
  have HV := Lib.hid (hv0.below hB0 (Nat.le_refl _)); clear hv0
  have HBX := Lib.hid hbx; clear hbx
  have HB0 := Lib.hid hB0; clear hB0
  have HW := Lib.hid hW0; clear hW0
  have hsane := sane_calls W0
  have Hsane := Lib.hid hsane; clear hsane
  have H63 := Lib.hid (And.intro hpl63 hml63); clear hpl63 hml63
  by_cases hm : 200 < ms.length
  · have hmb : decide (200 < ms.length) = true := decide_eq_true hm
    go_enter Try.func8, Try.ntmps8
    go_wp2_with fail
    rw [← HW.out]
    refine Hsane.out.mono ?_
    rintro e w1 ⟨rfl, hb1⟩
    obtain ⟨⟨b0, b1, b2, b3, b4⟩, ⟨f0, f1, f2, f3, f4⟩⟩ := (HBX.out.below hb1 hsz).five
    have HV1 := Lib.hid (HV.out.below hb1 (Nat.le_refl _))
    have HBX1 := Lib.hid (HBX.out.below hb1 hsz)
    have hsz1 := HBX1.out.lt
    have HRd1 := Lib.hid ((HR1.out.below HB0.out (Nat.le_refl _)).below hb1 (Nat.le_refl _))
    have Hb1 := Lib.hid (HB0.out.trans (hb1.mono HB0.out.size)); clear hb1
    go_wp2
    go_ret
    exact ⟨rfl, Hb1.out⟩
  have hmb : decide (200 < ms.length) = false := decide_eq_false hm
  by_cases hok : Thr.ok ⟨gr, ou, ps, ms, en⟩ = true
  case neg =>
    have hck := Thr.check_f hok
    have Hck := Lib.hid hck; clear hck hok
    go_enter Try.func8, Try.ntmps8
    go_wp2_with fail
    rw [← HW.out]
    refine Hsane.out.mono ?_
    rintro e w1 ⟨rfl, hb1⟩
    obtain ⟨⟨b0, b1, b2, b3, b4⟩, ⟨f0, f1, f2, f3, f4⟩⟩ := (HBX.out.below hb1 hsz).five
    have HV1 := Lib.hid (HV.out.below hb1 (Nat.le_refl _))
    have HBX1 := Lib.hid (HBX.out.below hb1 hsz)
    have hsz1 := HBX1.out.lt
    have HRd1 := Lib.hid ((HR1.out.below HB0.out (Nat.le_refl _)).below hb1 (Nat.le_refl _))
    have Hb1 := Lib.hid (HB0.out.trans (hb1.mono HB0.out.size)); clear hb1
    go_wp2_with fail
    refine (refCheckAny_calls ⟨gr, ou, ps, ms, en⟩ _ _ HV1.out (by simp only; omega)).mono ?_
    rintro e w2 ⟨rfl, hb2⟩
    rw [Hck.out]
    clear b0 b1 b2 b3 b4 f0 f1 f2 f3 f4
    obtain ⟨⟨b0, b1, b2, b3, b4⟩, ⟨f0, f1, f2, f3, f4⟩⟩ := (HBX1.out.below hb2 hsz1).five
    have HV2 := Lib.hid (HV1.out.below hb2 (Nat.le_refl _))
    have HBX2 := Lib.hid (HBX1.out.below hb2 hsz1)
    have hsz2 := HBX2.out.lt
    have HRd2 := Lib.hid (HRd1.out.below hb2 (Nat.le_refl _))
    have Hb2 := Lib.hid (Hb1.out.trans (hb2.mono Hb1.out.size)); clear hb2
    go_wp2
    go_ret
    exact ⟨rfl, Hb2.out⟩
  have hck := Thr.check_t hok
  have Hck := Lib.hid hck; clear hck
  have Hgd := Lib.hid (Thr.good_iff.1 hok)
  have Hlens := Lib.hid (ok_lens hok)
  have Hok := Lib.hid hok
  have hp16 := Hgd.out.pl1
  simp only at hp16
  clear hok
  go_enter Try.func8, Try.ntmps8
  go_wp2_with fail
  rw [← HW.out]
  refine Hsane.out.mono ?_
  rintro e w1 ⟨rfl, hb1⟩
  obtain ⟨⟨b0, b1, b2, b3, b4⟩, ⟨f0, f1, f2, f3, f4⟩⟩ := (HBX.out.below hb1 hsz).five
  have HV1 := Lib.hid (HV.out.below hb1 (Nat.le_refl _))
  have HBX1 := Lib.hid (HBX.out.below hb1 hsz)
  have hsz1 := HBX1.out.lt
  have HRd1 := Lib.hid ((HR1.out.below HB0.out (Nat.le_refl _)).below hb1 (Nat.le_refl _))
  have Hb1 := Lib.hid (HB0.out.trans (hb1.mono HB0.out.size)); clear hb1
  go_wp2_with fail
  refine (refCheckAny_calls ⟨gr, ou, ps, ms, en⟩ _ _ HV1.out (by simp only; omega)).mono ?_
  rintro e w2 ⟨rfl, hb2⟩
  rw [Hck.out]
  clear b0 b1 b2 b3 b4 f0 f1 f2 f3 f4
  obtain ⟨⟨b0, b1, b2, b3, b4⟩, ⟨f0, f1, f2, f3, f4⟩⟩ := (HBX1.out.below hb2 hsz1).five
  have HV2 := Lib.hid (HV1.out.below hb2 (Nat.le_refl _))
  have HBX2 := Lib.hid (HBX1.out.below hb2 hsz1)
  have hsz2 := HBX2.out.lt
  have HRd2 := Lib.hid (HRd1.out.below hb2 (Nat.le_refl _))
  have Hb2 := Lib.hid (Hb1.out.trans (hb2.mono Hb1.out.size)); clear hb2
  have hcf := containsFuncH 32 #[] (fun x => decide (200 < x.1)) ps A1 c1 w2 (by omega) HRd2.out cf32 (fun w1 x _ _ => f32_calls x w1)
  have Hcf := Lib.hid hcf; clear hcf
  by_cases hany : (ps.any fun x => decide (200 < x.1)) = true
  · rw [hany] at Hcf
    go_wp2_with fail
    refine Hcf.out.mono ?_
    rintro e w3 ⟨rfl, hb3⟩
    have Hb3 := Lib.hid (Hb2.out.trans (hb3.mono Hb2.out.size)); clear hb3
    clear hany
    go_wp2
    go_ret
    exact ⟨rfl, Hb3.out⟩
  have hany' : (ps.any fun x => decide (200 < x.1)) = false := by simpa using hany
  have hle : ∀ x ∈ ps, x.1 ≤ 1000 := by
    intro x hx
    have := List.any_eq_false.1 hany' x hx
    simp at this; omega
  rw [hany'] at Hcf
  have Herr := Lib.hid (balance_err (t := ⟨gr, ou, ps, ms, en⟩) Hok.out hle)
  have Hstep := Lib.hid (balance_step ⟨gr, ou, ps, ms, en⟩)
  have Hge := Lib.hid (balanceM_ge ⟨gr, ou, ps, ms, en⟩)
  clear hany hany' hle
  go_wp2_with fail
  refine Hcf.out.mono ?_
  rintro e w3 ⟨rfl, hb3⟩
  clear b0 b1 b2 b3 b4 f0 f1 f2 f3 f4
  have HV3 := Lib.hid (HV2.out.below hb3 (Nat.le_refl _))
  have HBX3 := Lib.hid (HBX2.out.below hb3 hsz2)
  have hsz3 := HBX3.out.lt
  have Hb3 := Lib.hid (Hb2.out.trans (hb3.mono Hb2.out.size)); clear hb3
  obtain ⟨⟨b0, b1, b2, b3, b4⟩, -⟩ := HBX3.out.five
  have hcall := balance_calls ⟨gr, ou, ps, ms, en⟩ _ w3 HV3.out Hlens.out
  obtain ⟨r, hr⟩ : ∃ r, r = balanceM ⟨gr, ou, ps, ms, en⟩ := ⟨_, rfl⟩
  rw [← hr] at hcall
  have Hcall := Lib.hid hcall
  have Hrr := Lib.hid hr
  clear hcall hr
  go_wp2_with fail
  refine Hcall.out.mono ?_
  obtain ⟨⟨gr2, ou2, ps2, ms2, en2⟩, n, n2⟩ := r
  rintro e w4 ⟨v4, rfl, hv4, hb4⟩
  simp only at hv4
  have hv4' := hv4
  obtain ⟨G1, g1, G2, g2, rfl, -, -⟩ := hv4'
  have HBX4 := Lib.hid (HBX3.out.below hb4 hsz3)
  have HV4 := Lib.hid (HV3.out.below hb4 (Nat.le_refl _))
  have Hb4 := Lib.hid (Hb3.out.trans (hb4.mono Hb3.out.size))
  have Hv4 := Lib.hid (hv4.lower (B' := w.heap.size) Hb3.out.size)
  have hsz4 := HBX4.out.lt
  clear hv4 hb4 b0 b1 b2 b3 b4
  have herr := Herr.out
  rw [← Hrr.out] at herr
  simp only at herr
  by_cases hn2 : n2 = 0
  case neg =>
    have hn3 : n2 = 2 := by omega
    subst hn3
    clear herr hn2
    go_wp2
    go_ret
    exact ⟨rfl, Hb4.out.alloc Hb4.out.size _⟩
  subst hn2
  clear herr
  have hbal := Hstep.out
  have hge := Hge.out
  rw [← Hrr.out] at hbal hge
  have hgood := hbal.good rfl
  have hout := hbal.out rfl
  have hnum := hbal.num rfl
  have hge0 := hge rfl
  simp only at hout hnum hge0
  replace hout := hout.symm
  subst hout
  have Hgood := Lib.hid hgood
  have Hgd2 := Lib.hid (Thr.good_iff.1 hgood.ok)
  have Hlens2 := Lib.hid (ok_lens hgood.ok)
  have hm4k := Hgd2.out.ml
  simp only at hm4k
  have hgs := hgood.gs
  rw [Int.add_zero] at hgs
  have Hgs := Lib.hid hgs
  obtain ⟨k, rfl⟩ := Int.eq_ofNat_of_zero_le hge0
  have hwrap : IntKind.i64.wrap ((ms.length : Int) + (k : Int)) = (ms.length : Int) + (k : Int) := IntWalk.i64_in _ (by omega)
  have hlen : ms2.length = ms.length + k := by omega
  have hfin1 : ((ms2.length : Int) == (ms.length : Int) + (k : Int)) = true := by rw [hlen]; simp
  have hfin2 : (ms2.length == ms.length + k) = true := by rw [hlen]; simp
  have hchk := Thr.check_t (t := ⟨gr2, ou, ps2, ms2, en2⟩) hgood.ok
  have Hchk := Lib.hid hchk
  have Hlen := Lib.hid hlen
  clear hbal hge hgood hnum hge0 hgs hchk hlen hm
  obtain ⟨W5, hW5⟩ : ∃ W5, W5 = w4.alloc (.cells #[.int .i64 gr2, .int .i64 ou, .slice G1 ps2.length g1, .slice G2 ms2.length g2, .bool en2] 25) := ⟨_, rfl⟩
  have hu : Blk W5 w4.heap.size 25 #[.int .i64 gr2, .int .i64 ou, .slice G1 ps2.length g1, .slice G2 ms2.length g2, .bool en2] := by rw [hW5]; exact Blk.new _ _ _
  have hF5 : ThrF w.heap.size W5 (.agg #[.int .i64 gr2, .int .i64 ou, .slice G1 ps2.length g1, .slice G2 ms2.length g2, .bool en2]) ⟨gr2, ou, ps2, ms2, en2⟩ := by rw [hW5]; exact Hv4.out.alloc _
  have hV5 : ThrV W5 (.agg #[.int .i64 gr, .int .i64 ou, .slice A1 ps.length c1, .slice A2 ms.length c2, .bool en]) ⟨gr, ou, ps, ms, en⟩ := by rw [hW5]; exact HV4.out.below ((Below.refl _ _).alloc (Nat.le_refl _) _) (Nat.le_refl _)
  have hbl5 : Blk W5 w.heap.size 25 #[.int .i64 gr, .int .i64 ou, .slice A1 ps.length c1, .slice A2 ms.length c2, .bool en] := by rw [hW5]; exact HBX4.out.alloc _
  have hbr5 : Below w.heap.size w W5 := by rw [hW5]; exact Hb4.out.alloc Hb4.out.size _
  obtain ⟨⟨u0, u1, u2, u3, u4⟩, -⟩ := hu.five
  obtain ⟨⟨b0, b1, b2, b3, b4⟩, -⟩ := hbl5.five
  have HF5 := Lib.hid hF5
  have HV5 := Lib.hid hV5
  have Hbr5 := Lib.hid hbr5
  have HW5 := Lib.hid hW5
  clear hu hF5 hV5 hbl5 hbr5 hW5
  go_wp2_with fail
  rw [← HW5.out]
  go_region_held3 (fun W => (W.cell? ⟨w4.heap.size, 0, none⟩ = some (.int .i64 gr2) ∧ W.cell? ⟨w4.heap.size, 1, none⟩ = some (.int .i64 ou) ∧ W.cell? ⟨w4.heap.size, 2, none⟩ = some (.slice G1 ps2.length g1) ∧ W.cell? ⟨w4.heap.size, 3, none⟩ = some (.slice G2 ms2.length g2) ∧ W.cell? ⟨w4.heap.size, 4, none⟩ = some (.bool en2)) ∧
      (W.cell? ⟨w.heap.size, 0, none⟩ = some (.int .i64 gr) ∧ W.cell? ⟨w.heap.size, 1, none⟩ = some (.int .i64 ou) ∧ W.cell? ⟨w.heap.size, 2, none⟩ = some (.slice A1 ps.length c1) ∧ W.cell? ⟨w.heap.size, 3, none⟩ = some (.slice A2 ms.length c2) ∧ W.cell? ⟨w.heap.size, 4, none⟩ = some (.bool en)) ∧
      Hid (ThrF w.heap.size W (.agg #[.int .i64 gr2, .int .i64 ou, .slice G1 ps2.length g1, .slice G2 ms2.length g2, .bool en2]) ⟨gr2, ou, ps2, ms2, en2⟩) ∧ Hid (ThrV W (.agg #[.int .i64 gr, .int .i64 ou, .slice A1 ps.length c1, .slice A2 ms.length c2, .bool en]) ⟨gr, ou, ps, ms, en⟩) ∧ Hid (Below w.heap.size w W))
    (first
      | exact ⟨⟨u0, u1, u2, u3, u4⟩, ⟨b0, b1, b2, b3, b4⟩, hid_thrF_drew HF5, hid_thrV_drew HV5, hid_below_drew Hbr5⟩
      | (go_split_ands
         refine ⟨⟨?_, ?_, ?_, ?_, ?_⟩, ⟨?_, ?_, ?_, ?_, ?_⟩, ?_, ?_, ?_⟩ <;> first
           | exact keep_cell hb6 (by assumption)
           | exact keep_thrF hb6 (by assumption)
           | exact keep_thrV hb6 (by assumption)
           | exact keep_below hb6 (by assumption)))
    (first
      | (go_at_call 20; refine (checkr_calls 0 ⟨gr2, ou, ps2, ms2, en2⟩ _ _ Hchk.out ?_ Hlens2.out).mono ?_; (go_split_ands; exact ThrF.val (Hid.out (by assumption))); rintro e w6 ⟨rfl, hb6⟩)
      | (go_at_call 33; refine (goalsr_calls (Thr.goals ⟨gr, ou, ps, ms, en⟩) ⟨gr2, ou, ps2, ms2, en2⟩ _ _ Hgs.out.symm ?_ Hgd2.out.gls).mono ?_; (go_split_ands; exact ThrF.val (Hid.out (by assumption))); rintro e w6 ⟨rfl, hb6⟩)
      | (go_at_call 33; refine (goalsr_calls (Thr.goals ⟨gr, ou, ps, ms, en⟩) ⟨gr, ou, ps, ms, en⟩ _ _ rfl ?_ Hgd.out.gls).mono ?_; (go_split_ands; exact (Hid.out (by assumption))); rintro e w6 ⟨rfl, hb6⟩))
  all_goals
    have Hbr6 : Hid (Below w.heap.size w w6) := by go_split_ands; assumption
    go_wp2
    go_ret
    exact ⟨rfl, Hbr6.out⟩
end Go.Proofs.Ythdlmnkefheliaa
