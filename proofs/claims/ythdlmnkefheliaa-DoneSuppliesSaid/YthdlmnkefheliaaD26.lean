import Derived.Test.YthdlmnkefheliaaD27
set_option linter.unusedVariables false
set_option linter.unusedSimpArgs false
namespace Go.Proofs.Ythdlmnkefheliaa
open Go.RowKit

set_option maxRecDepth 100000 in
set_option maxHeartbeats 4000000 in
theorem supplies_calls (t : Thr) (v : Value) (proc : Int) (w : World) (hv : ThrV w v t) :
    Calls Try.prog 10 #[v, .int .i64 proc] w fun e w' => e = .returned (.bool true) ∧ Below w.heap.size w w' := by
  by_cases hgood : ∃ p : Nat, proc = p ∧ t.mail.length ≤ 200 ∧ t.ok = true ∧ p < t.procs.length ∧ (t.proc p).1 ≠ 0 ∧ requestM t p = (t.post (3, p, 0), 0) ∧ (t.post (3, p, 0)).ok = true
  · obtain ⟨p, rfl, g1, g2, g3, g4, g5, g6⟩ := hgood
    exact suppliesGood_calls t v p w hv g1 g2 g3 g4 g5 g6
  have Hgood := Lib.hid hgood; clear hgood
  have hv0 := hv
  obtain ⟨gr, ou, ps, ms, en⟩ := t
  obtain ⟨A1, c1, A2, c2, rfl, k1, k2, k3, k4, k5, k6⟩ := hv
  have hpl63 : ps.length ≤ 9223372036854775807 := by simp only at k1 k2; omega
  have hml63 : ms.length ≤ 9223372036854775807 := by simp only at k4 k5; omega
  have HR1 := Lib.hid k3
  clear k1 k2 k3 k4 k5 k6
  simp only at hv0 HR1 ⊢
  obtain ⟨W0, hW0⟩ : ∃ W0, W0 = w.alloc (.cells #[.int .i64 gr, .int .i64 ou, .slice A1 ps.length c1, .slice A2 ms.length c2, .bool en] 25) := ⟨_, rfl⟩
  have hB0 : Below w.heap.size w W0 := by rw [hW0]; exact (Below.refl _ _).alloc (Nat.le_refl _) _
  have hbx : Blk W0 w.heap.size 25 #[.int .i64 gr, .int .i64 ou, .slice A1 ps.length c1, .slice A2 ms.length c2, .bool en] := by rw [hW0]; exact Blk.new _ _ _
  have hsz := hbx.lt
  have HV := Lib.hid (hv0.below hB0 (Nat.le_refl _)); clear hv0
  have HBX := Lib.hid hbx; clear hbx
  have HB0 := Lib.hid hB0; clear hB0
  have HW := Lib.hid hW0; clear hW0
  have hsane := sane_calls W0
  have Hsane := Lib.hid hsane; clear hsane
  have H63 := Lib.hid (And.intro hpl63 hml63); clear hpl63 hml63
  by_cases hm : 200 < ms.length
  · have hmb : decide (200 < ms.length) = true := decide_eq_true hm
    go_enter Try.func10, Try.ntmps10
    go_wp2_with fail
    rw [← HW.out]
    refine Hsane.out.mono ?_
    rintro e w1 ⟨rfl, hb1⟩
    obtain ⟨⟨b0, b1, b2, b3, b4⟩, ⟨f0, f1, f2, f3, f4⟩⟩ := (HBX.out.below hb1 hsz).five
    have Hb1 := Lib.hid (HB0.out.trans (hb1.mono HB0.out.size)); clear hb1
    go_wp2
    go_ret
    exact ⟨rfl, Hb1.out⟩
  have hmb : decide (200 < ms.length) = false := decide_eq_false hm
  by_cases hok : Thr.ok ⟨gr, ou, ps, ms, en⟩ = true
  case neg =>
    have hck := Thr.check_f hok
    have Hck := Lib.hid hck; clear hck hok
    go_enter Try.func10, Try.ntmps10
    go_wp2_with fail
    rw [← HW.out]
    refine Hsane.out.mono ?_
    rintro e w1 ⟨rfl, hb1⟩
    obtain ⟨⟨b0, b1, b2, b3, b4⟩, ⟨f0, f1, f2, f3, f4⟩⟩ := (HBX.out.below hb1 hsz).five
    have HV1 := Lib.hid (HV.out.below hb1 (Nat.le_refl _))
    have HBX1 := Lib.hid (HBX.out.below hb1 hsz)
    have hsz1 := HBX1.out.lt
    have HRd1 := Lib.hid ((HR1.out.below HB0.out (Nat.le_refl _)).below hb1 (Nat.le_refl _))
    have Hb1 := Lib.hid (HB0.out.trans (hb1.mono HB0.out.size)); clear hb1
    go_wp2_with fail
    refine (refCheckAny_calls ⟨gr, ou, ps, ms, en⟩ _ _ HV1.out (by simp only; omega)).mono ?_
    rintro e w2 ⟨rfl, hb2⟩
    rw [Hck.out]
    obtain ⟨⟨b0, b1, b2, b3, b4⟩, ⟨f0, f1, f2, f3, f4⟩⟩ := (HBX1.out.below hb2 hsz1).five
    have HV2 := Lib.hid (HV1.out.below hb2 (Nat.le_refl _))
    have HBX2 := Lib.hid (HBX1.out.below hb2 hsz1)
    have hsz2 := HBX2.out.lt
    have HRd2 := Lib.hid (HRd1.out.below hb2 (Nat.le_refl _))
    have Hb2 := Lib.hid (Hb1.out.trans (hb2.mono Hb1.out.size)); clear hb2
    go_wp2
    go_ret
    exact ⟨rfl, Hb2.out⟩
  have hck := Thr.check_t hok
  have Hck := Lib.hid hck; clear hck
  by_cases hp0 : proc < 0
  · have hpb : decide (proc < 0) = true := decide_eq_true hp0
    clear hok
    go_enter Try.func10, Try.ntmps10
    go_wp2_with fail
    rw [← HW.out]
    refine Hsane.out.mono ?_
    rintro e w1 ⟨rfl, hb1⟩
    obtain ⟨⟨b0, b1, b2, b3, b4⟩, ⟨f0, f1, f2, f3, f4⟩⟩ := (HBX.out.below hb1 hsz).five
    have HV1 := Lib.hid (HV.out.below hb1 (Nat.le_refl _))
    have HBX1 := Lib.hid (HBX.out.below hb1 hsz)
    have hsz1 := HBX1.out.lt
    have HRd1 := Lib.hid ((HR1.out.below HB0.out (Nat.le_refl _)).below hb1 (Nat.le_refl _))
    have Hb1 := Lib.hid (HB0.out.trans (hb1.mono HB0.out.size)); clear hb1
    go_wp2_with fail
    refine (refCheckAny_calls ⟨gr, ou, ps, ms, en⟩ _ _ HV1.out (by simp only; omega)).mono ?_
    rintro e w2 ⟨rfl, hb2⟩
    rw [Hck.out]
    obtain ⟨⟨b0, b1, b2, b3, b4⟩, ⟨f0, f1, f2, f3, f4⟩⟩ := (HBX1.out.below hb2 hsz1).five
    have HV2 := Lib.hid (HV1.out.below hb2 (Nat.le_refl _))
    have HBX2 := Lib.hid (HBX1.out.below hb2 hsz1)
    have hsz2 := HBX2.out.lt
    have HRd2 := Lib.hid (HRd1.out.below hb2 (Nat.le_refl _))
    have Hb2 := Lib.hid (Hb1.out.trans (hb2.mono Hb1.out.size)); clear hb2
    go_wp2
    go_ret
    exact ⟨rfl, Hb2.out⟩
  have hpb : decide (proc < 0) = false := decide_eq_false hp0
  obtain ⟨p, rfl⟩ := Int.eq_ofNat_of_zero_le (show 0 ≤ proc by omega)
  clear hp0
  by_cases hp1 : p < ps.length
  case neg =>
    have hpc : decide ((ps.length : Int) ≤ p) = true := decide_eq_true (by omega)
    have hpd : ps.length ≤ p := by omega
    clear hok hp1
    go_enter Try.func10, Try.ntmps10
    go_wp2_with fail
    rw [← HW.out]
    refine Hsane.out.mono ?_
    rintro e w1 ⟨rfl, hb1⟩
    obtain ⟨⟨b0, b1, b2, b3, b4⟩, ⟨f0, f1, f2, f3, f4⟩⟩ := (HBX.out.below hb1 hsz).five
    have HV1 := Lib.hid (HV.out.below hb1 (Nat.le_refl _))
    have HBX1 := Lib.hid (HBX.out.below hb1 hsz)
    have hsz1 := HBX1.out.lt
    have HRd1 := Lib.hid ((HR1.out.below HB0.out (Nat.le_refl _)).below hb1 (Nat.le_refl _))
    have Hb1 := Lib.hid (HB0.out.trans (hb1.mono HB0.out.size)); clear hb1
    go_wp2_with fail
    refine (refCheckAny_calls ⟨gr, ou, ps, ms, en⟩ _ _ HV1.out (by simp only; omega)).mono ?_
    rintro e w2 ⟨rfl, hb2⟩
    rw [Hck.out]
    obtain ⟨⟨b0, b1, b2, b3, b4⟩, ⟨f0, f1, f2, f3, f4⟩⟩ := (HBX1.out.below hb2 hsz1).five
    have HV2 := Lib.hid (HV1.out.below hb2 (Nat.le_refl _))
    have HBX2 := Lib.hid (HBX1.out.below hb2 hsz1)
    have hsz2 := HBX2.out.lt
    have HRd2 := Lib.hid (HRd1.out.below hb2 (Nat.le_refl _))
    have Hb2 := Lib.hid (Hb1.out.trans (hb2.mono Hb1.out.size)); clear hb2
    go_wp2
    go_ret
    exact ⟨rfl, Hb2.out⟩
  have hpc : decide ((ps.length : Int) ≤ p) = false := decide_eq_false (by omega)
  have hpd : ¬ ps.length ≤ p := by omega
  have Hok := Lib.hid hok; clear hok
  have hgd := Thr.good_iff.1 Hok.out
  have hl16 := hgd.pl1
  simp only at hl16
  have Hgd := Lib.hid hgd; clear hgd
  have hlens : Thr.Lens ⟨gr, ou, ps, ms, en⟩ := ok_lens Hok.out
  have Hlens := Lib.hid hlens; clear hlens
  obtain ⟨x, hx⟩ : ∃ x, ps[p]? = some x := ⟨_, List.getElem?_eq_getElem hp1⟩
  have hpx : Thr.proc ⟨gr, ou, ps, ms, en⟩ (p : Int) = x := by
    have := Thr.proc_get (t := ⟨gr, ou, ps, ms, en⟩) hp1
    rw [hx] at this
    injection this with this
    exact this.symm
  have Hx := Lib.hid hx; clear hx
  have Hpx := Lib.hid hpx; clear hpx
  obtain ⟨x1, x2⟩ := x
  have HR := Lib.hid (HR1.out.below HB0.out (Nat.le_refl _))
  by_cases hg0 : x1 = 0
  · subst hg0
    go_enter Try.func10, Try.ntmps10
    go_wp2_with fail
    rw [← HW.out]
    refine Hsane.out.mono ?_
    rintro e w1 ⟨rfl, hb1⟩
    obtain ⟨⟨b0, b1, b2, b3, b4⟩, ⟨f0, f1, f2, f3, f4⟩⟩ := (HBX.out.below hb1 hsz).five
    have HV1 := Lib.hid (HV.out.below hb1 (Nat.le_refl _))
    have HBX1 := Lib.hid (HBX.out.below hb1 hsz)
    have hsz1 := HBX1.out.lt
    have HRd1 := Lib.hid ((HR1.out.below HB0.out (Nat.le_refl _)).below hb1 (Nat.le_refl _))
    have Hb1 := Lib.hid (HB0.out.trans (hb1.mono HB0.out.size)); clear hb1
    go_wp2_with fail
    refine (refCheckAny_calls ⟨gr, ou, ps, ms, en⟩ _ _ HV1.out (by simp only; omega)).mono ?_
    rintro e w2 ⟨rfl, hb2⟩
    rw [Hck.out]
    obtain ⟨⟨b0, b1, b2, b3, b4⟩, ⟨f0, f1, f2, f3, f4⟩⟩ := (HBX1.out.below hb2 hsz1).five
    have HV2 := Lib.hid (HV1.out.below hb2 (Nat.le_refl _))
    have HBX2 := Lib.hid (HBX1.out.below hb2 hsz1)
    have hsz2 := HBX2.out.lt
    have HRd2 := Lib.hid (HRd1.out.below hb2 (Nat.le_refl _))
    have Hb2 := Lib.hid (Hb1.out.trans (hb2.mono Hb1.out.size)); clear hb2
    obtain ⟨g, off, rfl, e0, e1⟩ := Rd.atH HRd2.out Hx.out
    simp only at e0 e1
    go_wp2
    go_ret
    exact ⟨rfl, Hb2.out⟩
  have hgb : (x1 == 0) = false := by simpa using hg0
  have hg' : (Thr.proc ⟨gr, ou, ps, ms, en⟩ (p : Int)).1 ≠ 0 := by rw [Hpx.out]; exact hg0
  have Hg := Lib.hid hg'; clear hg' hg0
  rcases supplies_req (t := ⟨gr, ou, ps, ms, en⟩) Hok.out hp1 Hg.out with hq | ⟨hq, hu⟩
  · have Hq := Lib.hid hq; clear hq
    go_enter Try.func10, Try.ntmps10
    go_wp2_with fail
    rw [← HW.out]
    refine Hsane.out.mono ?_
    rintro e w1 ⟨rfl, hb1⟩
    obtain ⟨⟨b0, b1, b2, b3, b4⟩, ⟨f0, f1, f2, f3, f4⟩⟩ := (HBX.out.below hb1 hsz).five
    have HV1 := Lib.hid (HV.out.below hb1 (Nat.le_refl _))
    have HBX1 := Lib.hid (HBX.out.below hb1 hsz)
    have hsz1 := HBX1.out.lt
    have HRd1 := Lib.hid ((HR1.out.below HB0.out (Nat.le_refl _)).below hb1 (Nat.le_refl _))
    have Hb1 := Lib.hid (HB0.out.trans (hb1.mono HB0.out.size)); clear hb1
    go_wp2_with fail
    refine (refCheckAny_calls ⟨gr, ou, ps, ms, en⟩ _ _ HV1.out (by simp only; omega)).mono ?_
    rintro e w2 ⟨rfl, hb2⟩
    rw [Hck.out]
    obtain ⟨⟨b0, b1, b2, b3, b4⟩, ⟨f0, f1, f2, f3, f4⟩⟩ := (HBX1.out.below hb2 hsz1).five
    have HV2 := Lib.hid (HV1.out.below hb2 (Nat.le_refl _))
    have HBX2 := Lib.hid (HBX1.out.below hb2 hsz1)
    have hsz2 := HBX2.out.lt
    have HRd2 := Lib.hid (HRd1.out.below hb2 (Nat.le_refl _))
    have Hb2 := Lib.hid (Hb1.out.trans (hb2.mono Hb1.out.size)); clear hb2
    obtain ⟨g, off, rfl, e0, e1⟩ := Rd.atH HRd2.out Hx.out
    simp only at e0 e1
    have hcall := request_calls ⟨gr, ou, ps, ms, en⟩ _ (p : Int) w2 HV2.out Hlens.out
    rw [Hq.out] at hcall
    have Hcall := Lib.hid hcall; clear hcall
    go_wp2_with fail
    refine Hcall.out.mono ?_
    rintro e w3 ⟨v3, rfl, hv3, hb3⟩
    obtain ⟨G1, g1, G2, g2, rfl, -, -⟩ := hv3
    have HBX3 := Lib.hid (HBX2.out.below hb3 hsz2)
    obtain ⟨⟨b0, b1, b2, b3, b4⟩, ⟨f0, f1, f2, f3, f4⟩⟩ := HBX3.out.five
    have hsz3 := HBX3.out.lt
    have Hb3 := Lib.hid (Hb2.out.trans (hb3.mono Hb2.out.size)); clear hb3
    simp only [Thr.zero, List.length_nil]
    go_wp2
    go_ret
    exact ⟨rfl, Hb3.out.alloc Hb3.out.size _⟩
  exact absurd ⟨p, rfl, by simp only; omega, Hok.out, hp1, Hg.out, hq, hu⟩ Hgood.out
end Go.Proofs.Ythdlmnkefheliaa
