import Derived.Test.YthdlmnkefheliaaD22
import Derived.Test.YthdlmnkefheliaaD21
set_option linter.unusedVariables false
set_option linter.unusedSimpArgs false
namespace Go.Proofs.Ythdlmnkefheliaa
open Go.RowKit

def doM (k a b : Int) (t : Thr) : Thr × Int :=
  if k = 0 then startM t a else if k = 1 then spawnM t a else if k = 2 then finishM t a else if k = 3 then moveM t a b
  else if k = 4 then deliverM t a else if k = 5 then requestM t a else ((balanceM t).1, (balanceM t).2.2)

set_option maxRecDepth 100000 in
set_option maxHeartbeats 4000000 in
theorem do_calls (k a b : Int) (t : Thr) (v : Value) (w : World) (hv : ThrV w v t) (hl : t.Lens) :
    Calls Try.prog 29 #[.agg #[.int .i64 k, .int .i64 a, .int .i64 b], v] w (RetT (doM k a b t) w) := by
  have hv0 := hv
  obtain ⟨gr, ou, ps, ms, en⟩ := t
  obtain ⟨A1, c1, A2, c2, rfl, k1, k2, k3, k4, k5, k6⟩ := hv
  clear k1 k2 k3 k4 k5 k6
  simp only at hv0 ⊢
  have HL := Lib.hid hl; clear hl
  obtain ⟨W0, hW0⟩ : ∃ W0, W0 = (((w.alloc (.cells #[.int .i64 k, .int .i64 a, .int .i64 b] 47)).alloc (.cells #[.int .i64 gr, .int .i64 ou, .slice A1 ps.length c1, .slice A2 ms.length c2, .bool en] 25)).alloc (.cells #[.int .i64 0, .int .i64 0, .slice none 0 0, .slice none 0 0, .bool false] 25)) := ⟨_, rfl⟩
  have hB0 : Below w.heap.size w W0 := by rw [hW0]; exact (((Below.refl _ _).alloc (Nat.le_refl _) _).alloc (by simp) _).alloc (by simp; omega) _
  have hz : Blk W0 (w.heap.size + 1 + 1) 25 #[.int .i64 0, .int .i64 0, .slice none 0 0, .slice none 0 0, .bool false] := by
    rw [hW0]
    have := Blk.new ((w.alloc (.cells #[.int .i64 k, .int .i64 a, .int .i64 b] 47)).alloc (.cells #[.int .i64 gr, .int .i64 ou, .slice A1 ps.length c1, .slice A2 ms.length c2, .bool en] 25)) 25 #[.int .i64 0, .int .i64 0, .slice none 0 0, .slice none 0 0, .bool false]
    rw [show ((w.alloc (.cells #[.int .i64 k, .int .i64 a, .int .i64 b] 47)).alloc (.cells #[.int .i64 gr, .int .i64 ou, .slice A1 ps.length c1, .slice A2 ms.length c2, .bool en] 25)).heap.size = w.heap.size + 1 + 1 from by simp] at this
    exact this
  have HV := Lib.hid (hv0.below hB0 (Nat.le_refl _)); clear hv0
  have hsz := hz.lt
  have HZ := Lib.hid hz; clear hz
  have HB0 := Lib.hid hB0; clear hB0
  have HW := Lib.hid hW0; clear hW0
  by_cases k0 : k = 0
  · subst k0
    obtain ⟨r, hr⟩ : ∃ r, r = startM ⟨gr, ou, ps, ms, en⟩ a := ⟨_, rfl⟩
    have Hr := Lib.hid (show doM 0 a b ⟨gr, ou, ps, ms, en⟩ = r from by rw [hr]; rfl)
    have hcall := start_calls ⟨gr, ou, ps, ms, en⟩ _ a _ HV.out HL.out
    rw [← hr] at hcall
    have Hcall := Lib.hid hcall; clear hcall hr
    go_enter Try.func29, Try.ntmps29
    go_wp2_with fail
    rw [← HW.out]
    refine Hcall.out.mono ?_
    obtain ⟨⟨gr', ou', ps', ms', en'⟩, n'⟩ := r
    rintro e w1 ⟨v1, rfl, hv1, hb1⟩
    simp only at hv1
    have hv1' := hv1
    obtain ⟨B1, d1, B2, d2, rfl, -, -⟩ := hv1'
    have HZ1 := Lib.hid (HZ.out.below hb1 hsz)
    obtain ⟨⟨z0, z1, z2, z3, z4⟩, ⟨y0, y1, y2, y3, y4⟩⟩ := HZ1.out.five
    have HB1 := Lib.hid (HB0.out.trans (hb1.mono HB0.out.size))
    have HV1 := Lib.hid (hv1.lower HB0.out.size); clear hv1 hb1
    go_wp2
    exact bodyPost_ret (v := .tuple #[.agg #[.int .i64 gr', .int .i64 ou', .slice B1 ps'.length d1, .slice B2 ms'.length d2, .bool en'], .int .i64 n']) (by simp [results, Try.results29, go_sem, *]) rfl
      ⟨_, by rw [Hr.out], by rw [Hr.out]; exact HV1.out.set5 HZ1.out _ _ _ _ _, below_set5 HB1.out (Nat.le_succ_of_le (Nat.le_succ _)) _ _ _ _ _⟩
  have k0b : (k == 0) = false := by simpa using k0
  by_cases k1 : k = 1
  · subst k1
    obtain ⟨r, hr⟩ : ∃ r, r = spawnM ⟨gr, ou, ps, ms, en⟩ a := ⟨_, rfl⟩
    have Hr := Lib.hid (show doM 1 a b ⟨gr, ou, ps, ms, en⟩ = r from by rw [hr]; rfl)
    have hcall := spawn_calls ⟨gr, ou, ps, ms, en⟩ _ a _ HV.out HL.out
    rw [← hr] at hcall
    have Hcall := Lib.hid hcall; clear hcall hr
    clear k0b
    go_enter Try.func29, Try.ntmps29
    go_wp2_with fail
    rw [← HW.out]
    refine Hcall.out.mono ?_
    obtain ⟨⟨gr', ou', ps', ms', en'⟩, n'⟩ := r
    rintro e w1 ⟨v1, rfl, hv1, hb1⟩
    simp only at hv1
    have hv1' := hv1
    obtain ⟨B1, d1, B2, d2, rfl, -, -⟩ := hv1'
    have HZ1 := Lib.hid (HZ.out.below hb1 hsz)
    obtain ⟨⟨z0, z1, z2, z3, z4⟩, ⟨y0, y1, y2, y3, y4⟩⟩ := HZ1.out.five
    have HB1 := Lib.hid (HB0.out.trans (hb1.mono HB0.out.size))
    have HV1 := Lib.hid (hv1.lower HB0.out.size); clear hv1 hb1
    go_wp2
    exact bodyPost_ret (v := .tuple #[.agg #[.int .i64 gr', .int .i64 ou', .slice B1 ps'.length d1, .slice B2 ms'.length d2, .bool en'], .int .i64 n']) (by simp [results, Try.results29, go_sem, *]) rfl
      ⟨_, by rw [Hr.out], by rw [Hr.out]; exact HV1.out.set5 HZ1.out _ _ _ _ _, below_set5 HB1.out (Nat.le_succ_of_le (Nat.le_succ _)) _ _ _ _ _⟩
  have k1b : (k == 1) = false := by simpa using k1
  by_cases k2 : k = 2
  · subst k2
    obtain ⟨r, hr⟩ : ∃ r, r = finishM ⟨gr, ou, ps, ms, en⟩ a := ⟨_, rfl⟩
    have Hr := Lib.hid (show doM 2 a b ⟨gr, ou, ps, ms, en⟩ = r from by rw [hr]; rfl)
    have hcall := finish_calls ⟨gr, ou, ps, ms, en⟩ _ a _ HV.out HL.out
    rw [← hr] at hcall
    have Hcall := Lib.hid hcall; clear hcall hr
    clear k0b
    clear k1b
    go_enter Try.func29, Try.ntmps29
    go_wp2_with fail
    rw [← HW.out]
    refine Hcall.out.mono ?_
    obtain ⟨⟨gr', ou', ps', ms', en'⟩, n'⟩ := r
    rintro e w1 ⟨v1, rfl, hv1, hb1⟩
    simp only at hv1
    have hv1' := hv1
    obtain ⟨B1, d1, B2, d2, rfl, -, -⟩ := hv1'
    have HZ1 := Lib.hid (HZ.out.below hb1 hsz)
    obtain ⟨⟨z0, z1, z2, z3, z4⟩, ⟨y0, y1, y2, y3, y4⟩⟩ := HZ1.out.five
    have HB1 := Lib.hid (HB0.out.trans (hb1.mono HB0.out.size))
    have HV1 := Lib.hid (hv1.lower HB0.out.size); clear hv1 hb1
    go_wp2
    exact bodyPost_ret (v := .tuple #[.agg #[.int .i64 gr', .int .i64 ou', .slice B1 ps'.length d1, .slice B2 ms'.length d2, .bool en'], .int .i64 n']) (by simp [results, Try.results29, go_sem, *]) rfl
      ⟨_, by rw [Hr.out], by rw [Hr.out]; exact HV1.out.set5 HZ1.out _ _ _ _ _, below_set5 HB1.out (Nat.le_succ_of_le (Nat.le_succ _)) _ _ _ _ _⟩
  have k2b : (k == 2) = false := by simpa using k2
  by_cases k3 : k = 3
  · subst k3
    obtain ⟨r, hr⟩ : ∃ r, r = moveM ⟨gr, ou, ps, ms, en⟩ a b := ⟨_, rfl⟩
    have Hr := Lib.hid (show doM 3 a b ⟨gr, ou, ps, ms, en⟩ = r from by rw [hr]; rfl)
    have hcall := move_calls ⟨gr, ou, ps, ms, en⟩ _ a b _ HV.out HL.out
    rw [← hr] at hcall
    have Hcall := Lib.hid hcall; clear hcall hr
    clear k0b
    clear k1b
    clear k2b
    go_enter Try.func29, Try.ntmps29
    go_wp2_with fail
    rw [← HW.out]
    refine Hcall.out.mono ?_
    obtain ⟨⟨gr', ou', ps', ms', en'⟩, n'⟩ := r
    rintro e w1 ⟨v1, rfl, hv1, hb1⟩
    simp only at hv1
    have hv1' := hv1
    obtain ⟨B1, d1, B2, d2, rfl, -, -⟩ := hv1'
    have HZ1 := Lib.hid (HZ.out.below hb1 hsz)
    obtain ⟨⟨z0, z1, z2, z3, z4⟩, ⟨y0, y1, y2, y3, y4⟩⟩ := HZ1.out.five
    have HB1 := Lib.hid (HB0.out.trans (hb1.mono HB0.out.size))
    have HV1 := Lib.hid (hv1.lower HB0.out.size); clear hv1 hb1
    go_wp2
    exact bodyPost_ret (v := .tuple #[.agg #[.int .i64 gr', .int .i64 ou', .slice B1 ps'.length d1, .slice B2 ms'.length d2, .bool en'], .int .i64 n']) (by simp [results, Try.results29, go_sem, *]) rfl
      ⟨_, by rw [Hr.out], by rw [Hr.out]; exact HV1.out.set5 HZ1.out _ _ _ _ _, below_set5 HB1.out (Nat.le_succ_of_le (Nat.le_succ _)) _ _ _ _ _⟩
  have k3b : (k == 3) = false := by simpa using k3
  by_cases k4 : k = 4
  · subst k4
    obtain ⟨r, hr⟩ : ∃ r, r = deliverM ⟨gr, ou, ps, ms, en⟩ a := ⟨_, rfl⟩
    have Hr := Lib.hid (show doM 4 a b ⟨gr, ou, ps, ms, en⟩ = r from by rw [hr]; rfl)
    have hcall := deliver_calls ⟨gr, ou, ps, ms, en⟩ _ a _ HV.out HL.out
    rw [← hr] at hcall
    have Hcall := Lib.hid hcall; clear hcall hr
    clear k0b
    clear k1b
    clear k2b
    clear k3b
    go_enter Try.func29, Try.ntmps29
    go_wp2_with fail
    rw [← HW.out]
    refine Hcall.out.mono ?_
    obtain ⟨⟨gr', ou', ps', ms', en'⟩, n'⟩ := r
    rintro e w1 ⟨v1, rfl, hv1, hb1⟩
    simp only at hv1
    have hv1' := hv1
    obtain ⟨B1, d1, B2, d2, rfl, -, -⟩ := hv1'
    have HZ1 := Lib.hid (HZ.out.below hb1 hsz)
    obtain ⟨⟨z0, z1, z2, z3, z4⟩, ⟨y0, y1, y2, y3, y4⟩⟩ := HZ1.out.five
    have HB1 := Lib.hid (HB0.out.trans (hb1.mono HB0.out.size))
    have HV1 := Lib.hid (hv1.lower HB0.out.size); clear hv1 hb1
    go_wp2
    exact bodyPost_ret (v := .tuple #[.agg #[.int .i64 gr', .int .i64 ou', .slice B1 ps'.length d1, .slice B2 ms'.length d2, .bool en'], .int .i64 n']) (by simp [results, Try.results29, go_sem, *]) rfl
      ⟨_, by rw [Hr.out], by rw [Hr.out]; exact HV1.out.set5 HZ1.out _ _ _ _ _, below_set5 HB1.out (Nat.le_succ_of_le (Nat.le_succ _)) _ _ _ _ _⟩
  have k4b : (k == 4) = false := by simpa using k4
  by_cases k5 : k = 5
  · subst k5
    obtain ⟨r, hr⟩ : ∃ r, r = requestM ⟨gr, ou, ps, ms, en⟩ a := ⟨_, rfl⟩
    have Hr := Lib.hid (show doM 5 a b ⟨gr, ou, ps, ms, en⟩ = r from by rw [hr]; rfl)
    have hcall := request_calls ⟨gr, ou, ps, ms, en⟩ _ a _ HV.out HL.out
    rw [← hr] at hcall
    have Hcall := Lib.hid hcall; clear hcall hr
    clear k0b
    clear k1b
    clear k2b
    clear k3b
    clear k4b
    go_enter Try.func29, Try.ntmps29
    go_wp2_with fail
    rw [← HW.out]
    refine Hcall.out.mono ?_
    obtain ⟨⟨gr', ou', ps', ms', en'⟩, n'⟩ := r
    rintro e w1 ⟨v1, rfl, hv1, hb1⟩
    simp only at hv1
    have hv1' := hv1
    obtain ⟨B1, d1, B2, d2, rfl, -, -⟩ := hv1'
    have HZ1 := Lib.hid (HZ.out.below hb1 hsz)
    obtain ⟨⟨z0, z1, z2, z3, z4⟩, ⟨y0, y1, y2, y3, y4⟩⟩ := HZ1.out.five
    have HB1 := Lib.hid (HB0.out.trans (hb1.mono HB0.out.size))
    have HV1 := Lib.hid (hv1.lower HB0.out.size); clear hv1 hb1
    go_wp2
    exact bodyPost_ret (v := .tuple #[.agg #[.int .i64 gr', .int .i64 ou', .slice B1 ps'.length d1, .slice B2 ms'.length d2, .bool en'], .int .i64 n']) (by simp [results, Try.results29, go_sem, *]) rfl
      ⟨_, by rw [Hr.out], by rw [Hr.out]; exact HV1.out.set5 HZ1.out _ _ _ _ _, below_set5 HB1.out (Nat.le_succ_of_le (Nat.le_succ _)) _ _ _ _ _⟩
  have k5b : (k == 5) = false := by simpa using k5
  obtain ⟨r, hr⟩ : ∃ r, r = balanceM ⟨gr, ou, ps, ms, en⟩ := ⟨_, rfl⟩
  have Hr := Lib.hid (show doM k a b ⟨gr, ou, ps, ms, en⟩ = (r.1, r.2.2) from by rw [hr, doM, if_neg k0, if_neg k1, if_neg k2, if_neg k3, if_neg k4, if_neg k5])
  have hcall := balance_calls ⟨gr, ou, ps, ms, en⟩ _ _ HV.out HL.out
  rw [← hr] at hcall
  have Hcall := Lib.hid hcall; clear hcall hr k0 k1 k2 k3 k4 k5
  go_enter Try.func29, Try.ntmps29
  go_wp2_with fail
  rw [← HW.out]
  refine Hcall.out.mono ?_
  obtain ⟨⟨gr', ou', ps', ms', en'⟩, m', n'⟩ := r
  rintro e w1 ⟨v1, rfl, hv1, hb1⟩
  simp only at hv1
  have hv1' := hv1
  obtain ⟨B1, d1, B2, d2, rfl, -, -⟩ := hv1'
  have HZ1 := Lib.hid (HZ.out.below hb1 hsz)
  obtain ⟨⟨z0, z1, z2, z3, z4⟩, ⟨y0, y1, y2, y3, y4⟩⟩ := HZ1.out.five
  have hzlt := HZ1.out.lt
  have HB1 := Lib.hid (HB0.out.trans (hb1.mono HB0.out.size))
  have HV1 := Lib.hid (hv1.lower HB0.out.size); clear hv1 hb1
  go_wp2
  have hb5 := below_set5 HB1.out (Nat.le_succ_of_le (Nat.le_succ _)) (.int .i64 gr') (.int .i64 ou') (.slice B1 ps'.length d1) (.slice B2 ms'.length d2) (.bool en')
  exact bodyPost_ret (v := .tuple #[.agg #[.int .i64 gr', .int .i64 ou', .slice B1 ps'.length d1, .slice B2 ms'.length d2, .bool en'], .int .i64 n']) (by simp [results, Try.results29, go_sem, *]) rfl
    ⟨_, by rw [Hr.out], by rw [Hr.out]; exact (HV1.out.set5 HZ1.out _ _ _ _ _).alloc _, hb5.alloc hb5.size _⟩
end Go.Proofs.Ythdlmnkefheliaa
