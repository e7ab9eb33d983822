import Derived.Test.YthdlmnkefheliaaR8
import Derived.Test.YthdlmnkefheliaaD24
set_option linter.unusedVariables false
set_option linter.unusedSimpArgs false
namespace Go.Proofs.Ythdlmnkefheliaa
open Go.RowKit
attribute [local go_sem ↓] Go.wp_at_zero Go.wp_at_succ

set_option maxRecDepth 100000 in
set_option maxHeartbeats 4000000 in
theorem refNew_calls (procs grain : Int) (w : World) : Calls Try.prog 18 #[.int .i64 procs, .int .i64 grain] w (RetT (newM procs grain) w) := by
  have hbz : Blk (w.alloc (.cells #[.int .i64 0, .int .i64 0, .slice none 0 0, .slice none 0 0, .bool false] 25)) w.heap.size 25 #[.int .i64 0, .int .i64 0, .slice none 0 0, .slice none 0 0, .bool false] := Blk.new _ _ _
  have hbel : Below w.heap.size w (w.alloc (.cells #[.int .i64 0, .int .i64 0, .slice none 0 0, .slice none 0 0, .bool false] 25)) := (Below.refl _ _).alloc (Nat.le_refl _) _
  have Hbz := Lib.hid hbz
  have Hbel := Lib.hid hbel
  clear hbz hbel
  by_cases hg : (bd 1 16 procs && bd 2 1048576 grain) = true
  case neg =>
    have Hf := Lib.hid (show newM procs grain = (Thr.zero, 1) from by rw [newM, if_neg hg])
    rw [Bool.and_eq_true, bd_iff, bd_iff] at hg
    by_cases a0 : procs < 1
    · have b0 : decide (procs < 1) = true := decide_eq_true a0
      clear hg
      go_enter Try.func18, Try.ntmps18
      go_wp2
      have hb5 := below_set5 Hbel.out (Nat.le_refl _) (.int .i64 0) (.int .i64 0) (.slice none 0 0) (.slice none 0 0) (.bool false)
      exact bodyPost_ret (v := .tuple #[.agg #[.int .i64 0, .int .i64 0, .slice none 0 0, .slice none 0 0, .bool false], .int .i64 1]) (by simp [results, Try.results18, go_sem, *]) rfl ⟨_, by rw [Hf.out], by rw [Hf.out]; exact ThrF.zero _ _, by first | exact Hbel.out | exact hb5⟩
    have b0 : decide (procs < 1) = false := decide_eq_false a0
    by_cases a1 : 16 < procs
    · have b1 : decide (16 < procs) = true := decide_eq_true a1
      clear hg
      go_enter Try.func18, Try.ntmps18
      go_wp2
      have hb5 := below_set5 Hbel.out (Nat.le_refl _) (.int .i64 0) (.int .i64 0) (.slice none 0 0) (.slice none 0 0) (.bool false)
      exact bodyPost_ret (v := .tuple #[.agg #[.int .i64 0, .int .i64 0, .slice none 0 0, .slice none 0 0, .bool false], .int .i64 1]) (by simp [results, Try.results18, go_sem, *]) rfl ⟨_, by rw [Hf.out], by rw [Hf.out]; exact ThrF.zero _ _, by first | exact Hbel.out | exact hb5⟩
    have b1 : decide (16 < procs) = false := decide_eq_false a1
    by_cases a2 : grain < 2
    · have b2 : decide (grain < 2) = true := decide_eq_true a2
      clear hg
      go_enter Try.func18, Try.ntmps18
      go_wp2
      have hb5 := below_set5 Hbel.out (Nat.le_refl _) (.int .i64 0) (.int .i64 0) (.slice none 0 0) (.slice none 0 0) (.bool false)
      exact bodyPost_ret (v := .tuple #[.agg #[.int .i64 0, .int .i64 0, .slice none 0 0, .slice none 0 0, .bool false], .int .i64 1]) (by simp [results, Try.results18, go_sem, *]) rfl ⟨_, by rw [Hf.out], by rw [Hf.out]; exact ThrF.zero _ _, by first | exact Hbel.out | exact hb5⟩
    have b2 : decide (grain < 2) = false := decide_eq_false a2
    by_cases a3 : 1048576 < grain
    · have b3 : decide (1048576 < grain) = true := decide_eq_true a3
      clear hg
      go_enter Try.func18, Try.ntmps18
      go_wp2
      have hb5 := below_set5 Hbel.out (Nat.le_refl _) (.int .i64 0) (.int .i64 0) (.slice none 0 0) (.slice none 0 0) (.bool false)
      exact bodyPost_ret (v := .tuple #[.agg #[.int .i64 0, .int .i64 0, .slice none 0 0, .slice none 0 0, .bool false], .int .i64 1]) (by simp [results, Try.results18, go_sem, *]) rfl ⟨_, by rw [Hf.out], by rw [Hf.out]; exact ThrF.zero _ _, by first | exact Hbel.out | exact hb5⟩
    have b3 : decide (1048576 < grain) = false := decide_eq_false a3
    exact absurd ⟨⟨by omega, by omega⟩, by omega, by omega⟩ hg
  have Hf := Lib.hid (show newM procs grain = (newT procs grain, 0) from by rw [newM, if_pos hg])
  rw [Bool.and_eq_true, bd_iff, bd_iff] at hg
  obtain ⟨⟨h1, h2⟩, h3, h4⟩ := hg
  obtain ⟨m, rfl⟩ := Int.eq_ofNat_of_zero_le (show 0 ≤ procs by omega)
  have a0 : decide ((m : Int) < 1) = false := decide_eq_false (by omega)
  have a0' : decide (m < 1) = false := decide_eq_false (by omega)
  have a1 : decide ((16 : Int) < (m : Int)) = false := decide_eq_false (by omega)
  have a1' : decide (16 < m) = false := decide_eq_false (by omega)
  have a2 : decide (grain < 2) = false := decide_eq_false (by omega)
  have a3 : decide (1048576 < grain) = false := decide_eq_false (by omega)
  have hmk := fun W => mk22 m (by omega) W
  have h1m : ¬ m < 1 := by omega
  have h2m : ¬ 16 < m := by omega
  have h3m : m ≠ 0 := by omega
  go_enter Try.func18, Try.ntmps18
  go_wp2
  have s1 : ∀ cs, (w.alloc (.cells cs 25)).heap.size = w.heap.size + 1 := fun cs => by simp
  have hF : ∀ cs, ThrF w.heap.size ((w.alloc (.cells cs 25)).alloc (.cells (madeCells #[.int .i64 0, .int .i64 0] (m * 2)) 51)) (.agg #[.int .i64 grain, .int .i64 0, .slice (some ⟨w.heap.size + 1, 0, none⟩) m m, .slice none 0 0, .bool false]) (newT (m : Int) grain) := by
    intro cs
    refine ⟨some ⟨w.heap.size + 1, 0, none⟩, m, none, 0, by simp [newT], ?_, World.ownsRow_nil _ _ _ _⟩
    simp only [newT, Int.toNat_natCast]
    rw [List.length_replicate]
    refine ⟨by rw [rep_list, List.length_replicate], .inr ⟨w.heap.size + 1, m, madeCells #[.int .i64 0, .int .i64 0] (m * 2), rfl, by omega, ?_, Nat.le_refl _, by simp only [maxLen]; omega, size_madeCells _ _, ?_⟩⟩
    · have := heap_alloc_new (w.alloc (.cells cs 25)) (.cells (madeCells #[.int .i64 0, .int .i64 0] (m * 2)) 51)
      rw [s1] at this
      exact this
    · rw [made_list, rep_list, List.take_replicate, Nat.min_self]
  exact bodyPost_ret (v := .tuple #[.agg #[.int .i64 grain, .int .i64 0, .slice (some ⟨w.heap.size + 1, 0, none⟩) m m, .slice none 0 0, .bool false], .int .i64 0]) (by simp [results, Try.results18, go_sem, *]) rfl
    ⟨_, by rw [Hf.out], by rw [Hf.out]; exact hF _, ((Below.refl _ _).alloc (Nat.le_refl _) _).alloc (by simp) _⟩

def fewB (t : Thr) : Bool := decide (t.procs.length ≤ 100) && (decide (t.mail.length ≤ 200) || decide (4000 < t.mail.length)) && decide (t.mail.length ≤ 8000)
theorem fewB_lens {t : Thr} (h : fewB t = true) : t.Lens := by
  unfold fewB at h
  simp only [Bool.and_eq_true, decide_eq_true_eq] at h
  exact ⟨by omega, by omega⟩
set_option maxHeartbeats 2000000 in
theorem few_calls (b : Bool) (t : Thr) (v : Value) (w : World) (hb : b = fewB t) (hv : ThrV w v t) :
    Calls Try.prog 16 #[v] w fun e w' => e = .returned (.bool b) ∧ Below w.heap.size w w' := by
  obtain ⟨gr, ou, ps, ms, en⟩ := t
  obtain ⟨A1, c1, A2, c2, rfl, k1, ⟨k2, -⟩, -, k4, ⟨k5, -⟩, -⟩ := hv
  simp only [fewB] at hb k1 k4
  have hp63 : ps.length ≤ 9223372036854775807 := by omega
  have hm63 : ms.length ≤ 9223372036854775807 := by omega
  clear k1 k2 k4 k5
  have hbel : ∀ cs : Array Value, Below w.heap.size w (w.alloc (.cells cs 25)) := fun cs => (Below.refl _ _).alloc (Nat.le_refl _) _
  by_cases h1 : ps.length ≤ 100
  case neg =>
    have e1 : decide (ps.length ≤ 100) = false := decide_eq_false h1
    have e1' : decide ((ps.length : Int) ≤ 100) = false := decide_eq_false (by omega)
    obtain rfl : b = false := by rw [hb, e1]; rfl
    clear hb
    go_enter Try.func16, Try.ntmps16
    go_wp2
    go_ret
    exact ⟨rfl, hbel _⟩
  have e1 : decide (ps.length ≤ 100) = true := decide_eq_true h1
  have e1' : decide ((ps.length : Int) ≤ 100) = true := decide_eq_true (by omega)
  by_cases h2 : ms.length ≤ 200
  · have e2 : decide (ms.length ≤ 200) = true := decide_eq_true h2
    have e2' : decide ((ms.length : Int) ≤ 200) = true := decide_eq_true (by omega)
    have e4 : decide (ms.length ≤ 8000) = true := decide_eq_true (by omega)
    have e4' : decide ((ms.length : Int) ≤ 8000) = true := decide_eq_true (by omega)
    obtain rfl : b = true := by rw [hb, e1, e2, e4]; rfl
    clear hb
    go_enter Try.func16, Try.ntmps16
    go_wp2
    go_ret
    exact ⟨rfl, hbel _⟩
  have e2 : decide (ms.length ≤ 200) = false := decide_eq_false h2
  have e2' : decide ((ms.length : Int) ≤ 200) = false := decide_eq_false (by omega)
  by_cases h3 : 4000 < ms.length
  case neg =>
    have e3 : decide (4000 < ms.length) = false := decide_eq_false h3
    have e3' : decide ((4000 : Int) < (ms.length : Int)) = false := decide_eq_false (by omega)
    obtain rfl : b = false := by rw [hb, e1, e2, e3]; rfl
    clear hb
    go_enter Try.func16, Try.ntmps16
    go_wp2
    go_ret
    exact ⟨rfl, hbel _⟩
  have e3 : decide (4000 < ms.length) = true := decide_eq_true h3
  have e3' : decide ((4000 : Int) < (ms.length : Int)) = true := decide_eq_true (by omega)
  by_cases h4 : ms.length ≤ 8000
  · have e4 : decide (ms.length ≤ 8000) = true := decide_eq_true h4
    have e4' : decide ((ms.length : Int) ≤ 8000) = true := decide_eq_true (by omega)
    obtain rfl : b = true := by rw [hb, e1, e2, e3, e4]; rfl
    clear hb
    go_enter Try.func16, Try.ntmps16
    go_wp2
    go_ret
    exact ⟨rfl, hbel _⟩
  · have e4 : decide (ms.length ≤ 8000) = false := decide_eq_false h4
    have e4' : decide ((ms.length : Int) ≤ 8000) = false := decide_eq_false (by omega)
    obtain rfl : b = false := by rw [hb, e1, e2, e3, e4]; rfl
    clear hb
    go_enter Try.func16, Try.ntmps16
    go_wp2
    go_ret
    exact ⟨rfl, hbel _⟩

set_option maxRecDepth 100000 in
set_option maxHeartbeats 4000000 in
theorem want_calls (k a b : Int) (t : Thr) (v : Value) (w : World) (hv : ThrV w v t) (hl : t.Lens) (hk0 : 0 ≤ k) (hk5 : k ≤ 5) :
    Calls Try.prog 60 #[.agg #[.int .i64 k, .int .i64 a, .int .i64 b], v] w (RetT (doM k a b t) w) := by
  have hv0 := hv
  obtain ⟨gr, ou, ps, ms, en⟩ := t
  obtain ⟨A1, c1, A2, c2, rfl, k1, k2, k3, k4, k5, k6⟩ := hv
  clear k1 k2 k3 k4 k5 k6
  simp only at hv0 ⊢
  have HL := Lib.hid hl; clear hl
  obtain ⟨W0, hW0⟩ : ∃ W0, W0 = (((w.alloc (.cells #[.int .i64 k, .int .i64 a, .int .i64 b] 47)).alloc (.cells #[.int .i64 gr, .int .i64 ou, .slice A1 ps.length c1, .slice A2 ms.length c2, .bool en] 25)).alloc (.cells #[.int .i64 0, .int .i64 0, .slice none 0 0, .slice none 0 0, .bool false] 25)) := ⟨_, rfl⟩
  have hB0 : Below w.heap.size w W0 := by rw [hW0]; exact (((Below.refl _ _).alloc (Nat.le_refl _) _).alloc (by simp) _).alloc (by simp; omega) _
  have hz : Blk W0 (w.heap.size + 1 + 1) 25 #[.int .i64 0, .int .i64 0, .slice none 0 0, .slice none 0 0, .bool false] := by
    rw [hW0]
    have := Blk.new ((w.alloc (.cells #[.int .i64 k, .int .i64 a, .int .i64 b] 47)).alloc (.cells #[.int .i64 gr, .int .i64 ou, .slice A1 ps.length c1, .slice A2 ms.length c2, .bool en] 25)) 25 #[.int .i64 0, .int .i64 0, .slice none 0 0, .slice none 0 0, .bool false]
    rw [show ((w.alloc (.cells #[.int .i64 k, .int .i64 a, .int .i64 b] 47)).alloc (.cells #[.int .i64 gr, .int .i64 ou, .slice A1 ps.length c1, .slice A2 ms.length c2, .bool en] 25)).heap.size = w.heap.size + 1 + 1 from by simp] at this
    exact this
  have HV := Lib.hid (hv0.below hB0 (Nat.le_refl _)); clear hv0
  have hsz := hz.lt
  have HZ := Lib.hid hz; clear hz
  have HB0 := Lib.hid hB0; clear hB0
  have HW := Lib.hid hW0; clear hW0
  by_cases k0 : k = 0
  · subst k0
    obtain ⟨r, hr⟩ : ∃ r, r = startM ⟨gr, ou, ps, ms, en⟩ a := ⟨_, rfl⟩
    have Hr := Lib.hid (show doM 0 a b ⟨gr, ou, ps, ms, en⟩ = r from by rw [hr]; rfl)
    have hcall := refStart_calls ⟨gr, ou, ps, ms, en⟩ _ a _ HV.out HL.out
    rw [← hr] at hcall
    have Hcall := Lib.hid hcall; clear hcall hr
    go_enter Try.func60, Try.ntmps60
    go_wp2_with fail
    rw [← HW.out]
    refine Hcall.out.mono ?_
    obtain ⟨⟨gr', ou', ps', ms', en'⟩, n'⟩ := r
    rintro e w1 ⟨v1, rfl, hv1, hb1⟩
    simp only at hv1
    have hv1' := hv1
    obtain ⟨B1, d1, B2, d2, rfl, -, -⟩ := hv1'
    have HZ1 := Lib.hid (HZ.out.below hb1 hsz)
    obtain ⟨⟨z0, z1, z2, z3, z4⟩, ⟨y0, y1, y2, y3, y4⟩⟩ := HZ1.out.five
    have HB1 := Lib.hid (HB0.out.trans (hb1.mono HB0.out.size))
    have HV1 := Lib.hid (hv1.lower HB0.out.size); clear hv1 hb1
    go_wp2
    exact bodyPost_ret (v := .tuple #[.agg #[.int .i64 gr', .int .i64 ou', .slice B1 ps'.length d1, .slice B2 ms'.length d2, .bool en'], .int .i64 n']) (by simp [results, Try.results60, go_sem, *]) rfl
      ⟨_, by rw [Hr.out], by rw [Hr.out]; exact HV1.out.set5 HZ1.out _ _ _ _ _, below_set5 HB1.out (Nat.le_succ_of_le (Nat.le_succ _)) _ _ _ _ _⟩
  have k0b : (k == 0) = false := by simpa using k0
  by_cases k1 : k = 1
  · subst k1
    obtain ⟨r, hr⟩ : ∃ r, r = spawnM ⟨gr, ou, ps, ms, en⟩ a := ⟨_, rfl⟩
    have Hr := Lib.hid (show doM 1 a b ⟨gr, ou, ps, ms, en⟩ = r from by rw [hr]; rfl)
    have hcall := refSpawn_calls ⟨gr, ou, ps, ms, en⟩ _ a _ HV.out HL.out
    rw [← hr] at hcall
    have Hcall := Lib.hid hcall; clear hcall hr
    clear k0b
    go_enter Try.func60, Try.ntmps60
    go_wp2_with fail
    rw [← HW.out]
    refine Hcall.out.mono ?_
    obtain ⟨⟨gr', ou', ps', ms', en'⟩, n'⟩ := r
    rintro e w1 ⟨v1, rfl, hv1, hb1⟩
    simp only at hv1
    have hv1' := hv1
    obtain ⟨B1, d1, B2, d2, rfl, -, -⟩ := hv1'
    have HZ1 := Lib.hid (HZ.out.below hb1 hsz)
    obtain ⟨⟨z0, z1, z2, z3, z4⟩, ⟨y0, y1, y2, y3, y4⟩⟩ := HZ1.out.five
    have HB1 := Lib.hid (HB0.out.trans (hb1.mono HB0.out.size))
    have HV1 := Lib.hid (hv1.lower HB0.out.size); clear hv1 hb1
    go_wp2
    exact bodyPost_ret (v := .tuple #[.agg #[.int .i64 gr', .int .i64 ou', .slice B1 ps'.length d1, .slice B2 ms'.length d2, .bool en'], .int .i64 n']) (by simp [results, Try.results60, go_sem, *]) rfl
      ⟨_, by rw [Hr.out], by rw [Hr.out]; exact HV1.out.set5 HZ1.out _ _ _ _ _, below_set5 HB1.out (Nat.le_succ_of_le (Nat.le_succ _)) _ _ _ _ _⟩
  have k1b : (k == 1) = false := by simpa using k1
  by_cases k2 : k = 2
  · subst k2
    obtain ⟨r, hr⟩ : ∃ r, r = finishM ⟨gr, ou, ps, ms, en⟩ a := ⟨_, rfl⟩
    have Hr := Lib.hid (show doM 2 a b ⟨gr, ou, ps, ms, en⟩ = r from by rw [hr]; rfl)
    have hcall := refFinish_calls ⟨gr, ou, ps, ms, en⟩ _ a _ HV.out HL.out
    rw [← hr] at hcall
    have Hcall := Lib.hid hcall; clear hcall hr
    clear k0b
    clear k1b
    go_enter Try.func60, Try.ntmps60
    go_wp2_with fail
    rw [← HW.out]
    refine Hcall.out.mono ?_
    obtain ⟨⟨gr', ou', ps', ms', en'⟩, n'⟩ := r
    rintro e w1 ⟨v1, rfl, hv1, hb1⟩
    simp only at hv1
    have hv1' := hv1
    obtain ⟨B1, d1, B2, d2, rfl, -, -⟩ := hv1'
    have HZ1 := Lib.hid (HZ.out.below hb1 hsz)
    obtain ⟨⟨z0, z1, z2, z3, z4⟩, ⟨y0, y1, y2, y3, y4⟩⟩ := HZ1.out.five
    have HB1 := Lib.hid (HB0.out.trans (hb1.mono HB0.out.size))
    have HV1 := Lib.hid (hv1.lower HB0.out.size); clear hv1 hb1
    go_wp2
    exact bodyPost_ret (v := .tuple #[.agg #[.int .i64 gr', .int .i64 ou', .slice B1 ps'.length d1, .slice B2 ms'.length d2, .bool en'], .int .i64 n']) (by simp [results, Try.results60, go_sem, *]) rfl
      ⟨_, by rw [Hr.out], by rw [Hr.out]; exact HV1.out.set5 HZ1.out _ _ _ _ _, below_set5 HB1.out (Nat.le_succ_of_le (Nat.le_succ _)) _ _ _ _ _⟩
  have k2b : (k == 2) = false := by simpa using k2
  by_cases k3 : k = 3
  · subst k3
    obtain ⟨r, hr⟩ : ∃ r, r = moveM ⟨gr, ou, ps, ms, en⟩ a b := ⟨_, rfl⟩
    have Hr := Lib.hid (show doM 3 a b ⟨gr, ou, ps, ms, en⟩ = r from by rw [hr]; rfl)
    have hcall := refMove_calls ⟨gr, ou, ps, ms, en⟩ _ a b _ HV.out HL.out
    rw [← hr] at hcall
    have Hcall := Lib.hid hcall; clear hcall hr
    clear k0b
    clear k1b
    clear k2b
    go_enter Try.func60, Try.ntmps60
    go_wp2_with fail
    rw [← HW.out]
    refine Hcall.out.mono ?_
    obtain ⟨⟨gr', ou', ps', ms', en'⟩, n'⟩ := r
    rintro e w1 ⟨v1, rfl, hv1, hb1⟩
    simp only at hv1
    have hv1' := hv1
    obtain ⟨B1, d1, B2, d2, rfl, -, -⟩ := hv1'
    have HZ1 := Lib.hid (HZ.out.below hb1 hsz)
    obtain ⟨⟨z0, z1, z2, z3, z4⟩, ⟨y0, y1, y2, y3, y4⟩⟩ := HZ1.out.five
    have HB1 := Lib.hid (HB0.out.trans (hb1.mono HB0.out.size))
    have HV1 := Lib.hid (hv1.lower HB0.out.size); clear hv1 hb1
    go_wp2
    exact bodyPost_ret (v := .tuple #[.agg #[.int .i64 gr', .int .i64 ou', .slice B1 ps'.length d1, .slice B2 ms'.length d2, .bool en'], .int .i64 n']) (by simp [results, Try.results60, go_sem, *]) rfl
      ⟨_, by rw [Hr.out], by rw [Hr.out]; exact HV1.out.set5 HZ1.out _ _ _ _ _, below_set5 HB1.out (Nat.le_succ_of_le (Nat.le_succ _)) _ _ _ _ _⟩
  have k3b : (k == 3) = false := by simpa using k3
  by_cases k4 : k = 4
  · subst k4
    obtain ⟨r, hr⟩ : ∃ r, r = deliverM ⟨gr, ou, ps, ms, en⟩ a := ⟨_, rfl⟩
    have Hr := Lib.hid (show doM 4 a b ⟨gr, ou, ps, ms, en⟩ = r from by rw [hr]; rfl)
    have hcall := refDeliver_calls ⟨gr, ou, ps, ms, en⟩ _ a _ HV.out HL.out
    rw [← hr] at hcall
    have Hcall := Lib.hid hcall; clear hcall hr
    clear k0b
    clear k1b
    clear k2b
    clear k3b
    go_enter Try.func60, Try.ntmps60
    go_wp2_with fail
    rw [← HW.out]
    refine Hcall.out.mono ?_
    obtain ⟨⟨gr', ou', ps', ms', en'⟩, n'⟩ := r
    rintro e w1 ⟨v1, rfl, hv1, hb1⟩
    simp only at hv1
    have hv1' := hv1
    obtain ⟨B1, d1, B2, d2, rfl, -, -⟩ := hv1'
    have HZ1 := Lib.hid (HZ.out.below hb1 hsz)
    obtain ⟨⟨z0, z1, z2, z3, z4⟩, ⟨y0, y1, y2, y3, y4⟩⟩ := HZ1.out.five
    have HB1 := Lib.hid (HB0.out.trans (hb1.mono HB0.out.size))
    have HV1 := Lib.hid (hv1.lower HB0.out.size); clear hv1 hb1
    go_wp2
    exact bodyPost_ret (v := .tuple #[.agg #[.int .i64 gr', .int .i64 ou', .slice B1 ps'.length d1, .slice B2 ms'.length d2, .bool en'], .int .i64 n']) (by simp [results, Try.results60, go_sem, *]) rfl
      ⟨_, by rw [Hr.out], by rw [Hr.out]; exact HV1.out.set5 HZ1.out _ _ _ _ _, below_set5 HB1.out (Nat.le_succ_of_le (Nat.le_succ _)) _ _ _ _ _⟩
  have k4b : (k == 4) = false := by simpa using k4
  by_cases k5 : k = 5
  · subst k5
    obtain ⟨r, hr⟩ : ∃ r, r = requestM ⟨gr, ou, ps, ms, en⟩ a := ⟨_, rfl⟩
    have Hr := Lib.hid (show doM 5 a b ⟨gr, ou, ps, ms, en⟩ = r from by rw [hr]; rfl)
    have hcall := refRequest_calls ⟨gr, ou, ps, ms, en⟩ _ a _ HV.out HL.out
    rw [← hr] at hcall
    have Hcall := Lib.hid hcall; clear hcall hr
    clear k0b
    clear k1b
    clear k2b
    clear k3b
    clear k4b
    go_enter Try.func60, Try.ntmps60
    go_wp2_with fail
    rw [← HW.out]
    refine Hcall.out.mono ?_
    obtain ⟨⟨gr', ou', ps', ms', en'⟩, n'⟩ := r
    rintro e w1 ⟨v1, rfl, hv1, hb1⟩
    simp only at hv1
    have hv1' := hv1
    obtain ⟨B1, d1, B2, d2, rfl, -, -⟩ := hv1'
    have HZ1 := Lib.hid (HZ.out.below hb1 hsz)
    obtain ⟨⟨z0, z1, z2, z3, z4⟩, ⟨y0, y1, y2, y3, y4⟩⟩ := HZ1.out.five
    have HB1 := Lib.hid (HB0.out.trans (hb1.mono HB0.out.size))
    have HV1 := Lib.hid (hv1.lower HB0.out.size); clear hv1 hb1
    go_wp2
    exact bodyPost_ret (v := .tuple #[.agg #[.int .i64 gr', .int .i64 ou', .slice B1 ps'.length d1, .slice B2 ms'.length d2, .bool en'], .int .i64 n']) (by simp [results, Try.results60, go_sem, *]) rfl
      ⟨_, by rw [Hr.out], by rw [Hr.out]; exact HV1.out.set5 HZ1.out _ _ _ _ _, below_set5 HB1.out (Nat.le_succ_of_le (Nat.le_succ _)) _ _ _ _ _⟩
  exfalso
  clear HV HZ HB0 HW HL k0b k1b k2b k3b k4b hsz
  omega

set_option maxRecDepth 100000 in
set_option maxHeartbeats 4000000 in
theorem matches_calls (t : Thr) (v : Value) (a b lo hi : Int) (w : World) (hv : ThrV w v t) (hl : t.Lens) (h0 : 0 ≤ lo) (h5 : hi ≤ 5) (hlh : lo ≤ hi + 1) :
    Calls Try.prog 22 #[v, .int .i64 a, .int .i64 b, .int .i64 lo, .int .i64 hi] w fun e w' => e = .returned (.bool true) ∧ Below w.heap.size w w' := by
  have hv0 := hv
  obtain ⟨gr, ou, ps, ms, en⟩ := t
  obtain ⟨A1, c1, A2, c2, rfl, k1, k2, k3, k4, k5, k6⟩ := hv
  clear k1 k2 k3 k4 k5 k6
  simp only at hv0 ⊢
  have HL := Lib.hid hl; clear hl
  obtain ⟨W0, hW0⟩ : ∃ W0, W0 = w.alloc (.cells #[.int .i64 gr, .int .i64 ou, .slice A1 ps.length c1, .slice A2 ms.length c2, .bool en] 25) := ⟨_, rfl⟩
  have hB0 : Below w.heap.size w W0 := by rw [hW0]; exact (Below.refl _ _).alloc (Nat.le_refl _) _
  have hbx : Blk W0 w.heap.size 25 #[.int .i64 gr, .int .i64 ou, .slice A1 ps.length c1, .slice A2 ms.length c2, .bool en] := by rw [hW0]; exact Blk.new _ _ _
  have HV := Lib.hid (hv0.below hB0 (Nat.le_refl _)); clear hv0
  have HBX := Lib.hid hbx; clear hbx
  have HB0 := Lib.hid hB0; clear hB0
  have HW := Lib.hid hW0; clear hW0
  go_enter Try.func22, Try.ntmps22
  go_wp2_with fail
  go_loopw [11] (fun i wr => ∃ k : Int, lo ≤ k ∧ k ≤ hi + 1 ∧ i = .int .i64 k ∧ Blk wr w.heap.size 25 #[.int .i64 gr, .int .i64 ou, .slice A1 ps.length c1, .slice A2 ms.length c2, .bool en] ∧ ThrV wr (.agg #[.int .i64 gr, .int .i64 ou, .slice A1 ps.length c1, .slice A2 ms.length c2, .bool en]) ⟨gr, ou, ps, ms, en⟩ ∧ Below w.heap.size w wr) (fun i _ => (hi + 1 - intOf i).toNat)
  case atStart => exact ⟨lo, Int.le_refl _, hlh, rfl, by rw [← HW.out]; exact HBX.out, by rw [← HW.out]; exact HV.out, by rw [← HW.out]; exact HB0.out⟩
  case round =>
    obtain ⟨k, hk1, hk2, rfl, hbx, hvt, hbr⟩ := hrel
    by_cases hle : k ≤ hi
    case neg =>
      have hd : decide (k ≤ hi) = false := decide_eq_false hle
      have Hbr := Lib.hid hbr
      clear hbx hvt hbr hle
      go_wp2
      go_ret
      exact ⟨rfl, Hbr.out⟩
    have hd : decide (k ≤ hi) = true := decide_eq_true hle
    have hk0 : 0 ≤ k := by omega
    have hk5 : k ≤ 5 := by omega
    obtain ⟨⟨b0, b1, b2, b3, b4⟩, -⟩ := hbx.five
    have hblt := hbx.lt
    obtain ⟨r, hr⟩ : ∃ r, r = doM k a b ⟨gr, ou, ps, ms, en⟩ := ⟨_, rfl⟩
    have hcall := do_calls k a b ⟨gr, ou, ps, ms, en⟩ _ (wr.alloc (.cells #[.int .i64 k, .int .i64 a, .int .i64 b] 47)) (hvt.below ((Below.refl _ _).alloc (Nat.le_refl _) _) (Nat.le_refl _)) HL.out
    have hcall2 := fun W (h : ThrV W (.agg #[.int .i64 gr, .int .i64 ou, .slice A1 ps.length c1, .slice A2 ms.length c2, .bool en]) ⟨gr, ou, ps, ms, en⟩) => want_calls k a b ⟨gr, ou, ps, ms, en⟩ _ W h HL.out hk0 hk5
    rw [← hr] at hcall hcall2
    have Hcall := Lib.hid hcall
    have Hcall2 := Lib.hid hcall2
    have Hbx := Lib.hid hbx
    have Hvt := Lib.hid hvt
    have Hbr := Lib.hid hbr
    have Hrr := Lib.hid hr
    clear hcall hcall2 hbx hvt hbr hr
    go_wp2_with fail
    refine Hcall.out.mono ?_
    obtain ⟨⟨gr2, ou2, ps2, ms2, en2⟩, n2⟩ := r
    rintro e w4 ⟨v4, rfl, hv4, hb4⟩
    simp only at hv4
    have hv4' := hv4
    obtain ⟨G1, g1, G2, g2, rfl, -, -⟩ := hv4'
    have hwr : wr.heap.size ≤ (wr.alloc (.cells #[.int .i64 k, .int .i64 a, .int .i64 b] 47)).heap.size := by simp
    have hb4' : Below wr.heap.size wr w4 := ((Below.refl _ wr).alloc (Nat.le_refl _) _).trans (hb4.mono hwr)
    have hxk : Blk w4 wr.heap.size 47 #[.int .i64 k, .int .i64 a, .int .i64 b] := (Blk.new wr 47 #[.int .i64 k, .int .i64 a, .int .i64 b]).below hb4 (Blk.new wr 47 #[.int .i64 k, .int .i64 a, .int .i64 b]).lt
    have hbx4 := Hbx.out.below hb4' Hbx.out.lt
    have hxlt := hxk.lt
    have hblt4 := hbx4.lt
    clear b0 b1 b2 b3 b4
    obtain ⟨⟨b0, b1, b2, b3, b4⟩, -⟩ := hbx4.five
    have e0 : w4.cell? ⟨wr.heap.size, 0, none⟩ = some (.int .i64 k) := by rw [hxk.cell 0]; rfl
    have e1 : w4.cell? ⟨wr.heap.size, 1, none⟩ = some (.int .i64 a) := by rw [hxk.cell 1]; rfl
    have e2 : w4.cell? ⟨wr.heap.size, 2, none⟩ = some (.int .i64 b) := by rw [hxk.cell 2]; rfl
    obtain ⟨W5, hW5⟩ : ∃ W5, W5 = w4.alloc (.cells #[.int .i64 gr2, .int .i64 ou2, .slice G1 ps2.length g1, .slice G2 ms2.length g2, .bool en2] 25) := ⟨_, rfl⟩
    have hb45 : Below wr.heap.size wr W5 := by rw [hW5]; exact hb4'.alloc hb4'.size _
    have hu : Blk W5 w4.heap.size 25 #[.int .i64 gr2, .int .i64 ou2, .slice G1 ps2.length g1, .slice G2 ms2.length g2, .bool en2] := by rw [hW5]; exact Blk.new _ _ _
    have hVu : ThrV W5 (.agg #[.int .i64 gr2, .int .i64 ou2, .slice G1 ps2.length g1, .slice G2 ms2.length g2, .bool en2]) ⟨gr2, ou2, ps2, ms2, en2⟩ := by rw [hW5]; exact (hv4.alloc _).val
    have Hbx5 := Lib.hid (Hbx.out.below hb45 Hbx.out.lt)
    have Hvt5 := Lib.hid (Hvt.out.below hb45 (Nat.le_refl _))
    have Hbr5 := Lib.hid (Hbr.out.trans (hb45.mono Hbr.out.size))
    have Hu := Lib.hid hu
    have HVu := Lib.hid hVu
    have HW5 := Lib.hid hW5
    clear hb45 hu hVu hW5 hv4 hb4 hb4' hxk hbx4 hwr
    go_wp2_with fail
    rw [← HW5.out]
    refine (Hcall2.out _ Hvt5.out).mono ?_
    rintro e w6 ⟨v6, rfl, hv6, hb6⟩
    simp only at hv6
    have hv6' := hv6
    obtain ⟨I1, i1, I2, i2, rfl, -, -⟩ := hv6'
    obtain ⟨W7, hW7⟩ : ∃ W7, W7 = w6.alloc (.cells #[.int .i64 gr2, .int .i64 ou2, .slice I1 ps2.length i1, .slice I2 ms2.length i2, .bool en2] 25) := ⟨_, rfl⟩
    have hb67 : Below W5.heap.size W5 W7 := by rw [hW7]; exact hb6.alloc hb6.size _
    have hVv : ThrV W7 (.agg #[.int .i64 gr2, .int .i64 ou2, .slice I1 ps2.length i1, .slice I2 ms2.length i2, .bool en2]) ⟨gr2, ou2, ps2, ms2, en2⟩ := by rw [hW7]; exact (hv6.alloc _).val
    have hu6 := Hu.out.below hb6 Hu.out.lt
    have hult := hu6.lt
    have HVu7 := Lib.hid (HVu.out.below hb67 (Nat.le_refl _))
    have Hbx7 := Lib.hid (Hbx5.out.below hb67 Hbx5.out.lt)
    have Hvt7 := Lib.hid (Hvt5.out.below hb67 (Nat.le_refl _))
    have Hbr7 := Lib.hid (Hbr5.out.trans (hb67.mono Hbr5.out.size))
    clear b0 b1 b2 b3 b4 e0 e1 e2
    obtain ⟨⟨u0, u1, u2, u3, u4⟩, -⟩ := hu6.five
    have hlens : Thr.Lens ⟨gr2, ou2, ps2, ms2, en2⟩ := by
      by_cases h0' : n2 = 0
      · subst h0'
        have := ((do_step k a b ⟨gr, ou, ps, ms, en⟩).2 (by rw [← Hrr.out])).ok
        rw [← Hrr.out] at this
        exact ok_lens this
      · have := (do_step k a b ⟨gr, ou, ps, ms, en⟩).1 (by rw [← Hrr.out]; exact h0')
        rw [← Hrr.out] at this
        simp only at this
        rw [this]
        exact ⟨by simp [Thr.zero], by simp [Thr.zero]⟩
    have Hlens := Lib.hid hlens
    have HVv := Lib.hid hVv
    have HW7 := Lib.hid hW7
    clear hVv hW7 hlens hv6 hb6 hb67 hu6
    go_wp2_with fail
    rw [← HW7.out]
    refine (same_calls ⟨gr2, ou2, ps2, ms2, en2⟩ _ _ W7 HVu7.out HVv.out Hlens.out).mono ?_
    rintro e w8 ⟨rfl, hb8⟩
    have Hbx8 := Lib.hid (Hbx7.out.below hb8 Hbx7.out.lt)
    have Hvt8 := Lib.hid (Hvt7.out.below hb8 (Nat.le_refl _))
    have Hbr8 := Lib.hid (Hbr7.out.trans (hb8.mono Hbr7.out.size))
    clear hb8 u0 u1 u2 u3 u4
    go_wp2
    go_roundw
    case rel => exact ⟨k + 1, by omega, by omega, by go_num, Hbx8.out, Hvt8.out, Hbr8.out⟩
    case measure => simp [intOf]; omega
end Go.Proofs.Ythdlmnkefheliaa
