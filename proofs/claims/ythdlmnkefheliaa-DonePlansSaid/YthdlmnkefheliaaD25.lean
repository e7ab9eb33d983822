import Derived.Test.YthdlmnkefheliaaD5
set_option linter.unusedVariables false
set_option linter.unusedSimpArgs false
namespace Go.Proofs.Ythdlmnkefheliaa
open Go.RowKit

set_option maxHeartbeats 4000000 in
theorem refCheckBig_calls (t : Thr) (v : Value) (w : World) (hv : ThrV w v t) (hl : 16 < t.procs.length) :
    Calls Try.prog 21 #[v] w fun e w' => e = .returned (.int .i64 t.check) ∧ Below w.heap.size w w' := by
  obtain ⟨gr, ou, ps, ms, en⟩ := t
  obtain ⟨A1, c1, A2, c2, rfl, k1, k2, k3, k4, k5, k6⟩ := hv
  simp only at hl k1 k2 k3 k4 k5 k6
  obtain ⟨W0, hW0⟩ : ∃ W0, W0 = w.alloc (.cells #[.int .i64 gr, .int .i64 ou, .slice A1 ps.length c1, .slice A2 ms.length c2, .bool en] 25) := ⟨_, rfl⟩
  have hB0 : Below w.heap.size w W0 := by rw [hW0]; exact (Below.refl _ _).alloc (Nat.le_refl _) _
  have HV := Lib.hid (show ThrV W0 _ ⟨gr, ou, ps, ms, en⟩ from ThrV.below ⟨A1, c1, A2, c2, rfl, k1, k2, k3, k4, k5, k6⟩ hB0 (Nat.le_refl _))
  clear k1 k2 k4 k5
  have HR1 := Lib.hid (k3.below hB0 (Nat.le_refl _)); clear k3
  have HR2 := Lib.hid (k6.below hB0 (Nat.le_refl _)); clear k6
  have hsz : w.heap.size < W0.heap.size := by rw [hW0]; simp
  have HC : ∀ i u, (#[.int .i64 gr, .int .i64 ou, .slice A1 ps.length c1, .slice A2 ms.length c2, .bool en] : Array Value)[i]? = some u → W0.cell? ⟨w.heap.size, i, none⟩ = some u := by
    intro i u hu; rw [hW0]; unfold World.cell?; rw [heap_alloc_new]; simpa using hu
  have HCC := Lib.hid HC; clear HC
  have HB0 := Lib.hid hB0; clear hB0
  have HW := Lib.hid hW0; clear hW0
  by_cases a0 : gr < 2
  · have b : decide (gr < 2) = true := decide_eq_true a0
    have hfin : Thr.check ⟨gr, ou, ps, ms, en⟩ = 280 := check_bad (by simp only [Thr.ok, Thr.headOk]; rw [show bd 2 1048576 gr = false from by rw [← Bool.not_eq_true, bd_iff]; omega]; simp)
    have Hfin := Lib.hid hfin; clear hfin
    go_enter Try.func21, Try.ntmps21
    go_wp2
    go_ret
    exact ⟨by rw [Hfin.out]; rfl, (Below.refl _ _).alloc (Nat.le_refl _) _⟩
  have b0 : decide (gr < 2) = false := decide_eq_false a0
  by_cases a1 : 1048576 < gr
  · have b : decide (1048576 < gr) = true := decide_eq_true a1
    have hfin : Thr.check ⟨gr, ou, ps, ms, en⟩ = 280 := check_bad (by simp only [Thr.ok, Thr.headOk]; rw [show bd 2 1048576 gr = false from by rw [← Bool.not_eq_true, bd_iff]; omega]; simp)
    have Hfin := Lib.hid hfin; clear hfin
    go_enter Try.func21, Try.ntmps21
    go_wp2
    go_ret
    exact ⟨by rw [Hfin.out]; rfl, (Below.refl _ _).alloc (Nat.le_refl _) _⟩
  have b1 : decide (1048576 < gr) = false := decide_eq_false a1
  have a2 : ¬ ps.length < 1 := by omega
  have b2 : decide (ps.length < 1) = false := decide_eq_false a2
  have a3 := hl
  · have b : decide (16 < ps.length) = true := decide_eq_true a3
    have hfin : Thr.check ⟨gr, ou, ps, ms, en⟩ = 280 := check_bad (by simp only [Thr.ok, Thr.headOk]; rw [show bd 1 16 (ps.length : Int) = false from by rw [← Bool.not_eq_true, bd_iff]; omega]; simp)
    have Hfin := Lib.hid hfin; clear hfin
    go_enter Try.func21, Try.ntmps21
    go_wp2
    go_ret
    exact ⟨by rw [Hfin.out]; rfl, (Below.refl _ _).alloc (Nat.le_refl _) _⟩

theorem refCheckAny_calls (t : Thr) (v : Value) (w : World) (hv : ThrV w v t) (hl : t.mail.length ≤ 100000) :
    Calls Try.prog 21 #[v] w fun e w' => e = .returned (.int .i64 t.check) ∧ Below w.heap.size w w' := by
  by_cases h : t.procs.length ≤ 100000
  · exact refCheck_calls t v w hv ⟨h, hl⟩
  · exact refCheckBig_calls t v w hv (by omega)
end Go.Proofs.Ythdlmnkefheliaa
