import Derived.Test.YthdlmnkefheliaaD3
set_option linter.unusedVariables false
set_option linter.unusedSimpArgs false
namespace Go.Proofs.Ythdlmnkefheliaa
open Go.RowKit
set_option maxHeartbeats 2000000 in
theorem refLetter_calls (t : Thr) (l : Int × Int × Int) (v : Value) (w : World) (hv : ThrV w v t) (h0 : 1 ≤ t.procs.length) (h1 : t.procs.length ≤ 16) :
    Calls Try.prog 58 #[v, .agg #[.int .i64 l.1, .int .i64 l.2.1, .int .i64 l.2.2]] w fun e w' => e = .returned (.bool (letterOk t.procs.length l)) ∧ Below w.heap.size w w' := by
  obtain ⟨gr, ou, ps, ms, en⟩ := t
  obtain ⟨k, tt, n⟩ := l
  obtain ⟨A1, c1, A2, c2, rfl, -, -, -, -, -, -⟩ := hv
  simp only at h0 h1 ⊢
  have HF : letterOk ps.length (k, tt, n) = letterOk ps.length (k, tt, n) := rfl
  obtain ⟨r, hr⟩ : ∃ r, letterOk ps.length (k, tt, n) = r := ⟨_, rfl⟩
  have Hr := Lib.hid hr
  rw [hr]
  rw [letterOk] at hr
  simp only at hr
  by_cases hw0 : n < 0
  · have hb : decide (n < 0) = true := decide_eq_true hw0
    obtain rfl : r = false := by
      rw [← hr]; unfold bd
      split
      · simp; omega
      · split
        · simp; omega
        · split <;> simp <;> omega
    clear hr
    go_enter Try.func58, Try.ntmps58
    go_wp2
    go_ret
    exact ⟨rfl, ((Below.refl _ _).alloc (Nat.le_refl _) _).alloc (by simp) _⟩
  have hw0b : decide (n < 0) = false := decide_eq_false hw0
  by_cases hw1 : 1099511627776 < n
  · have hb : decide (1099511627776 < n) = true := decide_eq_true hw1
    obtain rfl : r = false := by
      rw [← hr]; unfold bd
      split
      · simp; omega
      · split
        · simp; omega
        · split <;> simp <;> omega
    clear hr
    go_enter Try.func58, Try.ntmps58
    go_wp2
    go_ret
    exact ⟨rfl, ((Below.refl _ _).alloc (Nat.le_refl _) _).alloc (by simp) _⟩
  have hw1b : decide (1099511627776 < n) = false := decide_eq_false hw1
  by_cases ht0 : tt < 0
  · have hb : decide (tt < 0) = true := decide_eq_true ht0
    obtain rfl : r = false := by
      rw [← hr]; unfold bd
      split
      · simp; omega
      · split
        · simp; omega
        · split <;> simp <;> omega
    clear hr
    go_enter Try.func58, Try.ntmps58
    go_wp2
    go_ret
    exact ⟨rfl, ((Below.refl _ _).alloc (Nat.le_refl _) _).alloc (by simp) _⟩
  have ht0b : decide (tt < 0) = false := decide_eq_false ht0
  by_cases ht1 : (ps.length : Int) ≤ tt
  · have hb : decide ((ps.length : Int) ≤ tt) = true := decide_eq_true ht1
    obtain rfl : r = false := by
      rw [← hr]; unfold bd
      split
      · simp; omega
      · split
        · simp; omega
        · split <;> simp <;> omega
    clear hr
    go_enter Try.func58, Try.ntmps58
    go_wp2
    go_ret
    exact ⟨rfl, ((Below.refl _ _).alloc (Nat.le_refl _) _).alloc (by simp) _⟩
  have ht1b : decide ((ps.length : Int) ≤ tt) = false := decide_eq_false ht1
  have hbt : bd 0 (ps.length - 1) tt = true := by rw [bd_iff]; omega
  have hbn : bd 1 1099511627776 n = decide (1 ≤ n) := by unfold bd; rw [Bool.eq_iff_iff]; simp; omega
  rw [hbt, hbn] at hr
  clear hbt hbn
  by_cases k1 : k = 1
  · subst k1
    obtain rfl : r = decide (1 ≤ n) := by rw [← hr]; simp
    clear hr
    go_enter Try.func58, Try.ntmps58
    go_wp2
    go_ret
    exact ⟨rfl, ((Below.refl _ _).alloc (Nat.le_refl _) _).alloc (by simp) _⟩
  have k1b : (k == 1) = false := by simpa using k1
  by_cases k4 : k = 4
  · subst k4
    obtain rfl : r = decide (1 ≤ n) := by rw [← hr]; simp
    clear hr
    go_enter Try.func58, Try.ntmps58
    go_wp2
    go_ret
    exact ⟨rfl, ((Below.refl _ _).alloc (Nat.le_refl _) _).alloc (by simp) _⟩
  have k4b : (k == 4) = false := by simpa using k4
  by_cases k2 : k = 2
  · subst k2
    by_cases hn : 1 ≤ n
    · have hnb : decide (1 ≤ n) = true := decide_eq_true hn
      obtain rfl : r = (tt == 0) := by rw [← hr]; simp [hn]
      clear hr
      go_enter Try.func58, Try.ntmps58
      go_wp2
      go_ret
      exact ⟨rfl, ((Below.refl _ _).alloc (Nat.le_refl _) _).alloc (by simp) _⟩
    · have hnb : decide (1 ≤ n) = false := decide_eq_false hn
      obtain rfl : r = false := by rw [← hr]; simp [hn]
      clear hr
      go_enter Try.func58, Try.ntmps58
      go_wp2
      go_ret
      exact ⟨rfl, ((Below.refl _ _).alloc (Nat.le_refl _) _).alloc (by simp) _⟩
  have k2b : (k == 2) = false := by simpa using k2
  by_cases k3 : k = 3
  · subst k3
    obtain rfl : r = (n == 0) := by rw [← hr]; simp
    clear hr
    go_enter Try.func58, Try.ntmps58
    go_wp2
    go_ret
    exact ⟨rfl, ((Below.refl _ _).alloc (Nat.le_refl _) _).alloc (by simp) _⟩
  have k3b : (k == 3) = false := by simpa using k3
  obtain rfl : r = false := by rw [← hr]; simp [k1, k2, k3, k4]
  clear hr
  go_enter Try.func58, Try.ntmps58
  go_wp2
  go_ret
  exact ⟨rfl, ((Below.refl _ _).alloc (Nat.le_refl _) _).alloc (by simp) _⟩
end Go.Proofs.Ythdlmnkefheliaa
