import Derived.Test.YthdlmnkefheliaaD20
set_option linter.unusedVariables false
set_option linter.unusedSimpArgs false
namespace Go.Proofs.Ythdlmnkefheliaa
open Go.RowKit

theorem eqin42 (d : Nat) (w : World) (a b a' b' : Int) : (Op.equalIn (d + 2) 42 (.agg #[.int .i64 a, .int .i64 b]) (.agg #[.int .i64 a', .int .i64 b'])).run Try.prog w = .ok (a == a' && b == b') w := by
  have hu := run_underlying (P := Try.prog) (t := 42) Try.underlying42
  have hq : ∀ (x y : Int) (w : World), (Op.equalIn (d + 1) 3 (.int .i64 x) (.int .i64 y)).run Try.prog w = .ok (x == y) w := fun x y w => run_equalIn_int w d 3 .i64 .i64 x y Try.underlying3
  have ha : ∀ w, (isAgg 3).run Try.prog w = .ok false w := fun w => by kernel_rfl
  have hs : ∀ w, (sizeOf 3).run Try.prog w = .ok 1 w := fun w => by kernel_rfl
  rw [Op.equalIn, Sem.run_bind, hu]
  by_cases e1 : a = a' <;> by_cases e2 : b = b' <;> simp [part, Sem.run_bind, ha, hs, hq, List.range', List.forIn_cons, e1, e2]
theorem neq42 (w : World) (a b a' b' : Int) : (binOp .neq 42 (.agg #[.int .i64 a, .int .i64 b]) (.agg #[.int .i64 a', .int .i64 b'])).run Try.prog w = .ok (.bool (!(a == a' && b == b'))) w := by
  rw [run_neq_struct, eqin42 9998]; rfl
theorem take_eq_succ {T : Type} {xs ys : List T} {k : Nat} {x y : T} (h : xs.take k = ys.take k) (hx : xs[k]? = some x) (hy : ys[k]? = some y) (hxy : x = y) : xs.take (k + 1) = ys.take (k + 1) := by
  obtain ⟨h1, rfl⟩ := List.getElem?_eq_some_iff.1 hx
  obtain ⟨h2, rfl⟩ := List.getElem?_eq_some_iff.1 hy
  rw [List.take_succ_eq_append_getElem h1, List.take_succ_eq_append_getElem h2, h, hxy]

set_option maxHeartbeats 4000000 in
theorem equalP_calls (xs ys : List (Int × Int)) (A A' : Option Addr) (c c' : Nat) (w : World) (hx : xs.length ≤ 20000000) (hy : ys.length ≤ 20000000) (hr : Rd w A (xs.flatMap encH)) (hr' : Rd w A' (ys.flatMap encH)) :
    Calls Try.prog 27 #[.slice A xs.length c, .slice A' ys.length c'] w fun e w' => e = .returned (.bool (decide (xs = ys))) ∧ Below w.heap.size w w' := by
  have Hr := Lib.hid hr; clear hr
  have Hr' := Lib.hid hr'; clear hr'
  by_cases hl : xs.length = ys.length
  case neg =>
    have hlb : (xs.length != ys.length) = true := by simpa using hl
    have hf : decide (xs = ys) = false := by rw [decide_eq_false_iff_not]; intro e; exact hl (by rw [e])
    have Hf := Lib.hid hf; clear hf
    have hli : ¬ (xs.length : Int) = ys.length := by omega
    go_enter Try.func27, Try.ntmps27
    go_wp2
    go_ret
    exact ⟨by rw [Hf.out]; try rfl, Below.refl _ _⟩
  have hund : (undef : Value) = .tuple #[] := rfl
  have hn42 := neq42
  go_enter Try.func27, Try.ntmps27
  go_wp2
  go_loopw [5, 13] (fun _ i wr => ∃ k : Nat, k ≤ xs.length ∧ i = .int .i64 k ∧ xs.take k = ys.take k ∧ Below w.heap.size w wr) (fun _ i _ => xs.length - (intOf i).toNat)
  case atStart => exact ⟨0, Nat.zero_le _, rfl, rfl, Below.refl _ _⟩
  case round =>
    obtain ⟨k, hk, rfl, hpre, hB⟩ := hrel
    have Hpre := Lib.hid hpre; clear hpre
    have HB := Lib.hid hB; clear hB
    by_cases hlt : k < xs.length
    · have hlt2 : k < ys.length := by omega
      obtain ⟨x, hx'⟩ : ∃ x, xs[k]? = some x := ⟨_, List.getElem?_eq_getElem hlt⟩
      obtain ⟨y, hy'⟩ : ∃ y, ys[k]? = some y := ⟨_, List.getElem?_eq_getElem hlt2⟩
      obtain ⟨g, off, rfl, c0, c1⟩ := Rd.atH (Hr.out.below HB.out (Nat.le_refl _)) hx'
      obtain ⟨g', off', rfl, d0, d1⟩ := Rd.atH (Hr'.out.below HB.out (Nat.le_refl _)) hy'
      obtain ⟨x0, x1⟩ := x
      obtain ⟨y0, y1⟩ := y
      simp only at c0 c1 d0 d1
      have Hx := Lib.hid hx'; clear hx'
      have Hy := Lib.hid hy'; clear hy'
      by_cases h0 : x0 = y0
      · skip
        by_cases h1 : x1 = y1
        · skip
          have hb0 : (x0 == y0) = true := by simpa using h0
          have hb1 : (x1 == y1) = true := by simpa using h1
          go_wp2
          go_quiet (fail)
          go_wp2
          go_roundw
          case rel => exact ⟨k + 1, by omega, by go_num, take_eq_succ Hpre.out Hx.out Hy.out (by simp [h0, h1]), below_drewN HB.out _⟩
          case measure => simp [intOf]; omega
        · skip
          have hb0 : (x0 == y0) = true := by simpa using h0
          have hb1 : (x1 == y1) = false := by simpa using h1
          have hf : decide (xs = ys) = false := by
            rw [decide_eq_false_iff_not]
            intro e
            have h1 := Hx.out
            rw [e, Hy.out] at h1
            injection h1 with h1
            simp only [Prod.mk.injEq] at h1
            omega
          have Hf := Lib.hid hf; clear hf
          go_wp2
          go_quiet (fail)
          go_wp2
          go_ret
          exact ⟨by rw [Hf.out]; try rfl, below_drewN HB.out _⟩
      · skip
        have hb0 : (x0 == y0) = false := by simpa using h0
        have hf : decide (xs = ys) = false := by
          rw [decide_eq_false_iff_not]
          intro e
          have h1 := Hx.out
          rw [e, Hy.out] at h1
          injection h1 with h1
          simp only [Prod.mk.injEq] at h1
          omega
        have Hf := Lib.hid hf; clear hf
        go_wp2
        go_quiet (fail)
        go_wp2
        go_ret
        exact ⟨by rw [Hf.out]; try rfl, below_drewN HB.out _⟩
    · have hke : k = xs.length := by omega
      subst hke
      have ht : decide (xs = ys) = true := by
        rw [decide_eq_true_eq]
        have := Hpre.out
        rw [List.take_length, hl, List.take_length] at this
        exact this
      have Ht := Lib.hid ht; clear ht
      go_wp2
      go_ret
      exact ⟨by rw [Ht.out]; try rfl, HB.out⟩

set_option maxHeartbeats 4000000 in
theorem equalL_calls (xs ys : List (Int × Int × Int)) (A A' : Option Addr) (c c' : Nat) (w : World) (hx : xs.length ≤ 20000000) (hy : ys.length ≤ 20000000) (hr : Rd w A (xs.flatMap encL)) (hr' : Rd w A' (ys.flatMap encL)) :
    Calls Try.prog 50 #[.slice A xs.length c, .slice A' ys.length c'] w fun e w' => e = .returned (.bool (decide (xs = ys))) ∧ Below w.heap.size w w' := by
  have Hr := Lib.hid hr; clear hr
  have Hr' := Lib.hid hr'; clear hr'
  by_cases hl : xs.length = ys.length
  case neg =>
    have hlb : (xs.length != ys.length) = true := by simpa using hl
    have hf : decide (xs = ys) = false := by rw [decide_eq_false_iff_not]; intro e; exact hl (by rw [e])
    have Hf := Lib.hid hf; clear hf
    have hli : ¬ (xs.length : Int) = ys.length := by omega
    go_enter Try.func50, Try.ntmps50
    go_wp2
    go_ret
    exact ⟨by rw [Hf.out]; try rfl, Below.refl _ _⟩
  have hund : (undef : Value) = .tuple #[] := rfl
  go_enter Try.func50, Try.ntmps50
  go_wp2
  go_loopw [5, 13] (fun _ i wr => ∃ k : Nat, k ≤ xs.length ∧ i = .int .i64 k ∧ xs.take k = ys.take k ∧ Below w.heap.size w wr) (fun _ i _ => xs.length - (intOf i).toNat)
  case atStart => exact ⟨0, Nat.zero_le _, rfl, rfl, Below.refl _ _⟩
  case round =>
    obtain ⟨k, hk, rfl, hpre, hB⟩ := hrel
    have Hpre := Lib.hid hpre; clear hpre
    have HB := Lib.hid hB; clear hB
    by_cases hlt : k < xs.length
    · have hlt2 : k < ys.length := by omega
      obtain ⟨x, hx'⟩ : ∃ x, xs[k]? = some x := ⟨_, List.getElem?_eq_getElem hlt⟩
      obtain ⟨y, hy'⟩ : ∃ y, ys[k]? = some y := ⟨_, List.getElem?_eq_getElem hlt2⟩
      obtain ⟨g, off, rfl, c0, c1, c2⟩ := Rd.atL (Hr.out.below HB.out (Nat.le_refl _)) hx'
      obtain ⟨g', off', rfl, d0, d1, d2⟩ := Rd.atL (Hr'.out.below HB.out (Nat.le_refl _)) hy'
      obtain ⟨x0, x1, x2⟩ := x
      obtain ⟨y0, y1, y2⟩ := y
      simp only at c0 c1 c2 d0 d1 d2
      have Hx := Lib.hid hx'; clear hx'
      have Hy := Lib.hid hy'; clear hy'
      by_cases h0 : x0 = y0
      · skip
        by_cases h1 : x1 = y1
        · skip
          by_cases h2 : x2 = y2
          · skip
            have hb0 : (x0 == y0) = true := by simpa using h0
            have hb1 : (x1 == y1) = true := by simpa using h1
            have hb2 : (x2 == y2) = true := by simpa using h2
            go_wp2
            go_quiet (fail)
            go_wp2
            go_roundw
            case rel => exact ⟨k + 1, by omega, by go_num, take_eq_succ Hpre.out Hx.out Hy.out (by simp [h0, h1, h2]), below_drewN HB.out _⟩
            case measure => simp [intOf]; omega
          · skip
            have hb0 : (x0 == y0) = true := by simpa using h0
            have hb1 : (x1 == y1) = true := by simpa using h1
            have hb2 : (x2 == y2) = false := by simpa using h2
            have hf : decide (xs = ys) = false := by
              rw [decide_eq_false_iff_not]
              intro e
              have h1 := Hx.out
              rw [e, Hy.out] at h1
              injection h1 with h1
              simp only [Prod.mk.injEq] at h1
              omega
            have Hf := Lib.hid hf; clear hf
            go_wp2
            go_quiet (fail)
            go_wp2
            go_ret
            exact ⟨by rw [Hf.out]; try rfl, below_drewN HB.out _⟩
        · skip
          have hb0 : (x0 == y0) = true := by simpa using h0
          have hb1 : (x1 == y1) = false := by simpa using h1
          have hf : decide (xs = ys) = false := by
            rw [decide_eq_false_iff_not]
            intro e
            have h1 := Hx.out
            rw [e, Hy.out] at h1
            injection h1 with h1
            simp only [Prod.mk.injEq] at h1
            omega
          have Hf := Lib.hid hf; clear hf
          go_wp2
          go_quiet (fail)
          go_wp2
          go_ret
          exact ⟨by rw [Hf.out]; try rfl, below_drewN HB.out _⟩
      · skip
        have hb0 : (x0 == y0) = false := by simpa using h0
        have hf : decide (xs = ys) = false := by
          rw [decide_eq_false_iff_not]
          intro e
          have h1 := Hx.out
          rw [e, Hy.out] at h1
          injection h1 with h1
          simp only [Prod.mk.injEq] at h1
          omega
        have Hf := Lib.hid hf; clear hf
        go_wp2
        go_quiet (fail)
        go_wp2
        go_ret
        exact ⟨by rw [Hf.out]; try rfl, below_drewN HB.out _⟩
    · have hke : k = xs.length := by omega
      subst hke
      have ht : decide (xs = ys) = true := by
        rw [decide_eq_true_eq]
        have := Hpre.out
        rw [List.take_length, hl, List.take_length] at this
        exact this
      have Ht := Lib.hid ht; clear ht
      go_wp2
      go_ret
      exact ⟨by rw [Ht.out]; try rfl, HB.out⟩
end Go.Proofs.Ythdlmnkefheliaa
