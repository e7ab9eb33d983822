import Derived.Test.YthdlmnkefheliaaD8
set_option linter.unusedVariables false
set_option linter.unusedSimpArgs false
namespace Go.Proofs.Ythdlmnkefheliaa
open Go.RowKit

def maxI (xs : List Int) : Int := xs.foldl max (xs.headD 0)
theorem take_max {xs : List Int} {k : Nat} {x h : Int} (hx : xs[k]? = some x) : (xs.take (k + 1)).foldl max h = max ((xs.take k).foldl max h) x := by
  obtain ⟨hk, rfl⟩ := List.getElem?_eq_some_iff.1 hx
  rw [List.take_succ_eq_append_getElem hk, List.foldl_append]; rfl
set_option maxHeartbeats 1000000 in
theorem max_calls (xs : List Int) (A : Option Addr) (c : Nat) (w : World) (hlen : xs.length ≤ 100000) (hne : 1 ≤ xs.length) (hr : Rd w A (xs.flatMap encI)) :
    Calls Try.prog 45 #[.slice A xs.length c] w fun e w' => e = .returned (.int .i64 (maxI xs)) ∧ Below w.heap.size w w' := by
  have Hr := Lib.hid hr; clear hr
  obtain ⟨x0, hx0⟩ : ∃ x, xs[0]? = some x := ⟨_, List.getElem?_eq_getElem (by omega)⟩
  obtain ⟨g, off, rfl, c0⟩ := Rd.atI Hr.out hx0
  rw [Nat.add_zero] at c0
  have hh : xs.headD 0 = x0 := by cases xs with | nil => simp at hx0 | cons a t => simpa using hx0
  have Hh := Lib.hid hh; clear hh
  have Hx0 := Lib.hid hx0; clear hx0
  have hlt1 : ¬ xs.length < 1 := by omega
  go_enter Try.func45, Try.ntmps45
  go_wp2
  go_loopw [3, 4] (fun m i wr => ∃ (k : Nat) (z : Int), k ≤ xs.length ∧ 1 ≤ k ∧ i = .int .i64 k ∧ m = .int .i64 z ∧ (xs.take k).foldl max x0 = z ∧ Below w.heap.size w wr) (fun _ i _ => xs.length - (intOf i).toNat)
  case atStart => exact ⟨1, x0, hne, Nat.le_refl _, rfl, rfl, by rw [take_max (h := x0) Hx0.out]; simp, Below.refl _ _⟩
  case round =>
    obtain ⟨k, z, hk, hk1, rfl, rfl, hz, hB⟩ := hrel
    have Hz := Lib.hid hz; clear hz
    have HB := Lib.hid hB; clear hB
    by_cases hlt : k < xs.length
    · obtain ⟨x, hx⟩ : ∃ x, xs[k]? = some x := ⟨_, List.getElem?_eq_getElem hlt⟩
      obtain ⟨g', off', hg, c1⟩ := Rd.atI (Hr.out.below HB.out (Nat.le_refl _)) hx
      injection hg with hg
      injection hg with hg1 hg2 _
      subst hg1 hg2
      have Hx := Lib.hid hx; clear hx
      by_cases hm : z < x
      · have hm1 : decide (z < x) = true := decide_eq_true hm
        have Hm := Lib.hid hm
        go_wp2
        go_roundw
        case rel => exact ⟨k + 1, _, by omega, by omega, by go_num, rfl, by rw [take_max Hx.out, Hz.out]; omega, HB.out⟩
        case measure => simp [intOf]; omega
      · have hm1 : decide (z < x) = false := decide_eq_false hm
        have Hm := Lib.hid hm
        go_wp2
        go_roundw
        case rel => exact ⟨k + 1, _, by omega, by omega, by go_num, rfl, by rw [take_max Hx.out, Hz.out]; omega, HB.out⟩
        case measure => simp [intOf]; omega
    · have hke : k = xs.length := by omega
      subst hke
      go_wp2
      go_ret
      have h1 : maxI xs = z := by rw [maxI, Hh.out, ← Hz.out, List.take_length]
      exact ⟨by rw [h1]; try rfl, HB.out⟩

def minI (xs : List Int) : Int := xs.foldl min (xs.headD 0)
theorem take_min {xs : List Int} {k : Nat} {x h : Int} (hx : xs[k]? = some x) : (xs.take (k + 1)).foldl min h = min ((xs.take k).foldl min h) x := by
  obtain ⟨hk, rfl⟩ := List.getElem?_eq_some_iff.1 hx
  rw [List.take_succ_eq_append_getElem hk, List.foldl_append]; rfl
set_option maxHeartbeats 1000000 in
theorem min_calls (xs : List Int) (A : Option Addr) (c : Nat) (w : World) (hlen : xs.length ≤ 100000) (hne : 1 ≤ xs.length) (hr : Rd w A (xs.flatMap encI)) :
    Calls Try.prog 46 #[.slice A xs.length c] w fun e w' => e = .returned (.int .i64 (minI xs)) ∧ Below w.heap.size w w' := by
  have Hr := Lib.hid hr; clear hr
  obtain ⟨x0, hx0⟩ : ∃ x, xs[0]? = some x := ⟨_, List.getElem?_eq_getElem (by omega)⟩
  obtain ⟨g, off, rfl, c0⟩ := Rd.atI Hr.out hx0
  rw [Nat.add_zero] at c0
  have hh : xs.headD 0 = x0 := by cases xs with | nil => simp at hx0 | cons a t => simpa using hx0
  have Hh := Lib.hid hh; clear hh
  have Hx0 := Lib.hid hx0; clear hx0
  have hlt1 : ¬ xs.length < 1 := by omega
  go_enter Try.func46, Try.ntmps46
  go_wp2
  go_loopw [3, 4] (fun m i wr => ∃ (k : Nat) (z : Int), k ≤ xs.length ∧ 1 ≤ k ∧ i = .int .i64 k ∧ m = .int .i64 z ∧ (xs.take k).foldl min x0 = z ∧ Below w.heap.size w wr) (fun _ i _ => xs.length - (intOf i).toNat)
  case atStart => exact ⟨1, x0, hne, Nat.le_refl _, rfl, rfl, by rw [take_min (h := x0) Hx0.out]; simp, Below.refl _ _⟩
  case round =>
    obtain ⟨k, z, hk, hk1, rfl, rfl, hz, hB⟩ := hrel
    have Hz := Lib.hid hz; clear hz
    have HB := Lib.hid hB; clear hB
    by_cases hlt : k < xs.length
    · obtain ⟨x, hx⟩ : ∃ x, xs[k]? = some x := ⟨_, List.getElem?_eq_getElem hlt⟩
      obtain ⟨g', off', hg, c1⟩ := Rd.atI (Hr.out.below HB.out (Nat.le_refl _)) hx
      injection hg with hg
      injection hg with hg1 hg2 _
      subst hg1 hg2
      have Hx := Lib.hid hx; clear hx
      by_cases hm : x < z
      · have hm1 : decide (x < z) = true := decide_eq_true hm
        have Hm := Lib.hid hm
        go_wp2
        go_roundw
        case rel => exact ⟨k + 1, _, by omega, by omega, by go_num, rfl, by rw [take_min Hx.out, Hz.out]; omega, HB.out⟩
        case measure => simp [intOf]; omega
      · have hm1 : decide (x < z) = false := decide_eq_false hm
        have Hm := Lib.hid hm
        go_wp2
        go_roundw
        case rel => exact ⟨k + 1, _, by omega, by omega, by go_num, rfl, by rw [take_min Hx.out, Hz.out]; omega, HB.out⟩
        case measure => simp [intOf]; omega
    · have hke : k = xs.length := by omega
      subst hke
      go_wp2
      go_ret
      have h1 : minI xs = z := by rw [minI, Hh.out, ← Hz.out, List.take_length]
      exact ⟨by rw [h1]; try rfl, HB.out⟩

set_option maxHeartbeats 1000000 in
theorem index_calls (v : Int) (xs : List Int) (A : Option Addr) (c : Nat) (w : World) (hlen : xs.length ≤ 100000) (hr : Rd w A (xs.flatMap encI)) :
    Calls Try.prog 62 #[.slice A xs.length c, .int .i64 v] w fun e w' => e = .returned (.int .i64 (findI (fun x => v == x) xs)) ∧ Below w.heap.size w w' := by
  have Hr := Lib.hid hr; clear hr
  obtain ⟨q, hq⟩ : ∃ q, q = fun x => v == x := ⟨_, rfl⟩
  have Hqd := Lib.hid (show ∀ x, (v == x) = q x from by rw [hq]; exact fun _ => rfl)
  rw [← hq]
  clear hq
  go_enter Try.func62, Try.ntmps62
  go_wp2
  go_loopw [5, 8] (fun _ i wr => ∃ k : Nat, k ≤ xs.length ∧ i = .int .i64 k ∧ (∀ j x, j < k → xs[j]? = some x → q x = false) ∧ Below w.heap.size w wr) (fun _ i _ => xs.length - (intOf i).toNat)
  case atStart => exact ⟨0, Nat.zero_le _, rfl, fun j x h => absurd h (by omega), Below.refl _ _⟩
  case round =>
    obtain ⟨k, hk, rfl, hq, hB⟩ := hrel
    have Hq := Lib.hid hq; clear hq
    have HB := Lib.hid hB; clear hB
    by_cases hlt : k < xs.length
    · obtain ⟨x, hx⟩ : ∃ x, xs[k]? = some x := ⟨_, List.getElem?_eq_getElem hlt⟩
      obtain ⟨g, off, rfl, c0⟩ := Rd.atI (Hr.out.below HB.out (Nat.le_refl _)) hx
      have Hx := Lib.hid hx; clear hx
      rcases hqx : q x with _ | _
      · have Hqx := Lib.hid hqx; clear hqx
        have hvx : (v == x) = false := by rw [Hqd.out]; exact Hqx.out
        go_wp2
        go_roundw
        case rel => exact ⟨k + 1, by omega, by go_num, fun j y hj hy => by
          rcases Nat.lt_or_ge j k with h1 | h1
          · exact Hq.out j y h1 hy
          · have : j = k := by omega
            subst this
            have hxx := Hx.out
            rw [hy] at hxx
            injection hxx with hxx
            rw [hxx]; exact Hqx.out, HB.out⟩
        case measure => simp [intOf]; omega
      · have Hqx := Lib.hid hqx; clear hqx
        have hvx : (v == x) = true := by rw [Hqd.out]; exact Hqx.out
        go_wp2
        go_ret
        have e1 : xs.findIdx? q = some k := by
          rw [List.findIdx?_eq_some_iff_getElem]
          refine ⟨hlt, ?_, fun j hj => ?_⟩
          · have := Hx.out
            rw [List.getElem?_eq_getElem hlt] at this
            injection this with this
            rw [this]; exact Hqx.out
          · simpa using Hq.out j _ hj (List.getElem?_eq_getElem (by omega))
        exact ⟨by rw [findI_some e1]; rfl, HB.out⟩
    · have hke : k = xs.length := by omega
      subst hke
      go_wp2
      go_ret
      have e1 : xs.findIdx? q = none := by
        rw [List.findIdx?_eq_none_iff]
        intro x hx
        obtain ⟨j, hj⟩ := List.mem_iff_getElem?.1 hx
        exact Hq.out j x (List.getElem?_eq_some_iff.1 hj).1 hj
      exact ⟨by rw [findI_none e1]; rfl, HB.out⟩

end Go.Proofs.Ythdlmnkefheliaa
