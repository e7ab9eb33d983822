/- The law's and the reference's tests of substitutions: functions 45, 41, 40. -/
import Derived.Test.YtfhgknmkpegpbaaM3
import Derived.Test.YtfhgknmkpegpbaaM4
import Derived.Test.YtfhgknmkpegpbaaM1
set_option linter.unusedVariables false
set_option linter.unusedSimpArgs false
namespace Go.Proofs.Ytfhgknmkpegpbaa
open Go.RowKit

set_option maxRecDepth 100000 in
set_option maxHeartbeats 4000000 in
theorem refFree_calls (t : Tm) (P : Nat → Prop) (w : World) (v : Value) (hv : TmV P w v t) : Calls Try.prog 45 #[v] w (RetB w (freeB t)) := by
  obtain ⟨A, c, rfl, hs, hc⟩ := hv
  have hlc := hc.len.1
  have hlm := hc.len.2.1
  have hB0 : Below w.heap.size w (w.alloc (.cells #[.int .i64 t.k, .int .i64 t.n, .string t.s, .slice A t.l.length c] 25)) := (Below.refl _ _).alloc (Nat.le_refl _) _
  have HB0 := Lib.hid hB0; clear hB0 hc
  by_cases h1 : t.k = 0
  case neg =>
    have Hr := Lib.hid (show freeB t = false from by unfold freeB; rw [if_neg (fun h => h1 h.1)])
    have d1 : (t.k == 0) = false := by simpa using h1
    go_enter Try.func45, Try.ntmps45
    go_wp2
    go_ret
    exact ⟨by rw [Hr.out]; rfl, HB0.out⟩
  have d1 : (t.k == 0) = true := by simpa using h1
  have H1 := Lib.hid h1; clear h1
  by_cases h2 : t.n = 0
  case neg =>
    have Hr := Lib.hid (show freeB t = false from by unfold freeB; rw [if_neg (fun h => h2 h.2.1)])
    have d2 : (t.n == 0) = false := by simpa using h2
    go_enter Try.func45, Try.ntmps45
    go_wp2
    go_ret
    exact ⟨by rw [Hr.out]; rfl, HB0.out⟩
  have d2 : (t.n == 0) = true := by simpa using h2
  have H2 := Lib.hid h2; clear h2
  by_cases h3 : t.s.toList = []
  case neg =>
    have Hr := Lib.hid (show freeB t = false from by unfold freeB; rw [if_neg (fun h => h3 h.2.2.1)])
    go_enter Try.func45, Try.ntmps45
    go_wp2
    go_ret
    exact ⟨by rw [Hr.out]; rfl, HB0.out⟩
  by_cases h4 : t.l = []
  case neg =>
    have Hr := Lib.hid (show freeB t = false from by unfold freeB; rw [if_neg (fun h => h4 h.2.2.2)])
    have h5 : t.l.length ≠ 0 := by intro e; exact h4 (List.length_eq_zero_iff.1 e)
    have d4 : ((t.l.length : Int) == 0) = false := by simpa using h4
    go_enter Try.func45, Try.ntmps45
    go_wp2
    go_ret
    exact ⟨by rw [Hr.out]; rfl, HB0.out⟩
  have Hr := Lib.hid (show freeB t = true from by unfold freeB; rw [if_pos ⟨H1.out, H2.out, h3, h4⟩])
  have d4 : ((t.l.length : Int) == 0) = true := by rw [h4]; rfl
  clear h4
  go_enter Try.func45, Try.ntmps45
  go_wp2
  go_ret
  exact ⟨by rw [Hr.out]; rfl, HB0.out⟩


set_option maxRecDepth 100000 in
set_option maxHeartbeats 4000000 in
theorem refIsSubst_calls (l : List Tm) (P : Nat → Prop) (A : Option Addr) (c : Nat) (w : World) (hc : TmC P w A c l) (hsz : ∀ x ∈ l, x.size ≤ 1000000) : Calls Try.prog 41 #[.slice A l.length c] w (RetB w (subB l)) := by
  have hlm := hc.len.2.1
  have hlc := hc.len.1
  have Hc := Lib.hid hc; clear hc
  have Hsz := Lib.hid hsz; clear hsz
  go_enter Try.func41, Try.ntmps41
  go_wp2
  go_loopw [3] (fun i wr => ∃ k : Nat, k ≤ l.length ∧ i = .int .i64 k ∧ (l.take k).any badB = false ∧ Below w.heap.size w wr) (fun i _ => l.length - (intOf i).toNat)
  case atStart => exact ⟨0, Nat.zero_le _, rfl, by simp, Below.refl _ _⟩
  case round =>
    obtain ⟨k, hk, rfl, hal, hB⟩ := hrel
    have HB := Lib.hid hB; clear hB
    have Hal := Lib.hid hal; clear hal
    by_cases hlt : k < l.length
    · obtain ⟨x, hx⟩ : ∃ x, l[k]? = some x := ⟨_, List.getElem?_eq_getElem hlt⟩
      obtain ⟨g, off, Ai, ci, rfl, -, ⟨e0, e1, e2, e3⟩, hxs, hxc⟩ := (Hc.out.stay HB.out (Nat.le_refl _)).at_ hx
      have hxm := List.mem_of_getElem? hx
      have Hts := Lib.hid (take_snoc hx)
      have hxsz := Hsz.out x hxm
      obtain ⟨f, hf⟩ : ∃ f, f = freeB x := ⟨_, rfl⟩
      obtain ⟨b, hb'⟩ : ∃ b, b = isB x := ⟨_, rfl⟩
      have hcall := refFree_calls x P wr _ ⟨Ai, ci, rfl, hxs, hxc⟩
      rw [← hf] at hcall
      have Hcall := Lib.hid hcall; clear hcall hx
      have Hxc := Lib.hid hxc; clear hxc
      have Hb := Lib.hid hb'; clear hb'
      have Hf := Lib.hid hf; clear hf
      have Hxm := Lib.hid hxm; clear hxm
      go_wp2_with fail
      refine Hcall.out.mono ?_
      rintro e w2 ⟨rfl, hb⟩
      have HB2 := Lib.hid (HB.out.trans (hb.mono HB.out.size))
      have HB12 := Lib.hid hb
      replace e0 := keep_cell hb e0
      replace e1 := keep_cell hb e1
      replace e2 := keep_cell hb e2
      replace e3 := keep_cell hb e3
      clear hb Hcall
      cases f
      · have hcall := refCheck_calls x P w2 _ ⟨Ai, ci, rfl, hxs, Hxc.out.stay HB12.out (Nat.le_refl _)⟩ hxsz
        rw [← Hb.out] at hcall
        have Hcall2 := Lib.hid hcall; clear hcall
        go_wp2_with fail
        refine Hcall2.out.mono ?_
        rintro e w3 ⟨rfl, hb⟩
        have HB3 := Lib.hid (HB2.out.trans (hb.mono HB2.out.size)); clear hb e0 e1 e2 e3 Hcall2
        cases b
        · have he : (errT false != 0) = true := rfl
          have Hr := Lib.hid (show subB l = false from by
            unfold subB
            rw [show l.any badB = true from by rw [List.any_eq_true]; exact ⟨x, Hxm.out, by unfold badB; rw [← Hf.out, ← Hb.out]; rfl⟩]
            simp)
          go_wp2
          go_ret
          exact ⟨by rw [Hr.out]; rfl, HB3.out⟩
        · have he : (errT true != 0) = false := rfl
          go_wp2
          go_roundw
          case rel => exact ⟨k + 1, by omega, by go_num, by rw [Hts.out, List.any_append, Hal.out]; simp [badB, ← Hf.out, ← Hb.out], HB3.out⟩
          case measure => simp [intOf]; omega
      · clear e0 e1 e2 e3
        go_wp2
        go_roundw
        case rel => exact ⟨k + 1, by omega, by go_num, by rw [Hts.out, List.any_append, Hal.out]; simp [badB, ← Hf.out], HB2.out⟩
        case measure => simp [intOf]; omega
    · have hke : k = l.length := by omega
      subst hke
      have Hr := Lib.hid (show subB l = decide (l.length ≤ 100000) from by
        have h1 := Hal.out
        rw [List.take_length] at h1
        unfold subB
        rw [h1]; simp)
      by_cases hd : l.length ≤ 100000
      · have d1 : decide (l.length ≤ 100000) = true := decide_eq_true hd
        have d1' : decide ((l.length : Int) ≤ 100000) = true := decide_eq_true (by omega)
        go_wp2
        go_ret
        exact ⟨by rw [Hr.out, d1]; rfl, HB.out⟩
      · have d1 : decide (l.length ≤ 100000) = false := decide_eq_false hd
        have d1' : decide ((l.length : Int) ≤ 100000) = false := decide_eq_false (by omega)
        go_wp2
        go_ret
        exact ⟨by rw [Hr.out, d1]; rfl, HB.out⟩

/-- A row of rows of trees. -/
abbrev TV := List Tm × Option Addr × Nat
def encT (e : TV) : List Value := [.slice e.2.1 e.1.length e.2.2]
def RowsT (w : World) (A : Option Addr) (es : List TV) : Prop := Rd w A (es.flatMap encT) ∧ ∀ e ∈ es, TmC (fun _ => True) w e.2.1 e.2.2 e.1
theorem RowsT.below {w w' : World} {A : Option Addr} {B : Nat} {es : List TV} (h : RowsT w A es) (hb : Below B w w') (hB : w.heap.size ≤ B) : RowsT w' A es :=
  ⟨h.1.below hb hB, fun e he => (h.2 e he).stay hb hB⟩
def littleB (ls : List (List Tm)) : Bool := ls.all (fun l => decide (l.length ≤ 60) && smallB l)

set_option maxRecDepth 100000 in
set_option maxHeartbeats 4000000 in
theorem little_calls (es : List TV) (A : Option Addr) (c : Nat) (w : World) (hc : RowsT w A es) (hl : es.length ≤ 100) : Calls Try.prog 40 #[.slice A es.length c] w (RetB w (littleB (es.map (fun e => e.1)))) := by
  have Hc := Lib.hid hc; clear hc
  go_enter Try.func40, Try.ntmps40
  go_wp2
  go_loopw [7] (fun i wr => ∃ k : Nat, k ≤ es.length ∧ i = .int .i64 k ∧ Hid (littleB ((es.take k).map (fun e => e.1)) = true) ∧ Hid (Below w.heap.size w wr)) (fun i _ => es.length - (intOf i).toNat)
  case atStart => exact ⟨0, Nat.zero_le _, rfl, Lib.hid rfl, Lib.hid (Below.refl _ _)⟩
  case round =>
    obtain ⟨k, hk, rfl, Hal, HB⟩ := hrel
    by_cases hlt : k < es.length
    · obtain ⟨x, hx⟩ : ∃ x, es[k]? = some x := ⟨_, List.getElem?_eq_getElem hlt⟩
      obtain ⟨xs, Ax, cx⟩ := x
      have hR := Hc.out.below HB.out (Nat.le_refl _)
      obtain ⟨g, off, rfl, hcell⟩ := Rows.at 1 (fun _ => rfl) (by omega) hR.1 (ne_of_get hx)
      have e0 := hcell k _ 0 _ hx rfl
      rw [Nat.mul_one, Nat.add_zero] at e0
      simp only at e0
      have hxm := List.mem_of_getElem? hx
      have hxc := hR.2 _ hxm
      simp only at hxc
      have hxl := hxc.len.1
      have hxl2 := hxc.len.2.1
      have Hts := Lib.hid (take_snoc hx)
      obtain ⟨b, hb'⟩ : ∃ b, b = smallB xs := ⟨_, rfl⟩
      have hcall := small_calls xs _ Ax cx wr hxc
      rw [← hb'] at hcall
      have Hcall := Lib.hid hcall; clear hcall hx hR hcell hxc
      have Hb := Lib.hid hb'; clear hb'
      have Hxm := Lib.hid hxm; clear hxm
      have key : (decide (xs.length ≤ 60) && b) = false → Hid (littleB (es.map (fun e => e.1)) = false) := fun h => Lib.hid (by
        unfold littleB
        rw [List.all_eq_false]
        exact ⟨xs, List.mem_map.2 ⟨_, Hxm.out, rfl⟩, by rw [← Hb.out, h]; simp⟩)
      have Key := Lib.hid key; clear key
      by_cases h60 : xs.length ≤ 60
      case neg =>
        have d1 : decide ((60 : Int) < (xs.length : Int)) = true := decide_eq_true (by omega)
        have Hr := Key.out (by rw [decide_eq_false h60]; rfl)
        go_wp2
        go_ret
        exact ⟨by rw [Hr.out]; rfl, HB.out⟩
      have d1 : decide ((60 : Int) < (xs.length : Int)) = false := decide_eq_false (by omega)
      go_wp2_with fail
      refine Hcall.out.mono ?_
      rintro e w2 ⟨rfl, hb⟩
      have HB2 := Lib.hid (HB.out.trans (hb.mono HB.out.size)); clear hb e0 Hcall
      cases b
      · have Hr := Key.out (by simp)
        go_wp2
        go_ret
        exact ⟨by rw [Hr.out]; rfl, HB2.out⟩
      · go_wp2
        go_roundw
        case rel => exact ⟨k + 1, by omega, by go_num, Lib.hid (by
          rw [Hts.out, List.map_append]
          unfold littleB
          rw [List.all_append, Bool.and_eq_true]
          exact ⟨Hal.out, by simp [h60, ← Hb.out]⟩), HB2⟩
        case measure => simp [intOf]; omega
    · have hke : k = es.length := by omega
      subst hke
      have Hr := Lib.hid (show littleB (es.map (fun e => e.1)) = true from by have := Hal.out; rwa [List.take_length] at this)
      go_wp2
      go_ret
      exact ⟨by rw [Hr.out]; rfl, HB.out⟩
end Go.Proofs.Ytfhgknmkpegpbaa
