/- List cells and the items of a list: functions 106, 62, 60. -/
import Derived.Test.YtfhgknmkpegpbaaM3
import Derived.Test.YtfhgknmkpegpbaaM6
set_option linter.unusedVariables false
set_option linter.unusedSimpArgs false
namespace Go.Proofs.Ytfhgknmkpegpbaa
open Go.RowKit

/-- Whether a tree is a list cell. -/
def cellB (t : Tm) : Bool := (decide (t.k = 5) && decide (t.s.toList = [46])) && decide (t.l.length = 2)

set_option maxRecDepth 100000 in
set_option maxHeartbeats 4000000 in
theorem cell_calls (t : Tm) (P : Nat → Prop) (w : World) (v : Value) (hv : TmV P w v t) : Calls Try.prog 106 #[v] w (RetB w (cellB t)) := by
  obtain ⟨A, c, rfl, hs, hc⟩ := hv
  have hlm := hc.len.2.1
  have hlc := hc.len.1
  have hB0 : Below w.heap.size w (w.alloc (.cells #[.int .i64 t.k, .int .i64 t.n, .string t.s, .slice A t.l.length c] 25)) := (Below.refl _ _).alloc (Nat.le_refl _) _
  have HB0 := Lib.hid hB0; clear hB0 hc
  obtain ⟨r, hr⟩ : ∃ r, r = cellB t := ⟨_, rfl⟩
  rw [← hr]
  unfold cellB at hr
  by_cases hk : t.k = 5
  case neg =>
    have Hr := Lib.hid (show r = false from by rw [hr, decide_eq_false hk]; rfl); clear hr
    have hkb : (t.k == 5) = false := by simpa using hk
    clear hk
    go_enter Try.func106, Try.ntmps106
    go_wp2
    go_ret
    exact ⟨by rw [Hr.out]; rfl, HB0.out⟩
  have hkb : (t.k == 5) = true := by simpa using hk
  rw [decide_eq_true hk] at hr
  clear hk
  by_cases hd : t.s.toList = [46]
  case neg =>
    have Hr := Lib.hid (show r = false from by rw [hr, decide_eq_false hd]; rfl); clear hr
    have hdd : (t.s.toList == [46]) = false := by simpa using hd
    go_enter Try.func106, Try.ntmps106
    go_wp2
    go_ret
    exact ⟨by rw [Hr.out]; rfl, HB0.out⟩
  rw [decide_eq_true hd] at hr
  by_cases hl : t.l.length = 2
  case neg =>
    have Hr := Lib.hid (show r = false from by rw [hr, decide_eq_false hl]; rfl); clear hr
    have hlb : ((t.l.length : Int) == 2) = false := by simp; omega
    clear hl
    go_enter Try.func106, Try.ntmps106
    go_wp2
    go_ret
    exact ⟨by rw [Hr.out]; rfl, HB0.out⟩
  have Hr := Lib.hid (show r = true from by rw [hr, decide_eq_true hl]; rfl); clear hr
  have hlb : ((t.l.length : Int) == 2) = true := by simp; omega
  clear hl
  go_enter Try.func106, Try.ntmps106
  go_wp2
  go_ret
  exact ⟨by rw [Hr.out]; rfl, HB0.out⟩

set_option maxRecDepth 100000 in
set_option maxHeartbeats 4000000 in
theorem isCell_calls (t : Tm) (P : Nat → Prop) (w : World) (v : Value) (hv : TmV P w v t) : Calls Try.prog 62 #[v] w (RetB w (cellB t)) := by
  obtain ⟨A, c, rfl, hs, hc⟩ := hv
  have hlm := hc.len.2.1
  have hlc := hc.len.1
  have hB0 : Below w.heap.size w (w.alloc (.cells #[.int .i64 t.k, .int .i64 t.n, .string t.s, .slice A t.l.length c] 25)) := (Below.refl _ _).alloc (Nat.le_refl _) _
  have HB0 := Lib.hid hB0; clear hB0 hc
  obtain ⟨r, hr⟩ : ∃ r, r = cellB t := ⟨_, rfl⟩
  rw [← hr]
  unfold cellB at hr
  by_cases hk : t.k = 5
  case neg =>
    have Hr := Lib.hid (show r = false from by rw [hr, decide_eq_false hk]; rfl); clear hr
    have hkb : (t.k == 5) = false := by simpa using hk
    clear hk
    go_enter Try.func62, Try.ntmps62
    go_wp2
    go_ret
    exact ⟨by rw [Hr.out]; rfl, HB0.out⟩
  have hkb : (t.k == 5) = true := by simpa using hk
  rw [decide_eq_true hk] at hr
  clear hk
  by_cases hd : t.s.toList = [46]
  case neg =>
    have Hr := Lib.hid (show r = false from by rw [hr, decide_eq_false hd]; rfl); clear hr
    have hdd : (t.s.toList == [46]) = false := by simpa using hd
    go_enter Try.func62, Try.ntmps62
    go_wp2
    go_ret
    exact ⟨by rw [Hr.out]; rfl, HB0.out⟩
  rw [decide_eq_true hd] at hr
  by_cases hl : t.l.length = 2
  case neg =>
    have Hr := Lib.hid (show r = false from by rw [hr, decide_eq_false hl]; rfl); clear hr
    have hlb : ((t.l.length : Int) == 2) = false := by simp; omega
    clear hl
    go_enter Try.func62, Try.ntmps62
    go_wp2
    go_ret
    exact ⟨by rw [Hr.out]; rfl, HB0.out⟩
  have Hr := Lib.hid (show r = true from by rw [hr, decide_eq_true hl]; rfl); clear hr
  have hlb : ((t.l.length : Int) == 2) = true := by simp; omega
  clear hl
  go_enter Try.func62, Try.ntmps62
  go_wp2
  go_ret
  exact ⟨by rw [Hr.out]; rfl, HB0.out⟩
end Go.Proofs.Ytfhgknmkpegpbaa
