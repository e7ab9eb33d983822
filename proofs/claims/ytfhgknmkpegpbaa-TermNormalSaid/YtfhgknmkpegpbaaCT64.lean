/- What the law of Normal uses. -/
import Derived.Test.YtfhgknmkpegpbaaCT56
import Derived.Test.YtfhgknmkpegpbaaM5
import Derived.Test.YtfhgknmkpegpbaaCP8
set_option linter.unusedVariables false
set_option linter.unusedSimpArgs false
namespace Go.Proofs.Ytfhgknmkpegpbaa
open Go.RowKit

/-- Trees, numbers, no error. -/
def RetNk (w : World) (ts : List Tm) (xs : List Int) (e : Ending) (w' : World) : Prop :=
  ∃ A c B d, e = .returned (.tuple #[.slice A ts.length c, .slice B xs.length d, .int .i64 0]) ∧ TmC (fun _ => True) w' A c ts ∧ Rd w' B (xs.flatMap encI) ∧ xs.length ≤ d ∧ d ≤ 9223372036854775807 ∧ Below w.heap.size w w'
theorem normal_ok (l : List Tm) (P : Nat → Prop) (A : Option Addr) (c : Nat) (w : World) (hc : TmC P w A c l) (h : allB l = true) : Calls Try.prog 29 #[.slice A l.length c] w (RetNk w (normR l) (varsL l)) := by
  have h1 := normal_calls l P A c w hc
  rw [h, if_pos rfl, if_pos rfl] at h1
  refine h1.mono ?_
  rintro e w' ⟨A, c, v, rfl, h2, h3, h4, h5⟩
  obtain ⟨B, d, rfl⟩ := own_slice h3
  have h6 := own_cap h3
  exact ⟨A, c, B, d, rfl, h2.mono (fun _ _ => trivial), by rw [flatMap_encI]; exact own_rd h3, h6.1, h6.2, h5⟩
theorem shift_ok {t : Tm} {n : Int} (P : Nat → Prop) (w : World) (v : Value) (hv : TmV P w v t) (h : isB t = true) (hs : shB n t = true) : Calls Try.prog 47 #[v, .int .i64 n] w (RetTf w (shT n t) 0) := by
  have h1 := shift_calls t n P w v hv
  rw [h, hs, shift_law h hs] at h1
  exact h1
theorem shift_err {t : Tm} {n : Int} (P : Nat → Prop) (w : World) (v : Value) (hv : TmV P w v t) (h : isB t = true) (hs : shB n t = false) : Calls Try.prog 47 #[v, .int .i64 n] w (RetTf w Tm.zero 1) := by
  have h1 := shift_calls t n P w v hv
  rw [h, hs] at h1
  exact h1
theorem normR_len (l : List Tm) : (normR l).length = l.length := by unfold normR; rw [List.length_map]
end Go.Proofs.Ytfhgknmkpegpbaa
