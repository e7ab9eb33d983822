/- What the laws use: Subst and Compose with whatever they give. -/
import Derived.Test.YtfhgknmkpegpbaaCP7
set_option linter.unusedVariables false
set_option linter.unusedSimpArgs false
namespace Go.Proofs.Ytfhgknmkpegpbaa
open Go.RowKit

/-- A tree and an error. -/
def RetTq (w : World) (r : Tm) (er : Int) (e : Ending) (w' : World) : Prop :=
  ∃ A c, e = .returned (.tuple #[.agg #[.int .i64 r.k, .int .i64 r.n, .string r.s, .slice A r.l.length c], .int .i64 er]) ∧ r.s.size ≤ 9223372036854775807 ∧ TmC (fun _ => True) w' A c r.l ∧ Below w.heap.size w w'
theorem substX_calls (t : Tm) (l : List Tm) (P Q : Nat → Prop) (w : World) (v : Value) (A : Option Addr) (c : Nat) (hv : TmV P w v t) (hl : TmC Q w A c l) :
    Calls Try.prog 42 #[v, .slice A l.length c] w (RetTq w ((substR t l).getD Tm.zero) (if (substR t l).isSome = true then 0 else substE t l)) := by
  refine (subst_calls t l P Q w v A c hv hl).mono ?_
  rintro e w' ⟨A, c, rfl, h3, h4, h5⟩
  exact ⟨A, c, rfl, h3, h4.mono (fun _ _ => trivial), h5⟩
/-- A row of trees and an error. -/
def RetMx (w : World) (r : List Tm) (er : Int) (e : Ending) (w' : World) : Prop :=
  ∃ A c, e = .returned (.tuple #[.slice A r.length c, .int .i64 er]) ∧ TmC (fun _ => True) w' A c r ∧ Below w.heap.size w w'
theorem composeX_calls (a b : List Tm) (P Q : Nat → Prop) (w : World) (A : Option Addr) (c : Nat) (B : Option Addr) (d : Nat) (ha : TmC P w A c a) (hb : TmC Q w B d b) :
    Calls Try.prog 53 #[.slice A a.length c, .slice B b.length d] w (RetMx w ((composeR a b).getD []) (if (composeR a b).isSome = true then 0 else composeE a b)) := by
  refine (compose_calls a b P Q w A c B d ha hb).mono ?_
  rintro e w' ⟨A, c, rfl, h4, h5⟩
  exact ⟨A, c, rfl, h4.mono (fun _ _ => trivial), h5⟩
end Go.Proofs.Ytfhgknmkpegpbaa
