/- What the laws use: a literal row of trees, General of terms. -/
import Derived.Test.YtfhgknmkpegpbaaCT53
import Derived.Test.YtfhgknmkpegpbaaCP5
import Derived.Test.YtfhgknmkpegpbaaM6
import Derived.Test.YtfhgknmkpegpbaaCT50
set_option linter.unusedVariables false
set_option linter.unusedSimpArgs false
namespace Go.Proofs.Ytfhgknmkpegpbaa
open Go.RowKit

theorem TmC.lit3 {P : Nat → Prop} {W : World} (ts : List (Tm × Option Addr × Nat)) (h : ∀ e ∈ ts, e.1.s.size ≤ 9223372036854775807 ∧ TmC P W e.2.1 e.2.2 e.1.l) (hl : ts.length ≤ 100) :
    TmC (fun g => P g ∨ g = W.heap.size) (W.alloc (.cells (ts.flatMap encE).toArray 25)) (some ⟨W.heap.size, 0, none⟩) ts.length (ts.map (fun e => e.1)) :=
  TmC.lit ts (fun e he => ⟨(h e he).1, ((h e he).2.stay ((Below.refl _ _).alloc (Nat.le_refl _) _) (Nat.le_refl _)).mono (fun g hg => Or.inl hg)⟩) (Blk.new _ _ _) (Or.inr rfl) (by omega)
/-- A tree and no error are given back. -/
def RetTm (w : World) (r : Tm) (e : Ending) (w' : World) : Prop :=
  ∃ A c, e = .returned (.tuple #[.agg #[.int .i64 r.k, .int .i64 r.n, .string r.s, .slice A r.l.length c], .int .i64 0]) ∧ r.s.size ≤ 9223372036854775807 ∧ TmC (fun _ => True) w' A c r.l ∧ Below w.heap.size w w'
theorem general_ok (t u : Tm) (P Q : Nat → Prop) (w : World) (v v2 : Value) (hv : TmV P w v t) (hv2 : TmV Q w v2 u) (h1 : isB t = true) (h2 : isB u = true) : Calls Try.prog 37 #[v, v2] w (RetTm w (genR t u)) := by
  have h := generalTop_calls t u P Q w v v2 hv hv2
  rw [if_pos (by simp [allIs, h1, h2])] at h
  refine h.mono ?_
  rintro e w' ⟨A, c, rfl, h3, h4, h5⟩
  exact ⟨A, c, rfl, h3, h4.mono (fun _ _ => trivial), h5⟩
end Go.Proofs.Ytfhgknmkpegpbaa
