/- What the laws use: rows of rows, Subst, Match, Vars of terms. -/
import Derived.Test.YtfhgknmkpegpbaaCT55
import Derived.Test.YtfhgknmkpegpbaaCT54
import Derived.Test.YtfhgknmkpegpbaaM4
set_option linter.unusedVariables false
set_option linter.unusedSimpArgs false
namespace Go.Proofs.Ytfhgknmkpegpbaa
open Go.RowKit

theorem RowsT.lit {w : World} {es : List TV} {T : TypeId} (h : ∀ e ∈ es, TmC (fun _ => True) w e.2.1 e.2.2 e.1) : RowsT (w.alloc (.cells (es.flatMap encT).toArray T)) (some ⟨w.heap.size, 0, none⟩) es :=
  ⟨fun _ => ⟨w.heap.size, 0, rfl, fun j v hj => by rw [Nat.zero_add, (Blk.new w T _).cell j]; simpa using hj⟩, fun e he => (h e he).stay ((Below.refl _ _).alloc (Nat.le_refl _) _) (Nat.le_refl _)⟩
theorem littleB_iff {ls : List (List Tm)} : littleB ls = true ↔ ∀ l ∈ ls, l.length ≤ 60 ∧ smallB l = true := by
  unfold littleB; simp [List.all_eq_true]
theorem subst_ok {t x : Tm} {l : List Tm} (P Q : Nat → Prop) (w : World) (v : Value) (A : Option Addr) (c : Nat) (hv : TmV P w v t) (hl : TmC Q w A c l) (h : substR t l = some x) : Calls Try.prog 42 #[v, .slice A l.length c] w (RetTm w x) := by
  have h1 := subst_calls t l P Q w v A c hv hl
  rw [h] at h1
  refine h1.mono ?_
  rintro e w' ⟨A, c, rfl, h3, h4, h5⟩
  exact ⟨A, c, rfl, h3, h4.mono (fun _ _ => trivial), h5⟩
/-- An empty tree and an error are given back. -/
def RetTe (w : World) (er : Int) (e : Ending) (w' : World) : Prop :=
  ∃ A c, e = .returned (.tuple #[.agg #[.int .i64 Tm.zero.k, .int .i64 Tm.zero.n, .string Tm.zero.s, .slice A Tm.zero.l.length c], .int .i64 er]) ∧ Tm.zero.s.size ≤ 9223372036854775807 ∧ TmC (fun _ => True) w' A c Tm.zero.l ∧ Below w.heap.size w w'
theorem subst_err {t : Tm} {l : List Tm} (P Q : Nat → Prop) (w : World) (v : Value) (A : Option Addr) (c : Nat) (hv : TmV P w v t) (hl : TmC Q w A c l) (h : substR t l = none) {er : Int} (he : substE t l = er) : Calls Try.prog 42 #[v, .slice A l.length c] w (RetTe w er) := by
  have h1 := subst_calls t l P Q w v A c hv hl
  rw [h, he] at h1
  refine h1.mono ?_
  rintro e w' ⟨A, c, rfl, h3, h4, h5⟩
  exact ⟨A, c, rfl, h3, h4.mono (fun _ _ => trivial), h5⟩
/-- A row of trees, a truth value, no error. -/
def RetMo (w : World) (r : Option (List Tm)) (e : Ending) (w' : World) : Prop :=
  ∃ A c, e = .returned (.tuple #[.slice A (r.getD []).length c, .bool r.isSome, .int .i64 0]) ∧ TmC (fun _ => True) w' A c (r.getD []) ∧ Below w.heap.size w w'
theorem match_ok (t u : Tm) (P Q : Nat → Prop) (w : World) (v v2 : Value) (hv : TmV P w v t) (hv2 : TmV Q w v2 u) (h1 : isB t = true) (h2 : isB u = true) : Calls Try.prog 35 #[v, v2] w (RetMo w (matchR t u)) := by
  have h := matchTop_calls t u P Q w v v2 hv hv2
  rw [show allIs [t, u] = true from by simp [allIs, h1, h2], if_pos rfl] at h
  refine h.mono ?_
  rintro e w' ⟨A, c, rfl, h4, h5⟩
  exact ⟨A, c, rfl, h4.mono (fun _ _ => trivial), h5⟩
/-- A row of numbers and no error. -/
def RetVo (w : World) (xs : List Int) (e : Ending) (w' : World) : Prop :=
  ∃ A c, e = .returned (.tuple #[.slice A xs.length c, .int .i64 0]) ∧ Rd w' A (xs.flatMap encI) ∧ xs.length ≤ c ∧ c ≤ 9223372036854775807 ∧ Below w.heap.size w w'
theorem own_cap {w : World} {base n c : Nat} {A : Option Addr} {xs : List Value} (h : w.ownsRow base 3 1 (.slice A n c) n xs) : n ≤ c ∧ c ≤ 9223372036854775807 := by
  rcases h.2 with ⟨hv, hn⟩ | ⟨g, cap, cur, hv, h1, h2, h3, h4, h5, h6⟩
  · injection hv with _ h7 h8; subst h8; omega
  · injection hv with _ h7 h8; subst h8; simp only [maxLen] at h4; omega
theorem vars_ok (l : List Tm) (P : Nat → Prop) (A : Option Addr) (c : Nat) (w : World) (hc : TmC P w A c l) (h : allB l = true) : Calls Try.prog 43 #[.slice A l.length c] w (RetVo w (varsL l)) := by
  have h1 := varsTop_calls l P A c w hc
  rw [h, if_pos rfl] at h1
  refine h1.mono ?_
  rintro e w' ⟨v, rfl, h2, h3, h4⟩
  obtain ⟨A, c, rfl⟩ := own_slice h2
  have h5 := own_cap h2
  exact ⟨A, c, rfl, by rw [flatMap_encI]; exact own_rd h2, h5.1, h5.2, h4⟩
end Go.Proofs.Ytfhgknmkpegpbaa
