/- Instances: plain facts. -/
import Derived.Test.YtfhgknmkpegpbaaCP5
import Derived.Test.YtfhgknmkpegpbaaM4
set_option linter.unusedVariables false
set_option linter.unusedSimpArgs false
namespace Go.Proofs.Ytfhgknmkpegpbaa
open Go.RowKit

theorem vnt_inst {p t : Tm} (hp : isB p = true) (ht : isB t = true) : vntB p t = (instB p t && instB t p) := by
  rw [Bool.eq_iff_iff, Bool.and_eq_true, vnt_iff hp ht, instB_iff hp ht, instB_iff ht hp]
theorem match_back {p t : Tm} {m : List Tm} (hp : isB p = true) (ht : isB t = true) (h : matchR p t = some m) : substR p m = some t := by
  obtain ⟨h1, h2, -⟩ := match_some hp ht h
  rw [subst_eq hp h2, h1, if_pos ht]
theorem subst_some {p x : Tm} {s : List Tm} (hp : isB p = true) (hs : subB s = true) (h : substR p s = some x) : isB x = true ∧ p.sub (sgL s) = x := by
  rw [subst_eq hp hs] at h
  split at h
  · rename_i h1; injection h with h; subst h; exact ⟨h1, rfl⟩
  · cases h
theorem subst_errE {p : Tm} {s : List Tm} (hp : isB p = true) (hs : subB s = true) : substE p s = 2 := by
  unfold substE; rw [if_pos hp, if_pos hs]
/-- What a substitution says of a variable. -/
theorem sgL_at {s : List Tm} {j : Nat} {y : Tm} (h : s[j]? = some y) : sgL s j = if freeB y = true then Tm.va j else y := by
  unfold sgL sgF pickF
  rw [Int.toNat_natCast, h]
  simp only
  split <;> rfl
theorem sgL_none {s : List Tm} {j : Nat} (h : ¬ j < s.length) : sgL s j = Tm.va j := by
  unfold sgL sgF pickF
  rw [Int.toNat_natCast, List.getElem?_eq_none (by omega)]; rfl
/-- Match finds an instance's substitution. -/
theorem match_inst {p x : Tm} {s : List Tm} (hp : isB p = true) (hs : subB s = true) (h : substR p s = some x) :
    isB x = true ∧ ∃ m, matchR p x = some m ∧ ∀ n ∈ varsL [p], ∃ j : Nat, n = j ∧ j < 100000 ∧ m[j]? = some (sgL s j) := by
  obtain ⟨hx, hsub⟩ := subst_some hp hs h
  have h1 := (matchR_iff hp hx).2 ⟨_, hsub⟩
  refine ⟨hx, ?_⟩
  obtain ⟨m, hm⟩ := Option.isSome_iff_exists.1 h1
  refine ⟨m, hm, fun n hn => ?_⟩
  have hh := has_iff.1 hn
  have hb := has_bd (isB_iff.1 hp).1 hh
  have h3 := (match_some hp hx hm).2.2 _ hsub n hh
  obtain ⟨j, rfl⟩ : ∃ j : Nat, n = j := ⟨n.toNat, by omega⟩
  rw [Int.toNat_natCast] at h3
  exact ⟨j, rfl, by omega, h3⟩
end Go.Proofs.Ytfhgknmkpegpbaa
