/- Composition of substitutions: plain facts. -/
import Derived.Test.YtfhgknmkpegpbaaCT57
set_option linter.unusedVariables false
set_option linter.unusedSimpArgs false
namespace Go.Proofs.Ytfhgknmkpegpbaa
open Go.RowKit

theorem composeR_some {l m LM : List Tm} (h : composeR l m = some LM) : subB l = true ∧ subB m = true ∧ LM = (List.range (max l.length m.length)).map (cmpO l m) ∧ ∀ i < max l.length m.length, isB (cmpE l m i) = true := by
  unfold composeR at h
  split at h
  · rename_i h1
    split at h
    · rename_i h2
      injection h with h
      rw [List.all_eq_true] at h2
      exact ⟨h1.1, h1.2, h.symm, fun i hi => h2 i (List.mem_range.2 hi)⟩
    · cases h
  · cases h
theorem isB_free {t : Tm} (h : isB t = true) : freeB t = false := ok_notfree (isB_iff.1 h).1
theorem sgL_compose {l m LM : List Tm} (h : composeR l m = some LM) : subB LM = true ∧ LM.length = max l.length m.length ∧ ∀ n : Int, 0 ≤ n → sgL LM n = (sgL l n).sub (sgL m) := by
  obtain ⟨h1, h2, h3, h4⟩ := composeR_some h
  have hlen : LM.length = max l.length m.length := by rw [h3]; simp
  have hl := subB_len h1
  have hm := subB_len h2
  refine ⟨?_, hlen, fun n hn => ?_⟩
  · unfold subB
    rw [Bool.and_eq_true, decide_eq_true_eq, Bool.not_eq_true', List.any_eq_false]
    refine ⟨by omega, fun x hx => ?_⟩
    rw [h3] at hx
    obtain ⟨i, hi, rfl⟩ := List.mem_map.1 hx
    have hi := List.mem_range.1 hi
    unfold cmpO badB
    split
    · rw [fb_zero]; simp
    · rw [h4 i hi]; simp
  · obtain ⟨j, rfl⟩ : ∃ j : Nat, n = j := ⟨n.toNat, by omega⟩
    show _ = cmpE l m j
    by_cases hj : j < max l.length m.length
    · have hg : LM[j]? = some (cmpO l m j) := by rw [h3, List.getElem?_map, List.getElem?_range hj]; rfl
      rw [sgL_at hg]
      by_cases hs : sameB (cmpE l m j) (Tm.va j) = true
      · rw [show cmpO l m j = Tm.zero from by unfold cmpO; rw [if_pos hs], fb_zero, if_pos rfl, sameB_iff.1 hs]
      · rw [show cmpO l m j = cmpE l m j from by unfold cmpO; rw [if_neg hs], isB_free (h4 j hj), if_neg (by simp)]
    · rw [sgL_none (by omega)]
      unfold cmpE
      rw [sgL_none (by omega), sub_va, sgL_none (by omega)]
theorem sgL_nil : sgL [] = Tm.va := by funext n; unfold sgL sgF pickF; simp
theorem subB_nil : subB [] = true := by decide
theorem subst_nil {t : Tm} (h : isB t = true) : substR t [] = some t := by
  rw [subst_eq h subB_nil, sgL_nil, sub_id t (isB_iff.1 h).1, if_pos h]
theorem sgL_ok {l : List Tm} (h : subB l = true) {i : Nat} (hi : i < 100000) : (sgL l i).okB = true := by
  by_cases hj : i < l.length
  · obtain ⟨y, hy⟩ : ∃ y, l[i]? = some y := ⟨_, List.getElem?_eq_getElem hj⟩
    rw [sgL_at hy]
    split
    · exact va_ok (by omega) (by omega)
    · rename_i hf
      exact (isB_iff.1 (subB_at h (List.mem_of_getElem? hy) (by simpa using hf))).1
  · rw [sgL_none hj]; exact va_ok (by omega) (by omega)
/-- Subst by Compose. -/
theorem composed_law {t x : Tm} {l m LM : List Tm} (ht : isB t = true) (hl : subB l = true) (hm : subB m = true) (h : composeR l m = some LM) (hx : substR t l = some x) :
    isB x = true ∧ substR x m = substR t LM := by
  obtain ⟨hxb, hxe⟩ := subst_some ht hl hx
  obtain ⟨a1, a2, a3⟩ := sgL_compose h
  refine ⟨hxb, ?_⟩
  have : x.sub (sgL m) = t.sub (sgL LM) := by
    rw [← hxe, sub_sub]
    exact (sub_congr t (isB_iff.1 ht).1).2 fun n hn => (a3 n (has_bd (isB_iff.1 ht).1 hn).1).symm
  rw [subst_eq hxb hm, subst_eq ht a1, this]
/-- Composition is associative. -/
theorem assoc_law {l m n LM MN ONE : List Tm} (hl : subB l = true) (hm : subB m = true) (hn : subB n = true) (h1 : composeR l m = some LM) (h2 : composeR m n = some MN) (h3 : composeR LM n = some ONE) : composeR l MN = some ONE := by
  obtain ⟨a1, a2, a3⟩ := sgL_compose h1
  obtain ⟨b1, b2, b3⟩ := sgL_compose h2
  obtain ⟨-, -, c3, c4⟩ := composeR_some h3
  have hll := subB_len hl
  have hml := subB_len hm
  have hnl := subB_len hn
  have hlen : max l.length MN.length = max LM.length n.length := by omega
  have he : ∀ i < max LM.length n.length, cmpE l MN i = cmpE LM n i := fun i hi => by
    unfold cmpE
    rw [a3 i (by omega), sub_sub]
    have ho := sgL_ok hl (i := i) (by omega)
    exact (sub_congr _ ho).2 fun k hk => b3 k (has_bd ho hk).1
  unfold composeR
  rw [if_pos ⟨hl, b1⟩, hlen, if_pos]
  · rw [c3]
    congr 1
    refine List.map_inj_left.2 fun i hi => ?_
    unfold cmpO
    rw [he i (List.mem_range.1 hi)]
  · rw [List.all_eq_true]
    intro i hi
    rw [he i (List.mem_range.1 hi)]
    exact c4 i (List.mem_range.1 hi)
theorem composeE_two {l m : List Tm} (hl : subB l = true) (hm : subB m = true) : composeE l m = 2 := by unfold composeE; rw [if_pos ⟨hl, hm⟩]
end Go.Proofs.Ytfhgknmkpegpbaa
