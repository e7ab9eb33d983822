import Derived.Test.YthdlmnkefheliaaD22
import Derived.Test.YthdlmnkefheliaaD24
import Derived.Test.YthdlmnkefheliaaX1
import Derived.Test.YthdlmnkefheliaaP8
import Derived.Test.YthdlmnkefheliaaShelf
import Derived.WalkLawsBesides
set_option linter.unusedVariables false
set_option linter.unusedSimpArgs false
namespace Go.Proofs.Ythdlmnkefheliaa
open Go.RowKit
theorem getI {xs : List Int} {j : Nat} {x : Int} (h : xs[j]? = some x) : (xs.flatMap encI)[j]? = some (.int .i64 x) := by
  have := flatMap_get encI 1 (fun _ => rfl) xs j 0 x h (by omega)
  rw [Nat.mul_one, Nat.add_zero] at this
  exact this
theorem own_holds {w : World} {B g n c : Nat} {xs : List Int} (h : w.ownsRow B 3 1 (.slice (some ⟨g, 0, none⟩) n c) n (xs.flatMap encI)) : Sort.Holds (Value.int .i64) w g 0 xs.toArray := by
  intro j hj
  simp at hj
  have hx : xs[j]? = some xs.toArray[j]! := by
    rw [List.getElem?_eq_getElem hj]
    simp [hj]
  rw [Nat.zero_add]
  exact own_cell_in h j _ (getI hx)
theorem rd_holds {w : World} {g : Nat} {xs : List Int} (h : Sort.Holds (Value.int .i64) w g 0 xs.toArray) : Rd w (some ⟨g, 0, none⟩) (xs.flatMap encI) := by
  intro _
  refine ⟨g, 0, rfl, fun j v hj => ?_⟩
  have hl := flatMap_len encI 1 (fun _ => rfl) xs
  rw [Nat.mul_one] at hl
  have hjl : j < xs.length := by
    rw [← hl]; exact (List.getElem?_eq_some_iff.1 hj).1
  have := (h j (by simpa using hjl)).1
  rw [this]
  have hx : xs[j]? = some xs.toArray[j]! := by
    rw [List.getElem?_eq_getElem hjl]
    simp [hjl]
  rw [getI hx] at hj
  exact hj
theorem below_putRow {B g n : Nat} {w : World} {d : Array Int} {os : Array Obj} (hg : B ≤ g) (hB : B ≤ w.heap.size) : Below B w (Sort.grow (Sort.putRow (Value.int .i64) (Sort.ahead w n) g 0 d) os) := by
  refine ⟨rfl, rfl, rfl, by simp, fun k hk => ?_⟩
  rw [Sort.heap_grow_old _ _ (by simp; omega)]
  simp only [Sort.putRow, Sort.mapBlock, Array.getElem?_modify]
  rw [if_neg (by omega)]
  rfl
theorem sortI_calls (g c n B : Nat) (xs : List Int) (w : World) (h : w.ownsRow B 3 1 (.slice (some ⟨g, 0, none⟩) n c) n (xs.flatMap encI)) (hn : n = xs.length) (hl : xs.length ≤ 100000) :
    Calls Try.prog 47 #[.slice (some ⟨g, 0, none⟩) n c] w fun e w' => e = .returned (.tuple #[]) ∧ Sort.Holds (Value.int .i64) w' g 0 (xs.mergeSort fun x y => decide (x ≤ y)).toArray ∧ Below B w w' ∧ g < w'.heap.size := by
  subst hn
  obtain ⟨hb, hlt⟩ := h.lt g rfl
  have hH := own_holds h
  refine (Try.slices_Sort_int g 0 c xs w hH hlt (by omega)).mono ?_
  rintro e w' ⟨rfl, m, os, rfl⟩
  refine ⟨rfl, ?_, below_putRow hb (by omega), by simp; omega⟩
  refine Sort.holds_grow _ _ _ _ _ _ (by simpa using hlt) ?_
  exact Sort.holds_putRow _ _ _ _ xs.toArray _ (Sort.holds_ahead _ _ _ _ _ _ hH) (by simp)
theorem revI_calls (g c n B : Nat) (xs : List Int) (w : World) (h : Sort.Holds (Value.int .i64) w g 0 xs.toArray) (hB : B ≤ g) (hBw : B ≤ w.heap.size) (hn : n = xs.length) (hl : xs.length ≤ 100000) :
    Calls Try.prog 48 #[.slice (some ⟨g, 0, none⟩) n c] w fun e w' => e = .returned (.tuple #[]) ∧ Sort.Holds (Value.int .i64) w' g 0 xs.reverse.toArray ∧ Below B w w' := by
  subst hn
  refine (Try.slices_Reverse_int g 0 c xs w h (by omega)).mono ?_
  rintro e w' ⟨rfl, m, rfl⟩
  refine ⟨rfl, ?_, ?_⟩
  · exact Sort.holds_putRow _ _ _ _ xs.toArray _ (Sort.holds_ahead _ _ _ _ _ _ h) (by simp)
  · have := below_putRow (n := m) (d := xs.reverse.toArray) (os := #[]) hB hBw
    rwa [Sort.grow_empty] at this
theorem sorted_rev (xs : List Int) : (xs.Perm (xs.mergeSort fun x y => decide (x ≤ y)).reverse) ∧ List.Pairwise (fun a b => b ≤ a) (xs.mergeSort fun x y => decide (x ≤ y)).reverse := by
  refine ⟨((List.mergeSort_perm xs _).symm).trans (List.reverse_perm _).symm, ?_⟩
  rw [List.pairwise_reverse]
  have := List.pairwise_mergeSort (le := fun (x y : Int) => decide (x ≤ y)) (fun a b c h1 h2 => by simp at *; omega) (fun a b => by simp; omega) xs
  exact this.imp (fun h => by simpa using h)
end Go.Proofs.Ythdlmnkefheliaa
