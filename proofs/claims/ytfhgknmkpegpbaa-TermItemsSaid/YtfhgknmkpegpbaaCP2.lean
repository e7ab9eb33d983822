/- Items of lists: plain facts. -/
import Derived.Test.YtfhgknmkpegpbaaCT50
import Derived.Test.YtfhgknmkpegpbaaCT46
import Derived.Test.YtfhgknmkpegpbaaCP1
set_option linter.unusedVariables false
set_option linter.unusedSimpArgs false
namespace Go.Proofs.Ytfhgknmkpegpbaa
open Go.RowKit

theorem cellB_mk (x t : Tm) : cellB (.mk 5 0 ⟨#[46]⟩ [x, t]) = true := by
  rw [cellB_iff]
  refine ⟨rfl, ?_, rfl⟩
  show (⟨#[46]⟩ : ByteArray).toList = [46]
  rw [ByteArray.toList_eq]
theorem list_items {tail : Tm} (h : cellB tail = false) : ∀ l : List Tm, (listT l tail).items = (l, tail)
  | [] => items_stop h
  | x :: l => by
    have ih := list_items h l
    show (Tm.mk 5 0 ⟨#[46]⟩ [x, listT l tail]).items = _
    rw [items_cell (cellB_mk _ _) (x := x) (y := listT l tail) rfl rfl, ih]
theorem kfun_zero {t : Tm} (h : t.okB = true) (hk : t.k = 5) : t.n = 0 := by
  rw [Tm.okB_eq, Bool.and_eq_true] at h
  have h1 := h.1
  unfold nodeB bareB at h1
  rw [hk] at h1
  simp at h1
  exact h1.1.1.1
/-- What the items of a term are. -/
theorem items_spec (t : Tm) : t.okB = true → listT t.items.1 t.items.2 = t ∧ Tm.okBs t.items.1 = true ∧ t.items.2.okB = true ∧ Tm.sizes t.items.1 + t.items.2.size ≤ t.size ∧ Tm.depths t.items.1 ≤ t.depth ∧ t.items.2.depth ≤ t.depth := by
  induction t using Tm.ind with
  | h t ih =>
    intro hok
    rcases hc : cellB t with _ | _
    · rw [items_stop hc]
      exact ⟨rfl, rfl, hok, by simp [Tm.sizes], by simp [Tm.depths], Nat.le_refl _⟩
    · obtain ⟨hk, hs, hl⟩ := cellB_iff.1 hc
      obtain ⟨k, n, s, l⟩ := t
      simp only [Tm.k, Tm.s, Tm.l] at hk hs hl
      match l, hl with
      | [x, y], _ =>
        have hx := okB_mem hok (x := x) (by simp [Tm.l])
        have hy := okB_mem hok (x := y) (by simp [Tm.l])
        have hn := kfun_zero hok hk
        simp only [Tm.n] at hn
        have hs2 : s = ⟨#[46]⟩ := ba_toList (by rw [hs, ByteArray.toList_eq])
        obtain ⟨h1, h2, h3, h4, h5, h6⟩ := ih y (by simp [Tm.l]) hy
        rw [items_cell hc (x := x) (y := y) rfl rfl]
        have hz := Tm.size_eq (.mk k n s [x, y])
        have hd := Tm.depth_eq (.mk k n s [x, y])
        simp only [Tm.l, Tm.sizes, Tm.depths] at hz hd
        refine ⟨?_, ?_, h3, ?_, ?_, ?_⟩
        · show Tm.mk 5 0 ⟨#[46]⟩ [x, listT y.items.1 y.items.2] = _
          rw [h1, hk, hn, hs2]
        · show (x.okB && Tm.okBs y.items.1) = true
          rw [hx, h2]; rfl
        · show x.size + Tm.sizes y.items.1 + y.items.2.size ≤ _
          omega
        · show max x.depth (Tm.depths y.items.1) ≤ _
          omega
        · show y.items.2.depth ≤ _
          omega
theorem items_law {t : Tm} (h : isB t = true) : lstOk t.items.1 t.items.2 = true ∧ listT t.items.1 t.items.2 = t ∧ listR t.items.1 t.items.2 = some t := by
  obtain ⟨h1, h2, h3⟩ := isB_iff.1 h
  obtain ⟨a1, a2, a3, a4, a5, a6⟩ := items_spec t h1
  have hl : lstOk t.items.1 t.items.2 = true := by
    unfold lstOk
    rw [Bool.and_eq_true, allB_iff, isB_iff]
    exact ⟨⟨a2, by omega, by omega⟩, a3, by omega, by omega⟩
  refine ⟨hl, a1, ?_⟩
  unfold listR
  rw [hl, a1, if_pos ⟨rfl, h⟩]
theorem depths_all : ∀ {l : List Tm} {n : Nat}, (∀ t ∈ l, t.depth ≤ n) → Tm.depths l ≤ n
  | [], n, _ => by simp [Tm.depths]
  | x :: l, n, h => by
    rw [Tm.depths]
    have h1 := h x (List.mem_cons_self ..)
    have h2 := depths_all (l := l) (fun t ht => h t (List.mem_cons_of_mem _ ht))
    omega
theorem okBs_all : ∀ {l : List Tm}, (∀ t ∈ l, t.okB = true) → Tm.okBs l = true
  | [], _ => rfl
  | x :: l, h => by
    rw [Tm.okBs, h x (List.mem_cons_self ..), okBs_all (fun t ht => h t (List.mem_cons_of_mem _ ht))]; rfl
theorem sizes_append' (a b : List Tm) : Tm.sizes (a ++ b) = Tm.sizes a + Tm.sizes b := by
  induction a with
  | nil => simp [Tm.sizes]
  | cons x a ih => rw [List.cons_append, Tm.sizes, Tm.sizes, ih]; omega
/-- Of terms that are together small, any part is together a row of terms. -/
theorem right_part {a l : List Tm} (h : rightB (a ++ l) = true) : allB l = true := by
  obtain ⟨h1, h2⟩ := rightB_iff.1 h
  have h3 := (smallB_sizes h1).1
  rw [sizes_append'] at h3
  rw [allB_iff]
  exact ⟨okBs_all fun t ht => (isB_iff.1 (h2 t (List.mem_append_right _ ht))).1, by omega, depths_all fun t ht => (isB_iff.1 (h2 t (List.mem_append_right _ ht))).2.2⟩
end Go.Proofs.Ytfhgknmkpegpbaa
