import Derived.Test.YthdlmnkefheliaaP6
set_option linter.unusedVariables false
set_option linter.unusedSimpArgs false
namespace Go.Proofs.Ythdlmnkefheliaa
open Go.RowKit
theorem fsum_set (f : Int → Int) : ∀ (l : List Int) (k : Nat) (x y : Int), l[k]? = some x → ((l.set k y).map f).sum = (l.map f).sum - f x + f y
  | [], k, x, y, h => by simp at h
  | z :: zs, 0, x, y, h => by
    simp at h; subst h
    simp only [List.set_cons_zero, List.map_cons, List.sum_cons]; omega
  | z :: zs, k + 1, x, y, h => by
    simp at h
    have := fsum_set f zs k x y h
    simp only [List.set_cons_succ, List.map_cons, List.sum_cons, this]; omega
theorem fsum_nonneg {f : Int → Int} : ∀ {l : List Int}, (∀ x ∈ l, 0 ≤ f x) → 0 ≤ (l.map f).sum
  | [], _ => Int.le_refl _
  | y :: ys, h => by
    have h1 := fsum_nonneg (f := f) (l := ys) (fun x hx => h x (List.mem_cons_of_mem _ hx))
    have h2 := h y (List.mem_cons_self ..)
    simp only [List.map_cons, List.sum_cons]; omega
theorem fsum_ge_mem {f : Int → Int} {a : Int} : ∀ {l : List Int}, (∀ x ∈ l, 0 ≤ f x) → a ∈ l → f a ≤ (l.map f).sum
  | [], _, h => by simp at h
  | y :: ys, h, hm => by
    have h0 := fsum_nonneg (f := f) (l := ys) (fun x hx => h x (List.mem_cons_of_mem _ hx))
    have h2 := h y (List.mem_cons_self ..)
    simp only [List.map_cons, List.sum_cons]
    rcases List.mem_cons.1 hm with rfl | hm
    · omega
    · have := fsum_ge_mem (f := f) (fun x hx => h x (List.mem_cons_of_mem _ hx)) hm
      omega
def ovr (q x : Int) : Int := if q < x then x - q else 0
def ind (q x : Int) : Int := if q < x then 1 else 0
def ovrS (q : Int) (l : List Int) : Int := (l.map (ovr q)).sum
def indS (q : Int) (l : List Int) : Int := (l.map (ind q)).sum
def needM (q m : Int) (l : List Int) : Int := ovrS q l - min m (indS q l)
theorem sum_lin (q : Int) : ∀ (l : List Int), (l.map (fun x => x - q - ind q x)).sum = l.sum - l.length * q - indS q l
  | [] => by simp [indS]
  | x :: xs => by
    have := sum_lin q xs
    simp only [List.map_cons, List.sum_cons, this, indS, List.length_cons]
    have e : ((xs.length + 1 : Nat) : Int) * q = xs.length * q + q := by rw [Int.natCast_add, Int.add_mul]; omega
    rw [e]; omega
theorem sum_lin' (q : Int) : ∀ (l : List Int), (l.map (fun x => ind q x - (x - q))).sum = indS q l - (l.sum - l.length * q)
  | [] => by simp [indS]
  | x :: xs => by
    have := sum_lin' q xs
    simp only [List.map_cons, List.sum_cons, this, indS, List.length_cons]
    have e : ((xs.length + 1 : Nat) : Int) * q = xs.length * q + q := by rw [Int.natCast_add, Int.add_mul]; omega
    rw [e]; omega
theorem sum_sub (q : Int) : ∀ (l : List Int), (l.map (fun x => x - q)).sum = l.sum - l.length * q
  | [] => by simp
  | x :: xs => by
    have := sum_sub q xs
    simp only [List.map_cons, List.sum_cons, this, List.length_cons]
    have e : ((xs.length + 1 : Nat) : Int) * q = xs.length * q + q := by rw [Int.natCast_add, Int.add_mul]; omega
    rw [e]; omega
theorem sum_sub' (q : Int) : ∀ (l : List Int), (l.map (fun x => q - x)).sum = l.length * q - l.sum
  | [] => by simp
  | x :: xs => by
    have := sum_sub' q xs
    simp only [List.map_cons, List.sum_cons, this, List.length_cons]
    have e : ((xs.length + 1 : Nat) : Int) * q = xs.length * q + q := by rw [Int.natCast_add, Int.add_mul]; omega
    rw [e]; omega
/-- The mean of loads, and what is left over. -/
structure Mean (q m : Int) (l : List Int) : Prop where
  ne : l ≠ []
  sum : l.sum = l.length * q + m
  m0 : 0 ≤ m
  m1 : m < l.length
theorem Mean.max_gt {q m : Int} {l : List Int} (h : Mean q m l) (hd : ¬ maxI l - minI l ≤ 1) : q < maxI l := by
  rcases Int.lt_or_le q (maxI l) with h1 | h1
  · exact h1
  · exfalso
    have h2 := fsum_ge_mem (f := fun x => q - x) (a := minI l) (l := l) (fun x hx => by have := le_maxI hx; omega) (minI_mem h.ne)
    rw [sum_sub'] at h2
    have := h.sum
    have := h.m0
    omega
theorem Mean.min_le {q m : Int} {l : List Int} (h : Mean q m l) : minI l ≤ q := by
  rcases Int.lt_or_le q (minI l) with h1 | h1
  · exfalso
    have h2 := fsum_nonneg (f := fun x => x - (q + 1)) (l := l) (fun x hx => by have := minI_le hx; omega)
    rw [sum_sub] at h2
    have h3 := h.sum
    have h4 := h.m1
    have e : (l.length : Int) * (q + 1) = l.length * q + l.length := by rw [Int.mul_add]; omega
    rw [e] at h2
    omega
  · exact h1
theorem sumI_set (l : List Int) (k : Nat) (x y : Int) (h : l[k]? = some x) : (l.set k y).sum = l.sum - x + y := by
  have := fsum_set id l k x y h
  simpa using this
theorem planStep_sum {l : List Int} (hne : l ≠ []) (hd : ¬ maxI l - minI l ≤ 1) : (planStep l).sum = l.sum := by
  obtain ⟨f, t, hp⟩ := planAt hne
  rw [hp.step, sumI_set _ _ _ _ (hp.step_at hd), sumI_set _ _ _ _ hp.f_]
  omega
theorem Mean.step {q m : Int} {l : List Int} (h : Mean q m l) (hd : ¬ maxI l - minI l ≤ 1) : Mean q m (planStep l) :=
  ⟨planStep_ne h.ne, by rw [planStep_sum h.ne hd, planStep_len]; exact h.sum, h.m0, by rw [planStep_len]; exact h.m1⟩
theorem planStep_fsum (f : Int → Int) {l : List Int} (hne : l ≠ []) (hd : ¬ maxI l - minI l ≤ 1) :
    ((planStep l).map f).sum = (l.map f).sum - f (maxI l) + f (maxI l - 1) - f (minI l) + f (minI l + 1) := by
  obtain ⟨a, t, hp⟩ := planAt hne
  rw [hp.step, fsum_set f _ _ _ _ (hp.step_at hd), fsum_set f _ _ _ _ hp.f_]
theorem need_step {q m : Int} {l : List Int} (h : Mean q m l) (hd : ¬ maxI l - minI l ≤ 1) : needM q m (planStep l) = needM q m l - 1 := by
  have h1 := h.max_gt hd
  have h2 := h.min_le
  have e1 := planStep_fsum (ovr q) h.ne hd
  have e2 := planStep_fsum (ind q) h.ne hd
  have h3 := h.sum
  unfold needM ovrS indS
  rw [e1, e2]
  have hx : maxI l ≠ q + 1 → minI l = q → indS q l + 1 ≤ m := fun ha hb => by
    have h4 := fsum_ge_mem (f := fun x => x - q - ind q x) (a := maxI l) (l := l) (fun x hx => by have := minI_le hx; simp only [ind]; split <;> omega) (maxI_mem h.ne)
    rw [sum_lin] at h4
    simp only [ind] at h4
    rw [if_pos h1] at h4
    omega
  have hy : maxI l = q + 1 → m + 1 ≤ indS q l := fun ha => by
    have h4 := fsum_ge_mem (f := fun x => ind q x - (x - q)) (a := minI l) (l := l) (fun x hx => by have := le_maxI hx; simp only [ind]; split <;> omega) (minI_mem h.ne)
    rw [sum_lin'] at h4
    simp only [ind] at h4
    rw [if_neg (by omega)] at h4
    omega
  unfold indS at hx hy
  generalize (l.map (ovr q)).sum = S at *
  generalize (l.map (ind q)).sum = C at *
  unfold ovr ind
  by_cases ha : maxI l = q + 1
  · have := hy ha
    rw [if_pos h1, if_neg (by omega), if_neg (by omega), if_neg (by omega), if_pos h1, if_neg (by omega), if_neg (by omega), if_neg (by omega)]
    omega
  · by_cases hb : minI l = q
    · have := hx ha hb
      rw [if_pos h1, if_pos (by omega), if_neg (by omega), if_pos (by omega), if_pos h1, if_pos (by omega), if_neg (by omega), if_pos (by omega)]
      omega
    · rw [if_pos h1, if_pos (by omega), if_neg (by omega), if_neg (by omega), if_pos h1, if_pos (by omega), if_neg (by omega), if_neg (by omega)]
      omega
theorem need_done {q m : Int} {l : List Int} (h : Mean q m l) (hd : maxI l - minI l ≤ 1) : needM q m l = 0 := by
  have h2 := h.min_le
  have h3 := h.sum
  have hmin : minI l = q := by
    rcases Int.lt_or_le (minI l) q with h1 | h1
    · exfalso
      have h4 := fsum_ge_mem (f := fun x => q - x) (a := minI l) (l := l) (fun x hx => by have := le_maxI hx; omega) (minI_mem h.ne)
      rw [sum_sub'] at h4
      have := h.m0
      omega
    · omega
  have hx : ∀ x ∈ l, q ≤ x ∧ x ≤ q + 1 := fun x hx => ⟨by have := minI_le hx; omega, by have := le_maxI hx; omega⟩
  have e1 : ovrS q l = indS q l := by
    unfold ovrS indS
    congr 1
    refine List.map_congr_left fun x hm => ?_
    have := hx x hm
    unfold ovr ind
    split <;> omega
  have e2 : indS q l = m := by
    have h5 := fsum_nonneg (f := fun x => x - q - ind q x) (l := l) (fun x hm => by have := hx x hm; simp only [ind]; split <;> omega)
    have h6 := fsum_nonneg (f := fun x => ind q x - (x - q)) (l := l) (fun x hm => by have := hx x hm; simp only [ind]; split <;> omega)
    rw [sum_lin] at h5
    rw [sum_lin'] at h6
    omega
  unfold needM
  rw [e1, e2]; omega
/-- A plan that is carried out on a list of loads. -/
def Lev (l : List Int) (rest : List (Int × Int)) : Prop := l ≠ [] ∧ (∀ x ∈ l, 0 ≤ x ∧ x ≤ 1000) ∧ ∃ n : Nat, sq l ≤ n ∧ planL n l = rest
theorem sq_zero : ∀ {l : List Int}, sq l ≤ 0 → ∀ x ∈ l, x = 0
  | [], _, x, h => by simp at h
  | y :: ys, hs, x, h => by
    rw [sq] at hs
    have h1 := sq_nonneg ys
    have h2 : 0 ≤ y * y := by
      have := sq_nonneg [y]
      simpa [sq] using this
    rcases List.mem_cons.1 h with rfl | h
    · have : x * x = 0 := by omega
      rcases Int.mul_eq_zero.1 this with h | h <;> exact h
    · exact sq_zero (by omega) x h
theorem Lev.nil {l : List Int} (h : Lev l []) : maxI l - minI l ≤ 1 := by
  obtain ⟨hne, hb, n, hs, hp⟩ := h
  cases n with
  | zero =>
    have h1 := sq_zero (l := l) (by omega) _ (maxI_mem hne)
    have h2 := sq_zero (l := l) (by omega) _ (minI_mem hne)
    omega
  | succ n =>
    rw [planL] at hp
    split at hp
    · assumption
    · simp at hp
theorem Lev.cons {l : List Int} {a : Int × Int} {rest : List (Int × Int)} (h : Lev l (a :: rest)) :
    ¬ maxI l - minI l ≤ 1 ∧ ∃ f t : Nat, a = ((f : Int), (t : Int)) ∧ PlanAt l f t ∧ Lev (planStep l) rest := by
  obtain ⟨hne, hb, n, hs, hp⟩ := h
  cases n with
  | zero => simp [planL] at hp
  | succ n =>
    rw [planL] at hp
    split at hp
    · simp at hp
    · rename_i hd
      refine ⟨hd, ?_⟩
      obtain ⟨f, t, hpa⟩ := planAt hne
      injection hp with h1 h2
      refine ⟨f, t, by rw [← h1, hpa.mx, hpa.mn], hpa, planStep_ne hne, ?_, n, by have := hpa.sq hd; omega, h2⟩
      intro x hx
      have hf := hb _ (maxI_mem hne)
      have ht := hb _ (minI_mem hne)
      rw [hpa.step] at hx
      rcases List.mem_or_eq_of_mem_set hx with hx | rfl
      · rcases List.mem_or_eq_of_mem_set hx with hx | rfl
        · exact hb x hx
        · omega
      · omega
theorem Lev.len {q m : Int} : ∀ {rest : List (Int × Int)} {l : List Int}, Lev l rest → Mean q m l → (rest.length : Int) = needM q m l
  | [], l, h, hm => by rw [need_done hm h.nil]; rfl
  | a :: rest, l, h, hm => by
    obtain ⟨hd, f, t, -, -, h2⟩ := h.cons
    have h3 := Lev.len h2 (hm.step hd)
    rw [need_step hm hd] at h3
    rw [List.length_cons]
    omega
theorem planM_lev {l : List Int} (h1 : 1 ≤ l.length) (h2 : l.length ≤ 16) (hb : ∀ x ∈ l, 0 ≤ x ∧ x ≤ 1000) : (planM l).2 = 0 ∧ Lev l (planM l).1 := by
  have h3 : bd 1 16 (l.length : Int) = true := by rw [bd_iff]; omega
  have h4 : (l.any fun x => !bd 0 1000 x) = false := by
    rw [List.any_eq_false]
    intro x hx
    rw [Bool.not_eq_true, Bool.not_eq_false', bd_iff]; exact hb x hx
  rw [planM, h3, h4]
  refine ⟨rfl, by intro e; subst e; simp at h1, hb, (sq l).toNat, by have := sq_nonneg l; omega, ?_⟩
  simp only [Bool.not_false, Bool.and_self, if_true]
  rw [planGo_eq, List.nil_append]
/-- What has to move, of loads in falling order. -/
def needF (q : Int) : Int → List Int → Int
  | _, [] => 0
  | m, x :: s => max 0 (x - (if 0 < m then q + 1 else q)) + needF q (m - 1) s
theorem needF_low {q : Int} : ∀ {s : List Int} (m : Int), (∀ x ∈ s, x ≤ q) → needF q m s = 0 ∧ ovrS q s = 0 ∧ indS q s = 0
  | [], m, _ => ⟨rfl, rfl, rfl⟩
  | x :: s, m, h => by
    obtain ⟨h1, h2, h3⟩ := needF_low (s := s) (m - 1) (fun y hy => h y (List.mem_cons_of_mem _ hy))
    have hx := h x (List.mem_cons_self ..)
    unfold ovrS indS at *
    refine ⟨by rw [needF, h1]; split <;> omega, ?_, ?_⟩
    · simp only [List.map_cons, List.sum_cons, h2, ovr]; rw [if_neg (by omega)]; rfl
    · simp only [List.map_cons, List.sum_cons, h3, ind]; rw [if_neg (by omega)]; rfl
theorem indS_nonneg (q : Int) (s : List Int) : 0 ≤ indS q s := fsum_nonneg (fun x _ => by unfold ind; split <;> omega)
theorem needF_eq {q : Int} : ∀ {s : List Int} (m : Int), List.Pairwise (fun a b => b ≤ a) s → needF q m s = ovrS q s - min (max m 0) (indS q s)
  | [], m, _ => by simp [needF, ovrS, indS]; omega
  | x :: s, m, h => by
    rw [List.pairwise_cons] at h
    by_cases hx : q < x
    · have h1 := needF_eq (q := q) (s := s) (m - 1) h.2
      have h2 := indS_nonneg q s
      have e1 : ovrS q (x :: s) = (x - q) + ovrS q s := by unfold ovrS; simp only [List.map_cons, List.sum_cons, ovr]; rw [if_pos hx]
      have e2 : indS q (x :: s) = 1 + indS q s := by unfold indS; simp only [List.map_cons, List.sum_cons, ind]; rw [if_pos hx]
      rw [needF, h1, e1, e2]
      split <;> omega
    · obtain ⟨h1, h2, h3⟩ := needF_low (q := q) (s := x :: s) m (fun y hy => by
        rcases List.mem_cons.1 hy with rfl | hy
        · omega
        · have := h.1 y hy; omega)
      rw [h1, h2, h3]; omega
theorem perm_sum {l s : List Int} (h : l.Perm s) : l.sum = s.sum := by
  induction h with
  | nil => rfl
  | cons x _ ih => simp only [List.sum_cons, ih]
  | swap x y l => simp only [List.sum_cons]; omega
  | trans _ _ ih1 ih2 => exact ih1.trans ih2
theorem ovrS_perm {q : Int} {l s : List Int} (h : l.Perm s) : ovrS q l = ovrS q s := perm_sum (h.map _)
theorem indS_perm {q : Int} {l s : List Int} (h : l.Perm s) : indS q l = indS q s := perm_sum (h.map _)
theorem needF_perm {q m : Int} {l s : List Int} (h : l.Perm s) (hs : List.Pairwise (fun a b => b ≤ a) s) (hm : 0 ≤ m) : needF q m s = needM q m l := by
  rw [needF_eq m hs, needM, ovrS_perm h, indS_perm h]
  rw [show max m 0 = m by omega]
theorem Mean.of {l : List Int} (h : 1 ≤ l.length) : Mean (l.sum / l.length) (l.sum % l.length) l :=
  ⟨by intro e; subst e; simp at h, by have := Int.mul_ediv_add_emod l.sum l.length; omega, Int.emod_nonneg _ (by omega), Int.emod_lt_of_pos _ (by omega)⟩
theorem ovrS_le {q : Int} (hq : 0 ≤ q) : ∀ {l : List Int}, (∀ x ∈ l, 0 ≤ x ∧ x ≤ 1000) → ovrS q l ≤ 1000 * l.length
  | [], _ => by simp [ovrS]
  | x :: xs, h => by
    have h1 := ovrS_le hq (l := xs) (fun y hy => h y (List.mem_cons_of_mem _ hy))
    have h2 := h x (List.mem_cons_self ..)
    unfold ovrS at *
    simp only [List.map_cons, List.sum_cons, List.length_cons, ovr]
    split <;> omega
end Go.Proofs.Ythdlmnkefheliaa
