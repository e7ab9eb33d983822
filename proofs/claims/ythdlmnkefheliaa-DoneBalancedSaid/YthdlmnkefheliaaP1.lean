import Derived.Test.YthdlmnkefheliaaD18
import Derived.Test.YthdlmnkefheliaaD12
set_option linter.unusedVariables false
set_option linter.unusedSimpArgs false
namespace Go.Proofs.Ythdlmnkefheliaa
open Go.RowKit
theorem foldl_max_mem : ∀ (xs : List Int) (h : Int), xs.foldl max h = h ∨ xs.foldl max h ∈ xs
  | [], h => .inl rfl
  | x :: xs, h => by
    rw [List.foldl_cons]
    rcases foldl_max_mem xs (max h x) with he | he
    · rw [he]
      rcases Int.le_total h x with hl | hl
      · exact .inr (by rw [Int.max_eq_right hl]; simp)
      · exact .inl (Int.max_eq_left hl)
    · exact .inr (List.mem_cons_of_mem _ he)
theorem foldl_min_mem : ∀ (xs : List Int) (h : Int), xs.foldl min h = h ∨ xs.foldl min h ∈ xs
  | [], h => .inl rfl
  | x :: xs, h => by
    rw [List.foldl_cons]
    rcases foldl_min_mem xs (min h x) with he | he
    · rw [he]
      rcases Int.le_total h x with hl | hl
      · exact .inl (Int.min_eq_left hl)
      · exact .inr (by rw [Int.min_eq_right hl]; simp)
    · exact .inr (List.mem_cons_of_mem _ he)
theorem maxI_mem {xs : List Int} (h : xs ≠ []) : maxI xs ∈ xs := by
  cases xs with
  | nil => exact absurd rfl h
  | cons a t =>
    rw [maxI]
    rcases foldl_max_mem (a :: t) ((a :: t).headD 0) with he | he
    · rw [he]; simp
    · exact he
theorem minI_mem {xs : List Int} (h : xs ≠ []) : minI xs ∈ xs := by
  cases xs with
  | nil => exact absurd rfl h
  | cons a t =>
    rw [minI]
    rcases foldl_min_mem (a :: t) ((a :: t).headD 0) with he | he
    · rw [he]; simp
    · exact he
theorem foldl_max_ge : ∀ (xs : List Int) (h : Int), h ≤ xs.foldl max h ∧ ∀ x ∈ xs, x ≤ xs.foldl max h
  | [], h => ⟨Int.le_refl _, fun x hx => by simp at hx⟩
  | y :: xs, h => by
    obtain ⟨h1, h2⟩ := foldl_max_ge xs (max h y)
    rw [List.foldl_cons]
    refine ⟨by omega, fun x hx => ?_⟩
    rcases List.mem_cons.1 hx with rfl | hx
    · omega
    · exact h2 x hx
theorem foldl_min_le : ∀ (xs : List Int) (h : Int), xs.foldl min h ≤ h ∧ ∀ x ∈ xs, xs.foldl min h ≤ x
  | [], h => ⟨Int.le_refl _, fun x hx => by simp at hx⟩
  | y :: xs, h => by
    obtain ⟨h1, h2⟩ := foldl_min_le xs (min h y)
    rw [List.foldl_cons]
    refine ⟨by omega, fun x hx => ?_⟩
    rcases List.mem_cons.1 hx with rfl | hx
    · omega
    · exact h2 x hx
theorem le_maxI {xs : List Int} {x : Int} (h : x ∈ xs) : x ≤ maxI xs := (foldl_max_ge xs _).2 x h
theorem minI_le {xs : List Int} {x : Int} (h : x ∈ xs) : minI xs ≤ x := (foldl_min_le xs _).2 x h
theorem findI_mem {v : Int} {xs : List Int} (h : v ∈ xs) : ∃ k : Nat, findI (fun x => v == x) xs = k ∧ xs[k]? = some v := by
  cases hf : xs.findIdx? (fun x => v == x) with
  | none =>
    rw [List.findIdx?_eq_none_iff] at hf
    have := hf v h
    simp at this
  | some i =>
    rw [findI_some hf]
    rw [List.findIdx?_eq_some_iff_getElem] at hf
    obtain ⟨h1, h2, _⟩ := hf
    refine ⟨i, rfl, ?_⟩
    rw [List.getElem?_eq_getElem h1]
    have : v = xs[i] := by simpa using h2
    rw [← this]
def sq : List Int → Int
  | [] => 0
  | x :: xs => x * x + sq xs
theorem sq_set : ∀ (xs : List Int) (k : Nat) (x y : Int), xs[k]? = some x → sq (xs.set k y) = sq xs - x * x + y * y
  | [], k, x, y, h => by simp at h
  | z :: zs, 0, x, y, h => by
    simp at h; subst h
    simp only [List.set_cons_zero, sq]; omega
  | z :: zs, k + 1, x, y, h => by
    simp at h
    have := sq_set zs k x y h
    simp only [List.set_cons_succ, sq, this]; omega
theorem sq_nonneg : ∀ (xs : List Int), 0 ≤ sq xs
  | [] => Int.le_refl _
  | x :: xs => by
    have := sq_nonneg xs
    have h2 : 0 ≤ x * x := by
      rcases Int.le_total 0 x with h | h
      · exact Int.mul_nonneg h h
      · have := Int.mul_nonneg (a := -x) (b := -x) (by omega) (by omega)
        simpa [Int.neg_mul_neg] using this
    rw [sq]; omega
theorem sq_le : ∀ (xs : List Int), (∀ x ∈ xs, 0 ≤ x ∧ x ≤ 1000) → sq xs ≤ 1000000 * xs.length
  | [], _ => by simp [sq]
  | x :: xs, h => by
    have := sq_le xs (fun y hy => h y (List.mem_cons_of_mem _ hy))
    obtain ⟨h0, h1⟩ := h x (List.mem_cons_self ..)
    have h2 : x * x ≤ 1000 * 1000 := Int.mul_le_mul h1 h1 h0 (by omega)
    rw [sq, List.length_cons]; omega
def maxAt (l : List Int) : Int := findI (fun x => maxI l == x) l
def minAt (l : List Int) : Int := findI (fun x => minI l == x) l
def planStep (l : List Int) : List Int := (l.set (maxAt l).toNat (maxI l - 1)).set (minAt l).toNat (minI l + 1)
def planGo : Nat → List Int → List (Int × Int) → List (Int × Int)
  | 0, _, out => out
  | n + 1, l, out => if maxI l - minI l ≤ 1 then out else planGo n (planStep l) (out ++ [(maxAt l, minAt l)])
structure PlanAt (l : List Int) (f t : Nat) : Prop where
  mx : maxAt l = f
  mn : minAt l = t
  f_ : l[f]? = some (maxI l)
  t_ : l[t]? = some (minI l)
theorem planAt {l : List Int} (h : l ≠ []) : ∃ f t, PlanAt l f t := by
  obtain ⟨f, h1, h2⟩ := findI_mem (maxI_mem h)
  obtain ⟨t, h3, h4⟩ := findI_mem (minI_mem h)
  exact ⟨f, t, h1, h3, h2, h4⟩
theorem PlanAt.step {l : List Int} {f t : Nat} (h : PlanAt l f t) : planStep l = (l.set f (maxI l - 1)).set t (minI l + 1) := by
  rw [planStep, h.mx, h.mn]; simp
theorem PlanAt.ne {l : List Int} {f t : Nat} (h : PlanAt l f t) (hd : ¬ maxI l - minI l ≤ 1) : f ≠ t := by
  rintro rfl
  have := h.f_.symm.trans h.t_
  injection this
  omega
theorem PlanAt.step_at {l : List Int} {f t : Nat} (h : PlanAt l f t) (hd : ¬ maxI l - minI l ≤ 1) : (l.set f (maxI l - 1))[t]? = some (minI l) := by
  rw [List.getElem?_set_ne (h.ne hd)]; exact h.t_
theorem PlanAt.sq {l : List Int} {f t : Nat} (h : PlanAt l f t) (hd : ¬ maxI l - minI l ≤ 1) : sq (planStep l) ≤ sq l - 2 := by
  rw [h.step, sq_set _ _ _ _ (h.step_at hd), sq_set _ _ _ _ h.f_]
  generalize maxI l = a at *
  generalize minI l = b at *
  have e1 : (a - 1) * (a - 1) = a * a - 2 * a + 1 := by rw [Int.sub_mul, Int.mul_sub]; omega
  have e2 : (b + 1) * (b + 1) = b * b + 2 * b + 1 := by rw [Int.add_mul, Int.mul_add]; omega
  omega
structure PlanInv (l0 : List Int) (N : Nat) (n : Nat) (l : List Int) (out : List (Int × Int)) : Prop where
  len : l.length = l0.length
  bnd : ∀ x ∈ l, 0 ≤ x ∧ x ≤ 1000
  sq_ : sq l ≤ n
  cnt : out.length + n = N
  go : planGo n l out = planGo N l0 []
theorem PlanInv.start {l0 : List Int} (h : ∀ x ∈ l0, 0 ≤ x ∧ x ≤ 1000) : PlanInv l0 (sq l0).toNat (sq l0).toNat l0 [] :=
  ⟨rfl, h, by have := sq_nonneg l0; omega, by simp, rfl⟩
theorem PlanInv.done {l0 : List Int} {N n : Nat} {l : List Int} {out : List (Int × Int)} (h : PlanInv l0 N n l out) (hd : maxI l - minI l ≤ 1) : planGo N l0 [] = out := by
  rw [← h.go]
  cases n with
  | zero => rfl
  | succ n => rw [planGo, if_pos hd]
theorem PlanInv.step {l0 : List Int} {N n : Nat} {l : List Int} {out : List (Int × Int)} (h : PlanInv l0 N n l out) {f t : Nat} (hp : PlanAt l f t) (hd : ¬ maxI l - minI l ≤ 1) :
    ∃ m, n = m + 1 ∧ PlanInv l0 N m (planStep l) (out ++ [((f : Int), (t : Int))]) := by
  have hs := hp.sq hd
  have hn := sq_nonneg (planStep l)
  have h1 := h.sq_
  cases n with
  | zero => omega
  | succ m =>
    refine ⟨m, rfl, ?_, ?_, by omega, ?_, ?_⟩
    · rw [hp.step]; simp [h.len]
    · intro x hx
      have hf := h.bnd _ (List.mem_of_getElem? hp.f_)
      have ht := h.bnd _ (List.mem_of_getElem? hp.t_)
      rw [hp.step] at hx
      rcases List.mem_or_eq_of_mem_set hx with hx | rfl
      · rcases List.mem_or_eq_of_mem_set hx with hx | rfl
        · exact h.bnd x hx
        · omega
      · omega
    · have := h.cnt
      rw [List.length_append, List.length_cons, List.length_nil]; omega
    · rw [← h.go, planGo, if_neg hd, hp.mx, hp.mn]
def planM (l : List Int) : List (Int × Int) × Int :=
  if bd 1 16 l.length && !(l.any fun x => !bd 0 1000 x) then (planGo (sq l).toNat l [], 0) else ([], 1)
theorem maxr_calls (r : Int) (n : Nat) (xs : List Int) (A : Option Addr) (c : Nat) (w : World) (hr' : r = maxI xs) (hn : n = xs.length) (hlen : xs.length ≤ 100000) (hne : 1 ≤ xs.length) (hr : Rd w A (xs.flatMap encI)) :
    Calls Try.prog 45 #[.slice A n c] w fun e w' => e = .returned (.int .i64 r) ∧ Below w.heap.size w w' := by
  subst hr' hn; exact max_calls xs A c w hlen hne hr
theorem minr_calls (r : Int) (n : Nat) (xs : List Int) (A : Option Addr) (c : Nat) (w : World) (hr' : r = minI xs) (hn : n = xs.length) (hlen : xs.length ≤ 100000) (hne : 1 ≤ xs.length) (hr : Rd w A (xs.flatMap encI)) :
    Calls Try.prog 46 #[.slice A n c] w fun e w' => e = .returned (.int .i64 r) ∧ Below w.heap.size w w' := by
  subst hr' hn; exact min_calls xs A c w hlen hne hr
theorem indexr_calls (r v : Int) (n : Nat) (xs : List Int) (A : Option Addr) (c : Nat) (w : World) (hr' : findI (fun x => v == x) xs = r) (hn : n = xs.length) (hlen : xs.length ≤ 100000) (hr : Rd w A (xs.flatMap encI)) :
    Calls Try.prog 62 #[.slice A n c, .int .i64 v] w fun e w' => e = .returned (.int .i64 r) ∧ Below w.heap.size w w' := by
  subst hr' hn; exact index_calls v xs A c w hlen hr
theorem info42 : (Try.prog.info? 42).map (fun i => (i.zero, i.size, i.bytes)) = some (some (.agg #[.int .i64 0, .int .i64 0]), 2, 16) := by kernel_rfl
def sliceLen : Value → Nat
  | .slice _ n _ => n
  | _ => 0
def RetP (w : World) (r : List (Int × Int) × Int) (e : Ending) (w' : World) : Prop :=
  ∃ v, e = .returned (.tuple #[v, .int .i64 r.2]) ∧ w'.ownsRow w.heap.size 42 2 v r.1.length (r.1.flatMap encH) ∧ Below w.heap.size w w'
end Go.Proofs.Ythdlmnkefheliaa
