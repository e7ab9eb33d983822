/- Substitution in trees: plain facts; what the program's replacing gives. -/
import Derived.Test.YtfhgknmkpegpbaaM7
import Derived.Test.YtfhgknmkpegpbaaM3
import Derived.Test.YtfhgknmkpegpbaaM6
set_option linter.unusedVariables false
set_option linter.unusedSimpArgs false
namespace Go.Proofs.Ytfhgknmkpegpbaa
open Go.RowKit

mutual
/-- A substitution is carried out. -/
def Tm.sub (σ : Int → Tm) : Tm → Tm
  | .mk k n s l => if k = 1 then σ n else .mk k n s (Tm.subs σ l)
def Tm.subs (σ : Int → Tm) : List Tm → List Tm
  | [] => []
  | t :: ts => Tm.sub σ t :: Tm.subs σ ts
end
theorem Tm.subs_map (σ : Int → Tm) : ∀ l : List Tm, Tm.subs σ l = l.map (Tm.sub σ)
  | [] => by rw [Tm.subs]; rfl
  | x :: l => by rw [Tm.subs, Tm.subs_map σ l]; rfl
theorem sub_var (σ : Int → Tm) {t : Tm} (h : t.k = 1) : t.sub σ = σ t.n := by
  cases t with | mk k n s l => have h' : k = 1 := h; rw [Tm.sub, if_pos h']; rfl
theorem sub_node (σ : Int → Tm) {t : Tm} (h : t.k ≠ 1) : t.sub σ = .mk t.k t.n t.s (t.l.map (Tm.sub σ)) := by
  cases t with | mk k n s l => have h' : ¬ k = 1 := h; rw [Tm.sub, if_neg h', Tm.subs_map]; rfl
theorem sub_va (σ : Int → Tm) (n : Int) : (Tm.va n).sub σ = σ n := sub_var σ rfl
theorem nodeB_congr {t u : Tm} (h1 : t.k = u.k) (h2 : t.n = u.n) (h3 : t.s = u.s) (h4 : t.l.length = u.l.length) : nodeB t = nodeB u := by
  unfold nodeB bareB; rw [h1, h2, h3, h4]
theorem okB_parts {t : Tm} (h : t.okB = true) : nodeB t = true ∧ ∀ x ∈ t.l, x.okB = true := by
  rw [Tm.okB_eq, Bool.and_eq_true] at h; exact ⟨h.1, fun x hx => Tm.okBs_mem h.2 hx⟩
theorem okB_of {t : Tm} (h : nodeB t = true) (h2 : ∀ x ∈ t.l, x.okB = true) : t.okB = true := by
  rw [Tm.okB_eq, Bool.and_eq_true]; exact ⟨h, okBs_iff.2 h2⟩
theorem okB_va {t : Tm} (h : t.okB = true) (hk : t.k = 1) : t = Tm.va t.n := by
  have h1 := (okB_parts h).1
  unfold nodeB bareB at h1
  rw [if_pos hk] at h1
  simp only [Bool.and_eq_true, Bool.or_eq_true, decide_eq_true_eq, Bool.false_or, beq_iff_eq] at h1
  obtain ⟨⟨⟨⟨_, h2⟩, h3⟩, _⟩, _⟩ := h1
  have h2 : t.s.toList = [] := by simpa using h2
  have h3 : t.l = [] := by simpa using h3
  have h4 : t.s = ⟨#[]⟩ := bytes_ext (by rw [h2]; exact empty_toList.symm)
  rw [← t.eta, hk, h4, h3]; rfl
/-- A variable stands in a tree. -/
def Tm.has (t : Tm) (n : Int) : Prop := ∃ y ∈ t.pre, y.k = 1 ∧ y.n = n
theorem mem_pres {y : Tm} : ∀ {l : List Tm}, y ∈ Tm.pres l ↔ ∃ x ∈ l, y ∈ x.pre
  | [] => by simp [Tm.pres]
  | x :: l => by rw [Tm.pres, List.mem_append, mem_pres]; simp
theorem has_va {m n : Int} : (Tm.va m).has n ↔ n = m := by
  unfold Tm.has Tm.va
  rw [Tm.pre_eq]
  simp [Tm.pres, Tm.l, Tm.k, Tm.n, eq_comm]
theorem has_node {t : Tm} (hk : t.k ≠ 1) {n : Int} : t.has n ↔ ∃ x ∈ t.l, x.has n := by
  unfold Tm.has
  rw [Tm.pre_eq]
  constructor
  · rintro ⟨y, hy, h1, h2⟩
    rcases List.mem_cons.1 hy with rfl | hy
    · exact absurd h1 hk
    · obtain ⟨x, hx, hy⟩ := mem_pres.1 hy; exact ⟨x, hx, y, hy, h1, h2⟩
  · rintro ⟨x, hx, y, hy, h⟩
    exact ⟨y, List.mem_cons_of_mem _ (mem_pres.2 ⟨x, hx, hy⟩), h⟩
theorem has_iff {t : Tm} {n : Int} : n ∈ varsL [t] ↔ t.has n := by
  unfold varsL
  constructor
  · intro h
    rcases varsFrom_mem h with h | ⟨y, hy, h1, h2⟩
    · simp at h
    · exact ⟨y, by simpa [Tm.pres] using hy, h1, h2⟩
  · rintro ⟨y, hy, h1, rfl⟩
    exact varsFrom_has (by simpa [Tm.pres] using hy) h1
theorem hasL_iff {l : List Tm} {n : Int} : n ∈ varsL l ↔ ∃ t ∈ l, t.has n := by
  unfold varsL
  constructor
  · intro h
    rcases varsFrom_mem h with h | ⟨y, hy, h1, h2⟩
    · simp at h
    · obtain ⟨x, hx, hy⟩ := mem_pres.1 hy; exact ⟨x, hx, y, hy, h1, h2⟩
  · rintro ⟨t, ht, y, hy, h1, rfl⟩
    exact varsFrom_has (mem_pres.2 ⟨t, ht, hy⟩) h1
theorem has_bd {t : Tm} (h : t.okB = true) {n : Int} (hn : t.has n) : 0 ≤ n ∧ n < 100000 := by
  obtain ⟨y, hy, hk, rfl⟩ := hn
  exact var_bd (okB_pre t h y hy) hk
/-- Induction on terms. -/
theorem Tm.okInd {p : Tm → Prop} (hv : ∀ n : Int, 0 ≤ n → n < 100000 → p (Tm.va n)) (hn : ∀ t : Tm, t.k ≠ 1 → nodeB t = true → (∀ x ∈ t.l, x.okB = true ∧ p x) → p t) (t : Tm) : t.okB = true → p t := by
  induction t using Tm.ind with
  | h t ih =>
    intro h
    by_cases hk : t.k = 1
    · have := var_bd h hk
      rw [okB_va h hk]; exact hv _ this.1 this.2
    · exact hn t hk (okB_parts h).1 fun x hx => ⟨(okB_parts h).2 x hx, ih x hx ((okB_parts h).2 x hx)⟩
theorem sub_congr {σ τ : Int → Tm} (t : Tm) : t.okB = true → (t.sub σ = t.sub τ ↔ ∀ n, t.has n → σ n = τ n) := by
  refine Tm.okInd (p := fun t => (t.sub σ = t.sub τ ↔ ∀ n, t.has n → σ n = τ n)) (fun n _ _ => ?_) (fun t hk _ ih => ?_) t
  · rw [sub_va, sub_va]
    exact ⟨fun h m hm => by rw [has_va.1 hm]; exact h, fun h => h n (has_va.2 rfl)⟩
  · rw [sub_node σ hk, sub_node τ hk]
    constructor
    · intro h n hn
      obtain ⟨x, hx, hxn⟩ := (has_node hk).1 hn
      injection h with _ _ _ h
      exact (ih x hx).2.1 (List.map_inj_left.1 h x hx) n hxn
    · intro h
      rw [List.map_inj_left.2 fun x hx => (ih x hx).2.2 fun n hn => h n ((has_node hk).2 ⟨x, hx, hn⟩)]
theorem sub_id (t : Tm) : t.okB = true → t.sub Tm.va = t := by
  refine Tm.okInd (p := fun t => t.sub Tm.va = t) (fun n _ _ => sub_va _ _) (fun t hk _ ih => ?_) t
  rw [sub_node _ hk]
  conv => rhs; rw [← t.eta]
  rw [show t.l.map (Tm.sub Tm.va) = t.l from by
    conv => rhs; rw [← List.map_id t.l]
    exact List.map_inj_left.2 fun x hx => (ih x hx).2]
theorem sub_sub (σ τ : Int → Tm) (t : Tm) : (t.sub σ).sub τ = t.sub (fun n => (σ n).sub τ) := by
  induction t using Tm.ind with
  | h t ih =>
    by_cases hk : t.k = 1
    · rw [sub_var σ hk, sub_var _ hk]
    · rw [sub_node σ hk, sub_node _ hk, sub_node τ (by exact hk)]
      show Tm.mk t.k t.n t.s ((t.l.map (Tm.sub σ)).map (Tm.sub τ)) = _
      rw [List.map_map]
      congr 1
      exact List.map_inj_left.2 fun x hx => ih x hx
theorem sub_ok {σ : Int → Tm} (t : Tm) : t.okB = true → ((t.sub σ).okB = true ↔ ∀ n, t.has n → (σ n).okB = true) := by
  refine Tm.okInd (p := fun t => ((t.sub σ).okB = true ↔ ∀ n, t.has n → (σ n).okB = true)) (fun n _ _ => ?_) (fun t hk hn ih => ?_) t
  · rw [sub_va]
    exact ⟨fun h m hm => by rw [has_va.1 hm]; exact h, fun h => h n (has_va.2 rfl)⟩
  · rw [sub_node σ hk]
    constructor
    · intro h n hn
      obtain ⟨x, hx, hxn⟩ := (has_node hk).1 hn
      exact (ih x hx).2.1 ((okB_parts h).2 _ (List.mem_map.2 ⟨x, hx, rfl⟩)) n hxn
    · intro h
      refine okB_of ?_ fun y hy => ?_
      · exact (nodeB_congr (t := Tm.mk t.k t.n t.s (t.l.map (Tm.sub σ))) (u := t) rfl rfl rfl (by show (t.l.map _).length = _; rw [List.length_map])).trans hn
      · obtain ⟨x, hx, rfl⟩ := List.mem_map.1 hy
        exact (ih x hx).2.2 fun n hn => h n ((has_node hk).2 ⟨x, hx, hn⟩)
/-- What a variable stands for is no greater than the whole. -/
theorem sizes_map_le {f g : Tm → Tm} : ∀ {l : List Tm}, (∀ x ∈ l, (f x).size = (g x).size) → Tm.sizes (l.map f) = Tm.sizes (l.map g)
  | [], _ => rfl
  | x :: l, h => by
    rw [List.map_cons, List.map_cons, Tm.sizes, Tm.sizes, h x (List.mem_cons_self ..), sizes_map_le fun y hy => h y (List.mem_cons_of_mem _ hy)]
theorem depths_map_eq {f g : Tm → Tm} : ∀ {l : List Tm}, (∀ x ∈ l, (f x).depth = (g x).depth) → Tm.depths (l.map f) = Tm.depths (l.map g)
  | [], _ => rfl
  | x :: l, h => by
    rw [List.map_cons, List.map_cons, Tm.depths, Tm.depths, h x (List.mem_cons_self ..), depths_map_eq fun y hy => h y (List.mem_cons_of_mem _ hy)]
theorem sub_part {σ : Int → Tm} (t : Tm) : t.okB = true → ∀ n, t.has n → (σ n).size ≤ (t.sub σ).size ∧ (σ n).depth ≤ (t.sub σ).depth := by
  refine Tm.okInd (p := fun t => ∀ n, t.has n → (σ n).size ≤ (t.sub σ).size ∧ (σ n).depth ≤ (t.sub σ).depth) (fun n _ _ m hm => ?_) (fun t hk hn ih m hm => ?_) t
  · rw [has_va.1 hm, sub_va]; exact ⟨Nat.le_refl _, Nat.le_refl _⟩
  · obtain ⟨x, hx, hxn⟩ := (has_node hk).1 hm
    have h1 := (ih x hx).2 m hxn
    rw [sub_node σ hk, Tm.size, Tm.depth]
    have h2 := Tm.size_mem (List.mem_map.2 ⟨x, hx, rfl⟩ : x.sub σ ∈ t.l.map (Tm.sub σ))
    have h3 := Tm.depth_mem (List.mem_map.2 ⟨x, hx, rfl⟩ : x.sub σ ∈ t.l.map (Tm.sub σ))
    omega
/-- A renaming keeps sizes. -/
theorem sub_ren {σ : Int → Tm} (t : Tm) : t.okB = true → (∀ n, t.has n → (σ n).k = 1 ∧ (σ n).l = []) → (t.sub σ).size = t.size ∧ (t.sub σ).depth = t.depth := by
  refine Tm.okInd (p := fun t => (∀ n, t.has n → (σ n).k = 1 ∧ (σ n).l = []) → (t.sub σ).size = t.size ∧ (t.sub σ).depth = t.depth) (fun n _ _ h => ?_) (fun t hk hn ih h => ?_) t
  · have := (h n (has_va.2 rfl)).2
    rw [sub_va, Tm.size_eq, Tm.depth_eq, this]; exact ⟨rfl, rfl⟩
  · have ih' := fun x hx => (ih x hx).2 fun n hn => h n ((has_node hk).2 ⟨x, hx, hn⟩)
    rw [sub_node σ hk, Tm.size, Tm.depth]
    rw [t.size_eq, t.depth_eq]
    have h1 := sizes_map_le (f := Tm.sub σ) (g := id) (l := t.l) fun x hx => (ih' x hx).1
    have h2 := depths_map_eq (f := Tm.sub σ) (g := id) (l := t.l) fun x hx => (ih' x hx).2
    rw [List.map_id] at h1 h2
    rw [h1, h2]; exact ⟨rfl, rfl⟩
/-- The substitution of a replacing function. -/
def sgF (F : Int → Option Tm) : Int → Tm := fun n => (F n).getD (Tm.va n)
theorem rep_sub (F : Int → Option Tm) (N : Nat) : (∀ (t : Tm) (L : Int), t.size ≤ N → t.okB = true → (((t.sub (sgF F)).size : Int) ≤ L → t.rep F L = (t.sub (sgF F), L - (t.sub (sgF F)).size)) ∧ (L < ((t.sub (sgF F)).size : Int) → (t.rep F L).2 < 0)) ∧
    (∀ (l : List Tm) (L : Int), Tm.sizes l ≤ N → Tm.okBs l = true → ((Tm.sizes (l.map (Tm.sub (sgF F))) : Int) ≤ L → Tm.reps F l L = (l.map (Tm.sub (sgF F)), L - Tm.sizes (l.map (Tm.sub (sgF F))))) ∧ (L < (Tm.sizes (l.map (Tm.sub (sgF F))) : Int) → (Tm.reps F l L).2 < 0)) := by
  induction N with
  | zero =>
    refine ⟨fun t L h => by have := t.size_pos; omega, fun l L h => ?_⟩
    cases l with
    | nil => intro _; rw [Tm.reps_nil]; exact ⟨fun h => by simp [Tm.sizes], fun h => by simp [Tm.sizes] at h ⊢; omega⟩
    | cons a l => rw [Tm.sizes] at h; have := a.size_pos; omega
  | succ n ih =>
    have h1 : ∀ (t : Tm) (L : Int), t.size ≤ n + 1 → t.okB = true → (((t.sub (sgF F)).size : Int) ≤ L → t.rep F L = (t.sub (sgF F), L - (t.sub (sgF F)).size)) ∧ (L < ((t.sub (sgF F)).size : Int) → (t.rep F L).2 < 0) := fun t L h ho => by
      by_cases hk : t.k = 1
      · cases hf : F t.n with
        | some x =>
          rw [Tm.rep_hit F t L hk hf, sub_var _ hk, sgF, hf]
          exact ⟨fun _ => rfl, fun h => by simp at h ⊢; omega⟩
        | none =>
          rw [Tm.rep_def F t L (fun x _ e => by rw [hf] at e; cases e), sub_var _ hk, sgF, hf]
          have := okB_va ho hk
          rw [this]
          show (_ → (Tm.mk 1 t.n _ (Tm.reps F [] (L - 1)).1, (Tm.reps F [] (L - 1)).2) = _) ∧ _
          rw [Tm.reps_nil]
          have hs : (Tm.va t.n).size = 1 := rfl
          simp only [Option.getD_none, va_n, hs]
          exact ⟨fun _ => rfl, fun h => by rw [show (Tm.va t.n).l = [] from rfl, Tm.reps_nil]; simp at h ⊢; omega⟩
      · rw [Tm.rep_def F t L (fun x e => absurd e hk), sub_node _ hk]
        rw [t.size_eq] at h
        rw [Tm.okB_eq, Bool.and_eq_true] at ho
        have h2 := ih.2 t.l (L - 1) (by omega) ho.2
        rw [Tm.size]
        constructor
        · intro h3
          rw [h2.1 (by omega)]
          simp only [Prod.mk.injEq, true_and]
          omega
        · intro h3
          exact h2.2 (by omega)
    refine ⟨h1, fun l => ?_⟩
    induction l with
    | nil => intro L h _; rw [Tm.reps_nil]; exact ⟨fun h => by simp [Tm.sizes], fun h => by simp [Tm.sizes] at h ⊢; omega⟩
    | cons a l ihl =>
      intro L h ho
      rw [Tm.sizes] at h
      rw [Tm.okBs, Bool.and_eq_true] at ho
      rw [List.map_cons, Tm.sizes, Tm.reps_cons]
      have h2 := h1 a L (by omega) ho.1
      have h5 := (a.sub (sgF F)).size_pos
      constructor
      · intro h3
        rw [if_neg (by omega), h2.1 (by omega)]
        have h4 := (ihl (L - (a.sub (sgF F)).size) (by omega) ho.2).1 (by omega)
        simp only
        rw [h4]
        simp only [Prod.mk.injEq, true_and]
        omega
      · intro h3
        by_cases hL : L < 0
        · rw [if_pos hL]; exact hL
        · rw [if_neg hL]
          simp only
          by_cases h6 : ((a.sub (sgF F)).size : Int) ≤ L
          · rw [h2.1 h6]
            exact (ihl (L - (a.sub (sgF F)).size) (by omega) ho.2).2 (by omega)
          · have h7 := h2.2 (by omega)
            rw [Tm.reps_neg F l h7]
            exact h7
theorem repT_eq (F : Int → Option Tm) {t : Tm} (h : t.okB = true) : repT F t = if isB (t.sub (sgF F)) = true then some (t.sub (sgF F)) else none := by
  have h1 := (rep_sub F t.size).1 t 4000 (Nat.le_refl _) h
  unfold repT
  by_cases hs : (t.sub (sgF F)).size ≤ 4000
  · rw [h1.1 (by omega)]
    rw [if_neg (by simp only; omega)]
  · rw [if_pos (h1.2 (by omega)), if_neg fun e => hs (isB_iff.1 e).2.1]
/-- The substitution that a list gives. -/
def sgL (l : List Tm) : Int → Tm := sgF (pickF l)
theorem subst_eq {t : Tm} {l : List Tm} (h : isB t = true) (hl : subB l = true) : substR t l = if isB (t.sub (sgL l)) = true then some (t.sub (sgL l)) else none := by
  unfold substR
  rw [if_pos ⟨h, hl⟩, repT_eq _ (isB_iff.1 h).1]; rfl
theorem sub_isB_ren {σ : Int → Tm} {t : Tm} (h : isB t = true) (hr : ∀ n, t.has n → ∃ m : Int, 0 ≤ m ∧ m < 100000 ∧ σ n = Tm.va m) : isB (t.sub σ) = true := by
  obtain ⟨h1, h2, h3⟩ := isB_iff.1 h
  obtain ⟨h4, h5⟩ := sub_ren (σ := σ) t h1 fun n hn => by obtain ⟨m, _, _, e⟩ := hr n hn; rw [e]; exact ⟨rfl, rfl⟩
  exact isB_iff.2 ⟨(sub_ok t h1).2 fun n hn => by obtain ⟨m, h0, h1, e⟩ := hr n hn; rw [e]; exact va_ok h0 h1, by omega, by omega⟩
theorem normT_eq {val : Int → Int} {t : Tm} (h : isB t = true) (hv : ∀ n, t.has n → 0 ≤ val n ∧ val n < 100000) : normT val t = t.sub (fun n => Tm.va (val n)) := by
  unfold normT
  have hs : sgF (nowF val) = fun n => Tm.va (val n) := rfl
  rw [repT_eq _ (isB_iff.1 h).1, hs, if_pos (sub_isB_ren h fun n hn => ⟨val n, (hv n hn).1, (hv n hn).2, rfl⟩)]; rfl
end Go.Proofs.Ytfhgknmkpegpbaa
