/- Generalization: plain facts. -/
import Derived.Test.YtfhgknmkpegpbaaCP4
set_option linter.unusedVariables false
set_option linter.unusedSimpArgs false
namespace Go.Proofs.Ytfhgknmkpegpbaa
open Go.RowKit

mutual
/-- The generalization, by numbers for pairs. -/
def Tm.gn (ν : Tm × Tm → Int) : Tm → Tm → Tm
  | .mk k n s l, u => if k = u.k ∧ k ≠ 1 ∧ n = u.n ∧ s.toList = u.s.toList ∧ l.length = u.l.length then .mk k n s (Tm.gns ν l u.l) else Tm.va (ν (.mk k n s l, u))
def Tm.gns (ν : Tm × Tm → Int) : List Tm → List Tm → List Tm
  | [], _ => []
  | _ :: _, [] => []
  | x :: xs, y :: ys => Tm.gn ν x y :: Tm.gns ν xs ys
end
mutual
/-- The pairs at which two trees differ. -/
def Tm.dif : Tm → Tm → List (Tm × Tm)
  | .mk k n s l, u => if k = u.k ∧ k ≠ 1 ∧ n = u.n ∧ s.toList = u.s.toList ∧ l.length = u.l.length then Tm.difs l u.l else [(.mk k n s l, u)]
def Tm.difs : List Tm → List Tm → List (Tm × Tm)
  | [], _ => []
  | _ :: _, [] => []
  | x :: xs, y :: ys => Tm.dif x y ++ Tm.difs xs ys
end
def Tm.like (t u : Tm) : Prop := t.k = u.k ∧ t.k ≠ 1 ∧ t.n = u.n ∧ t.s.toList = u.s.toList ∧ t.l.length = u.l.length
theorem gn_like (ν : Tm × Tm → Int) {t u : Tm} (h : t.like u) : t.gn ν u = .mk t.k t.n t.s (Tm.gns ν t.l u.l) := by
  cases t with | mk k n s l => rw [Tm.gn, if_pos (by exact h)]; rfl
theorem gn_else (ν : Tm × Tm → Int) {t u : Tm} (h : ¬ t.like u) : t.gn ν u = Tm.va (ν (t, u)) := by
  cases t with | mk k n s l => rw [Tm.gn, if_neg (by exact h)]
theorem dif_like {t u : Tm} (h : t.like u) : t.dif u = Tm.difs t.l u.l := by
  cases t with | mk k n s l => rw [Tm.dif, if_pos (by exact h)]; rfl
theorem dif_else {t u : Tm} (h : ¬ t.like u) : t.dif u = [(t, u)] := by
  cases t with | mk k n s l => rw [Tm.dif, if_neg (by exact h)]
theorem gen_like {t u : Tm} (p : List (Tm × Tm)) (h : t.like u) : t.gen u p = (.mk t.k t.n t.s (Tm.gens t.l u.l p).1, (Tm.gens t.l u.l p).2) := by
  rw [Tm.gen_eq, if_pos (by exact h)]
theorem gen_else {t u : Tm} (p : List (Tm × Tm)) (h : ¬ t.like u) : t.gen u p = (Tm.va (pidx p (t, u)), padd p (t, u)) := by
  rw [Tm.gen_eq, if_neg (by exact h)]
theorem findIdx_app {T : Type} {f : T → Bool} : ∀ {p : List T} (r : List T) {q : T}, q ∈ p → f q = true → (p ++ r).findIdx f = p.findIdx f
  | x :: p, r, q, h, hq => by
    rw [List.cons_append, List.findIdx_cons, List.findIdx_cons]
    rcases hx : f x with _ | _
    · simp only [cond_false]
      rcases List.mem_cons.1 h with e | h
      · subst e; rw [hx] at hq; cases hq
      · rw [findIdx_app r h hq]
    · rfl
open Classical in
theorem pidx_f (q : Tm × Tm) : ∃ f : Tm × Tm → Bool, (∀ x, f x = true ↔ x = q) ∧ ∀ p, pidx p q = p.findIdx f := ⟨_, fun x => decide_eq_true_iff, fun p => rfl⟩
theorem pidx_prefix {p P : List (Tm × Tm)} (h : p <+: P) {q : Tm × Tm} (hq : q ∈ p) : pidx P q = pidx p q := by
  obtain ⟨r, rfl⟩ := h
  obtain ⟨f, h1, h2⟩ := pidx_f q
  rw [h2, h2]
  exact findIdx_app r hq ((h1 q).2 rfl)
theorem padd_has (p : List (Tm × Tm)) (q : Tm × Tm) : q ∈ padd p q := by
  unfold padd; split
  · assumption
  · simp
theorem padd_prefix (p : List (Tm × Tm)) (q : Tm × Tm) : p <+: padd p q := by
  unfold padd; split
  · exact List.prefix_refl _
  · exact List.prefix_append _ _
theorem pidx_padd (p : List (Tm × Tm)) (q : Tm × Tm) : pidx p q = pidx (padd p q) q := by
  unfold padd
  split
  · rfl
  · rename_i h
    obtain ⟨f, h1, h2⟩ := pidx_f q
    rw [h2, h2, List.findIdx_append]
    have : p.findIdx f = p.length := by
      rw [List.findIdx_eq_length]
      intro x hx
      rw [← Bool.not_eq_true, h1]
      intro e; subst e; exact h hx
    rw [this, if_neg (Nat.lt_irrefl _), List.findIdx_cons, (h1 q).2 rfl]
    simp
theorem gen_gn (N : Nat) : (∀ (t u : Tm) (p P : List (Tm × Tm)), t.size ≤ N → (t.gen u p).2 <+: P → p <+: P ∧ (t.gen u p).1 = t.gn (fun q => (pidx P q : Int)) u ∧ ∀ q ∈ t.dif u, q ∈ P) ∧
    (∀ (xs ys : List Tm) (p P : List (Tm × Tm)), Tm.sizes xs ≤ N → (Tm.gens xs ys p).2 <+: P → p <+: P ∧ (Tm.gens xs ys p).1 = Tm.gns (fun q => (pidx P q : Int)) xs ys ∧ ∀ q ∈ Tm.difs xs ys, q ∈ P) := by
  induction N with
  | zero =>
    refine ⟨fun t u p P h => by have := t.size_pos; omega, fun xs ys p P h hp => ?_⟩
    cases xs with
    | nil => rw [Tm.gens_nil] at hp ⊢; exact ⟨hp, by rw [Tm.gns], by rw [Tm.difs]; simp⟩
    | cons a l => rw [Tm.sizes] at h; have := a.size_pos; omega
  | succ N ih =>
    have h1 : ∀ (t u : Tm) (p P : List (Tm × Tm)), t.size ≤ N + 1 → (t.gen u p).2 <+: P → p <+: P ∧ (t.gen u p).1 = t.gn (fun q => (pidx P q : Int)) u ∧ ∀ q ∈ t.dif u, q ∈ P := fun t u p P hs hp => by
      by_cases hl : t.like u
      · rw [gen_like p hl] at hp ⊢
        rw [gn_like _ hl, dif_like hl]
        rw [t.size_eq] at hs
        have := ih.2 t.l u.l p P (by omega) hp
        exact ⟨this.1, by simp only; rw [this.2.1], this.2.2⟩
      · rw [gen_else p hl] at hp ⊢
        rw [gn_else _ hl, dif_else hl]
        refine ⟨(padd_prefix _ _).trans hp, ?_, fun q hq => ?_⟩
        · simp only
          rw [pidx_padd, pidx_prefix hp (padd_has _ _)]
        · rw [List.mem_singleton.1 hq]; exact hp.subset (padd_has _ _)
    refine ⟨h1, fun xs => ?_⟩
    induction xs with
    | nil => intro ys p P _ hp; rw [Tm.gens_nil] at hp ⊢; exact ⟨hp, by rw [Tm.gns], by rw [Tm.difs]; simp⟩
    | cons a l ihl =>
      intro ys p P h hp
      rw [Tm.sizes] at h
      cases ys with
      | nil => rw [Tm.gens] at hp ⊢; exact ⟨hp, by rw [Tm.gns], by rw [Tm.difs]; simp⟩
      | cons y ys =>
        rw [Tm.gens_cons] at hp ⊢
        have h2 := ihl ys _ P (by omega) hp
        have h3 := h1 a y p P (by omega) h2.1
        rw [Tm.gns, Tm.difs]
        exact ⟨h3.1, by simp only; rw [h3.2.1, h2.2.1], fun q hq => (List.mem_append.1 hq).elim (h3.2.2 q) (h2.2.2 q)⟩
theorem gn_left {ν : Tm × Tm → Int} {α : Int → Tm} (t : Tm) : ∀ u : Tm, (∀ q ∈ t.dif u, α (ν q) = q.1) → (t.gn ν u).sub α = t := by
  induction t using Tm.ind with
  | h t ih =>
    intro u h
    by_cases hl : t.like u
    · rw [gn_like ν hl]
      rw [dif_like hl] at h
      rw [sub_node α (by exact hl.2.1)]
      conv => rhs; rw [← t.eta]
      show Tm.mk t.k t.n t.s ((Tm.gns ν t.l u.l).map (Tm.sub α)) = _
      congr 1
      have key : ∀ (xs ys : List Tm), (∀ x ∈ xs, ∀ u : Tm, (∀ q ∈ x.dif u, α (ν q) = q.1) → (x.gn ν u).sub α = x) → xs.length = ys.length → (∀ q ∈ Tm.difs xs ys, α (ν q) = q.1) → (Tm.gns ν xs ys).map (Tm.sub α) = xs := fun xs => by
        induction xs with
        | nil => intro ys _ _ _; rw [Tm.gns]; rfl
        | cons x xs ihx =>
          intro ys h hl hd
          cases ys with
          | nil => simp at hl
          | cons y ys =>
            rw [Tm.difs] at hd
            rw [Tm.gns, List.map_cons, h x (List.mem_cons_self ..) y fun q hq => hd q (List.mem_append_left _ hq), ihx ys (fun z hz => h z (List.mem_cons_of_mem _ hz)) (by simpa using hl) fun q hq => hd q (List.mem_append_right _ hq)]
      exact key t.l u.l ih hl.2.2.2.2 h
    · rw [gn_else ν hl, sub_va]
      rw [dif_else hl] at h
      exact h _ (List.mem_singleton.2 rfl)
theorem gn_right {ν : Tm × Tm → Int} {α : Int → Tm} (t : Tm) : ∀ u : Tm, (∀ q ∈ t.dif u, α (ν q) = q.2) → (t.gn ν u).sub α = u := by
  induction t using Tm.ind with
  | h t ih =>
    intro u h
    by_cases hl : t.like u
    · rw [gn_like ν hl]
      rw [dif_like hl] at h
      rw [sub_node α (by exact hl.2.1)]
      conv => rhs; rw [← u.eta]
      show Tm.mk t.k t.n t.s ((Tm.gns ν t.l u.l).map (Tm.sub α)) = _
      rw [hl.1, hl.2.2.1, bytes_ext hl.2.2.2.1]
      congr 1
      have key : ∀ (xs ys : List Tm), (∀ x ∈ xs, ∀ u : Tm, (∀ q ∈ x.dif u, α (ν q) = q.2) → (x.gn ν u).sub α = u) → xs.length = ys.length → (∀ q ∈ Tm.difs xs ys, α (ν q) = q.2) → (Tm.gns ν xs ys).map (Tm.sub α) = ys := fun xs => by
        induction xs with
        | nil =>
          intro ys _ hl _
          cases ys with
          | nil => rw [Tm.gns]; rfl
          | cons _ _ => simp at hl
        | cons x xs ihx =>
          intro ys h hl hd
          cases ys with
          | nil => simp at hl
          | cons y ys =>
            rw [Tm.difs] at hd
            rw [Tm.gns, List.map_cons, h x (List.mem_cons_self ..) y fun q hq => hd q (List.mem_append_left _ hq), ihx ys (fun z hz => h z (List.mem_cons_of_mem _ hz)) (by simpa using hl) fun q hq => hd q (List.mem_append_right _ hq)]
      exact key t.l u.l ih hl.2.2.2.2 h
    · rw [gn_else ν hl, sub_va]
      rw [dif_else hl] at h
      exact h _ (List.mem_singleton.2 rfl)
theorem gns_map (ν : Tm × Tm → Int) (σ τ : Int → Tm) : ∀ l : List Tm, (∀ x ∈ l, x.sub (fun n => (σ n).gn ν (τ n)) = (x.sub σ).gn ν (x.sub τ)) → l.map (Tm.sub fun n => (σ n).gn ν (τ n)) = Tm.gns ν (l.map (Tm.sub σ)) (l.map (Tm.sub τ))
  | [], _ => by rw [List.map_nil, List.map_nil, Tm.gns]
  | x :: l, h => by
    rw [List.map_cons, List.map_cons, List.map_cons, Tm.gns, h x (List.mem_cons_self ..), gns_map ν σ τ l fun y hy => h y (List.mem_cons_of_mem _ hy)]
theorem gn_univ (ν : Tm × Tm → Int) (σ τ : Int → Tm) (h : Tm) : h.sub (fun n => (σ n).gn ν (τ n)) = (h.sub σ).gn ν (h.sub τ) := by
  induction h using Tm.ind with
  | h t ih =>
    by_cases hk : t.k = 1
    · rw [sub_var _ hk, sub_var _ hk, sub_var _ hk]
    · rw [sub_node _ hk, sub_node σ hk, sub_node τ hk, gn_like ν (t := Tm.mk t.k t.n t.s (t.l.map (Tm.sub σ))) (u := Tm.mk t.k t.n t.s (t.l.map (Tm.sub τ))) ⟨rfl, hk, rfl, rfl, by show (t.l.map _).length = (t.l.map _).length; rw [List.length_map, List.length_map]⟩]
      show Tm.mk t.k t.n t.s _ = Tm.mk t.k t.n t.s _
      congr 1
      exact gns_map ν σ τ t.l ih
theorem pidx_get {P : List (Tm × Tm)} {q : Tm × Tm} (h : q ∈ P) : P[pidx P q]? = some q := by
  obtain ⟨f, h1, h2⟩ := pidx_f q
  rw [h2]
  have hlt : P.findIdx f < P.length := List.findIdx_lt_length_of_exists ⟨q, h, (h1 q).2 rfl⟩
  rw [List.getElem?_eq_getElem hlt]
  have := List.findIdx_getElem (w := hlt)
  rw [(h1 _).1 this]
theorem gn_ok {ν : Tm × Tm → Int} (t : Tm) : t.okB = true → ∀ u : Tm, (∀ q ∈ t.dif u, 0 ≤ ν q ∧ ν q < 100000) → (t.gn ν u).okB = true ∧ (t.gn ν u).depth ≤ t.depth := by
  induction t using Tm.ind with
  | h t ih =>
    intro ho u h
    by_cases hl : t.like u
    · rw [gn_like ν hl]
      rw [dif_like hl] at h
      have key : ∀ (xs ys : List Tm), (∀ x ∈ xs, x.okB = true ∧ ∀ u : Tm, (∀ q ∈ x.dif u, 0 ≤ ν q ∧ ν q < 100000) → (x.gn ν u).okB = true ∧ (x.gn ν u).depth ≤ x.depth) → xs.length = ys.length → (∀ q ∈ Tm.difs xs ys, 0 ≤ ν q ∧ ν q < 100000) →
          (Tm.gns ν xs ys).length = xs.length ∧ (∀ z ∈ Tm.gns ν xs ys, z.okB = true) ∧ Tm.depths (Tm.gns ν xs ys) ≤ Tm.depths xs := fun xs => by
        induction xs with
        | nil => intro ys _ _ _; rw [Tm.gns]; simp
        | cons x xs ihx =>
          intro ys h hl hd
          cases ys with
          | nil => simp at hl
          | cons y ys =>
            rw [Tm.difs] at hd
            have h1 := (h x (List.mem_cons_self ..)).2 y fun q hq => hd q (List.mem_append_left _ hq)
            have h2 := ihx ys (fun z hz => h z (List.mem_cons_of_mem _ hz)) (by simpa using hl) fun q hq => hd q (List.mem_append_right _ hq)
            rw [Tm.gns, Tm.depths, Tm.depths]
            refine ⟨by simp [h2.1], fun z hz => ?_, by omega⟩
            rcases List.mem_cons.1 hz with rfl | hz
            · exact h1.1
            · exact h2.2.1 z hz
      have h3 := key t.l u.l (fun x hx => ⟨(okB_parts ho).2 x hx, ih x hx ((okB_parts ho).2 x hx)⟩) hl.2.2.2.2 h
      refine ⟨okB_of ?_ h3.2.1, ?_⟩
      · exact (nodeB_congr (t := Tm.mk t.k t.n t.s (Tm.gns ν t.l u.l)) (u := t) rfl rfl rfl h3.1).trans (okB_parts ho).1
      · rw [Tm.depth, t.depth_eq]; omega
    · rw [gn_else ν hl]
      rw [dif_else hl] at h
      have := h _ (List.mem_singleton.2 rfl)
      refine ⟨va_ok this.1 this.2, ?_⟩
      rw [t.depth_eq]; show (0 : Nat) + 1 ≤ _; omega
/-- The least general term: both are instances of it, it is a term, and each term of which both are instances has it as one. -/
theorem gen_law {x y : Tm} (hx : isB x = true) (hy : isB y = true) : isB (genR x y) = true ∧ (∃ τ, (genR x y).sub τ = x) ∧ (∃ τ, (genR x y).sub τ = y) ∧ ∀ (h : Tm) (σ τ : Int → Tm), h.sub σ = x → h.sub τ = y → ∃ ρ, h.sub ρ = genR x y := by
  obtain ⟨hxo, hxs, hxd⟩ := isB_iff.1 hx
  obtain ⟨P, hP⟩ : ∃ P, P = (x.gen y []).2 := ⟨_, rfl⟩
  have h1 := (gen_gn x.size).1 x y [] P (Nat.le_refl _) (by rw [hP]; exact List.prefix_refl _)
  have h2 := (Tm.gen_pairs (fun _ => True) x.size).1 x y [] (Nat.le_refl _) (fun _ _ => trivial) (fun _ _ => trivial) (by simp) (fun q hq => by cases hq)
  have h3 := (gen_size x.size).1 x y [] (Nat.le_refl _)
  have hlen : P.length ≤ 4000 := by rw [hP]; have := h2.1; simp at this; omega
  have hg : genR x y = x.gn (fun q => (pidx P q : Int)) y := h1.2.1
  have hbd : ∀ q ∈ x.dif y, 0 ≤ (pidx P q : Int) ∧ (pidx P q : Int) < 100000 := fun q hq => by
    have := (List.getElem?_eq_some_iff.1 (pidx_get (h1.2.2 q hq))).1
    omega
  have h4 := gn_ok x hxo y hbd
  refine ⟨isB_iff.2 ⟨by rw [hg]; exact h4.1, by have : (genR x y).size ≤ x.size := h3; omega, by rw [hg]; omega⟩, ⟨fun i => (P.getD i.toNat (Tm.zero, Tm.zero)).1, ?_⟩, ⟨fun i => (P.getD i.toNat (Tm.zero, Tm.zero)).2, ?_⟩, fun h σ τ h5 h6 => ⟨_, (gn_univ (fun q => (pidx P q : Int)) σ τ h).trans (by rw [h5, h6, hg])⟩⟩
  · rw [hg]
    exact gn_left x y fun q hq => by
      rw [List.getD_eq_getElem?_getD, Int.toNat_natCast, pidx_get (h1.2.2 q hq)]; rfl
  · rw [hg]
    exact gn_right x y fun q hq => by
      rw [List.getD_eq_getElem?_getD, Int.toNat_natCast, pidx_get (h1.2.2 q hq)]; rfl
theorem inst_trans {p q r : Tm} (h : ∃ τ, p.sub τ = q) (h2 : ∃ τ, q.sub τ = r) : ∃ τ, p.sub τ = r := by
  obtain ⟨σ, rfl⟩ := h; obtain ⟨τ, rfl⟩ := h2; exact ⟨_, (sub_sub σ τ p).symm⟩
theorem inst_refl {p : Tm} (h : isB p = true) : ∃ τ, p.sub τ = p := ⟨_, sub_id p (isB_iff.1 h).1⟩
noncomputable def instB (p t : Tm) : Bool := (matchR p t).isSome
theorem instB_iff {p t : Tm} (hp : isB p = true) (ht : isB t = true) : instB p t = true ↔ ∃ τ, p.sub τ = t := matchR_iff hp ht
theorem gen_univ {x y h : Tm} (hx : isB x = true) (hy : isB y = true) (h1 : ∃ τ, h.sub τ = x) (h2 : ∃ τ, h.sub τ = y) : ∃ τ, h.sub τ = genR x y := by
  obtain ⟨σ, h1⟩ := h1; obtain ⟨τ, h2⟩ := h2; exact (gen_law hx hy).2.2.2 h σ τ h1 h2
/-- The law of TermLeast. -/
theorem least_law {x y z h : Tm} (hx : isB x = true) (hy : isB y = true) (hz : isB z = true) (hh : isB h = true) :
    isB (genR x y) = true ∧ instB (genR x y) x = true ∧ instB (genR x y) y = true ∧ (instB h x = true → instB h y = true → instB h (genR x y) = true) ∧ isB (genR x x) = true ∧ isB (genR y x) = true ∧ vntB (genR x x) x = true ∧ vntB (genR y x) (genR x y) = true ∧
      isB (genR (genR x y) z) = true ∧ isB (genR y z) = true ∧ isB (genR x (genR y z)) = true ∧ vntB (genR (genR x y) z) (genR x (genR y z)) = true := by
  obtain ⟨a1, a2, a3, -⟩ := gen_law hx hy
  obtain ⟨b1, b2, b3, -⟩ := gen_law hx hx
  obtain ⟨c1, c2, c3, -⟩ := gen_law hy hx
  obtain ⟨d1, d2, d3, -⟩ := gen_law a1 hz
  obtain ⟨e1, e2, e3, -⟩ := gen_law hy hz
  obtain ⟨f1, f2, f3, -⟩ := gen_law hx e1
  refine ⟨a1, (instB_iff a1 hx).2 a2, (instB_iff a1 hy).2 a3, fun h1 h2 => (instB_iff hh a1).2 (gen_univ hx hy ((instB_iff hh hx).1 h1) ((instB_iff hh hy).1 h2)), b1, c1, (vnt_iff b1 hx).2 ⟨b2, gen_univ hx hx (inst_refl hx) (inst_refl hx)⟩,
    (vnt_iff c1 a1).2 ⟨gen_univ hx hy c3 c2, gen_univ hy hx a3 a2⟩, d1, e1, f1, (vnt_iff d1 f1).2 ⟨?_, ?_⟩⟩
  · exact gen_univ hx e1 (inst_trans d2 a2) (gen_univ hy hz (inst_trans d2 a3) d3)
  · exact gen_univ a1 hz (gen_univ hx hy f2 (inst_trans f3 e2)) (inst_trans f3 e3)
end Go.Proofs.Ytfhgknmkpegpbaa
