/- Matching and variants: plain facts. -/
import Derived.Test.YtfhgknmkpegpbaaCP3
set_option linter.unusedVariables false
set_option linter.unusedSimpArgs false
namespace Go.Proofs.Ytfhgknmkpegpbaa
open Go.RowKit

/-- A function on numbers says what a list says. -/
def Agr (τ : Int → Tm) (sub : List Tm) : Prop := ∀ (n : Nat) (x : Tm), sub[n]? = some x → freeB x = false → τ n = x
theorem ok_notfree {t : Tm} (h : t.okB = true) : freeB t = false := by
  rw [← Bool.not_eq_true, freeB_iff]
  intro e
  have := (node_kind (okB_parts h).1).1
  rw [e] at this
  exact absurd this (by decide)
theorem mat_spec (N : Nat) : (∀ (p t : Tm) (sub : List Tm), p.size ≤ N → p.okB = true → t.okB = true → (∀ n, p.has n → n < sub.length) → ∀ τ, ((p.mat t sub).2 = true ∧ Agr τ (p.mat t sub).1) ↔ (Agr τ sub ∧ p.sub τ = t)) ∧
    (∀ (ps ts sub : List Tm), Tm.sizes ps ≤ N → Tm.okBs ps = true → Tm.okBs ts = true → ps.length = ts.length → (∀ p ∈ ps, ∀ n, p.has n → n < sub.length) → ∀ τ, ((Tm.mats ps ts sub).2 = true ∧ Agr τ (Tm.mats ps ts sub).1) ↔ (Agr τ sub ∧ ps.map (Tm.sub τ) = ts)) := by
  induction N with
  | zero =>
    refine ⟨fun p t sub h => by have := p.size_pos; omega, fun ps ts sub h _ _ hl _ τ => ?_⟩
    cases ps with
    | nil =>
      cases ts with
      | nil => rw [Tm.mats_nil]; simp
      | cons _ _ => simp at hl
    | cons a l => rw [Tm.sizes] at h; have := a.size_pos; omega
  | succ N ih =>
    have h1 : ∀ (p t : Tm) (sub : List Tm), p.size ≤ N + 1 → p.okB = true → t.okB = true → (∀ n, p.has n → n < sub.length) → ∀ τ, ((p.mat t sub).2 = true ∧ Agr τ (p.mat t sub).1) ↔ (Agr τ sub ∧ p.sub τ = t) := fun p t sub hs ho hto hh τ => by
      by_cases hk : p.k = 1
      · have hp := okB_va ho hk
        have hb := var_bd ho hk
        have hlt := hh p.n (by rw [hp]; exact has_va.2 rfl)
        obtain ⟨x, hx⟩ : ∃ x, sub[p.n.toNat]? = some x := ⟨_, List.getElem?_eq_getElem (by omega)⟩
        have hn : ((p.n.toNat : Nat) : Int) = p.n := by omega
        rw [Tm.mat_eq, if_pos hk, hx, sub_var τ hk]
        simp only
        by_cases hf : freeB x = true
        · rw [if_pos hf]
          simp only [true_and]
          constructor
          · intro h
            refine ⟨fun m y hm hy => ?_, ?_⟩
            · by_cases e : p.n.toNat = m
              · subst e; rw [hx] at hm; injection hm with hm; subst hm; rw [hf] at hy; cases hy
              · exact h m y (by rw [List.getElem?_set_ne e]; exact hm) hy
            · have := h p.n.toNat t (List.getElem?_set_self (by omega)) (ok_notfree hto)
              rwa [hn] at this
          · rintro ⟨h, h2⟩ m y hm hy
            by_cases e : p.n.toNat = m
            · subst e
              rw [List.getElem?_set_self (by omega)] at hm
              injection hm with hm; subst hm; rw [hn]; exact h2
            · rw [List.getElem?_set_ne e] at hm; exact h m y hm hy
        · rw [if_neg hf]
          have hf' : freeB x = false := by simpa using hf
          constructor
          · rintro ⟨h, h2⟩
            have e := sameB_iff.1 h
            refine ⟨h2, ?_⟩
            have := h2 _ x hx hf'
            rw [hn] at this; rw [this, e]
          · rintro ⟨h, h2⟩
            have := h _ x hx hf'
            rw [hn] at this
            exact ⟨sameB_iff.2 (by rw [← this, h2]), h⟩
      · rw [Tm.mat_eq, if_neg hk, sub_node τ hk]
        rw [p.size_eq] at hs
        by_cases hd : p.k = t.k ∧ p.n = t.n ∧ p.s.toList = t.s.toList ∧ p.l.length = t.l.length
        · rw [if_pos hd]
          have h2 := ih.2 p.l t.l sub (by omega) (okBs_iff.2 (okB_parts ho).2) (okBs_iff.2 (okB_parts hto).2) hd.2.2.2 (fun x hx n hn => hh n ((has_node hk).2 ⟨x, hx, hn⟩)) τ
          rw [h2]
          constructor
          · rintro ⟨h, h3⟩
            refine ⟨h, ?_⟩
            rw [h3, hd.1, hd.2.1, bytes_ext hd.2.2.1, t.eta]
          · rintro ⟨h, h3⟩
            refine ⟨h, ?_⟩
            have := congrArg Tm.l h3
            exact this
        · rw [if_neg hd]
          constructor
          · rintro ⟨h, _⟩; cases h
          · rintro ⟨_, h3⟩
            exfalso
            apply hd
            rw [← h3]
            exact ⟨rfl, rfl, rfl, by show _ = (p.l.map _).length; rw [List.length_map]⟩
    refine ⟨h1, fun ps => ?_⟩
    induction ps with
    | nil =>
      intro ts sub h _ _ hl _ τ
      cases ts with
      | nil => rw [Tm.mats_nil]; simp
      | cons _ _ => simp at hl
    | cons a ps ihl =>
      intro ts sub h ho hto hl hh τ
      cases ts with
      | nil => simp at hl
      | cons b ts =>
        rw [Tm.sizes] at h
        rw [Tm.okBs, Bool.and_eq_true] at ho hto
        have h2 := h1 a b sub (by omega) ho.1 hto.1 (hh a (List.mem_cons_self ..)) τ
        have hln := (Tm.mat_len a.size).1 a b sub (Nat.le_refl _)
        have h3 := ihl ts (a.mat b sub).1 (by omega) ho.2 hto.2 (by simpa using hl) (fun p hp n hn => by rw [hln]; exact hh p (List.mem_cons_of_mem _ hp) n hn) τ
        rw [Tm.mats_cons, List.map_cons]
        by_cases hm : (a.mat b sub).2 = true
        · rw [if_pos hm, h3]
          constructor
          · rintro ⟨h4, h5⟩
            have := h2.1 ⟨hm, h4⟩
            exact ⟨this.1, by rw [this.2, h5]⟩
          · rintro ⟨h4, h5⟩
            injection h5 with h5 h6
            exact ⟨(h2.2 ⟨h4, h5⟩).2, h6⟩
        · rw [if_neg hm]
          constructor
          · rintro ⟨h, _⟩; cases h
          · rintro ⟨h4, h5⟩
            injection h5 with h5 h6
            exact absurd (h2.2 ⟨h4, h5⟩).1 hm
theorem mat_pre (N : Nat) : (∀ (p t : Tm) (sub : List Tm), p.size ≤ N → ∀ x ∈ (p.mat t sub).1, x ∈ sub ∨ x ∈ t.pre) ∧ (∀ (ps ts sub : List Tm), Tm.sizes ps ≤ N → ∀ x ∈ (Tm.mats ps ts sub).1, x ∈ sub ∨ x ∈ Tm.pres ts) := by
  induction N with
  | zero =>
    refine ⟨fun p t sub h => by have := p.size_pos; omega, fun ps ts sub h x hx => ?_⟩
    cases ps with
    | nil => rw [Tm.mats_nil] at hx; exact Or.inl hx
    | cons a l => rw [Tm.sizes] at h; have := a.size_pos; omega
  | succ N ih =>
    have h1 : ∀ (p t : Tm) (sub : List Tm), p.size ≤ N + 1 → ∀ x ∈ (p.mat t sub).1, x ∈ sub ∨ x ∈ t.pre := fun p t sub hs x hx => by
      rw [Tm.mat_eq] at hx
      rw [Tm.pre_eq]
      split at hx
      · split at hx
        · split at hx
          · rcases List.mem_or_eq_of_mem_set hx with h | h
            · exact Or.inl h
            · exact Or.inr (by rw [h]; exact List.mem_cons_self ..)
          · exact Or.inl hx
        · exact Or.inl hx
      · rw [p.size_eq] at hs
        split at hx
        · rcases ih.2 p.l t.l sub (by omega) x hx with h | h
          · exact Or.inl h
          · exact Or.inr (List.mem_cons_of_mem _ h)
        · exact Or.inl hx
    refine ⟨h1, fun ps => ?_⟩
    induction ps with
    | nil => intro ts sub _ x hx; rw [Tm.mats_nil] at hx; exact Or.inl hx
    | cons a ps ihl =>
      intro ts sub h x hx
      cases ts with
      | nil => rw [Tm.mats] at hx; exact Or.inl hx
      | cons b ts =>
        rw [Tm.sizes] at h
        rw [Tm.mats_cons] at hx
        rw [Tm.pres, List.mem_append]
        split at hx
        · rcases ihl ts _ (by omega) x hx with h2 | h2
          · rcases h1 a b sub (by omega) x h2 with h3 | h3
            · exact Or.inl h3
            · exact Or.inr (Or.inl h3)
          · exact Or.inr (Or.inr h2)
        · rcases h1 a b sub (by omega) x hx with h3 | h3
          · exact Or.inl h3
          · exact Or.inr (Or.inl h3)
theorem pre_part (t : Tm) : ∀ x ∈ t.pre, x.size ≤ t.size ∧ x.depth ≤ t.depth := by
  induction t using Tm.ind with
  | h t ih =>
    intro x hx
    rw [Tm.pre_eq] at hx
    rcases List.mem_cons.1 hx with rfl | hx
    · exact ⟨Nat.le_refl _, Nat.le_refl _⟩
    · obtain ⟨y, hy, hx⟩ := mem_pres.1 hx
      have h1 := ih y hy x hx
      have h2 := Tm.size_mem hy
      have h3 := Tm.depth_mem hy
      rw [t.size_eq, t.depth_eq]; omega
theorem agr_sgL (m : List Tm) : Agr (sgL m) m := by
  intro n x hx hf
  unfold sgL sgF pickF
  rw [Int.toNat_natCast, hx]
  simp only
  rw [if_neg (by rw [hf]; simp)]; rfl
theorem maxV_has {p : Tm} (h : p.okB = true) {n : Int} (hn : p.has n) : n < ((List.replicate (maxV (varsL [p])).toNat Tm.zero).length : Nat) := by
  have h1 := maxV_gt (has_iff.2 hn)
  have h2 := (maxV_bd (xs := varsL [p]) fun x hx => has_bd h (has_iff.1 hx))
  rw [List.length_replicate]
  omega
theorem agr_none (τ : Int → Tm) (m : Nat) : Agr τ (List.replicate m Tm.zero) := by
  intro n x hx hf
  have := (List.mem_replicate.1 (List.mem_of_getElem? hx)).2
  rw [this, fb_zero] at hf; cases hf
theorem matchR_iff {p t : Tm} (hp : isB p = true) (ht : isB t = true) : (matchR p t).isSome = true ↔ ∃ τ, p.sub τ = t := by
  have h1 := (mat_spec p.size).1 p t (List.replicate (maxV (varsL [p])).toNat Tm.zero) (Nat.le_refl _) (isB_iff.1 hp).1 (isB_iff.1 ht).1 (fun n hn => maxV_has (isB_iff.1 hp).1 hn)
  unfold matchR
  constructor
  · intro h
    split at h
    · rename_i hm
      exact ⟨_, ((h1 _).1 ⟨hm, agr_sgL _⟩).2⟩
    · cases h
  · rintro ⟨τ, hτ⟩
    rw [if_pos ((h1 τ).2 ⟨agr_none _ _, hτ⟩).1]; rfl
theorem match_some {p t : Tm} {m : List Tm} (hp : isB p = true) (ht : isB t = true) (h : matchR p t = some m) :
    p.sub (sgL m) = t ∧ subB m = true ∧ (∀ τ, p.sub τ = t → ∀ n, p.has n → m[n.toNat]? = some (τ n)) := by
  have hpo := (isB_iff.1 hp).1
  have h1 := (mat_spec p.size).1 p t (List.replicate (maxV (varsL [p])).toNat Tm.zero) (Nat.le_refl _) hpo (isB_iff.1 ht).1 (fun n hn => maxV_has hpo hn)
  have hln := (Tm.mat_len p.size).1 p t (List.replicate (maxV (varsL [p])).toNat Tm.zero) (Nat.le_refl _)
  have hpr := (mat_pre p.size).1 p t (List.replicate (maxV (varsL [p])).toNat Tm.zero) (Nat.le_refl _)
  unfold matchR at h
  split at h
  case isFalse => cases h
  rename_i hm
  injection h with h
  rw [h] at h1 hln hpr
  have hsub := ((h1 _).1 ⟨hm, agr_sgL _⟩).2
  refine ⟨hsub, ?_, fun τ hτ n hn => ?_⟩
  · unfold subB
    rw [Bool.and_eq_true, decide_eq_true_eq]
    constructor
    · rw [hln, List.length_replicate]
      have := maxV_bd (xs := varsL [p]) fun x hx => has_bd hpo (has_iff.1 hx)
      omega
    · rw [Bool.not_eq_true', List.any_eq_false]
      intro x hx
      unfold badB
      rcases hpr x hx with h2 | h2
      · rw [(List.mem_replicate.1 h2).2, fb_zero]; simp
      · have h3 := okB_pre t (isB_iff.1 ht).1 x h2
        have h4 := pre_part t x h2
        have h5 := isB_iff.1 ht
        rw [isB_iff.2 ⟨h3, by omega, by omega⟩]; simp
  · have ha := ((h1 τ).2 ⟨agr_none _ _, hτ⟩).2
    have hb := has_bd hpo hn
    have hlt : n.toNat < m.length := by rw [hln]; have := maxV_has hpo hn; omega
    have hg := List.getElem?_eq_getElem hlt
    have hc := (sub_congr p hpo).1 (hsub.trans hτ.symm) n hn
    have hto : (τ n).okB = true := (sub_ok p hpo).1 (by rw [hτ]; exact (isB_iff.1 ht).1) n hn
    rw [← hc]
    rw [hg]
    congr 1
    have hn2 : ((n.toNat : Nat) : Int) = n := by omega
    rcases hf : freeB m[n.toNat] with _ | _
    · have := agr_sgL m n.toNat _ hg hf
      rw [hn2] at this; exact this.symm
    · exfalso
      have hz := freeB_iff.1 hf
      have : sgL m n = Tm.va n := by
        unfold sgL sgF pickF
        rw [hg]
        simp only
        rw [if_pos hf]; rfl
      -- the result has a free entry where the pattern has a variable: then another substitution would do as well
      have h6 : p.sub (fun i => if i = n then Tm.va (n + 1) else sgL m i) = t := by
        refine ((h1 _).1 ⟨hm, fun i x hx hf' => ?_⟩).2
        by_cases e : (i : Int) = n
        · have e2 : i = n.toNat := by omega
          subst e2
          rw [hg] at hx; injection hx with hx; rw [← hx, hf] at hf'; cases hf'
        · show (if (i : Int) = n then _ else _) = x
          rw [if_neg e]; exact agr_sgL m i x hx hf'
      have h7 := (sub_congr p hpo).1 (hsub.trans h6.symm) n hn
      replace h7 : sgL m n = if n = n then Tm.va (n + 1) else sgL m n := h7
      rw [if_pos rfl, this] at h7
      have h8 := congrArg Tm.n h7
      rw [va_n, va_n] at h8
      omega

/-- The variables of a renamed tree. -/
theorem pre_sub {σ : Int → Tm} (t : Tm) : t.okB = true → (∀ n, t.has n → (σ n).l = []) → (t.sub σ).pre = t.pre.map (Tm.sub σ) := by
  refine Tm.okInd (p := fun t => (∀ n, t.has n → (σ n).l = []) → (t.sub σ).pre = t.pre.map (Tm.sub σ)) (fun n _ _ h => ?_) (fun t hk hn ih h => ?_) t
  · have := h n (has_va.2 rfl)
    rw [sub_va, Tm.pre_eq, this, Tm.pre_eq (Tm.va n), va_l, Tm.pres]
    show _ = [(Tm.va n).sub σ]
    rw [sub_va]
  · have key : ∀ l : List Tm, (∀ x ∈ l, (x.sub σ).pre = x.pre.map (Tm.sub σ)) → Tm.pres (l.map (Tm.sub σ)) = (Tm.pres l).map (Tm.sub σ) := fun l => by
      induction l with
      | nil => intro _; simp [Tm.pres]
      | cons x l ihl => intro h; rw [List.map_cons, Tm.pres, Tm.pres, List.map_append, h x (List.mem_cons_self ..), ihl fun y hy => h y (List.mem_cons_of_mem _ hy)]
    rw [Tm.pre_eq (t.sub σ), t.pre_eq, List.map_cons]
    congr 1
    rw [sub_node σ hk]
    exact key t.l fun x hx => (ih x hx).2 fun n hn => h n ((has_node hk).2 ⟨x, hx, hn⟩)
theorem varsFrom_map {σ : Int → Tm} {f : Int → Int} {S : Int → Prop} (hi : ∀ a b, S a → S b → f a = f b → a = b) : ∀ (ys : List Tm) (acc : List Int), (∀ a ∈ acc, S a) → (∀ y ∈ ys, y.k = 1 → S y.n ∧ σ y.n = Tm.va (f y.n)) →
    varsFrom (acc.map f) (ys.map (Tm.sub σ)) = (varsFrom acc ys).map f
  | [], acc, _, _ => rfl
  | y :: ys, acc, ha, hy => by
    show varsFrom (varsAcc (acc.map f) (y.sub σ)) (ys.map (Tm.sub σ)) = (varsFrom (varsAcc acc y) ys).map f
    have hstep : varsAcc (acc.map f) (y.sub σ) = (varsAcc acc y).map f := by
      unfold varsAcc
      by_cases hk : y.k = 1
      · obtain ⟨h1, h2⟩ := hy y (List.mem_cons_self ..) hk
        rw [sub_var σ hk, h2, va_k, va_n]
        by_cases hm : y.n ∈ acc
        · rw [if_neg (fun e => e.2 (List.mem_map.2 ⟨_, hm, rfl⟩)), if_neg (fun e => e.2 hm)]
        · rw [if_pos ⟨rfl, fun e => by obtain ⟨a, h3, h4⟩ := List.mem_map.1 e; exact hm (hi a y.n (ha a h3) h1 h4 ▸ h3)⟩, if_pos ⟨hk, hm⟩, List.map_append]; rfl
      · rw [sub_node σ hk]
        rw [if_neg (fun e => hk e.1), if_neg (fun e => hk e.1)]
    rw [hstep]
    refine varsFrom_map hi ys _ (fun a h => ?_) (fun z hz => hy z (List.mem_cons_of_mem _ hz))
    unfold varsAcc at h
    split at h
    · rename_i hc
      rcases List.mem_append.1 h with h | h
      · exact ha a h
      · rw [List.mem_singleton.1 h]; exact (hy y (List.mem_cons_self ..) hc.1).1
    · exact ha a h
theorem varsL_ren {σ : Int → Tm} {f : Int → Int} {l : List Tm} (ho : ∀ t ∈ l, t.okB = true) (h : ∀ n, (∃ t ∈ l, t.has n) → σ n = Tm.va (f n)) (hi : ∀ a b, (∃ t ∈ l, t.has a) → (∃ t ∈ l, t.has b) → f a = f b → a = b) : varsL (l.map (Tm.sub σ)) = (varsL l).map f := by
  have key : ∀ l : List Tm, (∀ x ∈ l, (x.sub σ).pre = x.pre.map (Tm.sub σ)) → Tm.pres (l.map (Tm.sub σ)) = (Tm.pres l).map (Tm.sub σ) := fun l => by
    induction l with
    | nil => intro _; simp [Tm.pres]
    | cons x l ihl => intro h; rw [List.map_cons, Tm.pres, Tm.pres, List.map_append, h x (List.mem_cons_self ..), ihl fun y hy => h y (List.mem_cons_of_mem _ hy)]
  unfold varsL
  rw [key l fun x hx => pre_sub x (ho x hx) fun n hn => by rw [h n ⟨x, hx, hn⟩]; rfl]
  refine varsFrom_map (S := fun n => ∃ t ∈ l, t.has n) hi _ [] (fun a h => by cases h) fun y hy hk => ?_
  obtain ⟨x, hx, hy⟩ := mem_pres.1 hy
  have : ∃ t ∈ l, t.has y.n := ⟨x, hx, y, hy, hk, rfl⟩
  exact ⟨this, h _ this⟩
theorem idxOf_map {f : Int → Int} : ∀ {xs : List Int} {a : Int}, a ∈ xs → (∀ x ∈ xs, f x = f a → x = a) → (xs.map f).idxOf (f a) = xs.idxOf a
  | x :: xs, a, h, hi => by
    rw [List.map_cons, List.idxOf_cons, List.idxOf_cons]
    by_cases e : x = a
    · subst e; simp
    · have h2 : f x ≠ f a := fun e2 => e (hi x (List.mem_cons_self ..) e2)
      rw [show (f x == f a) = false from by simpa using h2, show (x == a) = false from by simpa using e]
      simp only [cond_false]
      have h3 : a ∈ xs := by
        rcases List.mem_cons.1 h with h | h
        · exact absurd h.symm e
        · exact h
      rw [idxOf_map h3 fun y hy => hi y (List.mem_cons_of_mem _ hy)]
/-- The number that a variable gets. -/
def ixL (l : List Tm) : Int → Int := nowOf (varsL l) (varsL l).length
theorem ixL_of {l : List Tm} {n : Int} (h : n ∈ varsL l) : ixL l n = ((varsL l).idxOf n : Int) := by
  unfold ixL nowOf
  rw [List.take_length, if_pos h]
theorem varsL_len (l : List Tm) : (varsL l).length ≤ Tm.sizes l := by
  have h1 := varsFrom_len [] (Tm.pres l)
  rw [Tm.pres_len] at h1
  have h3 : (varsL l).length = (varsFrom [] (Tm.pres l)).length := rfl
  simp at h1; omega
theorem ixL_bd {l : List Tm} (hs : Tm.sizes l ≤ 4000) {n : Int} (h : n ∈ varsL l) : 0 ≤ ixL l n ∧ ixL l n < 100000 := by
  rw [ixL_of h]
  have := List.idxOf_lt_length_of_mem h
  have := varsL_len l
  omega
theorem ixL_back {l : List Tm} {n : Int} (h : n ∈ varsL l) : (varsL l)[(ixL l n).toNat]? = some n := by
  rw [ixL_of h, Int.toNat_natCast, List.getElem?_eq_getElem (List.idxOf_lt_length_of_mem h), List.getElem_idxOf]
/-- What Normal makes of rows. -/
theorem normR_eq {l : List Tm} (h : allB l = true) : normR l = l.map (Tm.sub fun n => Tm.va (ixL l n)) := by
  obtain ⟨h1, h2, h3⟩ := allB_iff.1 h
  unfold normR
  refine List.map_inj_left.2 fun t ht => ?_
  have ho := Tm.okBs_mem h1 ht
  refine normT_eq (isB_iff.2 ⟨ho, by have := Tm.size_mem ht; omega, by have := Tm.depth_mem ht; omega⟩) fun n hn => ?_
  exact ixL_bd h2 (hasL_iff.2 ⟨t, ht, hn⟩)
noncomputable def vntB (x y : Tm) : Bool := sameB (normT (ixL [x]) x) (normT (ixL [y]) y)
theorem norm_one {x : Tm} (h : isB x = true) : normT (ixL [x]) x = x.sub (fun n => Tm.va (ixL [x] n)) := by
  have h2 := isB_iff.1 h
  exact normT_eq h fun n hn => ixL_bd (by simp [Tm.sizes]; omega) (hasL_iff.2 ⟨x, by simp, hn⟩)
theorem norm_back {x : Tm} (h : isB x = true) : (x.sub (fun n => Tm.va (ixL [x] n))).sub (fun i => Tm.va ((varsL [x]).getD i.toNat 0)) = x := by
  have ho := (isB_iff.1 h).1
  rw [sub_sub]
  conv => rhs; rw [← sub_id x ho]
  refine (sub_congr x ho).2 fun n hn => ?_
  rw [sub_va, List.getD_eq_getElem?_getD, ixL_back (hasL_iff.2 ⟨x, by simp, hn⟩)]; rfl
theorem vnt_iff {x y : Tm} (hx : isB x = true) (hy : isB y = true) : vntB x y = true ↔ (∃ τ, x.sub τ = y) ∧ (∃ τ, y.sub τ = x) := by
  have hxo := (isB_iff.1 hx).1
  have hyo := (isB_iff.1 hy).1
  unfold vntB
  rw [sameB_iff, norm_one hx, norm_one hy]
  constructor
  · intro h
    constructor
    · have h1 := norm_back hy
      rw [← h] at h1
      exact ⟨_, (sub_sub _ _ x).symm.trans h1⟩
    · have h1 := norm_back hx
      rw [h] at h1
      exact ⟨_, (sub_sub _ _ y).symm.trans h1⟩
  · rintro ⟨⟨τ, hτ⟩, ⟨ρ, hρ⟩⟩
    have h1 : ∀ n, x.has n → (τ n).sub ρ = Tm.va n := by
      have : x.sub (fun n => (τ n).sub ρ) = x.sub Tm.va := by rw [← sub_sub, hτ, hρ, sub_id x hxo]
      exact (sub_congr x hxo).1 this
    have h2 : ∀ n, x.has n → τ n = Tm.va (τ n).n := fun n hn => by
      have ho : (τ n).okB = true := (sub_ok x hxo).1 (by rw [hτ]; exact hyo) n hn
      refine okB_va ho ?_
      by_cases hk : (τ n).k = 1
      · exact hk
      · have := h1 n hn
        rw [sub_node ρ hk] at this
        exact congrArg Tm.k this
    have h3 : ∀ a b, x.has a → x.has b → (τ a).n = (τ b).n → a = b := fun a b ha hb e => by
      have h4 := h1 a ha
      have h5 := h1 b hb
      rw [h2 a ha, e, ← h2 b hb, h5] at h4
      exact (congrArg Tm.n h4).symm
    have hv : varsL [y] = (varsL [x]).map (fun n => (τ n).n) := by
      have := varsL_ren (σ := τ) (f := fun n => (τ n).n) (l := [x]) (fun t ht => by simp at ht; rw [ht]; exact hxo) (fun n ⟨t, ht, hn⟩ => by simp at ht; subst ht; exact h2 n hn)
        (fun a b ⟨t, ht, ha⟩ ⟨u, hu, hb⟩ e => by simp at ht hu; subst ht; subst hu; exact h3 a b ha hb e)
      rwa [List.map_singleton, hτ] at this
    conv => rhs; rw [← hτ]
    rw [sub_sub]
    refine (sub_congr x hxo).2 fun n hn => ?_
    rw [h2 n hn, sub_va]
    congr 1
    have hm : n ∈ varsL [x] := hasL_iff.2 ⟨x, by simp, hn⟩
    rw [ixL_of hm, ixL_of (by rw [hτ, hv]; exact List.mem_map.2 ⟨n, hm, rfl⟩), hτ, hv]
    have h6 := idxOf_map (f := fun n => (τ n).n) hm fun a ha e => h3 a n (by obtain ⟨t, ht, h⟩ := hasL_iff.1 ha; simp at ht; subst ht; exact h) hn e
    rw [h6]
end Go.Proofs.Ytfhgknmkpegpbaa
