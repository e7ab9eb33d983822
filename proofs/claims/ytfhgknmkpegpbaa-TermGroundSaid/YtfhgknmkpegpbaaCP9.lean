/- Variables of instances: plain facts. -/
import Derived.Test.YtfhgknmkpegpbaaCT66
import Derived.Test.YtfhgknmkpegpbaaCP7
set_option linter.unusedVariables false
set_option linter.unusedSimpArgs false
namespace Go.Proofs.Ytfhgknmkpegpbaa
open Go.RowKit

theorem lv_pre (n : Nat) : (∀ t : Tm, t.size ≤ n → t.lv = t.pre.countP (fun y => decide (y.k = 1))) ∧ (∀ l : List Tm, Tm.sizes l ≤ n → Tm.lvs l = (Tm.pres l).countP (fun y => decide (y.k = 1))) := by
  induction n with
  | zero =>
    refine ⟨fun t h => by have := t.size_pos; omega, fun l h => ?_⟩
    cases l with
    | nil => simp [Tm.lvs, Tm.pres]
    | cons x xs => rw [Tm.sizes] at h; have := x.size_pos; omega
  | succ n ih =>
    have h1 : ∀ t : Tm, t.size ≤ n + 1 → t.lv = t.pre.countP (fun y => decide (y.k = 1)) := fun t h => by
      rw [t.lv_eq, t.pre_eq, List.countP_cons, ih.2 t.l (by rw [t.size_eq] at h; omega)]
      simp only [decide_eq_true_eq]; omega
    refine ⟨h1, fun l => ?_⟩
    induction l with
    | nil => intro _; simp [Tm.lvs, Tm.pres]
    | cons x xs ihl =>
      intro h
      rw [Tm.sizes] at h
      rw [Tm.lvs, Tm.pres, List.countP_append, h1 x (by omega), ihl (by omega)]
/-- The sum of the counts of variables. -/
def allN (t : Tm) (vs : List Int) : Nat := (vs.map (fun j => tmN j t.pre)).sum
theorem allN_snoc (t : Tm) (vs : List Int) (x : Int) : allN t (vs ++ [x]) = allN t vs + tmN x t.pre := by
  unfold allN; simp
theorem sum_ind {vs : List Int} (hn : vs.Nodup) {k : Int} (hk : k ∈ vs) : (vs.map (fun j => if k = j then 1 else 0)).sum = 1 := by
  induction vs with
  | nil => cases hk
  | cons a vs ih =>
    rw [List.nodup_cons] at hn
    rw [List.map_cons, List.sum_cons]
    by_cases e : k = a
    · subst e
      rw [if_pos rfl]
      have : ∀ (l : List Int), k ∉ l → (l.map (fun j => if k = j then 1 else 0)).sum = 0 := fun l => by
        induction l with
        | nil => intro _; rfl
        | cons b l ihl => intro h; rw [List.map_cons, List.sum_cons, ihl (fun h2 => h (List.mem_cons_of_mem _ h2)), if_neg (fun e => h (by rw [e]; exact List.mem_cons_self ..))]
      rw [this vs hn.1]
    · rw [if_neg e, ih hn.2 (by rcases List.mem_cons.1 hk with h | h; exact absurd h e; exact h)]
theorem sum_tmN {vs : List Int} (hn : vs.Nodup) : ∀ ys : List Tm, (∀ y ∈ ys, y.k = 1 → y.n ∈ vs) → (vs.map (fun j => tmN j ys)).sum = ys.countP (fun y => decide (y.k = 1))
  | [], _ => by
    have : ∀ l : List Int, (l.map (fun j => tmN j [])).sum = 0 := fun l => by
      induction l with
      | nil => rfl
      | cons a l ih => rw [List.map_cons, List.sum_cons, ih]; rfl
    rw [this]; rfl
  | y :: ys, h => by
    have ih := sum_tmN hn ys fun z hz => h z (List.mem_cons_of_mem _ hz)
    have hs : ∀ l : List Int, (l.map (fun j => tmN j (y :: ys))).sum = (l.map (fun j => tmN j ys)).sum + (l.map (fun j => if y.k = 1 ∧ y.n = j then 1 else 0)).sum := fun l => by
      induction l with
      | nil => rfl
      | cons a l ih2 =>
        rw [List.map_cons, List.sum_cons, List.map_cons, List.sum_cons, List.map_cons, List.sum_cons, ih2]
        have : tmN a (y :: ys) = tmN a ys + (if y.k = 1 ∧ y.n = a then 1 else 0) := by unfold tmN; rw [List.countP_cons]; simp
        omega
    rw [hs, ih, List.countP_cons]
    by_cases hk : y.k = 1
    · have h1 := sum_ind hn (h y (List.mem_cons_self ..) hk)
      have : (vs.map (fun j => if y.k = 1 ∧ y.n = j then 1 else 0)).sum = 1 := by refine Eq.trans ?_ h1; congr 1; exact List.map_inj_left.2 fun j _ => by by_cases e : y.n = j <;> simp [hk, e]
      rw [this]; simp [hk]
    · have : ∀ l : List Int, (l.map (fun j => if y.k = 1 ∧ y.n = j then 1 else 0)).sum = 0 := fun l => by
        induction l with
        | nil => rfl
        | cons a l ih2 => rw [List.map_cons, List.sum_cons, ih2, if_neg (fun e => hk e.1)]
      rw [this]; simp [hk]
theorem leaves_law (t : Tm) : allN t (varsL [t]) = t.lv := by
  unfold allN
  rw [sum_tmN (varsL_nodup [t]) t.pre fun y hy hk => has_iff.2 ⟨y, hy, hk, rfl⟩, (lv_pre t.size).1 t (Nat.le_refl _)]
theorem tmN_pos {t : Tm} {j : Int} (h : t.has j) : 1 ≤ tmN j t.pre := by
  obtain ⟨y, hy, hk, hn⟩ := h
  unfold tmN
  exact List.countP_pos_iff.2 ⟨y, hy, by simp [hk, hn]⟩
theorem tmN_le (t : Tm) (j : Int) : tmN j t.pre ≤ t.size := by
  have h1 : tmN j t.pre ≤ t.pre.length := List.countP_le_length
  rw [Tm.pre_len] at h1; exact h1
theorem sub_has {σ : Int → Tm} (t : Tm) : t.okB = true → ∀ n, (t.sub σ).has n ↔ ∃ j, t.has j ∧ (σ j).has n := by
  refine Tm.okInd (p := fun t => ∀ n, (t.sub σ).has n ↔ ∃ j, t.has j ∧ (σ j).has n) (fun m _ _ n => ?_) (fun t hk _ ih n => ?_) t
  · rw [sub_va]
    exact ⟨fun h => ⟨m, has_va.2 rfl, h⟩, fun ⟨j, h1, h2⟩ => by rw [has_va.1 h1] at h2; exact h2⟩
  · rw [sub_node σ hk, has_node (t := Tm.mk t.k t.n t.s (t.l.map (Tm.sub σ))) hk]
    constructor
    · rintro ⟨x, hx, h⟩
      obtain ⟨y, hy, rfl⟩ := List.mem_map.1 hx
      obtain ⟨j, h1, h2⟩ := ((ih y hy).2 n).1 h
      exact ⟨j, (has_node hk).2 ⟨y, hy, h1⟩, h2⟩
    · rintro ⟨j, h1, h2⟩
      obtain ⟨y, hy, h3⟩ := (has_node hk).1 h1
      exact ⟨_, List.mem_map.2 ⟨y, hy, rfl⟩, ((ih y hy).2 n).2 ⟨j, h3, h2⟩⟩
def addAll (W xs : List Int) : List Int := xs.foldl addS W
theorem addAll_append (W a b : List Int) : addAll W (a ++ b) = addAll (addAll W a) b := by simp [addAll]
theorem addS_mem {W : List Int} {x n : Int} : n ∈ addS W x ↔ n ∈ W ∨ n = x := by
  unfold addS; split
  · rename_i h; exact ⟨Or.inl, fun h2 => h2.elim id (fun e => e ▸ h)⟩
  · simp
theorem addAll_mem {n : Int} : ∀ {xs W : List Int}, n ∈ addAll W xs ↔ n ∈ W ∨ n ∈ xs
  | [], W => by simp [addAll]
  | x :: xs, W => by
    show n ∈ addAll (addS W x) xs ↔ _
    rw [addAll_mem, addS_mem, List.mem_cons, or_assoc]
theorem addS_nodup {W : List Int} {x : Int} (h : W.Nodup) : (addS W x).Nodup := by
  unfold addS; split
  · exact h
  · rename_i hm
    rw [List.nodup_append]
    exact ⟨h, by simp, fun a ha b hb => by rw [List.mem_singleton.1 hb]; exact fun e => hm (e ▸ ha)⟩
theorem addAll_nodup : ∀ {xs W : List Int}, W.Nodup → (addAll W xs).Nodup
  | [], W, h => h
  | x :: xs, W, h => addAll_nodup (xs := xs) (addS_nodup h)
/-- The variables of an instance, as the law collects them. -/
def wantL (s : List Tm) (vs : List Int) : List Int := addAll [] (vs.flatMap (fun j => varsL [sgL s j]))
theorem wantL_snoc (s : List Tm) (vs : List Int) (j : Int) : wantL s (vs ++ [j]) = addAll (wantL s vs) (varsL [sgL s j]) := by
  unfold wantL; rw [List.flatMap_append, addAll_append]; simp
theorem varsL_va (n : Int) : varsL [Tm.va n] = [n] := by
  show varsFrom [] (Tm.pres [Tm.va n]) = [n]
  rw [Tm.pres, Tm.pres, List.append_nil, Tm.pre_eq, va_l, Tm.pres]
  show varsAcc [] (Tm.va n) = [n]
  unfold varsAcc
  rw [if_pos ⟨rfl, by simp⟩]; rfl
theorem addAll_one (W : List Int) (x : Int) : addAll W [x] = addS W x := rfl
/-- What the law asks of the variables of an instance. -/
theorem ground_law {t x : Tm} {s : List Tm} (ht : isB t = true) (hs : subB s = true) (h : substR t s = some x) :
    isB x = true ∧ (varsL [t] = [] → x = t) ∧ (varsL [x]).length = (wantL s (varsL [t])).length ∧ (∀ n ∈ varsL [x], n ∈ wantL s (varsL [t])) ∧ (∀ n ∈ varsL [x], 0 ≤ n ∧ n < 100000) := by
  obtain ⟨hx, hsub⟩ := subst_some ht hs h
  have hto := (isB_iff.1 ht).1
  have hmem : ∀ n, n ∈ varsL [x] ↔ n ∈ wantL s (varsL [t]) := fun n => by
    rw [has_iff, ← hsub, sub_has t hto, wantL, addAll_mem, List.mem_flatMap]
    constructor
    · rintro ⟨j, h1, h2⟩; exact Or.inr ⟨j, has_iff.2 h1, has_iff.2 h2⟩
    · rintro (h | ⟨j, h1, h2⟩)
      · cases h
      · exact ⟨j, has_iff.1 h1, has_iff.1 h2⟩
  refine ⟨hx, fun hv => ?_, ?_, fun n hn => (hmem n).1 hn, fun n hn => has_bd (isB_iff.1 hx).1 (has_iff.1 hn)⟩
  · rw [← hsub]
    conv => rhs; rw [← sub_id t hto]
    refine (sub_congr t hto).2 fun n hn => ?_
    have := has_iff.2 hn
    rw [hv] at this; cases this
  · exact ((List.perm_ext_iff_of_nodup (varsL_nodup [x]) (addAll_nodup (by simp))).2 hmem).length_eq
theorem ground_err {t : Tm} {s : List Tm} (ht : isB t = true) (hs : subB s = true) (h : substR t s = none) : varsL [t] ≠ [] := fun hv => by
  have hto := (isB_iff.1 ht).1
  have : t.sub (sgL s) = t := by
    conv => rhs; rw [← sub_id t hto]
    refine (sub_congr t hto).2 fun n hn => ?_
    have := has_iff.2 hn
    rw [hv] at this; cases this
  rw [subst_eq ht hs, this, if_pos ht] at h
  cases h
/-- An element of a row, as a row of its own. -/
theorem TmC.sub1 {P : Nat → Prop} {w : World} {A : Option Addr} {c i : Nat} {l : List Tm} {t : Tm} {g off : Nat} {Ai : Option Addr} {ci : Nat} (hP : P g)
    (h : w.cell? ⟨g, off + i * 4, none⟩ = some (.int .i64 t.k) ∧ w.cell? ⟨g, off + i * 4 + 1, none⟩ = some (.int .i64 t.n) ∧ w.cell? ⟨g, off + i * 4 + 2, none⟩ = some (.string t.s) ∧ w.cell? ⟨g, off + i * 4 + 3, none⟩ = some (.slice Ai t.l.length ci)) (hs : t.s.size ≤ 9223372036854775807) (hc : TmC P w Ai ci t.l) :
    TmC P w (some ⟨g, off + i * 4, none⟩) 1 [t] := by
  refine .mk [(t, Ai, ci)] rfl (Nat.le_refl _) (by omega) (fun h => by cases h) (fun _ => ⟨g, _, rfl, hP⟩) (fun _ => ⟨g, off + i * 4, rfl, fun j v hj => ?_⟩) (fun e he => by rw [List.mem_singleton.1 he]; exact hs) (fun e he => by rw [List.mem_singleton.1 he]; exact hc)
  match j, hj with
  | 0, hj => simp [encE] at hj; rw [← hj]; exact h.1
  | 1, hj => simp [encE] at hj; rw [← hj]; exact h.2.1
  | 2, hj => simp [encE] at hj; rw [← hj]; exact h.2.2.1
  | 3, hj => simp [encE] at hj; rw [← hj]; exact h.2.2.2
  | j + 4, hj => simp [encE] at hj
end Go.Proofs.Ytfhgknmkpegpbaa
