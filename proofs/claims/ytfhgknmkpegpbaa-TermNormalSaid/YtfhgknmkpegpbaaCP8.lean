/- Normal and Shift: plain facts. -/
import Derived.Test.YtfhgknmkpegpbaaCT63
import Derived.Test.YtfhgknmkpegpbaaCP7
set_option linter.unusedVariables false
set_option linter.unusedSimpArgs false
namespace Go.Proofs.Ytfhgknmkpegpbaa
open Go.RowKit

theorem isB_of_all {l : List Tm} (h : allB l = true) {t : Tm} (ht : t ∈ l) : isB t = true := by
  obtain ⟨h1, h2, h3⟩ := allB_iff.1 h
  exact isB_iff.2 ⟨Tm.okBs_mem h1 ht, by have := Tm.size_mem ht; omega, by have := Tm.depth_mem ht; omega⟩
/-- A renaming of rows of terms gives such. -/
theorem allB_ren {σ : Int → Tm} {l : List Tm} (h : allB l = true) (hr : ∀ n, (∃ t ∈ l, t.has n) → ∃ m : Int, 0 ≤ m ∧ m < 100000 ∧ σ n = Tm.va m) : allB (l.map (Tm.sub σ)) = true := by
  obtain ⟨h1, h2, h3⟩ := allB_iff.1 h
  have hs : ∀ t ∈ l, (t.sub σ).size = t.size ∧ (t.sub σ).depth = t.depth := fun t ht => sub_ren t (Tm.okBs_mem h1 ht) fun n hn => by obtain ⟨m, _, _, e⟩ := hr n ⟨t, ht, hn⟩; rw [e]; exact ⟨rfl, rfl⟩
  have a1 := sizes_map_le (f := Tm.sub σ) (g := id) (l := l) fun x hx => (hs x hx).1
  have a2 := depths_map_eq (f := Tm.sub σ) (g := id) (l := l) fun x hx => (hs x hx).2
  rw [List.map_id] at a1 a2
  refine allB_iff.2 ⟨okBs_iff.2 fun y hy => ?_, by rw [a1]; exact h2, by rw [a2]; exact h3⟩
  obtain ⟨x, hx, rfl⟩ := List.mem_map.1 hy
  exact (sub_ok x (Tm.okBs_mem h1 hx)).2 fun n hn => by obtain ⟨m, h4, h5, e⟩ := hr n ⟨x, hx, hn⟩; rw [e]; exact va_ok h4 h5
theorem ixL_inj {l : List Tm} {a b : Int} (ha : a ∈ varsL l) (hb : b ∈ varsL l) (h : ixL l a = ixL l b) : a = b := by
  have h1 := ixL_back ha
  have h2 := ixL_back hb
  rw [h, h2] at h1; injection h1 with h1; exact h1.symm
/-- Two renamings of the same terms get the same numbers. -/
theorem ixL_map {l : List Tm} {f : Int → Int} {σ : Int → Tm} (ho : ∀ t ∈ l, t.okB = true) (h : ∀ n, (∃ t ∈ l, t.has n) → σ n = Tm.va (f n)) (hi : ∀ a b, (∃ t ∈ l, t.has a) → (∃ t ∈ l, t.has b) → f a = f b → a = b) {n : Int} (hn : ∃ t ∈ l, t.has n) :
    ixL (l.map (Tm.sub σ)) (f n) = ixL l n := by
  have hv := varsL_ren ho h hi
  have hm : n ∈ varsL l := hasL_iff.2 hn
  rw [ixL_of hm, ixL_of (by rw [hv]; exact List.mem_map.2 ⟨n, hm, rfl⟩), hv, idxOf_map hm fun a ha e => hi a n (hasL_iff.1 ha) hn e]
theorem normR_ren {l : List Tm} (hl : allB l = true) {f : Int → Int} {σ : Int → Tm} (h : ∀ n, (∃ t ∈ l, t.has n) → σ n = Tm.va (f n) ∧ 0 ≤ f n ∧ f n < 100000) (hi : ∀ a b, (∃ t ∈ l, t.has a) → (∃ t ∈ l, t.has b) → f a = f b → a = b) :
    allB (l.map (Tm.sub σ)) = true ∧ normR (l.map (Tm.sub σ)) = normR l := by
  have h1 := allB_ren hl fun n hn => ⟨f n, (h n hn).2.1, (h n hn).2.2, (h n hn).1⟩
  refine ⟨h1, ?_⟩
  have ho : ∀ t ∈ l, t.okB = true := fun t ht => Tm.okBs_mem (allB_iff.1 hl).1 ht
  rw [normR_eq h1, normR_eq hl, List.map_map]
  refine List.map_inj_left.2 fun t ht => ?_
  show (t.sub σ).sub _ = _
  rw [sub_sub]
  refine (sub_congr t (ho t ht)).2 fun n hn => ?_
  rw [(h n ⟨t, ht, hn⟩).1, sub_va]
  congr 1
  exact ixL_map ho (fun n hn => (h n hn).1) hi ⟨t, ht, hn⟩
theorem idx_self : ∀ {xs : List Int}, xs.Nodup → xs.map (fun x => (xs.idxOf x : Int)) = (List.range xs.length).map Int.ofNat := fun {xs} h => by
  apply List.ext_getElem
  · simp
  · intro i h1 h2
    simp only [List.getElem_map, List.getElem_range]
    rw [List.Nodup.idxOf_getElem h i (by simpa using h1)]
    rfl
/-- What Normal gives for what Normal gives. -/
theorem norm_law {l : List Tm} (h : allB l = true) : allB (normR l) = true ∧ varsL (normR l) = (List.range (varsL l).length).map Int.ofNat ∧ normR (normR l) = normR l := by
  have ho : ∀ t ∈ l, t.okB = true := fun t ht => Tm.okBs_mem (allB_iff.1 h).1 ht
  have hf : ∀ n, (∃ t ∈ l, t.has n) → Tm.va (ixL l n) = Tm.va (ixL l n) ∧ 0 ≤ ixL l n ∧ ixL l n < 100000 := fun n hn => ⟨rfl, ixL_bd (allB_iff.1 h).2.1 (hasL_iff.2 hn)⟩
  have hi : ∀ a b, (∃ t ∈ l, t.has a) → (∃ t ∈ l, t.has b) → ixL l a = ixL l b → a = b := fun a b ha hb e => ixL_inj (hasL_iff.2 ha) (hasL_iff.2 hb) e
  have h1 := normR_ren (σ := fun n => Tm.va (ixL l n)) h hf hi
  rw [← normR_eq h] at h1
  refine ⟨h1.1, ?_, h1.2⟩
  have hv := varsL_ren (σ := fun n => Tm.va (ixL l n)) ho (fun n hn => (hf n hn).1) hi
  rw [← normR_eq h] at hv
  rw [hv, ← idx_self (varsL_nodup l)]
  exact List.map_inj_left.2 fun x hx => ixL_of hx
theorem normR_at {l : List Tm} (h : allB l = true) {i : Nat} {t : Tm} (ht : l[i]? = some t) : (normR l)[i]? = some (t.sub fun n => Tm.va (ixL l n)) := by
  rw [normR_eq h, List.getElem?_map, ht]; rfl
/-- Back from numbers to the variables. -/
theorem norm_back_law {l : List Tm} (h : allB l = true) {t : Tm} (ht : t ∈ l) : isB (t.sub fun n => Tm.va (ixL l n)) = true ∧ subB ((varsL l).map Tm.va) = true ∧ substR (t.sub fun n => Tm.va (ixL l n)) ((varsL l).map Tm.va) = some t := by
  have htb := isB_of_all h ht
  have hto := (isB_iff.1 htb).1
  have h1 : isB (t.sub fun n => Tm.va (ixL l n)) = true := sub_isB_ren htb fun n hn => ⟨ixL l n, (ixL_bd (allB_iff.1 h).2.1 (hasL_iff.2 ⟨t, ht, hn⟩)).1, (ixL_bd (allB_iff.1 h).2.1 (hasL_iff.2 ⟨t, ht, hn⟩)).2, rfl⟩
  have h2 : subB ((varsL l).map Tm.va) = true := by
    unfold subB
    rw [Bool.and_eq_true, decide_eq_true_eq, Bool.not_eq_true', List.any_eq_false]
    refine ⟨by have := varsL_len l; have := (allB_iff.1 h).2.1; rw [List.length_map]; omega, fun x hx => ?_⟩
    obtain ⟨n, hn, rfl⟩ := List.mem_map.1 hx
    obtain ⟨u, hu, hun⟩ := hasL_iff.1 hn
    have hb := has_bd (Tm.okBs_mem (allB_iff.1 h).1 hu) hun
    obtain ⟨j, rfl⟩ : ∃ j : Nat, n = j := ⟨n.toNat, by omega⟩
    unfold badB
    rw [va_isB (by omega)]; simp
  refine ⟨h1, h2, ?_⟩
  have h3 : (t.sub fun n => Tm.va (ixL l n)).sub (sgL ((varsL l).map Tm.va)) = t := by
    rw [sub_sub]
    conv => rhs; rw [← sub_id t hto]
    refine (sub_congr t hto).2 fun n hn => ?_
    have hm : n ∈ varsL l := hasL_iff.2 ⟨t, ht, hn⟩
    have hb := ixL_bd (allB_iff.1 h).2.1 hm
    have hg := ixL_back hm
    rw [sub_va]
    obtain ⟨j, hj⟩ : ∃ j : Nat, ixL l n = j := ⟨(ixL l n).toNat, by omega⟩
    rw [hj] at hg ⊢
    rw [Int.toNat_natCast] at hg
    rw [sgL_at (y := Tm.va n) (by rw [List.getElem?_map, hg]; rfl), fb_va, if_neg (by simp)]
  rw [subst_eq h1 h2, h3, if_pos htb]
/-- A tree with all variables greater. -/
def shT (n : Int) (t : Tm) : Tm := t.sub fun v => Tm.va (wrap64 (v + n))
theorem sh_bd {n : Int} {t : Tm} (hs : shB n t = true) {v : Int} (hv : t.has v) (ht : t.okB = true) : 0 ≤ v + n ∧ v + n < 100000 ∧ wrap64 (v + n) = v + n := by
  obtain ⟨y, hy, hk, rfl⟩ := hv
  have h1 := shB_iff.1 hs y hy
  have h2 := var_bd (okB_pre t ht y hy) hk
  unfold shBad at h1
  have h3 : ¬(n < -y.n ∨ 100000 - y.n ≤ n) := fun h => h1 ⟨hk, h⟩
  refine ⟨by omega, by omega, ?_⟩
  unfold wrap64
  omega
theorem shift_law {n : Int} {t : Tm} (ht : isB t = true) (hs : shB n t = true) : repT (shF n) t = some (shT n t) := by
  have hto := (isB_iff.1 ht).1
  have h1 : sgF (shF n) = fun v => Tm.va (wrap64 (v + n)) := rfl
  rw [repT_eq _ hto, h1, if_pos]
  · rfl
  · exact sub_isB_ren ht fun v hv => ⟨v + n, (sh_bd hs hv hto).1, (sh_bd hs hv hto).2.1, by rw [(sh_bd hs hv hto).2.2]⟩
theorem moved_law {n : Int} {l : List Tm} (h : allB l = true) (hs : ∀ t ∈ l, shB n t = true) : allB (l.map (shT n)) = true ∧ normR (l.map (shT n)) = normR l := by
  have ho : ∀ t ∈ l, t.okB = true := fun t ht => Tm.okBs_mem (allB_iff.1 h).1 ht
  refine normR_ren (σ := fun v => Tm.va (wrap64 (v + n))) (f := fun v => v + n) h (fun v ⟨t, ht, hv⟩ => ?_) (fun a b _ _ e => by omega)
  have := sh_bd (hs t ht) hv (ho t ht)
  exact ⟨by rw [this.2.2], this.1, this.2.1⟩
end Go.Proofs.Ytfhgknmkpegpbaa
