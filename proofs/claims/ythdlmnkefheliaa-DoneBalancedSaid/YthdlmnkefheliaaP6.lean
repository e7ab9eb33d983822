import Derived.Test.YthdlmnkefheliaaP4
set_option linter.unusedVariables false
set_option linter.unusedSimpArgs false
namespace Go.Proofs.Ythdlmnkefheliaa
open Go.RowKit
def planL : Nat → List Int → List (Int × Int)
  | 0, _ => []
  | n + 1, l => if maxI l - minI l ≤ 1 then [] else (maxAt l, minAt l) :: planL n (planStep l)
theorem planGo_eq : ∀ (n : Nat) (l : List Int) (out : List (Int × Int)), planGo n l out = out ++ planL n l
  | 0, l, out => by simp [planGo, planL]
  | n + 1, l, out => by
    rw [planGo, planL]
    split
    · simp
    · rw [planGo_eq n]; simp
theorem planStep_ge {l : List Int} (hne : l ≠ []) (hd : ¬ maxI l - minI l ≤ 1) : ∀ x ∈ planStep l, minI l ≤ x := by
  obtain ⟨f, t, hp⟩ := planAt hne
  intro x hx
  rw [hp.step] at hx
  rcases List.mem_or_eq_of_mem_set hx with hx | rfl
  · rcases List.mem_or_eq_of_mem_set hx with hx | rfl
    · exact minI_le hx
    · omega
  · omega
theorem planStep_len (l : List Int) : (planStep l).length = l.length := by simp [planStep]
theorem planStep_ne {l : List Int} (hne : l ≠ []) : planStep l ≠ [] := by
  intro h
  have := planStep_len l
  rw [h] at this
  exact hne (List.eq_nil_of_length_eq_zero this.symm)
/-- A state from which goals go out as a plan says: the loads of those that can still give are as the plan reckons. -/
structure Follows (t : Thr) (l : List Int) : Prop where
  len : t.procs.length = l.length
  ne : l ≠ []
  nn : ∀ x ∈ l, 0 ≤ x
  at_ : ∀ (k : Nat) (g : Int × Int) (x : Int), t.procs[k]? = some g → l[k]? = some x → g.1 = x ∨ x ≤ minI l + 1
theorem moveM_procs {t : Thr} {f : Nat} {q : Int} (h : (moveM t f q).2 = 0) : ∃ y : Int, (moveM t f q).1.procs = t.procs.set f ((t.proc f).1 - 1, y) := by
  unfold moveM at *
  split at h
  · rename_i c
    rw [if_pos c]
    split at h
    · simp at h
    · rename_i c2
      rw [if_neg c2]
      by_cases h2 : ((t.setP (f : Int).toNat ((t.proc f).1 - 1, (t.proc f).2 - half (t.proc f))).post (1, q, half (t.proc f))).ok = true
      · rw [Thr.fin_ok h2]; exact ⟨_, by simp only [Thr.post, Thr.setP, Int.toNat_natCast]; rfl⟩
      · rw [Thr.fin_bad h2] at h; simp at h
  · rename_i c; exact absurd h c
theorem follow_step {t : Thr} {l : List Int} (h : Follows t l) (hok : t.ok = true) (hd : ¬ maxI l - minI l ≤ 1) :
    ((moveM t (maxAt l) (minAt l)).2 = 0 ∨ (moveM t (maxAt l) (minAt l)).2 = 281 ∨ (moveM t (maxAt l) (minAt l)).2 = 2) ∧
    ((moveM t (maxAt l) (minAt l)).2 = 0 → Follows (moveM t (maxAt l) (minAt l)).1 (planStep l)) := by
  obtain ⟨f, g, hp⟩ := planAt h.ne
  have hf := (List.getElem?_eq_some_iff.1 hp.f_).1
  have hg := (List.getElem?_eq_some_iff.1 hp.t_).1
  rw [hp.mx, hp.mn]
  have hmin0 := h.nn _ (minI_mem h.ne)
  have hget := Thr.proc_get (t := t) (p := f) (by rw [h.len]; exact hf)
  have hpf : (t.proc f).1 = maxI l := by
    rcases h.at_ f _ _ hget hp.f_ with e | e
    · exact e
    · omega
  have hb : busyE t f [(g : Int)] = 0 := busy0 hok _ (by rw [h.len]; exact hf) (by omega) (by
    intro q hq
    simp only [List.mem_cons, List.not_mem_nil, or_false] at hq
    subst hq
    rw [h.len]
    omega)
  refine ⟨?_, fun h0 => ?_⟩
  · unfold moveM
    rw [if_pos hb]
    split
    · exact .inr (.inl rfl)
    · unfold Thr.fin
      split
      · exact .inl rfl
      · exact .inr (.inr rfl)
  · obtain ⟨y, hy⟩ := moveM_procs h0
    have hle : minI l ≤ minI (planStep l) := planStep_ge h.ne hd _ (minI_mem (planStep_ne h.ne))
    refine ⟨by rw [hy, planStep_len, List.length_set]; exact h.len, planStep_ne h.ne, fun x hx => ?_, fun k a x hk hx => ?_⟩
    · have := planStep_ge h.ne hd x hx; omega
    · rw [hy] at hk
      rw [hp.step] at hx
      have hne := hp.ne hd
      by_cases hkf : k = f
      · subst hkf
        rw [List.getElem?_set_self (by rw [h.len]; exact hf)] at hk
        rw [List.getElem?_set_ne (Ne.symm hne), List.getElem?_set_self hf] at hx
        injection hk with hk
        injection hx with hx
        subst hk hx
        left; simp only; omega
      · rw [List.getElem?_set_ne (Ne.symm hkf)] at hk
        by_cases hkg : k = g
        · subst hkg
          rw [List.getElem?_set_self (by simpa using hg)] at hx
          injection hx with hx
          right; omega
        · rw [List.getElem?_set_ne (Ne.symm hkg), List.getElem?_set_ne (Ne.symm hkf)] at hx
          rcases h.at_ k a x hk hx with e | e
          · exact .inl e
          · right; omega
theorem bal_err : ∀ (n : Nat) (l : List Int) (k : Nat) (t : Thr), t.ok = true → Follows t l → (balGo (planL n l) k t).2.2 = 0 ∨ (balGo (planL n l) k t).2.2 = 2
  | 0, l, k, t, _, _ => .inl rfl
  | n + 1, l, k, t, hok, h => by
    rw [planL]
    split
    · exact .inl rfl
    · rename_i hd
      obtain ⟨h1, h2⟩ := follow_step h hok hd
      rw [balGo]
      split
      · rename_i h0
        exact bal_err n _ (k + 1) _ (((move_step t (maxAt l) (minAt l)).1.2 h0).ok) (h2 h0)
      · split
        · exact .inl rfl
        · rename_i h3 h4
          rcases h1 with e | e | e
          · exact absurd e h3
          · exact absurd e h4
          · exact .inr e
theorem balance_err {t : Thr} (hok : t.ok = true) (hg : ∀ x ∈ t.procs, x.1 ≤ 1000) : (balanceM t).2.2 = 0 ∨ (balanceM t).2.2 = 2 := by
  have g := Thr.good_iff.1 hok
  unfold balanceM
  rw [if_pos (begun0 hok [] (by simp))]
  have hl0 := g.pl0
  have hl1 := g.pl1
  have hp : planM (t.procs.map Prod.fst) = (planGo (sq (t.procs.map Prod.fst)).toNat (t.procs.map Prod.fst) [], 0) := by
    unfold planM
    rw [if_pos]
    rw [Bool.and_eq_true, bd_iff, List.length_map]
    refine ⟨by omega, ?_⟩
    rw [Bool.not_eq_true', List.any_eq_false]
    intro x hx
    obtain ⟨y, hy, rfl⟩ := List.mem_map.1 hx
    have h1 := hg y hy
    have h2 := ((holder_iff y).1 (g.pr y hy)).1
    simp [bd]
    omega
  rw [hp]
  simp only [if_true]
  rw [planGo_eq, List.nil_append]
  refine bal_err _ _ 0 t hok ⟨by simp, ?_, ?_, ?_⟩
  · intro h
    have := congrArg List.length h
    simp only [List.length_map, List.length_nil] at this
    omega
  · intro x hx
    obtain ⟨y, hy, rfl⟩ := List.mem_map.1 hx
    exact ((holder_iff y).1 (g.pr y hy)).1.1
  · intro k a x hk hx
    left
    rw [List.getElem?_map, hk] at hx
    simpa using hx
end Go.Proofs.Ythdlmnkefheliaa
