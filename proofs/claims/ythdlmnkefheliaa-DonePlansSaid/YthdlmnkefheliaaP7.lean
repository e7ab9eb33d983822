import Derived.Test.YthdlmnkefheliaaP6
set_option linter.unusedVariables false
set_option linter.unusedSimpArgs false
namespace Go.Proofs.Ythdlmnkefheliaa
open Go.RowKit
/-- How many letters bear no goal. -/
def ng (l : Int × Int × Int) : Int := 1 - gl l
def Thr.nog (t : Thr) : Int := (t.mail.map ng).sum
def Thr.J (t : Thr) : Prop := t.out ≠ 0 ∨ t.ended = true
structure Eff (t t' : Thr) : Prop where
  n : t'.nog ≤ t.nog + 1
  o : t'.out ≤ t.out + t.grain
  j : t.J → t'.J
def EffR (t : Thr) (r : Thr × Int) : Prop := r.2 = 0 → Eff t r.1
theorem EffR.fin {t u : Thr} (h : u.ok = true → Eff t u) : EffR t u.fin := by
  intro h0
  by_cases h2 : u.ok = true
  · rw [Thr.fin_ok h2]; exact h h2
  · rw [Thr.fin_bad h2] at h0; simp at h0
theorem EffR.err {t : Thr} {n : Int} (hn : n ≠ 0) : EffR t (Thr.zero, n) := fun h => absurd h hn
theorem nog_post (t : Thr) (l : Int × Int × Int) : (t.post l).nog = t.nog + ng l := by
  unfold Thr.nog Thr.post
  simp only [List.map_append, List.sum_append, List.map_cons, List.map_nil, List.sum_cons, List.sum_nil]; omega
theorem ng_bd (l : Int × Int × Int) : 0 ≤ ng l ∧ ng l ≤ 1 := by have := gl_bd' l; unfold ng; omega
where gl_bd' (l : Int × Int × Int) : 0 ≤ gl l ∧ gl l ≤ 1 := by unfold gl; split <;> omega
theorem start_eff {t : Thr} (p : Int) : EffR t (startM t p) ∧ ((startM t p).2 = 0 → (startM t p).1.J) := by
  unfold startM
  split
  · rename_i h
    have g := Thr.good_iff.1 (begunE_ok h).1
    have h1 := g.gr0
    have h2 := g.ou0
    have hj : (Thr.issue { t with ended := false } 1 p).J := .inl (by simp only [Thr.issue, Thr.post]; omega)
    refine ⟨EffR.fin fun _ => ⟨?_, ?_, fun _ => hj⟩, fun h0 => ?_⟩
    · rw [Thr.issue, nog_post]
      have := (ng_bd (1, p, t.grain)).2
      show Thr.nog t + _ ≤ _
      simp only at this ⊢
      omega
    · simp only [Thr.issue, Thr.post]; omega
    · by_cases h3 : (Thr.issue { t with ended := false } 1 p).ok = true
      · rw [Thr.fin_ok h3]; exact hj
      · rw [Thr.fin_bad h3] at h0; simp at h0
  · exact ⟨EffR.err (by assumption), fun h => by contradiction⟩
theorem eff_same {t u : Thr} (g : 0 ≤ t.grain) (hn : u.nog ≤ t.nog + 1) (ho : u.out = t.out) (he : u.ended = t.ended) : Eff t u :=
  ⟨hn, by omega, fun h => by unfold Thr.J at *; rw [ho, he]; exact h⟩
theorem busy_ok {t : Thr} {p : Int} {more : List Int} (h : busyE t p more = 0) : 0 ≤ t.grain := by
  have := (Thr.good_iff.1 (begunE_ok (busyE_ok h).1).1).gr0; omega
theorem spawn_eff (t : Thr) (p : Int) : EffR t (spawnM t p) := by
  unfold spawnM
  split
  · rename_i h
    exact EffR.fin fun _ => eff_same (busy_ok h) (show Thr.nog t ≤ _ by omega) rfl rfl
  · exact EffR.err (by assumption)
theorem finish_eff (t : Thr) (p : Int) : EffR t (finishM t p) := by
  unfold finishM
  split
  · rename_i h
    split
    · refine EffR.fin fun _ => eff_same (busy_ok h) ?_ rfl rfl
      rw [nog_post]
      show Thr.nog t + _ ≤ _
      have := (ng_bd (2, 0, (t.proc p).2)).2
      omega
    · exact EffR.fin fun _ => eff_same (busy_ok h) (show Thr.nog t ≤ _ by omega) rfl rfl
  · exact EffR.err (by assumption)
theorem request_eff (t : Thr) (p : Int) : EffR t (requestM t p) := by
  unfold requestM
  split
  · rename_i h
    refine EffR.fin fun _ => eff_same (busy_ok h) ?_ rfl rfl
    rw [nog_post]
    have := (ng_bd (3, p, 0)).2
    omega
  · exact EffR.err (by assumption)
theorem move_eff (t : Thr) (p q : Int) (h : (moveM t p q).2 = 0) : (moveM t p q).1.nog = t.nog ∧ (moveM t p q).1.out = t.out ∧ (moveM t p q).1.ended = t.ended := by
  unfold moveM at *
  split at h
  · rename_i c
    rw [if_pos c]
    split at h
    · simp at h
    · rename_i c2
      rw [if_neg c2]
      by_cases h2 : ((t.setP p.toNat ((t.proc p).1 - 1, (t.proc p).2 - half (t.proc p))).post (1, q, half (t.proc p))).ok = true
      · rw [Thr.fin_ok h2]
        refine ⟨?_, rfl, rfl⟩
        rw [nog_post]
        show Thr.nog t + 0 = _
        omega
      · rw [Thr.fin_bad h2] at h; simp at h
  · rename_i c; exact absurd h c
theorem balGo_eff : ∀ (ms : List (Int × Int)) (k : Nat) (t : Thr), (balGo ms k t).2.2 = 0 → (balGo ms k t).1.nog = t.nog ∧ (balGo ms k t).1.out = t.out ∧ (balGo ms k t).1.ended = t.ended
  | [], k, t, _ => ⟨rfl, rfl, rfl⟩
  | m :: ms, k, t, h => by
    rw [balGo] at h ⊢
    split
    · rename_i h0
      rw [if_pos h0] at h
      obtain ⟨a, b, c⟩ := balGo_eff ms (k + 1) _ h
      obtain ⟨a', b', c'⟩ := move_eff t m.1 m.2 h0
      exact ⟨a.trans a', b.trans b', c.trans c'⟩
    · rename_i h0
      rw [if_neg h0] at h
      split
      · exact ⟨rfl, rfl, rfl⟩
      · rename_i h1
        rw [if_neg h1] at h
        exact absurd h h0
theorem balance_eff (t : Thr) : EffR t ((balanceM t).1, (balanceM t).2.2) := by
  intro h
  unfold balanceM at *
  split at h
  · rename_i c
    have hg : 0 ≤ t.grain := by have := (Thr.good_iff.1 (begunE_ok c).1).gr0; omega
    rw [if_pos c]
    split at h
    · rename_i c2
      rw [if_pos c2]
      obtain ⟨a, b, d⟩ := balGo_eff _ 0 t h
      exact eff_same hg (by rw [a]; omega) b d
    · simp at h
  · rename_i c
    exact absurd h c
theorem deliver_eff (t : Thr) (a : Int) : EffR t (deliverM t a) := by
  by_cases hok : t.ok = true
  case neg =>
    have : deliverM t a = (Thr.zero, 280) := by
      have hb : begunE t [] = 280 := by rw [begunE, if_neg hok]
      rw [deliverM, hb]; rfl
    rw [this]; exact EffR.err (by omega)
  by_cases hr : 0 ≤ a ∧ a < t.mail.length
  case neg =>
    have : deliverM t a = (Thr.zero, 1) := by rw [deliverM, if_pos (begun0 hok [] (by simp)), if_neg (by rw [bd_iff]; omega)]
    rw [this]; exact EffR.err (by omega)
  obtain ⟨j, l, rfl, hl, he⟩ := deliver_open hok hr.1 hr.2
  rw [he]
  refine EffR.fin fun _ => ?_
  have g := Thr.good_iff.1 hok
  have h1 := g.gr0
  have h2 := g.ou0
  have hle := (letter_iff _ _).1 (g.le l (List.mem_of_getElem? hl))
  have hse : ((t.mail.eraseIdx j).map ng).sum = t.nog - ng l := sum_erase ng _ _ _ hl
  have hb := ng_bd l
  unfold Thr.take
  split
  · exact eff_same (by omega) (show ((t.mail.eraseIdx j).map ng).sum ≤ _ by omega) rfl rfl
  · split
    · rename_i c1 c2
      refine ⟨show ((t.mail.eraseIdx j).map ng).sum ≤ _ by omega, by simp only; omega, fun _ => ?_⟩
      unfold Thr.J
      simp only
      by_cases hz : t.out - l.2.2 = 0
      · exact .inr (by rw [hz]; rfl)
      · exact .inl hz
    · split
      · split
        · rename_i c1 c2 c3 c4
          simp only at c4
          refine ⟨?_, by simp only [Thr.issue, Thr.post]; omega, fun _ => .inl (by simp only [Thr.issue, Thr.post]; omega)⟩
          rw [Thr.issue, nog_post]
          have := (ng_bd (4, l.2.1, t.grain)).2
          show ((t.mail.eraseIdx j).map ng).sum + _ ≤ _
          simp only at this ⊢
          omega
        · exact eff_same (by omega) (show ((t.mail.eraseIdx j).map ng).sum ≤ _ by omega) rfl rfl
      · split
        · split
          · refine eff_same (by omega) ?_ rfl rfl
            rw [nog_post]
            have := (ng_bd (2, 0, l.2.2)).2
            show ((t.mail.eraseIdx j).map ng).sum + _ ≤ _
            omega
          · exact eff_same (by omega) (show ((t.mail.eraseIdx j).map ng).sum ≤ _ by omega) rfl rfl
        · exact eff_same (by omega) (show ((t.mail.eraseIdx j).map ng).sum ≤ _ by omega) rfl rfl
theorem do_eff (k a b : Int) (t : Thr) : EffR t (doM k a b t) := by
  unfold doM
  by_cases h0 : k = 0
  · rw [if_pos h0]; exact (start_eff a).1
  rw [if_neg h0]
  by_cases h1 : k = 1
  · rw [if_pos h1]; exact spawn_eff t a
  rw [if_neg h1]
  by_cases h2 : k = 2
  · rw [if_pos h2]; exact finish_eff t a
  rw [if_neg h2]
  by_cases h3 : k = 3
  · rw [if_pos h3]
    intro h
    obtain ⟨x, y, z⟩ := move_eff t a b h
    have hg : 0 ≤ t.grain := by
      unfold moveM at h
      split at h
      · rename_i c; exact busy_ok c
      · rename_i c; exact absurd h c
    exact eff_same hg (by rw [x]; omega) y z
  rw [if_neg h3]
  by_cases h4 : k = 4
  · rw [if_pos h4]; exact deliver_eff t a
  rw [if_neg h4]
  by_cases h5 : k = 5
  · rw [if_pos h5]; exact request_eff t a
  rw [if_neg h5]
  exact balance_eff t

/-- What holds behind c calls from New on. -/
structure Inv (c : Nat) (t : Thr) (st : Bool) : Prop where
  ok : t.ok = true
  g : t.goals ≤ c
  n : t.nog ≤ c
  o : t.out ≤ c * 1048576
  j : st = true → t.J
theorem Inv.more {c : Nat} {t : Thr} {st : Bool} (h : Inv c t st) : Inv (c + 1) t st := ⟨h.ok, by have := h.g; omega, by have := h.n; omega, by have := h.o; omega, h.j⟩
theorem Inv.step {c : Nat} {t : Thr} {st : Bool} (h : Inv c t st) {k a b : Int} (h0 : (doM k a b t).2 = 0) : Inv (c + 1) (doM k a b t).1 (st || k == 0) := by
  have s := (do_step k a b t).2 h0
  have e := do_eff k a b t h0
  have g := Thr.good_iff.1 h.ok
  have g1 := g.gr1
  have hd : dgOf k ≤ 1 := by unfold dgOf; split; · omega
                             split <;> omega
  refine ⟨s.ok, by have := s.gs; have := h.g; omega, by have := e.n; have := h.n; omega, by have := e.o; have := h.o; omega, fun hs => ?_⟩
  by_cases hst : st = true
  · exact e.j (h.j hst)
  · have hk : k = 0 := by
      simp only [Bool.not_eq_true] at hst
      rw [hst] at hs
      simpa using hs
    subst hk
    exact (start_eff a).2 h0
theorem sum_zero_all {T : Type} (f : T → Int) : ∀ (xs : List T), (∀ x ∈ xs, 0 ≤ f x) → (xs.map f).sum = 0 → ∀ x ∈ xs, f x = 0
  | [], _, _, x, hx => by simp at hx
  | z :: zs, h, hs, x, hx => by
    have h0 := h z (List.mem_cons_self ..)
    have hn := sum_nonneg f zs (fun y hy => h y (List.mem_cons_of_mem _ hy))
    simp only [List.map_cons, List.sum_cons] at hs
    rcases List.mem_cons.1 hx with rfl | hx
    · omega
    · exact sum_zero_all f zs (fun y hy => h y (List.mem_cons_of_mem _ hy)) (by omega) x hx
theorem gl_nn (l : Int × Int × Int) : 0 ≤ gl l := by unfold gl; split <;> omega
theorem goals_zero {t : Thr} (h : t.ok = true) : t.goals = 0 ↔ (∀ x ∈ t.procs, x.1 = 0) ∧ ∀ l ∈ t.mail, l.1 ≠ 1 := by
  have g := Thr.good_iff.1 h
  have h1 := sum_nonneg (fun x : Int × Int => x.1) t.procs (fun x hx => ((holder_iff x).1 (g.pr x hx)).1.1)
  have h2 := sum_nonneg gl t.mail (fun x _ => gl_nn x)
  unfold Thr.goals
  constructor
  · intro e
    refine ⟨sum_zero_all (fun x : Int × Int => x.1) t.procs (fun x hx => ((holder_iff x).1 (g.pr x hx)).1.1) (by omega), fun l hl hk => ?_⟩
    have := sum_zero_all gl t.mail (fun x _ => gl_nn x) (by omega) l hl
    rw [gl, if_pos hk] at this
    omega
  · rintro ⟨e1, e2⟩
    have hz : ∀ {T : Type} (f : T → Int) (xs : List T), (∀ x ∈ xs, f x = 0) → (xs.map f).sum = 0 := by
      intro T f xs
      induction xs with
      | nil => intro _; rfl
      | cons a l ih => intro hx; simp only [List.map_cons, List.sum_cons]; rw [ih (fun x hx' => hx x (List.mem_cons_of_mem _ hx')), hx a (List.mem_cons_self ..)]; rfl
    rw [hz (fun x : Int × Int => x.1) t.procs e1, hz gl t.mail (fun l hl => by rw [gl, if_neg (e2 l hl)])]; rfl
theorem quiet_goals {t : Thr} (h : t.ok = true) : quietB t = decide (t.goals = 0) := by
  have g := Thr.good_iff.1 h
  rw [Bool.eq_iff_iff, decide_eq_true_eq, goals_zero h]
  unfold quietB
  simp only [Bool.and_eq_true, Bool.not_eq_true', List.any_eq_false, decide_eq_true_eq, beq_iff_eq]
  constructor
  · rintro ⟨a, b⟩
    exact ⟨fun x hx => by have := a x hx; have := ((holder_iff x).1 (g.pr x hx)).1.1; omega, b⟩
  · rintro ⟨a, b⟩
    exact ⟨fun x hx => by have := a x hx; omega, b⟩
theorem ended_goals {t : Thr} (h : t.ok = true) (he : t.ended = true) : t.goals = 0 := by
  have g := Thr.good_iff.1 h
  have ho := g.en he
  have hs := g.sum
  unfold Thr.wsum wsumL at hs
  have h1 := sum_nonneg (fun x : Int × Int => x.2) t.procs g.pw
  have h2 := sum_nonneg (fun x : Int × Int × Int => x.2.2) t.mail g.lw
  rw [goals_zero h]
  refine ⟨fun x hx => ?_, fun l hl hk => ?_⟩
  · have := sum_zero_all (fun x : Int × Int => x.2) t.procs g.pw (by omega) x hx
    exact ((holder_iff x).1 (g.pr x hx)).2.2.2 this
  · have h3 : l.2.2 = 0 := sum_zero_all (fun x : Int × Int × Int => x.2.2) t.mail g.lw (by omega) l hl
    have hle := (letter_iff _ _).1 (g.le l hl)
    omega
theorem nog_len {t : Thr} (h : t.ok = true) : (t.mail.length : Int) ≤ t.nog + t.goals ∧ (t.reqs : Int) ≤ t.nog := by
  have g := Thr.good_iff.1 h
  have h1 := sum_nonneg (fun x : Int × Int => x.1) t.procs (fun x hx => ((holder_iff x).1 (g.pr x hx)).1.1)
  have key : ∀ ms : List (Int × Int × Int), (ms.length : Int) = (ms.map ng).sum + (ms.map gl).sum ∧ (((ms.map rq).sum : Nat) : Int) ≤ (ms.map ng).sum := by
    intro ms
    induction ms with
    | nil => simp
    | cons a l ih =>
      have hr : (rq a : Int) ≤ ng a := by
        unfold rq ng gl
        split
        · rename_i hk; rw [if_neg (by omega)]; simp
        · split <;> simp
      simp only [List.map_cons, List.sum_cons, List.length_cons]
      have : ng a = 1 - gl a := rfl
      omega
  obtain ⟨k1, k2⟩ := key t.mail
  unfold Thr.goals Thr.nog Thr.reqs
  omega
theorem still_of {t : Thr} (h : t.ok = true) (hg : t.goals = 0) (hb : t.out + t.reqs * t.grain ≤ 1099511627776) : t.Still := by
  obtain ⟨a, b⟩ := (goals_zero h).1 hg
  exact ⟨h, a, b, hb⟩
theorem Inv.still {c : Nat} {t : Thr} {st : Bool} (h : Inv c t st) (hc : c ≤ 60) (hg : t.goals = 0) : t.Still := by
  have g := Thr.good_iff.1 h.ok
  refine still_of h.ok hg ?_
  have h1 := (nog_len h.ok).2
  have h2 := h.n
  have h3 := h.o
  have h4 : (t.reqs : Int) * t.grain ≤ 60 * 1048576 := Int.mul_le_mul (by omega) g.gr1 (by have := g.gr0; omega) (by omega)
  omega
theorem Inv.told {c : Nat} {t : Thr} (h : Inv c t true) (hc : c ≤ 60) (hg : t.goals = 0) (cs : List Int) : ∃ n : Int, settleM t cs = (t.endsAt, n, 0) ∧ t.endsAt.ended = true ∧ t.endsAt.out = 0 := by
  obtain ⟨n, hn⟩ := settleM_still (h.still hc hg) cs
  refine ⟨n, hn, ?_, rfl⟩
  unfold Thr.endsAt
  rcases h.j rfl with e | e
  · simp [e]
  · simp [e]
theorem newM_ok' {p g : Int} (h : (newM p g).2 = 0) : (newM p g).1.ok = true ∧ (newM p g).1.goals = 0 ∧ (newM p g).1.mail = [] ∧ (newM p g).1.out = 0 ∧ (newM p g).1.ended = false := by
  unfold newM at *
  split at h
  · rename_i c
    rw [if_pos c]
    have hk : ((p.toNat : Nat) : Int) = p := by
      have o := c
      rw [Bool.and_eq_true, bd_iff] at o
      exact Int.toNat_of_nonneg (by omega)
    refine ⟨by rw [newT, new_ok, hk]; exact c, ?_, rfl, rfl, rfl⟩
    unfold Thr.goals newT
    simp
  · simp at h
theorem Inv.start {p g : Int} (h : (newM p g).2 = 0) : Inv 0 (newM p g).1 false := by
  obtain ⟨a, b, c, d, e⟩ := newM_ok' h
  exact ⟨a, by omega, by unfold Thr.nog; rw [c]; simp, by rw [d]; omega, fun h => by cases h⟩
end Go.Proofs.Ythdlmnkefheliaa
