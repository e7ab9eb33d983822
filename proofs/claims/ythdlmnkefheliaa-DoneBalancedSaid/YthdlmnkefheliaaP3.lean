import Derived.Test.YthdlmnkefheliaaD23
import Derived.Test.YthdlmnkefheliaaP2
set_option linter.unusedVariables false
set_option linter.unusedSimpArgs false
namespace Go.Proofs.Ythdlmnkefheliaa
open Go.RowKit

def gl (l : Int × Int × Int) : Int := if l.1 = 1 then 1 else 0
def Thr.goals (t : Thr) : Int := (t.procs.map (fun x => x.1)).sum + (t.mail.map gl).sum

structure StepOk (t t' : Thr) (dg : Int) : Prop where
  ok : t'.ok = true
  gr : t'.grain = t.grain
  pl : t'.procs.length = t.procs.length
  gs : t'.goals = t.goals + dg
def ResOk (t : Thr) (r : Thr × Int) (dg : Int) : Prop := (r.2 ≠ 0 → r.1 = Thr.zero) ∧ (r.2 = 0 → StepOk t r.1 dg)
theorem ResOk.fin {t u : Thr} {dg : Int} (hg : u.grain = t.grain) (hp : u.procs.length = t.procs.length) (hs : u.goals = t.goals + dg) : ResOk t u.fin dg := by
  by_cases h : u.ok = true
  · rw [Thr.fin_ok h]; exact ⟨fun h => absurd rfl h, fun _ => ⟨h, hg, hp, hs⟩⟩
  · rw [Thr.fin_bad h]; exact ⟨fun _ => rfl, fun h => by simp at h⟩
theorem ResOk.err {t : Thr} {n dg : Int} (hn : n ≠ 0) : ResOk t (Thr.zero, n) dg := ⟨fun _ => rfl, fun h => absurd h hn⟩

theorem begun_range {t : Thr} {p : Int} {qs : List Int} (h : begunE t qs = 0) (hp : p ∈ qs) : ∃ k : Nat, p = k ∧ k < t.procs.length := by
  have := (begunE_ok h).2 p hp
  rw [inRange, bd_iff] at this
  obtain ⟨k, rfl⟩ := Int.eq_ofNat_of_zero_le this.1
  exact ⟨k, rfl, by omega⟩
theorem busy_range {t : Thr} {p : Int} {more : List Int} (h : busyE t p more = 0) : ∃ k : Nat, p = k ∧ k < t.procs.length ∧ t.procs[k]? = some (t.proc p) := by
  obtain ⟨k, rfl, hk⟩ := begun_range (busyE_ok h).1 (List.mem_cons_self ..)
  exact ⟨k, rfl, hk, Thr.proc_get hk⟩
theorem goals_setP {t : Thr} {k : Nat} {x y : Int × Int} (h : t.procs[k]? = some x) : (t.setP k y).goals = t.goals - x.1 + y.1 := by
  unfold Thr.goals Thr.setP
  simp only
  rw [sum_set _ _ _ _ _ h]; omega
theorem goals_post (t : Thr) (l : Int × Int × Int) : (t.post l).goals = t.goals + gl l := by
  unfold Thr.goals Thr.post
  simp only [List.map_append, List.sum_append, List.map_cons, List.map_nil, List.sum_cons, List.sum_nil]; omega
theorem sum_erase {T : Type} (f : T → Int) : ∀ (xs : List T) (k : Nat) (x : T), xs[k]? = some x → ((xs.eraseIdx k).map f).sum = (xs.map f).sum - f x
  | [], k, x, h => by simp at h
  | z :: zs, 0, x, h => by
    simp at h; subst h
    simp only [List.eraseIdx_cons_zero, List.map_cons, List.sum_cons]; omega
  | z :: zs, k + 1, x, h => by
    simp at h
    have := sum_erase f zs k x h
    simp only [List.eraseIdx_cons_succ, List.map_cons, List.sum_cons, this]; omega
theorem gl1 (a b : Int) : gl (1, a, b) = 1 := rfl
theorem gl2 (a b : Int) : gl (2, a, b) = 0 := rfl
theorem gl3 (a b : Int) : gl (3, a, b) = 0 := rfl
theorem gl4 (a b : Int) : gl (4, a, b) = 0 := rfl
theorem setP_len (t : Thr) (k : Nat) (x : Int × Int) : (t.setP k x).procs.length = t.procs.length := by simp [Thr.setP]

theorem start_step (t : Thr) (p : Int) : ResOk t (startM t p) 1 := by
  unfold startM
  split
  · refine ResOk.fin rfl rfl ?_
    rw [Thr.issue, goals_post, gl1]; rfl
  · exact ResOk.err (by assumption)
theorem spawn_step (t : Thr) (p : Int) : ResOk t (spawnM t p) 1 := by
  unfold spawnM
  split
  · rename_i h
    obtain ⟨k, rfl, hk, hx⟩ := busy_range h
    refine ResOk.fin rfl (setP_len _ _ _) ?_
    rw [Int.toNat_natCast, goals_setP hx]; simp only; omega
  · exact ResOk.err (by assumption)
theorem finish_step (t : Thr) (p : Int) : ResOk t (finishM t p) (-1) := by
  unfold finishM
  split
  · rename_i h
    obtain ⟨k, rfl, hk, hx⟩ := busy_range h
    split
    · rename_i h1
      refine ResOk.fin rfl (setP_len _ _ _) ?_
      rw [Int.toNat_natCast, goals_post, goals_setP hx, gl2, h1]; simp only; omega
    · refine ResOk.fin rfl (setP_len _ _ _) ?_
      rw [Int.toNat_natCast, goals_setP hx]; simp only; omega
  · exact ResOk.err (by assumption)
theorem request_step (t : Thr) (p : Int) : ResOk t (requestM t p) 0 := by
  unfold requestM
  split
  · refine ResOk.fin rfl rfl ?_
    rw [goals_post, gl3]
  · exact ResOk.err (by assumption)
/-- What Move does: besides, Out stays and there is one letter more. -/
theorem move_step (t : Thr) (p q : Int) : ResOk t (moveM t p q) 0 ∧ ((moveM t p q).2 = 0 → (moveM t p q).1.out = t.out ∧ (moveM t p q).1.mail.length = t.mail.length + 1) := by
  unfold moveM
  split
  · rename_i h
    obtain ⟨k, rfl, hk, hx⟩ := busy_range h
    split
    · exact ⟨ResOk.err (by omega), fun h => by simp at h⟩
    · refine ⟨ResOk.fin rfl (setP_len _ _ _) ?_, fun h => ?_⟩
      · rw [Int.toNat_natCast, goals_post, goals_setP hx, gl1]; simp only; omega
      · have := fin_zero h
        by_cases h2 : ((t.setP (k : Int).toNat ((t.proc k).1 - 1, (t.proc k).2 - half (t.proc k))).post (1, q, half (t.proc k))).ok = true
        · rw [Thr.fin_ok h2]; exact ⟨rfl, by simp [Thr.post, Thr.setP]⟩
        · rw [Thr.fin_bad h2] at h; simp at h
  · exact ⟨ResOk.err (by assumption), fun h => by contradiction⟩
theorem take_step (t : Thr) (l : Int × Int × Int) (hp : l.1 = 1 ∨ l.1 = 4 → ∃ k : Nat, l.2.1 = k ∧ k < t.procs.length) :
    (t.take l).grain = t.grain ∧ (t.take l).procs.length = t.procs.length ∧ (t.take l).goals = t.goals + gl l := by
  obtain ⟨kd, tt, n⟩ := l
  simp only at hp ⊢
  unfold Thr.take
  simp only
  by_cases h1 : kd = 1
  · subst h1
    obtain ⟨k, rfl, hk⟩ := hp (.inl rfl)
    rw [if_pos rfl]
    refine ⟨rfl, setP_len _ _ _, ?_⟩
    rw [Int.toNat_natCast, goals_setP (Thr.proc_get hk), gl1]; simp only; omega
  · rw [if_neg h1]
    by_cases h2 : kd = 2
    · subst h2
      rw [if_pos rfl, gl2]
      exact ⟨rfl, rfl, by rw [Int.add_zero]; rfl⟩
    · rw [if_neg h2]
      by_cases h3 : kd = 3
      · subst h3
        rw [if_pos rfl, gl3]
        split
        · refine ⟨rfl, rfl, ?_⟩
          rw [Thr.issue, goals_post, gl4]; rfl
        · exact ⟨rfl, rfl, by omega⟩
      · rw [if_neg h3]
        by_cases h4 : kd = 4
        · subst h4
          obtain ⟨k, rfl, hk⟩ := hp (.inr rfl)
          rw [if_pos rfl, gl4]
          split
          · exact ⟨rfl, rfl, by rw [goals_post, gl2]⟩
          · refine ⟨rfl, setP_len _ _ _, ?_⟩
            rw [Int.toNat_natCast, goals_setP (Thr.proc_get hk)]; simp only; omega
        · rw [if_neg h4]
          exact ⟨rfl, rfl, by rw [gl, if_neg h1]; omega⟩
theorem deliver_step (t : Thr) (a : Int) : ResOk t (deliverM t a) 0 := by
  unfold deliverM
  split
  · rename_i h
    split
    · rename_i hb
      rw [bd_iff] at hb
      obtain ⟨k, rfl⟩ := Int.eq_ofNat_of_zero_le hb.1
      have hk : k < t.mail.length := by omega
      obtain ⟨l, hl⟩ : ∃ l, t.mail[k]? = some l := ⟨_, List.getElem?_eq_getElem hk⟩
      have hgd := Thr.good_iff.1 (begunE_ok h).1
      have hle := (letter_iff _ _).1 (hgd.le l (List.mem_of_getElem? hl))
      have hgl : t.mail.getD (k : Int).toNat (0, 0, 0) = l := by rw [Int.toNat_natCast, List.getD_eq_getElem?_getD, hl]; rfl
      rw [hgl]
      obtain ⟨h1, h2, h3⟩ := take_step { t with mail := t.mail.eraseIdx (k : Int).toNat } l (fun hk => by
        have : 0 ≤ l.2.1 ∧ l.2.1 < t.procs.length := by omega
        obtain ⟨m, hm⟩ := Int.eq_ofNat_of_zero_le this.1
        exact ⟨m, hm, by simp only; omega⟩)
      refine ResOk.fin h1 h2 ?_
      rw [h3, Int.toNat_natCast]
      unfold Thr.goals
      simp only
      rw [sum_erase gl _ _ _ hl]; omega
    · exact ResOk.err (by omega)
  · exact ResOk.err (by assumption)
structure BalOk (t : Thr) (r : Thr × Int × Int) (k : Nat) : Prop where
  bad : r.2.2 ≠ 0 → r.1 = Thr.zero
  good : r.2.2 = 0 → StepOk t r.1 0
  out : r.2.2 = 0 → r.1.out = t.out
  num : r.2.2 = 0 → (r.1.mail.length : Int) = t.mail.length + r.2.1 - k
theorem balGo_step : ∀ (ms : List (Int × Int)) (k : Nat) (t : Thr), t.ok = true → BalOk t (balGo ms k t) k
  | [], k, t, h => ⟨fun h => absurd rfl h, fun _ => ⟨h, rfl, rfl, by simp only [balGo]; omega⟩, fun _ => rfl, fun _ => by simp only [balGo]; omega⟩
  | m :: ms, k, t, h => by
    rw [balGo]
    obtain ⟨hm, hm2⟩ := move_step t m.1 m.2
    split
    · rename_i h0
      have s := hm.2 h0
      obtain ⟨s1, s2⟩ := hm2 h0
      have ih := balGo_step ms (k + 1) (moveM t m.1 m.2).1 s.ok
      refine ⟨ih.bad, fun h => ?_, fun h => (ih.out h).trans s1, fun h => ?_⟩
      · have g := ih.good h
        exact ⟨g.ok, g.gr.trans s.gr, g.pl.trans s.pl, by rw [g.gs, s.gs]; omega⟩
      · have := ih.num h; rw [s2] at this; omega
    · split
      · exact ⟨fun h => absurd rfl h, fun _ => ⟨h, rfl, rfl, by simp only; omega⟩, fun _ => rfl, fun _ => by simp only; omega⟩
      · rename_i h1 h2
        exact ⟨fun _ => rfl, fun h => absurd h h1, fun h => absurd h h1, fun h => absurd h h1⟩
theorem balance_step (t : Thr) : BalOk t (balanceM t) 0 := by
  unfold balanceM
  split
  · rename_i h
    split
    · exact balGo_step _ 0 t (begunE_ok h).1
    · exact ⟨fun _ => rfl, fun h => by simp at h, fun h => by simp at h, fun h => by simp at h⟩
  · rename_i h
    exact ⟨fun _ => rfl, fun h1 => absurd h1 h, fun h1 => absurd h1 h, fun h1 => absurd h1 h⟩
def dgOf (k : Int) : Int := if k = 0 ∨ k = 1 then 1 else if k = 2 then -1 else 0
theorem do_step (k a b : Int) (t : Thr) : ResOk t (doM k a b t) (dgOf k) := by
  unfold doM dgOf
  by_cases h0 : k = 0
  · rw [if_pos h0, if_pos (.inl h0)]; exact start_step t a
  by_cases h1 : k = 1
  · rw [if_neg h0, if_pos h1, if_pos (.inr h1)]; exact spawn_step t a
  rw [if_neg h0, if_neg h1, if_neg (show ¬ (k = 0 ∨ k = 1) by omega)]
  by_cases h2 : k = 2
  · rw [if_pos h2, if_pos h2]; exact finish_step t a
  rw [if_neg h2, if_neg h2]
  by_cases h3 : k = 3
  · rw [if_pos h3]; exact (move_step t a b).1
  rw [if_neg h3]
  by_cases h4 : k = 4
  · rw [if_pos h4]; exact deliver_step t a
  rw [if_neg h4]
  by_cases h5 : k = 5
  · rw [if_pos h5]; exact request_step t a
  rw [if_neg h5]
  exact ⟨(balance_step t).bad, (balance_step t).good⟩
end Go.Proofs.Ythdlmnkefheliaa
