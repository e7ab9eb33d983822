import Derived.Test.YthdlmnkefheliaaD24
set_option linter.unusedVariables false
set_option linter.unusedSimpArgs false
namespace Go.Proofs.Ythdlmnkefheliaa
open Go.RowKit
theorem sum_set {T : Type} (f : T → Int) : ∀ (xs : List T) (k : Nat) (x y : T), xs[k]? = some x → ((xs.set k y).map f).sum = (xs.map f).sum - f x + f y
  | [], k, x, y, h => by simp at h
  | z :: zs, 0, x, y, h => by
    simp at h; subst h
    simp only [List.set_cons_zero, List.map_cons, List.sum_cons]; omega
  | z :: zs, k + 1, x, y, h => by
    simp at h
    have := sum_set f zs k x y h
    simp only [List.set_cons_succ, List.map_cons, List.sum_cons, this]; omega
theorem sum_mem_le {T : Type} (f : T → Int) : ∀ (xs : List T), (∀ x ∈ xs, 0 ≤ f x) → ∀ x ∈ xs, f x ≤ (xs.map f).sum
  | [], _, x, hx => by simp at hx
  | z :: zs, h, x, hx => by
    have h0 : 0 ≤ f z := h z (List.mem_cons_self ..)
    have hn : 0 ≤ (zs.map f).sum := by
      clear hx
      induction zs with
      | nil => simp
      | cons a l ih =>
        simp only [List.map_cons, List.sum_cons]
        have := h a (by simp)
        have := ih (fun y hy => h y (by simp at hy ⊢; rcases hy with h | h <;> simp [h]))
        omega
    simp only [List.map_cons, List.sum_cons]
    rcases List.mem_cons.1 hx with rfl | hx
    · omega
    · have := sum_mem_le f zs (fun y hy => h y (List.mem_cons_of_mem _ hy)) x hx
      omega
theorem sum_nonneg {T : Type} (f : T → Int) : ∀ (xs : List T), (∀ x ∈ xs, 0 ≤ f x) → 0 ≤ (xs.map f).sum
  | [], _ => by simp
  | z :: zs, h => by
    have h0 : 0 ≤ f z := h z (List.mem_cons_self ..)
    have := sum_nonneg f zs (fun y hy => h y (List.mem_cons_of_mem _ hy))
    simp only [List.map_cons, List.sum_cons]; omega
theorem Thr.Good.pw {t : Thr} (h : t.Good) : ∀ x ∈ t.procs, 0 ≤ x.2 := fun x hx => ((holder_iff _).1 (h.pr x hx)).2.1.1
theorem Thr.Good.lw {t : Thr} (h : t.Good) : ∀ x ∈ t.mail, 0 ≤ x.2.2 := fun x hx => by
  have := (letter_iff _ _).1 (h.le x hx); omega
theorem Thr.proc_get {t : Thr} {p : Nat} (hp : p < t.procs.length) : t.procs[p]? = some (t.proc p) := by
  rw [Thr.proc, Int.toNat_natCast, List.getD_eq_getElem?_getD, List.getElem?_eq_getElem hp]; rfl
theorem begun0 {t : Thr} (hok : t.ok = true) (qs : List Int) (h : ∀ q ∈ qs, 0 ≤ q ∧ q < t.procs.length) : begunE t qs = 0 := by
  rw [begunE, if_pos hok, if_pos]
  rw [List.all_eq_true]
  intro q hq
  rw [inRange, bd_iff]
  have := h q hq
  omega
theorem busy0 {t : Thr} {p : Nat} (hok : t.ok = true) (more : List Int) (hp : p < t.procs.length) (hg : (t.proc p).1 ≠ 0) (h : ∀ q ∈ more, 0 ≤ q ∧ q < t.procs.length) : busyE t p more = 0 := by
  rw [busyE, if_pos (begun0 hok _ (by
    intro q hq
    rcases List.mem_cons.1 hq with rfl | hq
    · omega
    · exact h q hq)), if_neg]
  exact hg
theorem deliver_last {t : Thr} {l : Int × Int × Int} {ms : List (Int × Int × Int)} (hok : t.ok = true) (hm : t.mail = ms ++ [l]) : deliverM t ms.length = (Thr.take { t with mail := ms } l).fin := by
  have hb : begunE t [] = 0 := begun0 hok [] (by simp)
  rw [deliverM, if_pos hb, if_pos]
  · rw [hm, Int.toNat_natCast, List.getD_eq_getElem?_getD, List.getElem?_append_right (Nat.le_refl _)]
    simp only [Nat.sub_self, List.getElem?_cons_zero, Option.getD_some]
    congr 3
    rw [List.eraseIdx_append_of_length_le (Nat.le_refl _)]
    simp
  · rw [bd_iff, hm, List.length_append, List.length_cons, List.length_nil]; omega
def supT (t : Thr) (p : Nat) : Thr := Thr.setP { t with out := t.out + t.grain } p ((t.proc p).1, (t.proc p).2 + t.grain)
theorem supplies_req {t : Thr} {p : Nat} (hok : t.ok = true) (hp : p < t.procs.length) (hg : (t.proc p).1 ≠ 0) :
    requestM t p = (Thr.zero, 2) ∨ (requestM t p = (t.post (3, p, 0), 0) ∧ (t.post (3, p, 0)).ok = true) := by
  rw [requestM, if_pos (busy0 hok [] hp hg (by simp))]
  by_cases h : (t.post (3, p, 0)).ok = true
  · exact .inr ⟨Thr.fin_ok h, h⟩
  · exact .inl (Thr.fin_bad h)
theorem supplies_del {t : Thr} {p : Nat} (hok : t.ok = true) (hp : p < t.procs.length) (hg : (t.proc p).1 ≠ 0) (hu : (t.post (3, p, 0)).ok = true) :
    deliverM (t.post (3, p, 0)) t.mail.length = (Thr.zero, 2) ∨ (deliverM (t.post (3, p, 0)) t.mail.length = (t.issue 4 p, 0) ∧ (t.issue 4 p).ok = true) := by
  have hgd := Thr.good_iff.1 hok
  rw [deliver_last (ms := t.mail) (l := (3, p, 0)) hu rfl]
  have hout : 0 < t.out := by
    have hx := (holder_iff _).1 (hgd.pr _ (List.mem_of_getElem? (Thr.proc_get hp)))
    have h1 := sum_mem_le (fun x : Int × Int => x.2) t.procs hgd.pw _ (List.mem_of_getElem? (Thr.proc_get hp))
    have h2 := sum_nonneg (fun x : Int × Int × Int => x.2.2) t.mail hgd.lw
    have h3 := hgd.sum
    rw [Thr.wsum, wsumL] at h3
    have : (t.proc p).2 ≠ 0 := fun h => hg (hx.2.2.2 h)
    omega
  have ht : Thr.take { t.post (3, p, 0) with mail := t.mail } (3, p, 0) = t.issue 4 p := by
    rw [Thr.take]
    simp only
    rw [if_neg (by decide), if_neg (by decide), if_pos trivial, if_pos (show 0 < (t.post (3, p, 0)).out from hout)]
    rfl
  rw [ht]
  by_cases h : (t.issue 4 p).ok = true
  · exact .inr ⟨Thr.fin_ok h, h⟩
  · exact .inl (Thr.fin_bad h)
theorem supT_ok {t : Thr} {p : Nat} (hok : t.ok = true) (hp : p < t.procs.length) (hg : (t.proc p).1 ≠ 0) (hu : (t.issue 4 p).ok = true) : (supT t p).ok = true := by
  have h := Thr.good_iff.1 hok
  have hu := Thr.good_iff.1 hu
  have hget := Thr.proc_get hp
  have hx := (holder_iff _).1 (h.pr _ (List.mem_of_getElem? hget))
  have hsum := sum_set (fun x : Int × Int => x.2) t.procs p _ ((t.proc p).1, (t.proc p).2 + t.grain) hget
  have hs := h.sum
  have h1 := sum_mem_le (fun x : Int × Int => x.2) t.procs h.pw _ (List.mem_of_getElem? hget)
  have h2 := sum_nonneg (fun x : Int × Int × Int => x.2.2) t.mail h.lw
  have ho := hu.ou1
  have hgr := h.gr0
  simp only [Thr.issue, Thr.post] at ho
  rw [Thr.wsum, wsumL] at hs
  simp only at h1 hsum
  refine Thr.good_iff.2 ⟨h.gr0, h.gr1, ?_, ?_, h.ml, ?_, ho, ?_, ?_, ?_, ?_⟩
  · simp only [supT, Thr.setP, List.length_set]; exact h.pl0
  · simp only [supT, Thr.setP, List.length_set]; exact h.pl1
  · have := h.ou0
    simp only [supT, Thr.setP]; omega
  · intro x hx'
    simp only [supT, Thr.setP] at hx'
    rcases List.mem_or_eq_of_mem_set hx' with hx' | rfl
    · exact h.pr x hx'
    · rw [holder_iff]
      simp only
      refine ⟨hx.1, by omega, ?_⟩
      constructor
      · intro h0; exact absurd h0 hg
      · intro h0
        have := hx.2.1.1
        omega
  · intro x hx'
    have := h.le x hx'
    simpa only [supT, Thr.setP, List.length_set] using this
  · simp only [supT, Thr.setP, Thr.wsum, wsumL]
    rw [hsum]
    omega
  · intro he
    simp only [supT, Thr.setP] at he ⊢
    have := hu.en he
    exact this
theorem supplies_del2 {t : Thr} {p : Nat} (hok : t.ok = true) (hp : p < t.procs.length) (hg : (t.proc p).1 ≠ 0) (hu : (t.issue 4 p).ok = true) :
    deliverM (t.issue 4 p) t.mail.length = (supT t p, 0) := by
  rw [deliver_last (ms := t.mail) (l := (4, p, t.grain)) hu rfl]
  have ht : Thr.take { t.issue 4 p with mail := t.mail } (4, p, t.grain) = supT t p := by
    rw [Thr.take]
    simp only
    rw [if_neg (by decide), if_neg (by decide), if_neg (by decide), if_pos trivial, if_neg]
    · rfl
    · exact hg
  rw [ht, Thr.fin_ok (supT_ok hok hp hg hu)]
theorem supT_proc {t : Thr} {p : Nat} (hp : p < t.procs.length) : (supT t p).proc p = ((t.proc p).1, (t.proc p).2 + t.grain) := by
  rw [supT, Thr.setP, Thr.proc, Int.toNat_natCast]
  simp only
  rw [List.getD_eq_getElem?_getD, List.getElem?_set_self (by simpa using hp)]; rfl
theorem supplies_move {t : Thr} {p : Nat} (hok : t.ok = true) (hml : t.mail.length ≤ 200) (hp : p < t.procs.length) (hg : (t.proc p).1 ≠ 0) (hs : (supT t p).ok = true) :
    (moveM (supT t p) p 0).2 = 0 := by
  have h := Thr.good_iff.1 hs
  have h0 := Thr.good_iff.1 hok
  have hl : (supT t p).procs.length = t.procs.length := by simp [supT, Thr.setP]
  have hpr := supT_proc (t := t) hp
  have hp' : p < (supT t p).procs.length := by rw [hl]; exact hp
  have hget := Thr.proc_get hp'
  have hgr := h0.gr0
  have hx := (holder_iff _).1 (h.pr _ (List.mem_of_getElem? hget))
  have hx0 := (holder_iff _).1 (h0.pr _ (List.mem_of_getElem? (Thr.proc_get hp)))
  have hw3 : 2 ≤ ((supT t p).proc p).2 := by
    rw [hpr]; simp only; omega
  have hg1 : ((supT t p).proc p).1 = (t.proc p).1 := by rw [hpr]
  have hml' : (supT t p).mail.length ≤ 200 := hml
  rw [moveM, if_pos (busy0 hs [0] hp' (by rw [hg1]; exact hg) (by
    intro q hq
    simp only [List.mem_singleton] at hq
    subst hq
    omega))]
  generalize supT t p = s at *
  generalize hq : s.proc p = q at *
  obtain ⟨q1, q2⟩ := q
  simp only at hx hw3 hg1
  have hhf : 1 ≤ half (q1, q2) ∧ half (q1, q2) ≤ q2 ∧ (q1 = 1 → half (q1, q2) = q2) ∧ (q1 ≠ 1 → half (q1, q2) < q2) := by
    rw [half]
    simp only
    split <;> omega
  obtain ⟨hf1, hf2, hf3, hf4⟩ := hhf
  generalize half (q1, q2) = f at *
  rw [if_neg (by omega)]
  rw [Thr.fin_ok]
  have hsum := sum_set (fun x : Int × Int => x.2) s.procs p _ (q1 - 1, q2 - f) hget
  have hs' := h.sum
  rw [Thr.wsum, wsumL] at hs'
  simp only at hsum
  refine Thr.good_iff.2 ⟨h.gr0, h.gr1, ?_, ?_, ?_, h.ou0, h.ou1, ?_, ?_, ?_, h.en⟩
  · simp only [Thr.post, Thr.setP, List.length_set]; exact h.pl0
  · simp only [Thr.post, Thr.setP, List.length_set]; exact h.pl1
  · simp only [Thr.post, Thr.setP, List.length_append, List.length_cons, List.length_nil]; omega
  · intro x hx'
    simp only [Thr.post, Thr.setP, Int.toNat_natCast] at hx'
    rcases List.mem_or_eq_of_mem_set hx' with hx' | rfl
    · exact h.pr x hx'
    · rw [holder_iff]
      simp only
      refine ⟨by omega, by omega, ?_⟩
      by_cases h1 : q1 = 1
      · have := hf3 h1; omega
      · have := hf4 h1; omega
  · intro x hx'
    simp only [Thr.post, Thr.setP, List.length_set] at hx' ⊢
    rcases List.mem_append.1 hx' with hx' | hx'
    · exact h.le x hx'
    · simp only [List.mem_singleton] at hx'
      subst hx'
      rw [letter_iff]
      simp only
      right; right
      have := h.pl0
      refine ⟨.inl trivial, by omega, by omega, by omega⟩
  · simp only [Thr.post, Thr.setP, Thr.wsum, wsumL, Int.toNat_natCast, List.map_append, List.sum_append, List.map_cons, List.map_nil, List.sum_cons, List.sum_nil]
    rw [hsum]
    omega
end Go.Proofs.Ythdlmnkefheliaa
