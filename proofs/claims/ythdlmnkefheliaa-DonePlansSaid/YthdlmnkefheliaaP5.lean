import Derived.Test.YthdlmnkefheliaaP4
set_option linter.unusedVariables false
set_option linter.unusedSimpArgs false
namespace Go.Proofs.Ythdlmnkefheliaa
open Go.RowKit

def lk (l : Int × Int × Int) : Int × Int := (l.1, l.2.1)
/-- Two states that differ by their weights alone. -/
structure SimS (t u : Thr) : Prop where
  pg : t.procs.map Prod.fst = u.procs.map Prod.fst
  ml : t.mail.map lk = u.mail.map lk
  en : t.ended = u.ended
  kd : ∀ l ∈ t.mail, l.1 = 1 ∨ l.1 = 2
structure Sim (t u : Thr) : Prop extends SimS t u where
  tk : t.ok = true
  uk : u.ok = true
def SimR (a b : Thr × Int) : Prop := a.2 = 281 ∨ b.2 = 281 ∨ a.2 = 2 ∨ b.2 = 2 ∨ (a.2 = b.2 ∧ (a.2 = 0 → Sim a.1 b.1))
theorem SimS.fin {t u : Thr} (h : SimS t u) : SimR t.fin u.fin := by
  by_cases h1 : t.ok = true
  · by_cases h2 : u.ok = true
    · rw [Thr.fin_ok h1, Thr.fin_ok h2]
      exact .inr (.inr (.inr (.inr ⟨rfl, fun _ => ⟨h, h1, h2⟩⟩)))
    · rw [Thr.fin_bad h2]; exact .inr (.inr (.inr (.inl rfl)))
  · rw [Thr.fin_bad h1]; exact .inr (.inr (.inl rfl))
theorem SimR.same {n m : Int} (h : n = m) (hn : n ≠ 0) : SimR (Thr.zero, n) (Thr.zero, m) := .inr (.inr (.inr (.inr ⟨h, fun e => absurd e hn⟩)))
theorem SimS.plen {t u : Thr} (h : SimS t u) : t.procs.length = u.procs.length := by
  have := congrArg List.length h.pg
  simpa using this
theorem SimS.mlen {t u : Thr} (h : SimS t u) : t.mail.length = u.mail.length := by
  have := congrArg List.length h.ml
  simpa using this
theorem map_get {T U : Type} {f : T → U} {xs ys : List T} (h : xs.map f = ys.map f) {k : Nat} {x : T} (hx : xs[k]? = some x) : ∃ y, ys[k]? = some y ∧ f x = f y := by
  have h1 := congrArg (fun l => l[k]?) h
  simp only [List.getElem?_map, hx, Option.map_some] at h1
  cases hy : ys[k]? with
  | none => rw [hy] at h1; cases h1
  | some y => rw [hy] at h1; simp only [Option.map_some, Option.some.injEq] at h1; exact ⟨y, rfl, h1⟩
theorem SimS.proc {t u : Thr} (h : SimS t u) (p : Int) : (t.proc p).1 = (u.proc p).1 := by
  unfold Thr.proc
  rw [List.getD_eq_getElem?_getD, List.getD_eq_getElem?_getD]
  cases hx : t.procs[p.toNat]? with
  | none =>
    have : u.procs[p.toNat]? = none := by rw [List.getElem?_eq_none_iff] at hx ⊢; rw [← h.plen]; exact hx
    rw [this]
  | some x =>
    obtain ⟨y, hy, he⟩ := map_get h.pg hx
    rw [hy]; exact he
theorem Sim.begun {t u : Thr} (h : Sim t u) (qs : List Int) : begunE t qs = begunE u qs := by
  unfold begunE; rw [if_pos h.tk, if_pos h.uk, h.plen]
theorem Sim.busy {t u : Thr} (h : Sim t u) (p : Int) (qs : List Int) : busyE t p qs = busyE u p qs := by
  unfold busyE
  rw [h.begun]
  have := h.proc p
  unfold Thr.proc at this
  rw [this]
theorem map_set_eq {T U : Type} {f : T → U} {xs ys : List T} (h : xs.map f = ys.map f) (k : Nat) {x y : T} (he : f x = f y) : (xs.set k x).map f = (ys.set k y).map f := by
  rw [List.map_set, List.map_set, h, he]
theorem SimS.setP {t u : Thr} (h : SimS t u) (k : Nat) {x y : Int × Int} (he : x.1 = y.1) : SimS (t.setP k x) (u.setP k y) :=
  ⟨map_set_eq h.pg k he, h.ml, h.en, h.kd⟩
theorem SimS.post {t u : Thr} (h : SimS t u) {l m : Int × Int × Int} (he : lk l = lk m) (hk : l.1 = 1 ∨ l.1 = 2) : SimS (t.post l) (u.post m) :=
  ⟨h.pg, by simp only [Thr.post, List.map_append, List.map_cons, List.map_nil]; rw [h.ml, he], h.en, fun x hx => by
    simp only [Thr.post] at hx
    rcases List.mem_append.1 hx with hx | hx
    · exact h.kd x hx
    · simp only [List.mem_cons, List.not_mem_nil, or_false] at hx
      subst hx; exact hk⟩
theorem weight0 (np : Int) : ∀ (ms : List (Int × Int × Int)), (∀ l ∈ ms, letterOk np l = true) → (∀ l ∈ ms, l.1 = 1 ∨ l.1 = 2) → 0 ≤ (ms.map fun x => x.2.2).sum ∧ ((ms.map fun x => x.2.2).sum = 0 ↔ ms = [])
  | [], _, _ => by simp
  | l :: ms, h, hk => by
    have ih := weight0 np ms (fun x hx => h x (List.mem_cons_of_mem _ hx)) (fun x hx => hk x (List.mem_cons_of_mem _ hx))
    have hl := (letter_iff _ _).1 (h l (List.mem_cons_self ..))
    have h1 := hk l (List.mem_cons_self ..)
    simp only [List.map_cons, List.sum_cons]
    refine ⟨by omega, ⟨fun e => by omega, fun e => by cases e⟩⟩
theorem holders0 : ∀ (ps : List (Int × Int)), (∀ x ∈ ps, holderOk x = true) → 0 ≤ (ps.map fun x => x.2).sum ∧ ((ps.map fun x => x.2).sum = 0 ↔ ∀ g ∈ ps.map Prod.fst, g = 0)
  | [], _ => by simp
  | x :: ps, h => by
    have ih := holders0 ps (fun y hy => h y (List.mem_cons_of_mem _ hy))
    have hx := (holder_iff x).1 (h x (List.mem_cons_self ..))
    simp only [List.map_cons, List.sum_cons]
    refine ⟨by omega, ⟨fun e g hg => ?_, fun e => ?_⟩⟩
    · rcases List.mem_cons.1 hg with rfl | hg
      · exact hx.2.2.2 (by omega)
      · exact ih.2.1 (by omega) g hg
    · have h1 := hx.2.2.1 (e _ (List.mem_cons_self ..))
      have h2 := ih.2.2 (fun g hg => e g (List.mem_cons_of_mem _ hg))
      omega
theorem erase_map' {T U : Type} (f : T → U) : ∀ (xs : List T) (k : Nat), (xs.map f).eraseIdx k = (xs.eraseIdx k).map f
  | [], k => by simp
  | x :: xs, 0 => by simp
  | x :: xs, k + 1 => by simp [erase_map' f xs k]
theorem map_erase_eq {T U : Type} {f : T → U} {xs ys : List T} (h : xs.map f = ys.map f) (k : Nat) : (xs.eraseIdx k).map f = (ys.eraseIdx k).map f := by
  rw [← erase_map', ← erase_map', h]
theorem sim_out {t u : Thr} (h : Sim t u) {k : Nat} {l m : Int × Int × Int} (hl : t.mail[k]? = some l) (hm : u.mail[k]? = some m) : (t.out - l.2.2 = 0 ↔ u.out - m.2.2 = 0) := by
  have key : ∀ (t : Thr) (l : Int × Int × Int), t.ok = true → (∀ l ∈ t.mail, l.1 = 1 ∨ l.1 = 2) → t.mail[k]? = some l → (t.out - l.2.2 = 0 ↔ (∀ g ∈ t.procs.map Prod.fst, g = 0) ∧ (t.mail.map lk).eraseIdx k = []) := by
    intro t l hok hkd hl
    have g := Thr.good_iff.1 hok
    have hs := g.sum
    unfold Thr.wsum wsumL at hs
    have he := sum_erase (fun x => x.2.2) _ _ _ hl
    have hw := weight0 _ (t.mail.eraseIdx k) (fun x hx => g.le x (mem_erase hx)) (fun x hx => hkd x (mem_erase hx))
    have hh := holders0 t.procs g.pr
    have hnil : (t.mail.map lk).eraseIdx k = [] ↔ t.mail.eraseIdx k = [] := by rw [erase_map', List.map_eq_nil_iff]
    rw [hnil]
    constructor
    · intro e
      exact ⟨hh.2.1 (by omega), hw.2.1 (by omega)⟩
    · rintro ⟨e1, e2⟩
      have := hh.2.2 e1
      have := hw.2.2 e2
      omega
  have hkd2 : ∀ l ∈ u.mail, l.1 = 1 ∨ l.1 = 2 := by
    intro x hx
    obtain ⟨j, hj⟩ := List.getElem?_of_mem hx
    obtain ⟨y, hy, he⟩ := map_get h.ml.symm hj
    have := h.kd y (List.mem_of_getElem? hy)
    have h1 : (lk x).1 = (lk y).1 := by rw [he]
    simp only [lk] at h1
    rw [h1]; exact this
  rw [key t l h.tk h.kd hl, key u m h.uk hkd2 hm, h.pg, h.ml]
theorem sim_do {t u : Thr} (h : Sim t u) {k : Int} (h0 : 0 ≤ k) (h4 : k ≤ 4) (a b : Int) : SimR (doM k a b t) (doM k a b u) := by
  unfold doM
  by_cases k0 : k = 0
  · rw [if_pos k0, if_pos k0]
    unfold startM
    rw [h.begun]
    split
    · refine SimS.fin ?_
      unfold Thr.issue
      have : SimS { t with ended := false } { u with ended := false } := ⟨h.pg, h.ml, rfl, h.kd⟩
      exact SimS.post (t := { { t with ended := false } with out := t.out + t.grain }) (u := { { u with ended := false } with out := u.out + u.grain }) (l := (1, a, t.grain)) (m := (1, a, u.grain)) ⟨h.pg, h.ml, rfl, h.kd⟩ rfl (.inl rfl)
    · exact SimR.same rfl (by assumption)
  rw [if_neg k0, if_neg k0]
  by_cases k1 : k = 1
  · rw [if_pos k1, if_pos k1]
    unfold spawnM
    rw [h.busy]
    split
    · exact SimS.fin (h.toSimS.setP _ (by simp only; rw [h.proc]))
    · exact SimR.same rfl (by assumption)
  rw [if_neg k1, if_neg k1]
  by_cases k2 : k = 2
  · rw [if_pos k2, if_pos k2]
    unfold finishM
    rw [h.busy, h.proc]
    split
    · split
      · exact SimS.fin ((h.toSimS.setP _ rfl).post rfl (.inr rfl))
      · exact SimS.fin (h.toSimS.setP _ rfl)
    · exact SimR.same rfl (by assumption)
  rw [if_neg k2, if_neg k2]
  by_cases k3 : k = 3
  · rw [if_pos k3, if_pos k3]
    unfold moveM
    rw [h.busy]
    split
    · split
      · exact .inl rfl
      · split
        · exact .inr (.inl rfl)
        · exact SimS.fin ((h.toSimS.setP _ (by simp only; rw [h.proc])).post rfl (.inl rfl))
    · exact SimR.same rfl (by assumption)
  rw [if_neg k3, if_neg k3]
  have k4 : k = 4 := by omega
  rw [if_pos k4, if_pos k4]
  by_cases hr : 0 ≤ a ∧ a < t.mail.length
  · obtain ⟨j, l, rfl, hl, he⟩ := deliver_open h.tk hr.1 hr.2
    obtain ⟨j', m, hj, hm, he'⟩ := deliver_open (a := (j : Int)) h.uk hr.1 (by rw [← h.mlen]; exact hr.2)
    have hjj : j = j' := by omega
    subst hjj
    rw [he, he']
    refine SimS.fin ?_
    obtain ⟨m', hm', hlk⟩ := map_get h.ml hl
    rw [hm] at hm'
    injection hm' with hm'
    subst hm'
    have hout := sim_out h hl hm
    have hkd := h.kd l (List.mem_of_getElem? hl)
    obtain ⟨kd, tt, n⟩ := l
    obtain ⟨kd', tt', n'⟩ := m
    simp only [lk, Prod.mk.injEq] at hlk
    obtain ⟨rfl, rfl⟩ := hlk
    simp only at hout hkd
    have hbase : SimS { t with mail := t.mail.eraseIdx j } { u with mail := u.mail.eraseIdx j } := ⟨h.pg, map_erase_eq h.ml j, h.en, fun x hx => h.kd x (mem_erase hx)⟩
    unfold Thr.take
    simp only
    by_cases c1 : kd = 1
    · rw [if_pos c1, if_pos c1]
      exact hbase.setP _ (by simp only; rw [hbase.proc])
    · rw [if_neg c1, if_neg c1]
      have c2 : kd = 2 := by omega
      rw [if_pos c2, if_pos c2]
      refine ⟨hbase.pg, hbase.ml, ?_, hbase.kd⟩
      simp only
      rw [Bool.eq_iff_iff]; simp only [beq_iff_eq]; exact hout
  · have hb : ∀ t : Thr, t.ok = true → ¬ (0 ≤ a ∧ a < t.mail.length) → deliverM t a = (Thr.zero, 1) := by
      intro t hok hn
      rw [deliverM, if_pos (begun0 hok [] (by simp)), if_neg (by rw [bd_iff]; omega)]
    rw [hb t h.tk hr, hb u h.uk (by rw [← h.mlen]; exact hr)]
    exact SimR.same rfl (by omega)
/-- New makes like states. -/
theorem sim_new {n g1 g2 : Int} (h1 : (newM n g1).2 = 0) (h2 : (newM n g2).2 = 0) : Sim (newM n g1).1 (newM n g2).1 := by
  unfold newM at *
  split at h1
  · rename_i c1
    rw [if_pos c1]
    split at h2
    · rename_i c2
      rw [if_pos c2]
      have o1 := c1
      have o2 := c2
      rw [Bool.and_eq_true, bd_iff] at o1 o2
      have hk : ((n.toNat : Nat) : Int) = n := Int.toNat_of_nonneg (by omega)
      refine ⟨⟨rfl, rfl, rfl, fun l hl => by simp [newT] at hl⟩, ?_, ?_⟩
      · rw [newT, new_ok, hk]; exact c1
      · rw [newT, new_ok, hk]; exact c2
    · simp at h2
  · simp at h1
end Go.Proofs.Ythdlmnkefheliaa
