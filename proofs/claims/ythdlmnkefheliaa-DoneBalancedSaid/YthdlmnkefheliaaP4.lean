import Derived.Test.YthdlmnkefheliaaP3
set_option linter.unusedVariables false
set_option linter.unusedSimpArgs false
namespace Go.Proofs.Ythdlmnkefheliaa
open Go.RowKit

/-- How many deliveries a letter can cost. -/
def mul (l : Int × Int × Int) : Nat := if l.1 = 3 then 3 else if l.1 = 4 then 2 else 1
def mus (ms : List (Int × Int × Int)) : Nat := (ms.map mul).sum
def Thr.mu (t : Thr) : Nat := mus t.mail
theorem mul_bd (l : Int × Int × Int) : 1 ≤ mul l ∧ mul l ≤ 3 := by unfold mul; split <;> (try split) <;> omega
theorem mus_le : ∀ ms : List (Int × Int × Int), ms.length ≤ mus ms ∧ mus ms ≤ 3 * ms.length
  | [] => by simp [mus]
  | l :: ms => by
    have := mus_le ms
    have h := mul_bd l
    simp only [mus, List.map_cons, List.sum_cons, List.length_cons] at *
    omega
theorem mus_erase : ∀ (ms : List (Int × Int × Int)) (k : Nat) (l : Int × Int × Int), ms[k]? = some l → mus (ms.eraseIdx k) + mul l = mus ms
  | [], k, x, h => by simp at h
  | z :: zs, 0, x, h => by
    simp at h; subst h
    simp only [mus, List.eraseIdx_cons_zero, List.map_cons, List.sum_cons]; omega
  | z :: zs, k + 1, x, h => by
    simp at h
    have := mus_erase zs k x h
    simp only [mus, List.eraseIdx_cons_succ, List.map_cons, List.sum_cons] at *; omega
theorem mus_snoc (ms : List (Int × Int × Int)) (l : Int × Int × Int) : mus (ms ++ [l]) = mus ms + mul l := by
  simp [mus]

/-- Which letter a choice names. -/
def idxM (choices : List Int) (k n : Nat) : Int := match choices[k]? with
  | some c => c % (n : Int)
  | none => 0
def settleGo (choices : List Int) : Nat → Nat → Thr → Thr × Int × Int
  | 0, k, t => (t, (k : Int), 0)
  | f + 1, k, t => if t.mail = [] then (t, (k : Int), 0) else
      if (deliverM t (idxM choices k t.mail.length)).2 = 0 then settleGo choices f (k + 1) (deliverM t (idxM choices k t.mail.length)).1
      else (Thr.zero, 0, (deliverM t (idxM choices k t.mail.length)).2)
def settleM (t : Thr) (choices : List Int) : Thr × Int × Int := if t.ok = true then settleGo choices t.mu 0 t else (Thr.zero, 0, 280)
def quietB (t : Thr) : Bool := !(t.procs.any fun x => decide (0 < x.1)) && !(t.mail.any fun l => l.1 == 1)
def quietM (t : Thr) : Bool × Int := if t.ok = true then (quietB t, 0) else (false, 280)

theorem idxM_range (choices : List Int) (k n : Nat) (h : 0 < n) : 0 ≤ idxM choices k n ∧ idxM choices k n < n := by
  unfold idxM
  split
  · exact ⟨Int.emod_nonneg _ (by omega), Int.emod_lt_of_pos _ (by omega)⟩
  · exact ⟨Int.le_refl _, by omega⟩

/-- A delivery, opened. -/
theorem deliver_open {t : Thr} {a : Int} (hok : t.ok = true) (h0 : 0 ≤ a) (h1 : a < t.mail.length) :
    ∃ (k : Nat) (l : Int × Int × Int), a = k ∧ t.mail[k]? = some l ∧ deliverM t a = (Thr.take { t with mail := t.mail.eraseIdx k } l).fin := by
  obtain ⟨k, rfl⟩ := Int.eq_ofNat_of_zero_le h0
  have hk : k < t.mail.length := by omega
  obtain ⟨l, hl⟩ : ∃ l, t.mail[k]? = some l := ⟨_, List.getElem?_eq_getElem hk⟩
  refine ⟨k, l, rfl, hl, ?_⟩
  have hgl : t.mail.getD (k : Int).toNat (0, 0, 0) = l := by rw [Int.toNat_natCast, List.getD_eq_getElem?_getD, hl]; rfl
  rw [deliverM, if_pos (begun0 hok [] (by simp)), if_pos (by rw [bd_iff]; omega), hgl, Int.toNat_natCast]

theorem take_mu (t : Thr) (l : Int × Int × Int) : (t.take l).mu + 1 ≤ t.mu + mul l := by
  have h := mul_bd l
  unfold Thr.take Thr.mu
  split
  · simp only [Thr.setP]; omega
  · split
    · simp only; omega
    · split
      · rename_i h3
        split
        · simp only [Thr.issue, Thr.post, mus_snoc]
          have : mul l = 3 := by rw [mul, if_pos h3]
          rw [this]; exact Nat.le_refl _
        · omega
      · split
        · rename_i h3 h4
          split
          · simp only [Thr.post, mus_snoc]
            have : mul l = 2 := by rw [mul, if_neg h3, if_pos h4]
            rw [this]; exact Nat.le_refl _
          · simp only [Thr.setP]; omega
        · omega
theorem deliver_mu {t : Thr} {a : Int} (hok : t.ok = true) (h0 : 0 ≤ a) (h1 : a < t.mail.length) (h : (deliverM t a).2 = 0) : (deliverM t a).1.mu + 1 ≤ t.mu ∧ (deliverM t a).1.ok = true := by
  obtain ⟨k, l, rfl, hl, he⟩ := deliver_open hok h0 h1
  rw [he] at h ⊢
  have hk := fin_zero h
  by_cases h2 : (Thr.take { t with mail := t.mail.eraseIdx k } l).ok = true
  · rw [Thr.fin_ok h2]
    have := take_mu { t with mail := t.mail.eraseIdx k } l
    have h3 := mus_erase t.mail k l hl
    refine ⟨?_, h2⟩
    simp only [Thr.mu] at *
    omega
  · rw [Thr.fin_bad h2] at h; simp at h

theorem settleGo_num (choices : List Int) : ∀ (f k : Nat) (t : Thr), t.ok = true → (settleGo choices f k t).2.1 ≤ (k + f : Nat)
  | 0, k, t, _ => by rw [settleGo]; simp
  | f + 1, k, t, hok => by
    rw [settleGo]
    split
    · simp only; omega
    · rename_i hm
      have hlen : 0 < t.mail.length := List.length_pos_iff.2 hm
      obtain ⟨h0, h1⟩ := idxM_range choices k t.mail.length hlen
      split
      · rename_i h2
        have := settleGo_num choices f (k + 1) _ (deliver_mu hok h0 h1 h2).2
        omega
      · simp only; omega
theorem settleM_num (t : Thr) (choices : List Int) : (settleM t choices).2.1 ≤ 4 * t.mail.length := by
  unfold settleM
  split
  · rename_i h
    have := settleGo_num choices t.mu 0 t h
    have h2 := (mus_le t.mail).2
    rw [Thr.mu] at *
    omega
  · simp only; omega

/-- How many letters ask for weight. -/
def rq (l : Int × Int × Int) : Nat := if l.1 = 3 then 1 else 0
def Thr.reqs (t : Thr) : Nat := (t.mail.map rq).sum
structure Thr.Still (t : Thr) : Prop where
  ok : t.ok = true
  pg : ∀ x ∈ t.procs, x.1 = 0
  ml : ∀ l ∈ t.mail, l.1 ≠ 1
  wb : t.out + t.reqs * t.grain ≤ 1099511627776
def Thr.endsAt (t : Thr) : Thr := { t with mail := [], out := 0, ended := t.ended || decide (t.out ≠ 0) }
theorem reqs_erase : ∀ (ms : List (Int × Int × Int)) (k : Nat) (l : Int × Int × Int), ms[k]? = some l → ((ms.eraseIdx k).map rq).sum + rq l = (ms.map rq).sum
  | [], k, x, h => by simp at h
  | z :: zs, 0, x, h => by
    simp at h; subst h
    simp only [List.eraseIdx_cons_zero, List.map_cons, List.sum_cons]; omega
  | z :: zs, k + 1, x, h => by
    simp at h
    have := reqs_erase zs k x h
    simp only [List.eraseIdx_cons_succ, List.map_cons, List.sum_cons] at *; omega
theorem mem_erase {T : Type} {xs : List T} {k : Nat} {x : T} (h : x ∈ xs.eraseIdx k) : x ∈ xs := (List.eraseIdx_sublist xs k).subset h

/-- One delivery in a quiet state: it can be made, and leads where the state itself leads. -/
theorem still_step {t : Thr} (h : t.Still) {k : Nat} {l : Int × Int × Int} (hl : t.mail[k]? = some l) :
    (Thr.take { t with mail := t.mail.eraseIdx k } l).Still ∧ (Thr.take { t with mail := t.mail.eraseIdx k } l).endsAt = t.endsAt := by
  have g := Thr.good_iff.1 h.ok
  have hmem := List.mem_of_getElem? hl
  have hle := (letter_iff _ _).1 (g.le l hmem)
  have hk1 := h.ml l hmem
  have hse := sum_erase (fun x => x.2.2) _ _ _ hl
  have hre := reqs_erase _ _ _ hl
  have hlen : (t.mail.eraseIdx k).length = t.mail.length - 1 := List.length_eraseIdx_of_lt (List.getElem?_eq_some_iff.1 hl).1
  have hlp : k < t.mail.length := (List.getElem?_eq_some_iff.1 hl).1
  have hsum := g.sum
  have hrest : 0 ≤ ((t.mail.eraseIdx k).map fun x => x.2.2).sum := sum_nonneg _ _ fun x hx => g.lw x (mem_erase hx)
  have hps : 0 ≤ (t.procs.map fun x => x.2).sum := sum_nonneg _ _ g.pw
  have gr0 := g.gr0
  have gr1 := g.gr1
  have ml := g.ml
  have pl0 := g.pl0
  have ou0 := g.ou0
  have ou1 := g.ou1
  have wb := h.wb
  unfold Thr.wsum wsumL at hsum
  unfold Thr.reqs at wb
  obtain ⟨kd, tt, n⟩ := l
  simp only at hle hk1 hse hre
  unfold Thr.take
  simp only
  rw [if_neg hk1]
  have hmul : ∀ r : Nat, (((r + 1 : Nat) : Int)) * t.grain = r * t.grain + t.grain := fun r => by rw [Int.natCast_succ, Int.add_mul]; omega
  have hmn : ∀ r : Nat, 0 ≤ (r : Int) * t.grain := fun r => Int.mul_nonneg (by omega) (by omega)
  by_cases h2 : kd = 2
  · subst h2
    rw [if_pos rfl]
    have hr0 : rq (2, tt, n) = 0 := rfl
    rw [hr0, Nat.add_zero] at hre
    refine ⟨⟨Thr.good_iff.2 ⟨gr0, gr1, pl0, g.pl1, by simp only; omega, by simp only; omega, by simp only; omega, g.pr, fun x hx => g.le x (mem_erase hx), ?_, fun he => by simpa using he⟩, h.pg, fun x hx => h.ml x (mem_erase hx), ?_⟩, ?_⟩
    · unfold Thr.wsum wsumL; simp only; rw [hse]; omega
    · unfold Thr.reqs; simp only; rw [hre]; omega
    · unfold Thr.endsAt; simp only [Thr.mk.injEq, true_and]
      have hne : t.out ≠ 0 := by omega
      by_cases hz : t.out - n = 0
      · rw [hz]; simp [hne]
      · simp [hz, hne]
  · rw [if_neg h2]
    by_cases h3 : kd = 3
    · subst h3
      rw [if_pos rfl]
      have hr0 : rq (3, tt, n) = 1 := rfl
      rw [hr0] at hre
      have hn0 : n = 0 := by omega
      split
      · rename_i ho
        have hne : t.ended = false := by
          cases he : t.ended with
          | false => rfl
          | true => have := g.en he; omega
        rw [← hre, hmul] at wb
        have := hmn ((t.mail.eraseIdx k).map rq).sum
        refine ⟨⟨Thr.good_iff.2 ⟨gr0, gr1, pl0, g.pl1, ?_, ?_, ?_, g.pr, ?_, ?_, ?_⟩, h.pg, ?_, ?_⟩, ?_⟩
        · simp only [Thr.issue, Thr.post, List.length_append, List.length_cons, List.length_nil]; omega
        · simp only [Thr.issue, Thr.post]; omega
        · simp only [Thr.issue, Thr.post]; omega
        · simp only [Thr.issue, Thr.post]
          intro x hx
          rcases List.mem_append.1 hx with hx | hx
          · exact g.le x (mem_erase hx)
          · simp only [List.mem_cons, List.not_mem_nil, or_false] at hx
            subst hx
            rw [letter_iff]; exact .inr (.inr ⟨.inr rfl, ⟨by simp only; omega, by simp only; omega⟩, by simp only; omega, by simp only; omega⟩)
        · unfold Thr.wsum wsumL
          simp only [Thr.issue, Thr.post, List.map_append, List.sum_append, List.map_cons, List.map_nil, List.sum_cons, List.sum_nil]
          rw [hse]; omega
        · simp only [Thr.issue, Thr.post]; rw [hne]; intro h; cases h
        · simp only [Thr.issue, Thr.post]
          intro x hx
          rcases List.mem_append.1 hx with hx | hx
          · exact h.ml x (mem_erase hx)
          · simp only [List.mem_cons, List.not_mem_nil, or_false] at hx
            subst hx; show (4 : Int) ≠ 1; decide
        · unfold Thr.reqs
          simp only [Thr.issue, Thr.post, List.map_append, List.sum_append, List.map_cons, List.map_nil, List.sum_cons, List.sum_nil]
          have : rq (4, tt, t.grain) = 0 := rfl
          rw [this, Nat.add_zero, Nat.add_zero]; omega
        · unfold Thr.endsAt
          simp only [Thr.issue, Thr.post, Thr.mk.injEq, true_and]
          have h1 : t.out ≠ 0 := by omega
          have h2 : t.out + t.grain ≠ 0 := by omega
          simp [h1, h2]
      · rename_i ho
        rw [← hre, hmul] at wb
        refine ⟨⟨Thr.good_iff.2 ⟨gr0, gr1, pl0, g.pl1, by simp only; omega, ou0, ou1, g.pr, fun x hx => g.le x (mem_erase hx), ?_, g.en⟩, h.pg, fun x hx => h.ml x (mem_erase hx), ?_⟩, rfl⟩
        · unfold Thr.wsum wsumL; simp only; rw [hse]; omega
        · unfold Thr.reqs; simp only; omega
    · rw [if_neg h3]
      have h4 : kd = 4 := by omega
      subst h4
      rw [if_pos rfl]
      have hr0 : rq (4, tt, n) = 0 := rfl
      rw [hr0, Nat.add_zero] at hre
      have hz : (Thr.proc { t with mail := t.mail.eraseIdx k } tt).1 = 0 := by
        obtain ⟨m, rfl⟩ := Int.eq_ofNat_of_zero_le (show 0 ≤ tt by omega)
        have := Thr.proc_get (t := t) (p := m) (by omega)
        exact h.pg _ (List.mem_of_getElem? this)
      rw [if_pos hz]
      refine ⟨⟨Thr.good_iff.2 ⟨gr0, gr1, pl0, g.pl1, ?_, ou0, ou1, g.pr, ?_, ?_, g.en⟩, h.pg, ?_, ?_⟩, rfl⟩
      · simp only [Thr.post, List.length_append, List.length_cons, List.length_nil]; omega
      · simp only [Thr.post]
        intro x hx
        rcases List.mem_append.1 hx with hx | hx
        · exact g.le x (mem_erase hx)
        · simp only [List.mem_cons, List.not_mem_nil, or_false] at hx
          subst hx
          rw [letter_iff]; exact .inr (.inl ⟨rfl, rfl, by simp only; omega, by simp only; omega⟩)
      · unfold Thr.wsum wsumL
        simp only [Thr.post, List.map_append, List.sum_append, List.map_cons, List.map_nil, List.sum_cons, List.sum_nil]
        rw [hse]; omega
      · simp only [Thr.post]
        intro x hx
        rcases List.mem_append.1 hx with hx | hx
        · exact h.ml x (mem_erase hx)
        · simp only [List.mem_cons, List.not_mem_nil, or_false] at hx
          subst hx; show (2 : Int) ≠ 1; decide
      · unfold Thr.reqs
        simp only [Thr.post, List.map_append, List.sum_append, List.map_cons, List.map_nil, List.sum_cons, List.sum_nil]
        have : rq (2, 0, n) = 0 := rfl
        rw [this, Nat.add_zero, Nat.add_zero, hre]; exact wb

theorem still_end {t : Thr} (h : t.Still) (hm : t.mail = []) : t = t.endsAt := by
  have g := Thr.good_iff.1 h.ok
  have hs := g.sum
  unfold Thr.wsum wsumL at hs
  rw [hm] at hs
  have hz : ∀ xs : List (Int × Int), (∀ x ∈ xs, x.2 = 0) → (xs.map fun x => x.2).sum = 0 := by
    intro xs
    induction xs with
    | nil => intro _; rfl
    | cons a l ih => intro hx; simp only [List.map_cons, List.sum_cons]; rw [ih (fun x hx' => hx x (List.mem_cons_of_mem _ hx')), hx a (List.mem_cons_self ..)]; rfl
  rw [hz t.procs (fun x hx => ((holder_iff x).1 (g.pr x hx)).2.2.1 (h.pg x hx))] at hs
  simp at hs
  obtain ⟨gr, ou, ps, ms, en⟩ := t
  simp only at hm hs
  subst hm
  unfold Thr.endsAt
  simp [← hs]
theorem settleGo_still (choices : List Int) : ∀ (f k : Nat) (t : Thr), t.Still → t.mu ≤ f → ∃ n : Int, settleGo choices f k t = (t.endsAt, n, 0)
  | 0, k, t, h, hf => by
    have hm : t.mail = [] := by
      have := (mus_le t.mail).1
      rw [Thr.mu] at hf
      exact List.eq_nil_of_length_eq_zero (by omega)
    exact ⟨k, by rw [settleGo, ← still_end h hm]⟩
  | f + 1, k, t, h, hf => by
    rw [settleGo]
    split
    · rename_i hm
      exact ⟨k, by rw [← still_end h hm]⟩
    · rename_i hm
      have hlen : 0 < t.mail.length := List.length_pos_iff.2 hm
      obtain ⟨h0, h1⟩ := idxM_range choices k t.mail.length hlen
      obtain ⟨j, l, hj, hl, he⟩ := deliver_open h.ok h0 h1
      obtain ⟨hs, hend⟩ := still_step h hl
      have hfin := Thr.fin_ok hs.ok
      have hmu := deliver_mu h.ok h0 h1 (by rw [he, hfin])
      rw [he, hfin] at hmu ⊢
      rw [if_pos rfl]
      simp only at hmu
      obtain ⟨n, hn⟩ := settleGo_still choices f (k + 1) _ hs (by omega)
      exact ⟨n, by rw [hn, hend]⟩
theorem settleM_still {t : Thr} (h : t.Still) (choices : List Int) : ∃ n : Int, settleM t choices = (t.endsAt, n, 0) := by
  rw [settleM, if_pos h.ok]
  exact settleGo_still choices t.mu 0 t h (Nat.le_refl _)
theorem reqs_le (t : Thr) : t.reqs ≤ t.mail.length := by
  unfold Thr.reqs
  generalize t.mail = ms
  induction ms with
  | nil => simp
  | cons a l ih => 
    have h : rq a ≤ 1 := by unfold rq; split <;> omega
    simp only [List.map_cons, List.sum_cons, List.length_cons]; omega
end Go.Proofs.Ythdlmnkefheliaa
