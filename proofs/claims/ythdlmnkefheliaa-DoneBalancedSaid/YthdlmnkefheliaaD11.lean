import Derived.Test.YthdlmnkefheliaaD10
set_option linter.unusedVariables false
set_option linter.unusedSimpArgs false
namespace Go.Proofs.Ythdlmnkefheliaa
open Go.RowKit
theorem own_set_in {w : World} {B e s n g c : Nat} {xs : List Value} (h : w.ownsRow B e s (.slice (some ⟨g, 0, none⟩) n c) n xs) (j : Nat) (u : Value) (hj : j < n * s) :
    (w.setCell ⟨g, j, none⟩ u).ownsRow B e s (.slice (some ⟨g, 0, none⟩) n c) n (xs.set j u) := by
  obtain ⟨h1, h2⟩ := h
  refine ⟨by rw [List.length_set]; exact h1, ?_⟩
  rcases h2 with ⟨hv, _⟩ | ⟨g', cap, cur, hv, hb, hh, hnc, hcm, hcs, ht⟩
  · cases hv
  · injection hv with hg _ hc
    injection hg with hg
    injection hg with hg _ _
    subst hg hc
    refine .inr ⟨_, _, cur.setIfInBounds j u, rfl, hb, ?_, hnc, hcm, by rw [Array.size_setIfInBounds]; exact hcs, ?_⟩
    · simp [World.setCell, Array.getElem?_modify, hh]
    · rw [← ht, Array.toList_setIfInBounds, List.take_set]

theorem own_cell_in {w : World} {B e s n g c : Nat} {xs : List Value} (h : w.ownsRow B e s (.slice (some ⟨g, 0, none⟩) n c) n xs) (j : Nat) (u : Value) (hj : xs[j]? = some u) :
    w.cell? ⟨g, j, none⟩ = some u ∧ w.frozen? ⟨g, j, none⟩ = false := by
  constructor
  · have := h.cells (g := g) rfl j u hj
    rwa [add_lit0] at this
  · rcases h.2 with ⟨hv, _⟩ | ⟨g', cap, cur, hv, hb, hh, _⟩
    · cases hv
    · injection hv with hg _ hc
      injection hg with hg
      injection hg with hg _ _
      subst hg
      simp [World.frozen?, hh]

theorem flatMap_set {T : Type} (enc : T → List Value) (k : Nat) (hk : ∀ x, (enc x).length = k) : ∀ (xs : List T) (i j : Nat) (x y : T) (u : Value), xs[i]? = some x → j < k → (enc x).set j u = enc y → (xs.flatMap enc).set (i * k + j) u = (xs.set i y).flatMap enc
  | [], i, j, x, y, u, h, _, _ => by simp at h
  | z :: zs, 0, j, x, y, u, h, hj, he => by
    simp at h; subst h
    simp only [List.flatMap_cons, Nat.zero_mul, Nat.zero_add, List.set_cons_zero]
    rw [List.set_append_left _ _ (by rw [hk]; exact hj), he]
  | z :: zs, i + 1, j, x, y, u, h, hj, he => by
    simp at h
    have := flatMap_set enc k hk zs i j x y u h hj he
    simp only [List.flatMap_cons, List.set_cons_succ]
    rw [List.set_append_right _ _ (by rw [hk, Nat.succ_mul]; omega), hk, ← this]
    congr 2
    rw [Nat.succ_mul]; omega

def Thr.setP (t : Thr) (k : Nat) (x : Int × Int) : Thr := { t with procs := t.procs.set k x }

theorem own_blk {w : World} {B e s n g c : Nat} {xs : List Value} (h : w.ownsRow B e s (.slice (some ⟨g, 0, none⟩) n c) n xs) : ∃ cur, Blk w g e cur := by
  rcases h.2 with ⟨hv, _⟩ | ⟨g', cap, cur, hv, hb, hh, _⟩
  · cases hv
  · injection hv with hg _ hc
    injection hg with hg
    injection hg with hg _ _
    subst hg
    exact ⟨cur, hh⟩

theorem ThrB.setPG {w : World} {B p g c : Nat} {mv : Value} {t : Thr} {k : Nat} {x : Int × Int} (h : ThrB w B p (.slice (some ⟨g, 0, none⟩) t.procs.length c) mv t) (hx : t.procs[k]? = some x) (n : Int) :
    ThrB (w.setCell ⟨g, k * 2, none⟩ (.int .i64 n)) B p (.slice (some ⟨g, 0, none⟩) t.procs.length c) mv (t.setP k (n, x.2)) ∧ B ≤ g := by
  obtain ⟨h1, h2, h3, h4⟩ := h
  have hk : k < t.procs.length := (List.getElem?_eq_some_iff.1 hx).1
  obtain ⟨cur, hb⟩ := own_blk h3
  refine ⟨⟨h1, h2.far (p := ⟨g, k * 2, none⟩) (Blk.ne_ h2 hb (by decide)) _, ?_, own_set_far h4 hb (by decide) _ _⟩, (h3.lt g rfl).1⟩
  have := own_set_in h3 (k * 2) (.int .i64 n) (by omega)
  have he := flatMap_set encH 2 (fun _ => rfl) t.procs k 0 x (n, x.2) (.int .i64 n) hx (by omega) rfl
  rw [Nat.add_zero] at he
  rw [he] at this
  simpa [Thr.setP] using this
theorem ThrB.setPW {w : World} {B p g c : Nat} {mv : Value} {t : Thr} {k : Nat} {x : Int × Int} (h : ThrB w B p (.slice (some ⟨g, 0, none⟩) t.procs.length c) mv t) (hx : t.procs[k]? = some x) (n : Int) :
    ThrB (w.setCell ⟨g, k * 2 + 1, none⟩ (.int .i64 n)) B p (.slice (some ⟨g, 0, none⟩) t.procs.length c) mv (t.setP k (x.1, n)) ∧ B ≤ g := by
  obtain ⟨h1, h2, h3, h4⟩ := h
  have hk : k < t.procs.length := (List.getElem?_eq_some_iff.1 hx).1
  obtain ⟨cur, hb⟩ := own_blk h3
  refine ⟨⟨h1, h2.far (p := ⟨g, k * 2 + 1, none⟩) (Blk.ne_ h2 hb (by decide)) _, ?_, own_set_far h4 hb (by decide) _ _⟩, (h3.lt g rfl).1⟩
  have := own_set_in h3 (k * 2 + 1) (.int .i64 n) (by omega)
  have he := flatMap_set encH 2 (fun _ => rfl) t.procs k 1 x (x.1, n) (.int .i64 n) hx (by omega) rfl
  rw [he] at this
  simpa [Thr.setP] using this
theorem ThrB.cellP {w : World} {B p g c : Nat} {mv : Value} {t : Thr} {k : Nat} {x : Int × Int} (h : ThrB w B p (.slice (some ⟨g, 0, none⟩) t.procs.length c) mv t) (hx : t.procs[k]? = some x) :
    (w.cell? ⟨g, k * 2, none⟩ = some (.int .i64 x.1) ∧ w.cell? ⟨g, k * 2 + 1, none⟩ = some (.int .i64 x.2)) ∧ w.frozen? ⟨g, k * 2, none⟩ = false ∧ w.frozen? ⟨g, k * 2 + 1, none⟩ = false := by
  have e0 := flatMap_get encH 2 (fun _ => rfl) t.procs k 0 x hx (by omega)
  have e1 := flatMap_get encH 2 (fun _ => rfl) t.procs k 1 x hx (by omega)
  rw [Nat.add_zero] at e0
  have a0 := own_cell_in h.2.2.1 _ _ (e0.trans (rfl : (encH x)[0]? = some (.int .i64 x.1)))
  have a1 := own_cell_in h.2.2.1 _ _ (e1.trans (rfl : (encH x)[1]? = some (.int .i64 x.2)))
  exact ⟨⟨a0.1, a1.1⟩, a0.2, a1.2⟩

def Thr.proc (t : Thr) (k : Int) : Int × Int := t.procs.getD k.toNat (0, 0)
def startM (t : Thr) (proc : Int) : Thr × Int := if begunE t [proc] = 0 then (Thr.issue { t with ended := false } 1 proc).fin else (Thr.zero, begunE t [proc])
def spawnM (t : Thr) (proc : Int) : Thr × Int := if busyE t proc [] = 0 then (t.setP proc.toNat ((t.proc proc).1 + 1, (t.proc proc).2)).fin else (Thr.zero, busyE t proc [])
def finishM (t : Thr) (proc : Int) : Thr × Int :=
  if busyE t proc [] = 0 then
    (if (t.proc proc).1 = 1 then ((t.setP proc.toNat (0, 0)).post (2, 0, (t.proc proc).2)).fin else (t.setP proc.toNat ((t.proc proc).1 - 1, (t.proc proc).2)).fin)
  else (Thr.zero, busyE t proc [])
def half (x : Int × Int) : Int := if 1 < x.1 then x.2 / 2 else x.2
def moveM (t : Thr) (proc to_ : Int) : Thr × Int :=
  if busyE t proc [to_] = 0 then
    (if half (t.proc proc) = 0 then (Thr.zero, 281)
     else ((t.setP proc.toNat ((t.proc proc).1 - 1, (t.proc proc).2 - half (t.proc proc))).post (1, to_, half (t.proc proc))).fin)
  else (Thr.zero, busyE t proc [to_])
def requestM (t : Thr) (proc : Int) : Thr × Int := if busyE t proc [] = 0 then (t.post (3, proc, 0)).fin else (Thr.zero, busyE t proc [])

structure Thr.Good (t : Thr) : Prop where
  gr0 : 2 ≤ t.grain
  gr1 : t.grain ≤ 1048576
  pl0 : 1 ≤ t.procs.length
  pl1 : t.procs.length ≤ 16
  ml : t.mail.length ≤ 4000
  ou0 : 0 ≤ t.out
  ou1 : t.out ≤ 1099511627776
  pr : ∀ x ∈ t.procs, holderOk x = true
  le : ∀ x ∈ t.mail, letterOk t.procs.length x = true
  sum : t.wsum = t.out
  en : t.ended = true → t.out = 0
theorem Thr.good_iff {t : Thr} : t.ok = true ↔ t.Good := by
  unfold Thr.ok Thr.headOk
  simp only [Bool.and_eq_true, bd_iff, decide_eq_true_eq, Bool.not_eq_true', beq_iff_eq]
  constructor
  · rintro ⟨⟨⟨a1, a2⟩, ⟨b1, b2⟩, c, ⟨d1, d2⟩, e⟩, f, g, h⟩
    refine ⟨a1, a2, by omega, by omega, c, d1, d2, fun x hx => ?_, fun x hx => ?_, h, fun he => ?_⟩
    · simpa using List.any_eq_false.1 f x hx
    · simpa using List.any_eq_false.1 g x hx
    · simpa [he] using e
  · rintro ⟨a1, a2, b1, b2, c, d1, d2, f, g, h, e⟩
    refine ⟨⟨⟨a1, a2⟩, ⟨by omega, by omega⟩, c, ⟨d1, d2⟩, ?_⟩, ?_, ?_, h⟩
    · cases he : t.ended with
      | false => rfl
      | true => simp [e he]
    · rw [List.any_eq_false]; intro x hx; simp [f x hx]
    · rw [List.any_eq_false]; intro x hx; simp [g x hx]
theorem busyE_ok {t : Thr} {proc : Int} {more : List Int} (h : busyE t proc more = 0) : begunE t (proc :: more) = 0 ∧ (t.proc proc).1 ≠ 0 := by
  unfold busyE at h
  split at h
  · rename_i h1
    refine ⟨h1, ?_⟩
    split at h
    · cases h
    · assumption
  · rename_i h1; exact absurd h h1
end Go.Proofs.Ythdlmnkefheliaa
