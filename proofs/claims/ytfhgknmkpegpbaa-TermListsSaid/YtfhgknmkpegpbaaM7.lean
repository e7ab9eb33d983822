/- Layer 1, part 7 of the base: the walks and plain facts named in NOTES.md as G1, G2, G3, G4, G5, G6, G7, G8, G9, G10. -/
import Derived.Below
import Derived.Outline
import Derived.Laws.BitsLemmas
import Derived.ArgAppend
import Derived.WideLaws
import Derived.KernelRfl
import Derived.WalkKit
import Derived.Laws.Slices
import Derived.Tactics
import Derived.Laws.BytesArg
import Derived.Laws.OwnMore
import Derived.Laws.Rows
import Derived.Maps.AppendAt
import Derived.RegionTactic
import Derived.OwnWalk
import Derived.Laws.MakeOwn
import Derived.Laws.Entries
import Derived.Laws.CopyRow
import Derived.Laws.Tables
import Derived.Laws.Cells
import Derived.Laws.Pointers
import Derived.Laws.Small
import Derived.Test.YtfhgknmkpegpbaaM6

/- A pure model of what Go code computes (cells that are read only, boxes, own slices), and its reading in memory: the words, and that they stay. -/
set_option linter.unusedVariables false
set_option linter.unusedSimpArgs false
namespace Go.Abs

/-- A cell that is read only: a plain value, or a slice with all its elements. -/
inductive FC where
  | v (x : Value)
  | fz (sz : Nat) (l : List (List FC))

/-- A cell: read only, a pointer to a box, an own slice of n elements, a pointer into an own slice, a pointer to cells that are read only, a function. -/
inductive AC where
  | f (c : FC)
  | ptr (b off : Nat)
  | row (b n : Nat)
  | ep (b n sz i off : Nat)
  | fp (l : List FC)
  | fn (f : Fn) (caps : List AC)

/-- A value in a slot. -/
inductive AV where
  | one (c : AC)
  | agg (l : List AC)
  | tup (l : List AV)

/-- A block. -/
inductive AB where
  | box (ty : Nat) (l : List AC)
  | row (ty sz : Nat) (l : List (List FC))

/-- Which blocks are read only, and where the blocks lie. -/
structure En where
  F : Nat → Prop
  m : Nat → Nat → Option Value

/-- The value of one cell; a string is no longer than memory bears. -/
def okV : Value → Bool
  | .agg _ => false
  | .tuple _ => false
  | .string s => decide (s.size ≤ maxLen)
  | _ => true
theorem okV_one {x : Value} (h : okV x = true) : x.oneCell' = true := by
  cases x <;> first | rfl | (simp [okV] at h)

inductive Rf (w : World) (F : Nat → Prop) : FC → Value → Prop
  | v (x : Value) (h : okV x = true) : Rf w F (.v x) x
  | fz (sz : Nat) (l : List (List FC)) (A : Option Addr) (cap g off : Nat) (vals : Nat → Nat → Value)
      (hl : l.length ≤ cap) (hc : cap ≤ maxLen) (hn : A = none → cap = 0)
      (hA : l ≠ [] → A = some ⟨g, off, none⟩ ∧ F g)
      (hsz : ∀ (i : Nat) (e : List FC), l[i]? = some e → e.length = sz)
      (hcell : ∀ (i : Nat) (e : List FC) (j : Nat) (c : FC), l[i]? = some e → e[j]? = some c → w.cell? ⟨g, off + i * sz + j, none⟩ = some (vals i j))
      (hr : ∀ (i : Nat) (e : List FC) (j : Nat) (c : FC), l[i]? = some e → e[j]? = some c → Rf w F c (vals i j)) : Rf w F (.fz sz l) (.slice A l.length cap)

inductive Rc (w : World) (E : En) : AC → Value → Prop
  | f {c : FC} {v : Value} (h : Rf w E.F c v) : Rc w E (.f c) v
  | ptr {b off g : Nat} (h : E.m b 0 = some (.pointer (some ⟨g, 0, none⟩))) : Rc w E (.ptr b off) (.pointer (some ⟨g, off, none⟩))
  | row {b n c : Nat} {A : Option Addr} (h : E.m b n = some (.slice A n c)) : Rc w E (.row b n) (.slice A n c)
  | ep {b n sz i off g c : Nat} (h : E.m b n = some (.slice (some ⟨g, 0, none⟩) n c)) : Rc w E (.ep b n sz i off) (.pointer (some ⟨g, i * sz + off, none⟩))
  | fp {l : List FC} {g off : Nat} (vals : Nat → Value) (hF : l ≠ [] → E.F g) (hcell : ∀ j c, l[j]? = some c → w.cell? ⟨g, off + j, none⟩ = some (vals j))
      (hr : ∀ j c, l[j]? = some c → Rf w E.F c (vals j)) : Rc w E (.fp l) (.pointer (some ⟨g, off, none⟩))
  | fn {f : Fn} {caps : List AC} {vs : Array Value} (vals : Nat → Value) (hs : vs.size = caps.length) (hv : ∀ j c, caps[j]? = some c → vs[j]? = some (vals j))
      (hr : ∀ j c, caps[j]? = some c → Rc w E c (vals j)) : Rc w E (.fn f caps) (.func f #[] vs)

inductive Rv (w : World) (E : En) : AV → Value → Prop
  | one {c : AC} {v : Value} (h : Rc w E c v) : Rv w E (.one c) v
  | agg {l : List AC} {vs : Array Value} (hs : vs.size = l.length) (hr : ∀ (j : Nat) (c : AC), l[j]? = some c → ∃ u, vs[j]? = some u ∧ Rc w E c u) : Rv w E (.agg l) (.agg vs)
  | tup {l : List AV} {vs : Array Value} (vals : Nat → Value) (hs : vs.size = l.length) (hv : ∀ j c, l[j]? = some c → vs[j]? = some (vals j))
      (hr : ∀ j c, l[j]? = some c → Rv w E c (vals j)) : Rv w E (.tup l) (.tuple vs)

/-- Both blocks read alike. -/
def Agree (F : Nat → Prop) (w w' : World) : Prop := ∀ g, F g → w'.heap[g]? = w.heap[g]?
theorem Agree.refl (F : Nat → Prop) (w : World) : Agree F w w := fun _ _ => rfl
theorem Agree.trans {F : Nat → Prop} {a b c : World} (h : Agree F a b) (k : Agree F b c) : Agree F a c := fun g hg => (k g hg).trans (h g hg)
theorem Agree.weaken {F G : Nat → Prop} {a b : World} (h : Agree F a b) (hG : ∀ g, G g → F g) : Agree G a b := fun g hg => h g (hG g hg)
theorem cell_agree {w w' : World} {g : Nat} (h : w'.heap[g]? = w.heap[g]?) (o : Nat) : w'.cell? ⟨g, o, none⟩ = w.cell? ⟨g, o, none⟩ := by
  simp only [World.cell?, h]

structure En.le (E E' : En) : Prop where
  F : ∀ g, E.F g → E'.F g
  m : ∀ b n v, E.m b n = some v → E'.m b n = some v
theorem En.le.refl (E : En) : E.le E := ⟨fun _ h => h, fun _ _ _ h => h⟩
theorem En.le.trans {A B C : En} (h : A.le B) (k : B.le C) : A.le C := ⟨fun g x => k.F g (h.F g x), fun b n v x => k.m b n v (h.m b n v x)⟩

theorem Rf.mono {w w' : World} {F F' : Nat → Prop} {c : FC} {v : Value} (h : Rf w F c v) (hF : ∀ g, F g → F' g) (ha : Agree F w w') : Rf w' F' c v := by
  induction h with
  | v x h => exact .v x h
  | fz sz l A cap g off vals hl hc hn hA hsz hcell hr ih =>
    refine .fz sz l A cap g off vals hl hc hn (fun h => ⟨(hA h).1, hF g (hA h).2⟩) hsz (fun i e j c hi hj => ?_) ih
    have hne : l ≠ [] := by intro e; rw [e] at hi; simp at hi
    rw [cell_agree (ha g (hA hne).2)]
    exact hcell i e j c hi hj
theorem Rc.mono {w w' : World} {E E' : En} {c : AC} {v : Value} (h : Rc w E c v) (hE : E.le E') (ha : Agree E.F w w') : Rc w' E' c v := by
  induction h with
  | f h => exact .f (h.mono hE.F ha)
  | ptr h => exact .ptr (hE.m _ _ _ h)
  | row h => exact .row (hE.m _ _ _ h)
  | ep h => exact .ep (hE.m _ _ _ h)
  | @fp l g off vals hF hcell hr =>
    refine .fp vals (fun h => hE.F _ (hF h)) (fun j c hj => ?_) (fun j c hj => (hr j c hj).mono hE.F ha)
    have hne : l ≠ [] := by intro e; rw [e] at hj; simp at hj
    rw [cell_agree (ha g (hF hne))]
    exact hcell j c hj
  | fn vals hs hv hr ih => exact .fn vals hs hv ih
theorem Rv.mono {w w' : World} {E E' : En} {c : AV} {v : Value} (h : Rv w E c v) (hE : E.le E') (ha : Agree E.F w w') : Rv w' E' c v := by
  induction h with
  | one h => exact .one (h.mono hE ha)
  | agg hs hr => exact .agg hs fun j c hj => let ⟨u, h1, h2⟩ := hr j c hj; ⟨u, h1, h2.mono hE ha⟩
  | tup vals hs hv hr ih => exact .tup vals hs hv ih
theorem Rf.one {w : World} {F : Nat → Prop} {c : FC} {v : Value} (h : Rf w F c v) : v.oneCell' = true := by
  cases h with
  | v x h => exact okV_one h
  | fz => rfl
theorem Rc.one_ {w : World} {E : En} {c : AC} {v : Value} (h : Rc w E c v) : v.oneCell' = true := by
  cases h with
  | f h => exact h.one
  | _ => rfl

/-- Look-up in a list of pairs. -/
def look {α : Type} : List (Nat × α) → Nat → Option α
  | [], _ => none
  | p :: r, i => if p.1 == i then some p.2 else look r i
theorem look_cons {α : Type} (k : Nat) (x : α) (r : List (Nat × α)) (i : Nat) : look ((k, x) :: r) i = if k == i then some x else look r i := rfl
theorem look_nil {α : Type} (i : Nat) : look ([] : List (Nat × α)) i = none := rfl
/-- Replaces an entry, or adds one. -/
def put {α : Type} : List (Nat × α) → Nat → α → List (Nat × α)
  | [], i, x => [(i, x)]
  | p :: r, i, x => if p.1 == i then (i, x) :: r else p :: put r i x
theorem look_put {α : Type} (l : List (Nat × α)) (i j : Nat) (x : α) : look (put l i x) j = if i = j then some x else look l j := by
  induction l with
  | nil => simp [put, look]
  | cons p r ih =>
    unfold put
    split
    · rename_i h
      simp only [beq_iff_eq] at h
      simp only [look, beq_iff_eq, h]
      split <;> rfl
    · rename_i h
      simp only [beq_iff_eq] at h
      simp only [look, beq_iff_eq, ih]
      split
      · rename_i h2; rw [if_neg (by omega)]
      · rfl

/-- The block that a block's slice or box lies in. -/
def owns (E : En) (b : Nat) : AB → Nat → Prop
  | .box _ _, g => E.m b 0 = some (.pointer (some ⟨g, 0, none⟩))
  | .row _ _ l, g => ∃ n c, E.m b l.length = some (.slice (some ⟨g, 0, none⟩) n c)

/-- A block reads as it should. -/
def Rb (w : World) (E : En) (b : Nat) : AB → Prop
  | .box ty l => ∃ (g : Nat) (vs : Array Value), E.m b 0 = some (.pointer (some ⟨g, 0, none⟩)) ∧ w.heap[g]? = some (.cells vs ty (0, 0)) ∧ vs.size = l.length ∧ ∀ (j : Nat) (c : AC), l[j]? = some c → ∃ u, vs[j]? = some u ∧ Rc w E c u
  | .row ty sz l => ∃ (v : Value) (vals : List Value), E.m b l.length = some v ∧ w.ownsRow 0 ty sz v l.length vals ∧ (∀ (i : Nat) (e : List FC), l[i]? = some e → e.length = sz) ∧
      (∀ (i : Nat) (e : List FC) (j : Nat) (c : FC), l[i]? = some e → e[j]? = some c → ∃ u, vals[i * sz + j]? = some u ∧ Rf w E.F c u) ∧ ∀ n, l.length < n → E.m b n = none

/-- What a function may do: the world and the read-only blocks at its beginning, the blocks of others that it may change. -/
structure Fr where
  w0 : World
  F : Nat → Prop
  O : Nat → Prop
  nt : Nat
  m0 : Nat → Nat → Option Value
  k : Nat

/-- The state in memory. -/
structure R (fr : Fr) (E : En) (t : Nat → Option AV) (h : Nat → Option AB) (nx : Nat) (a : Act) (w : World) : Prop where
  defers : a.defers = []
  size : a.tmps.size = fr.nt
  tmps : ∀ i x, t i = some x → ∃ v, a.tmps[i]? = some v ∧ Rv w E x v
  blk : ∀ b x, h b = some x → Rb w E b x
  sep : ∀ b b' x x' g, h b = some x → h b' = some x' → owns E b x g → owns E b' x' g → b = b'
  own : ∀ b x g, h b = some x → owns E b x g → (fr.w0.heap.size ≤ g ∨ fr.O g) ∧ ¬ E.F g ∧ g < w.heap.size
  fresh : ∀ b n, nx ≤ b → h b = none → E.m b n = none
  os : w.os = fr.w0.os
  tape : w.tape = fr.w0.tape
  output : w.output = fr.w0.output
  grow : fr.w0.heap.size ≤ w.heap.size
  kept : ∀ g, g < fr.w0.heap.size → ¬ fr.O g → w.heap[g]? = fr.w0.heap[g]?
  hF : ∀ g, fr.F g → E.F g
  hF2 : ∀ g, E.F g → g < w.heap.size ∧ (fr.F g ∨ fr.w0.heap.size ≤ g ∨ fr.O g)
  old : ∀ b n v, fr.m0 b n = some v → E.m b n = some v
  oldk : ∀ b n v, fr.m0 b n = some v → b < fr.k
end Go.Abs

/- A pure model of Go code, 2: what a change of memory keeps. -/
set_option linter.unusedVariables false
set_option linter.unusedSimpArgs false
namespace Go.Abs

theorem Rb.mono {w w' : World} {E E' : En} {b : Nat} {x : AB} (h : Rb w E b x) (hE : E.le E') (hm : ∀ n, E'.m b n = E.m b n) (ha : Agree E.F w w')
    (hg : ∀ g, owns E b x g → w'.heap[g]? = w.heap[g]?) : Rb w' E' b x := by
  cases x with
  | box ty l =>
    obtain ⟨g, vs, h1, h2, h3, h4⟩ := h
    exact ⟨g, vs, hE.m _ _ _ h1, (hg g h1).trans h2, h3, fun j c hj => let ⟨u, h5, h6⟩ := h4 j c hj; ⟨u, h5, h6.mono hE ha⟩⟩
  | row ty sz l =>
    obtain ⟨v, vals, h1, h2, h3, h4, h5⟩ := h
    refine ⟨v, vals, hE.m _ _ _ h1, ?_, h3, fun i e j c hi hj => let ⟨u, h6, h7⟩ := h4 i e j c hi hj; ⟨u, h6, h7.mono hE.F ha⟩, fun n hn => (hm n).trans (h5 n hn)⟩
    refine ⟨h2.1, ?_⟩
    rcases h2.2 with h6 | ⟨g, cap, cur, hv, h7, h8, h9⟩
    · exact .inl h6
    · exact .inr ⟨g, cap, cur, hv, h7, (hg g ⟨_, _, by rw [h1, hv]⟩).trans h8, h9⟩

/-- A change of the blocks W. -/
structure Upd (E : En) (h : Nat → Option AB) (w : World) (W : List Nat) (E' : En) (h' : Nat → Option AB) (w' : World) : Prop where
  le : E.le E'
  F : ∀ g, E'.F g → E.F g ∨ (w.heap.size ≤ g ∧ g < w'.heap.size) ∨ (g < w'.heap.size ∧ ∃ b ∈ W, ∃ x, h b = some x ∧ owns E b x g)
  os : w'.os = w.os
  tape : w'.tape = w.tape
  output : w'.output = w.output
  grow : w.heap.size ≤ w'.heap.size
  kept : ∀ g, g < w.heap.size → (∀ b ∈ W, ∀ x, h b = some x → ¬ owns E b x g) → w'.heap[g]? = w.heap[g]?
  same : ∀ b, b ∉ W → h' b = h b
  out : ∀ b n, b ∉ W → E'.m b n = E.m b n
  blk : ∀ b ∈ W, ∀ x, h' b = some x → Rb w' E' b x
  own : ∀ b ∈ W, ∀ x g, h' b = some x → owns E' b x g → (w.heap.size ≤ g ∨ ∃ b' ∈ W, ∃ x', h b' = some x' ∧ owns E b' x' g) ∧ ¬ E'.F g ∧ g < w'.heap.size
  sep : ∀ b ∈ W, ∀ b' ∈ W, ∀ x x' g, h' b = some x → h' b' = some x' → owns E' b x g → owns E' b' x' g → b = b'
  live : ∀ b ∈ W, h' b ≠ none

theorem R.agree {fr : Fr} {E E' : En} {t : Nat → Option AV} {h h' : Nat → Option AB} {nx : Nat} {a : Act} {w w' : World} {W : List Nat} (r : R fr E t h nx a w) (u : Upd E h w W E' h' w') : Agree E.F w w' :=
  fun g hg => u.kept g (r.hF2 g hg).1 fun b hb x hx ho => (r.own b x g hx ho).2.1 hg

theorem owns_out {E E' : En} {b : Nat} (hm : ∀ n, E'.m b n = E.m b n) (x : AB) (g : Nat) : owns E' b x g ↔ owns E b x g := by
  cases x <;> simp only [owns, hm]

theorem R.upd {fr : Fr} {E E' : En} {t : Nat → Option AV} {h h' : Nat → Option AB} {nx : Nat} {a : Act} {w w' : World} {W : List Nat} (r : R fr E t h nx a w) (u : Upd E h w W E' h' w') :
    R fr E' t h' nx a w' := by
  have ha := r.agree u
  have hout : ∀ b, b ∉ W → ∀ x, h b = some x → ∀ g, owns E b x g → w'.heap[g]? = w.heap[g]? := fun b hb x hx g hg =>
    u.kept g (r.own b x g hx hg).2.2 fun b' hb' x' hx' ho => hb (by rw [r.sep b b' x x' g hx hx' hg ho]; exact hb')
  have hOw : ∀ g b x, h b = some x → owns E b x g → fr.w0.heap.size ≤ g ∨ fr.O g := fun g b x hx ho => (r.own b x g hx ho).1
  refine ⟨r.defers, r.size, fun i x hi => ?_, fun b x hx => ?_, fun b b' x x' g hx hx' ho ho' => ?_, fun b x g hx ho => ?_, fun b n hb hn => ?_, u.os.trans r.os, u.tape.trans r.tape, u.output.trans r.output,
    Nat.le_trans r.grow u.grow, fun g hg hO => ?_, fun g hg => u.le.F g (r.hF g hg), fun g hg => ?_, fun b n v hb => u.le.m b n v (r.old b n v hb), r.oldk⟩
  · obtain ⟨v, h1, h2⟩ := r.tmps i x hi
    exact ⟨v, h1, h2.mono u.le ha⟩
  · by_cases hb : b ∈ W
    · exact u.blk b hb x hx
    · rw [u.same b hb] at hx
      exact (r.blk b x hx).mono u.le (fun n => u.out b n hb) ha (hout b hb x hx)
  · by_cases hb : b ∈ W <;> by_cases hb' : b' ∈ W
    · exact u.sep b hb b' hb' x x' g hx hx' ho ho'
    · rw [u.same b' hb'] at hx'
      rw [owns_out (fun n => u.out b' n hb')] at ho'
      rcases (u.own b hb x g hx ho).1 with h1 | ⟨c, hc, y, hy, hyo⟩
      · have := (r.own b' x' g hx' ho').2.2; omega
      · exact absurd (r.sep c b' y x' g hy hx' hyo ho') (fun e => hb' (e ▸ hc))
    · rw [u.same b hb] at hx
      rw [owns_out (fun n => u.out b n hb)] at ho
      rcases (u.own b' hb' x' g hx' ho').1 with h1 | ⟨c, hc, y, hy, hyo⟩
      · have := (r.own b x g hx ho).2.2; omega
      · exact absurd (r.sep b c x y g hx hy ho hyo) (fun e => hb (e ▸ hc))
    · rw [u.same b hb] at hx; rw [u.same b' hb'] at hx'
      rw [owns_out (fun n => u.out b n hb)] at ho; rw [owns_out (fun n => u.out b' n hb')] at ho'
      exact r.sep b b' x x' g hx hx' ho ho'
  · by_cases hb : b ∈ W
    · obtain ⟨h1, h2, h3⟩ := u.own b hb x g hx ho
      refine ⟨?_, h2, h3⟩
      rcases h1 with h1 | ⟨c, hc, y, hy, hyo⟩
      · exact .inl (Nat.le_trans r.grow h1)
      · exact hOw g c y hy hyo
    · rw [u.same b hb] at hx
      rw [owns_out (fun n => u.out b n hb)] at ho
      obtain ⟨h1, h2, h3⟩ := r.own b x g hx ho
      refine ⟨h1, fun hF => ?_, Nat.lt_of_lt_of_le h3 u.grow⟩
      rcases u.F g hF with h4 | h4 | ⟨-, c, hc, y, hy, hyo⟩
      · exact h2 h4
      · omega
      · exact hb (by rw [r.sep b c x y g hx hy ho hyo]; exact hc)
  · by_cases hbW : b ∈ W
    · exact absurd hn (u.live b hbW)
    · rw [u.same b hbW] at hn; rw [u.out b n hbW]; exact r.fresh b n hb hn
  · rw [u.kept g (Nat.lt_of_lt_of_le hg r.grow) (fun b hb x hx ho => by
      rcases hOw g b x hx ho with h1 | h1
      · omega
      · exact hO h1)]
    exact r.kept g hg hO
  · rcases u.F g hg with h1 | h1 | ⟨h0, c, hc, y, hy, hyo⟩
    · exact ⟨Nat.lt_of_lt_of_le (r.hF2 g h1).1 u.grow, (r.hF2 g h1).2⟩
    · exact ⟨h1.2, .inr (.inl (Nat.le_trans r.grow h1.1))⟩
    · exact ⟨h0, .inr (hOw g c y hy hyo)⟩

/-- One slot gets a value. -/
def up {α : Type} (t : Nat → Option α) (d : Nat) (x : α) : Nat → Option α := fun i => if d = i then some x else t i
theorem R.put {fr : Fr} {E : En} {t : Nat → Option AV} {h : Nat → Option AB} {nx : Nat} {a : Act} {w : World} (r : R fr E t h nx a w) {d : Nat} {x : AV} {v : Value} (hd : d < fr.nt) (hv : Rv w E x v) :
    R fr E (up t d x) h nx (a.put (some d) v) w := by
  refine ⟨r.defers, by simp [Act.put, r.size], fun i y hi => ?_, r.blk, r.sep, r.own, r.fresh, r.os, r.tape, r.output, r.grow, r.kept, r.hF, r.hF2, r.old, r.oldk⟩
  unfold up at hi
  split at hi
  · rename_i e; subst e
    injection hi with hi; subst hi
    exact ⟨v, by simp [Act.put, r.size, hd], hv⟩
  · rename_i e
    obtain ⟨u, h1, h2⟩ := r.tmps i y hi
    exact ⟨u, by simp only [Act.put]; rw [Array.getElem?_setIfInBounds_ne e]; exact h1, h2⟩
/-- A slot is written whose value nobody knows. -/
theorem R.forget {fr : Fr} {E : En} {t t' : Nat → Option AV} {h : Nat → Option AB} {nx : Nat} {a : Act} {w : World} (r : R fr E t h nx a w) {d : Option Nat} (v : Value) (ht : ∀ i x, t' i = some x → t i = some x ∧ d ≠ some i) :
    R fr E t' h nx (a.put d v) w := by
  refine ⟨by cases d <;> exact r.defers, by cases d <;> simp [Act.put, r.size], fun i y hi => ?_, r.blk, r.sep, r.own, r.fresh, r.os, r.tape, r.output, r.grow, r.kept, r.hF, r.hF2, r.old, r.oldk⟩
  obtain ⟨h0, hne⟩ := ht i y hi
  obtain ⟨u, h1, h2⟩ := r.tmps i y h0
  cases d with
  | none => exact ⟨u, h1, h2⟩
  | some d => exact ⟨u, by simp only [Act.put]; rw [Array.getElem?_setIfInBounds_ne (fun e => hne (by rw [e]))]; exact h1, h2⟩

theorem R.eval {fr : Fr} {E : En} {t : Nat → Option AV} {h : Nat → Option AB} {nx : Nat} {a : Act} {w : World} (r : R fr E t h nx a w) {i : Nat} {x : AV} (hi : t i = some x) : Rv w E x (a.eval (.tmp i)) := by
  obtain ⟨v, h1, h2⟩ := r.tmps i x hi
  have : a.eval (.tmp i) = v := by simp [Act.eval, Array.getD_eq_getD_getElem?, h1]
  rw [this]; exact h2
/-- Nothing changes. -/
theorem Upd.refl (E : En) (h : Nat → Option AB) (w : World) : Upd E h w [] E h w :=
  ⟨.refl E, fun g hg => .inl hg, rfl, rfl, rfl, Nat.le_refl _, fun _ _ _ => rfl, fun _ _ => rfl, fun _ _ _ => rfl, fun b hb => absurd hb (by simp), fun b hb => absurd hb (by simp), fun b hb => absurd hb (by simp), fun b hb => absurd hb (by simp)⟩
theorem R.drew {fr : Fr} {E : En} {t : Nat → Option AV} {h : Nat → Option AB} {nx : Nat} {a : Act} {w : World} (r : R fr E t h nx a w) (n : Nat) : R fr E t h nx a { w with drawn := n } := by
  have hag : Agree E.F w { w with drawn := n } := fun _ _ => rfl
  refine ⟨r.defers, r.size, fun i x hi => let ⟨v, h1, h2⟩ := r.tmps i x hi; ⟨v, h1, h2.mono (.refl E) hag⟩, fun b x hb => (r.blk b x hb).mono (.refl E) (fun _ => rfl) hag (fun _ _ => rfl), r.sep, r.own, r.fresh, r.os, r.tape, r.output, r.grow, r.kept, r.hF, r.hF2, r.old, r.oldk⟩
end Go.Abs

/- A pure model of Go code, 3: the changes of memory that single operations make. -/
set_option linter.unusedVariables false
set_option linter.unusedSimpArgs false
namespace Go.Abs
open Go.RowKit

/-- The block b lies, in version n, at v. -/
def En.set (E : En) (b n : Nat) (v : Value) : En := ⟨E.F, fun b' n' => if b' = b ∧ n' = n then some v else E.m b' n'⟩
theorem En.set_le {E : En} {b n : Nat} {v : Value} (h : E.m b n = none) : E.le (E.set b n v) :=
  ⟨fun _ h => h, fun b' n' u hu => by
    unfold En.set
    by_cases e : b' = b ∧ n' = n
    · obtain ⟨rfl, rfl⟩ := e; rw [h] at hu; cases hu
    · simp only [if_neg e]; exact hu⟩
theorem En.set_at (E : En) (b n : Nat) (v : Value) : (E.set b n v).m b n = some v := by simp [En.set]
theorem En.set_out (E : En) {b b' : Nat} (n n' : Nat) (v : Value) (h : b' ≠ b) : (E.set b n v).m b' n' = E.m b' n' := by
  show (if b' = b ∧ n' = n then some v else E.m b' n') = _
  rw [if_neg (fun e => h e.1)]
theorem En.set_ne (E : En) (b : Nat) {n n' : Nat} (v : Value) (h : n' ≠ n) : (E.set b n v).m b n' = E.m b n' := by
  show (if b = b ∧ n' = n then some v else E.m b n') = _
  rw [if_neg (fun e => h e.2)]

theorem up_at {α : Type} (t : Nat → Option α) (d : Nat) (x : α) : up t d x d = some x := by simp [up]
theorem up_out {α : Type} (t : Nat → Option α) {d i : Nat} (x : α) (h : d ≠ i) : up t d x i = t i := by simp [up, h]

/-- One block changes, or is new. -/
theorem Upd.single {E E' : En} {h : Nat → Option AB} {w w' : World} {b : Nat} {x' : AB} (le : E.le E') (hF : ∀ g, E'.F g → E.F g) (os : w'.os = w.os) (tape : w'.tape = w.tape) (output : w'.output = w.output) (grow : w.heap.size ≤ w'.heap.size)
    (kept : ∀ g, g < w.heap.size → (∀ x, h b = some x → ¬ owns E b x g) → w'.heap[g]? = w.heap[g]?) (out : ∀ b' n, b' ≠ b → E'.m b' n = E.m b' n) (blk : Rb w' E' b x')
    (own : ∀ g, owns E' b x' g → (w.heap.size ≤ g ∨ ∃ x, h b = some x ∧ owns E b x g) ∧ ¬ E.F g ∧ g < w'.heap.size) : Upd E h w [b] E' (up h b x') w' :=
  ⟨le, fun g hg => .inl (hF g hg), os, tape, output, grow, fun g hg hk => kept g hg fun x hx => hk b (by simp) x hx, fun b' hb' => up_out _ _ (by simp at hb'; exact fun e => hb' e.symm),
    fun b' n hb' => out b' n (by simpa using hb'),
    fun b' hb' x hx => by
      have hb' : b' = b := by simpa using hb'
      subst hb'; rw [up_at] at hx; injection hx with hx; subst hx; exact blk,
    fun b' hb' x g hx ho => by
      have hb' : b' = b := by simpa using hb'
      subst hb'; rw [up_at] at hx; injection hx with hx; subst hx
      obtain ⟨h1, h2, h3⟩ := own g ho
      refine ⟨?_, fun hh => h2 (hF g hh), h3⟩
      rcases h1 with h1 | ⟨y, hy, hyo⟩
      · exact .inl h1
      · exact .inr ⟨b', by simp, y, hy, hyo⟩,
    fun b1 h1 b2 h2 _ _ _ _ _ _ _ => by rw [show b1 = b from by simpa using h1, show b2 = b from by simpa using h2],
    fun b' hb' => by rw [show b' = b from by simpa using hb', up_at]; simp⟩

/-- A new box. -/
theorem Upd.box {E : En} {h : Nat → Option AB} {w : World} {b : Nat} (ty : Nat) (l : List AC) (vs : Array Value) (hm : ∀ n, E.m b n = none) (hb : h b = none) (hFF : ∀ g, E.F g → g < w.heap.size) (hs : vs.size = l.length)
    (hc : ∀ (j : Nat) (c : AC), l[j]? = some c → ∃ u, vs[j]? = some u ∧ Rc w E c u) :
    Upd E h w [b] (E.set b 0 (.pointer (some ⟨w.heap.size, 0, none⟩))) (up h b (.box ty l)) (w.alloc (.cells vs ty)) := by
  have le := En.set_le (v := .pointer (some ⟨w.heap.size, 0, none⟩)) (hm 0)
  have hag : Agree E.F w (w.alloc (.cells vs ty)) := fun g hg => Below.heap_alloc w _ g (hFF g hg)
  refine Upd.single le (fun _ h => h) rfl rfl rfl (by simp) (fun g hg _ => Below.heap_alloc w _ g hg) (fun b' n hne => En.set_out _ _ _ _ hne) ⟨w.heap.size, vs, En.set_at _ _ _ _, heap_alloc_new w _, hs, fun j c hj => ?_⟩ (fun g hg => ?_)
  · obtain ⟨u, h1, h2⟩ := hc j c hj
    exact ⟨u, h1, h2.mono le hag⟩
  · have hg' : (E.set b 0 (.pointer (some ⟨w.heap.size, 0, none⟩))).m b 0 = some (.pointer (some ⟨g, 0, none⟩)) := hg
    rw [En.set_at] at hg'
    simp at hg'
    subst hg'
    exact ⟨.inl (Nat.le_refl _), fun hF => by have := hFF _ hF; omega, by simp⟩

/-- A new own slice, in a block that it fills. -/
theorem Upd.newRow {E : En} {h : Nat → Option AB} {w : World} {b : Nat} (ty sz : Nat) (l : List (List FC)) (vs : Array Value) (hm : ∀ n, E.m b n = none) (hb : h b = none) (hFF : ∀ g, E.F g → g < w.heap.size) (hs : vs.size = l.length * sz) (hlm : l.length ≤ maxLen)
    (hsz : ∀ (i : Nat) (e : List FC), l[i]? = some e → e.length = sz)
    (hc : ∀ (i : Nat) (e : List FC) (j : Nat) (c : FC), l[i]? = some e → e[j]? = some c → ∃ u, vs[i * sz + j]? = some u ∧ Rf w E.F c u) :
    Upd E h w [b] (E.set b l.length (.slice (some ⟨w.heap.size, 0, none⟩) l.length l.length)) (up h b (.row ty sz l)) (w.alloc (.cells vs ty)) := by
  have le := En.set_le (v := .slice (some ⟨w.heap.size, 0, none⟩) l.length l.length) (hm l.length)
  have hag : Agree E.F w (w.alloc (.cells vs ty)) := fun g hg => Below.heap_alloc w _ g (hFF g hg)
  refine Upd.single le (fun _ h => h) rfl rfl rfl (by simp) (fun g hg _ => Below.heap_alloc w _ g hg) (fun b' n hne => En.set_out _ _ _ _ hne) ⟨_, vs.toList, En.set_at _ _ _ _, ⟨by simpa using hs, .inr ⟨w.heap.size, l.length, vs, rfl, Nat.zero_le _, heap_alloc_new w _, Nat.le_refl _, hlm, hs, ?_⟩⟩, hsz, fun i e j c hi hj => ?_, fun n hn => ?_⟩ (fun g hg => ?_)
  · rw [List.take_of_length_le (by simp [hs])]
  · obtain ⟨u, h1, h2⟩ := hc i e j c hi hj
    exact ⟨u, by simpa using h1, h2.mono (fun _ h => h) hag⟩
  · rw [En.set_ne _ _ _ (by omega)]; exact hm n
  · obtain ⟨n, c, hg'⟩ := hg
    rw [En.set_at] at hg'
    simp at hg'
    obtain ⟨rfl, -, -⟩ := hg'
    exact ⟨.inl (Nat.le_refl _), fun hF => by have := hFF _ hF; omega, by simp⟩

/-- The cells of a box are written. -/
theorem Upd.store {E : En} {h : Nat → Option AB} {w w' : World} {b g : Nat} {ty : Nat} {l l' : List AC} {vs' : Array Value} (hb : h b = some (.box ty l)) (hm : E.m b 0 = some (.pointer (some ⟨g, 0, none⟩)))
    (hgF : ¬ E.F g) (hgl : g < w.heap.size)
    (os : w'.os = w.os) (tape : w'.tape = w.tape) (output : w'.output = w.output) (hsz : w'.heap.size = w.heap.size) (hoth : ∀ k, k ≠ g → w'.heap[k]? = w.heap[k]?) (hg : w'.heap[g]? = some (.cells vs' ty (0, 0)))
    (hs : vs'.size = l'.length) (hc : ∀ (j : Nat) (c : AC), l'[j]? = some c → ∃ u, vs'[j]? = some u ∧ Rc w E c u) : Upd E h w [b] E (up h b (.box ty l')) w' := by
  have hag : Agree E.F w w' := fun k hk => hoth k (fun e => hgF (e ▸ hk))
  refine Upd.single (.refl E) (fun _ h => h) os tape output (by omega) (fun k hk hno => hoth k fun e => hno _ hb (by rw [e]; exact hm)) (fun _ _ _ => rfl) ⟨g, vs', hm, hg, hs, fun j c hj => ?_⟩ (fun k hk => ?_)
  · obtain ⟨u, h1, h2⟩ := hc j c hj
    exact ⟨u, h1, h2.mono (.refl E) hag⟩
  · have hk' : E.m b 0 = some (.pointer (some ⟨k, 0, none⟩)) := hk
    have : k = g := by rw [hm] at hk'; simp at hk'; exact hk'.symm
    subst this
    exact ⟨.inr ⟨_, hb, hm⟩, hgF, by omega⟩

/-- An own slice grows. -/
theorem Upd.append {E : En} {h : Nat → Option AB} {w w' : World} {b : Nat} {ty sz : Nat} {l m : List (List FC)} {v v' : Value} {vals news : List Value} (hb : h b = some (.row ty sz l)) (hm : E.m b l.length = some v)
    (hnone : ∀ n, l.length < n → E.m b n = none) (hsz : ∀ (i : Nat) (e : List FC), l[i]? = some e → e.length = sz) (hszm : ∀ (i : Nat) (e : List FC), m[i]? = some e → e.length = sz)
    (hvl : vals.length = l.length * sz) (hne : m ≠ [])
    (hown : w'.ownsRow 0 ty sz v' (l.length + m.length) (vals ++ news)) (hgr : w.grownBy w' v.ownBlock) (hat : v'.ownBlock = v.ownBlock ∨ v'.ownBlock = some w.heap.size)
    (hgF : ∀ g, v.ownBlock = some g → ¬ E.F g ∧ g < w.heap.size) (hFF : ∀ g, E.F g → g < w.heap.size) (hv : ∀ g, v.ownBlock = some g → ∃ n c, v = .slice (some ⟨g, 0, none⟩) n c)
    (hcl : ∀ (i : Nat) (e : List FC) (j : Nat) (c : FC), l[i]? = some e → e[j]? = some c → ∃ u, vals[i * sz + j]? = some u ∧ Rf w E.F c u)
    (hcm : ∀ (i : Nat) (e : List FC) (j : Nat) (c : FC), m[i]? = some e → e[j]? = some c → ∃ u, news[i * sz + j]? = some u ∧ Rf w E.F c u) :
    Upd E h w [b] (E.set b (l.length + m.length) v') (up h b (.row ty sz (l ++ m))) w' := by
  have hml : 0 < m.length := List.length_pos_iff.2 hne
  have le := En.set_le (v := v') (hnone (l.length + m.length) (by omega))
  have hag : Agree E.F w w' := fun k hk => hgr.block k (hFF k hk) (fun e => (hgF k e.symm).1 hk)
  have hsl : ∃ g c, v' = .slice (some ⟨g, 0, none⟩) (l.length + m.length) c := by
    rcases hown.2 with ⟨-, h2⟩ | ⟨g, c, cur, h1, -⟩
    · omega
    · exact ⟨g, c, h1⟩
  have hsome : ∃ g, v'.ownBlock = some g ∧ g < w'.heap.size := by
    rcases hown.2 with ⟨-, h2⟩ | ⟨g, c, cur, h1, -, h2, -⟩
    · omega
    · refine ⟨g, by rw [h1]; rfl, ?_⟩
      rcases Nat.lt_or_ge g w'.heap.size with hlt | hge
      · exact hlt
      · rw [Array.getElem?_eq_none hge] at h2; cases h2
  refine Upd.single le (fun _ h => h) hgr.os hgr.tape hgr.output hgr.size (fun k hk hno => hgr.block k hk fun e => ?_) (fun b' n hne => En.set_out _ _ _ _ hne)
    ⟨v', vals ++ news, by rw [List.length_append]; exact En.set_at _ _ _ _, by rw [List.length_append]; exact hown, fun i e hi => ?_, fun i e j c hi hj => ?_, fun n hn => ?_⟩ (fun g hg => ?_)
  · obtain ⟨n, c, e2⟩ := hv k e.symm
    exact hno _ hb ⟨n, c, by rw [hm, e2]⟩
  · rcases Nat.lt_or_ge i l.length with hlt | hge
    · rw [List.getElem?_append_left hlt] at hi; exact hsz i e hi
    · rw [List.getElem?_append_right hge] at hi; exact hszm _ e hi
  · have hjl : j < sz := by
      have h1 := (List.getElem?_eq_some_iff.1 hj).1
      have h2 : e.length = sz := by
        rcases Nat.lt_or_ge i l.length with hlt | hge
        · rw [List.getElem?_append_left hlt] at hi; exact hsz i e hi
        · rw [List.getElem?_append_right hge] at hi; exact hszm _ e hi
      omega
    rcases Nat.lt_or_ge i l.length with hlt | hge
    · rw [List.getElem?_append_left hlt] at hi
      obtain ⟨u, h1, h2⟩ := hcl i e j c hi hj
      have hlt2 : i * sz + j < vals.length := (List.getElem?_eq_some_iff.1 h1).1
      exact ⟨u, by rw [List.getElem?_append_left hlt2]; exact h1, h2.mono (fun _ h => h) hag⟩
    · rw [List.getElem?_append_right hge] at hi
      obtain ⟨u, h1, h2⟩ := hcm _ e j c hi hj
      have hle : l.length * sz ≤ i * sz := Nat.mul_le_mul_right _ hge
      refine ⟨u, ?_, h2.mono (fun _ h => h) hag⟩
      rw [List.getElem?_append_right (by omega), hvl, ← h1, Nat.sub_mul]
      congr 1; omega
  · rw [List.length_append] at hn
    rw [En.set_ne _ _ _ (by omega)]; exact hnone n (by omega)
  · obtain ⟨n, c, hg'⟩ := hg
    rw [List.length_append, En.set_at] at hg'
    simp at hg'
    obtain ⟨g0, h1, h2⟩ := hsome
    have hgg : g0 = g := by rw [hg'] at h1; simpa [Value.ownBlock] using h1.symm
    subst hgg
    rcases hat with h3 | h3
    · rw [h3] at h1
      obtain ⟨n', c', e2⟩ := hv _ h1
      exact ⟨.inr ⟨_, hb, ⟨n', c', by rw [hm, e2]⟩⟩, (hgF _ h1).1, h2⟩
    · rw [h3] at h1
      simp at h1
      subst h1
      exact ⟨.inl (Nat.le_refl _), fun hF => by have := hFF _ hF; omega, h2⟩

/-- An element of an own slice is written. -/
theorem Upd.setElem {E : En} {h : Nat → Option AB} {w w' : World} {b g : Nat} {ty sz : Nat} {l l' : List (List FC)} {n cap : Nat} {cur' : Array Value} (hb : h b = some (.row ty sz l)) (hm : E.m b l.length = some (.slice (some ⟨g, 0, none⟩) n cap))
    (hnone : ∀ n, l.length < n → E.m b n = none) (hgF : ¬ E.F g) (hgl : g < w.heap.size) (hll : l'.length = l.length) (hn : n = l.length)
    (os : w'.os = w.os) (tape : w'.tape = w.tape) (output : w'.output = w.output) (hsz : w'.heap.size = w.heap.size) (hoth : ∀ k, k ≠ g → w'.heap[k]? = w.heap[k]?) (hg : w'.heap[g]? = some (.cells cur' ty (0, 0)))
    (hcap : l.length ≤ cap) (hcm : cap ≤ maxLen) (hcs : cur'.size = cap * sz) (hes : ∀ (i : Nat) (e : List FC), l'[i]? = some e → e.length = sz)
    (hc : ∀ (i : Nat) (e : List FC) (j : Nat) (c : FC), l'[i]? = some e → e[j]? = some c → ∃ u, cur'[i * sz + j]? = some u ∧ Rf w E.F c u) : Upd E h w [b] E (up h b (.row ty sz l')) w' := by
  have hag : Agree E.F w w' := fun k hk => hoth k (fun e => hgF (e ▸ hk))
  have hle : l.length * sz ≤ cap * sz := Nat.mul_le_mul_right _ hcap
  have h0 : cur'.toList.length = cap * sz := by simpa using hcs
  refine Upd.single (.refl E) (fun _ h => h) os tape output (by omega) (fun k hk hno => hoth k fun e => hno _ hb ⟨n, cap, by rw [hm, e]⟩) (fun _ _ _ => rfl)
    ⟨_, cur'.toList.take (l.length * sz), by rw [hll]; exact hm, ⟨by rw [hll, List.length_take, h0]; omega, .inr ⟨g, cap, cur', by rw [hll, hn], Nat.zero_le _, hg, by omega, hcm, hcs, by rw [hll]⟩⟩, hes, fun i e j c hi hj => ?_, fun n hn => hnone n (by omega)⟩ (fun k hk => ?_)
  · obtain ⟨u, h1, h2⟩ := hc i e j c hi hj
    have h3 := (List.getElem?_eq_some_iff.1 hi).1
    have h4 := (List.getElem?_eq_some_iff.1 hj).1
    have h5 := hes i e hi
    have h6 : i * sz + j < l.length * sz := by
      have : (i + 1) * sz ≤ l.length * sz := Nat.mul_le_mul_right _ (by omega)
      rw [Nat.succ_mul] at this; omega
    exact ⟨u, by rw [List.getElem?_take_of_lt h6]; simpa using h1, h2.mono (fun _ h => h) hag⟩
  · obtain ⟨n', c', hk'⟩ := hk
    rw [hll, hm] at hk'
    simp at hk'
    obtain ⟨rfl, -, -⟩ := hk'
    exact ⟨.inr ⟨_, hb, ⟨n, cap, hm⟩⟩, hgF, by omega⟩

/-- The nil slice is seen as an own slice without elements. -/
theorem Upd.nilRow {E : En} {h : Nat → Option AB} {w : World} {b : Nat} (ty sz : Nat) (hm : ∀ n, E.m b n = none) (hb : h b = none) :
    Upd E h w [b] (E.set b 0 (.slice none 0 0)) (up h b (.row ty sz [])) w := by
  refine Upd.single (En.set_le (hm 0)) (fun _ h => h) rfl rfl rfl (Nat.le_refl _) (fun _ _ _ => rfl) (fun b' n hne => En.set_out _ _ _ _ hne)
    ⟨_, [], En.set_at _ _ _ _, ⟨by simp, .inl ⟨rfl, rfl⟩⟩, by simp, by simp, fun n hn => by rw [En.set_ne _ _ _ (by simp at hn; omega)]; exact hm n⟩ (fun g hg => ?_)
  obtain ⟨n, c, hg'⟩ := hg
  rw [List.length_nil, En.set_at] at hg'
  simp at hg'
end Go.Abs

/- A pure model of Go code, 4: the types, and the single operations in memory. -/
set_option linter.unusedVariables false
set_option linter.unusedSimpArgs false
namespace Go.Abs
open Go.RowKit

/-- What a type is, as far as it is asked. -/
inductive TK where
  | struct (fs : List (Nat × Nat × Nat))
  | slice (e : Nat)
  | int (k : IntKind)
  | bool | string
  | pointer (e : Nat)
  | map (k e : Nat)
  | array (n e : Nat)
  | other
structure TI where
  kind : TK
  size : Nat
  bytes : Nat
  zero : List Value
def TK.agg : TK → Bool
  | .struct _ => true
  | .array _ _ => true
  | _ => false
def fieldsOf (P : Program) : List Field → Option (List (Nat × Nat × Nat))
  | [] => some []
  | f :: r => match P.info? f.type, fieldsOf P r with | some i, some l => some ((f.type, f.offset, i.size) :: l) | _, _ => none
theorem fieldsOf_get {P : Program} : ∀ {fs : List Field} {l : List (Nat × Nat × Nat)}, fieldsOf P fs = some l → ∀ {j : Nat} {q : Nat × Nat × Nat}, l[j]? = some q →
    ∃ f i, fs[j]? = some f ∧ P.info? f.type = some i ∧ q = (f.type, f.offset, i.size)
  | [], l, h, j, q, hq => by simp only [fieldsOf, Option.some.injEq] at h; subst h; simp at hq
  | f :: r, l, h, j, q, hq => by
    unfold fieldsOf at h
    split at h
    · rename_i i l' hi hl
      injection h with h; subst h
      cases j with
      | zero => simp at hq; exact ⟨f, i, rfl, hi, hq.symm⟩
      | succ j => exact fieldsOf_get hl (by simpa using hq)
    · cases h
theorem fieldsOf_places {P : Program} : ∀ {fs : List Field} {l : List (Nat × Nat × Nat)}, fieldsOf P fs = some l → (fs.mapM fun f => (P.info? f.type).map fun i => (f.offset, i.size)) = some (l.map (·.2))
  | [], l, h => by simp only [fieldsOf, Option.some.injEq] at h; subst h; rfl
  | f :: r, l, h => by
    unfold fieldsOf at h
    split at h
    · rename_i i l' hi hl
      injection h with h; subst h
      simp [List.mapM_cons, hi, fieldsOf_places hl]
    · cases h
def kindOf (P : Program) : TypeDesc → Option TK
  | .struct fs => (fieldsOf P fs.toList).map .struct
  | .slice e => some (.slice e)
  | .int k => some (.int k)
  | .bool => some .bool
  | .string => some .string
  | .pointer e => some (.pointer e)
  | .map k e => some (.map k e)
  | .array n e => some (.array n e)
  | _ => some .other
def tyOf (P : Program) (t : Nat) : Option TI :=
  match P.info? t, P.underlying t with
  | some i, some d =>
    match i.zero, kindOf P d with
    | some z, some k => if z.cells.toList.all okV then some ⟨k, i.size, i.bytes, z.cells.toList⟩ else none
    | _, _ => none
  | _, _ => none
theorem tyOf_spec {P : Program} {t : Nat} {ti : TI} (h : tyOf P t = some ti) : ∃ i d z, P.info? t = some i ∧ P.underlying t = some d ∧ i.zero = some z ∧ kindOf P d = some ti.kind ∧ ti.size = i.size ∧ ti.bytes = i.bytes ∧ ti.zero = z.cells.toList ∧ ∀ u ∈ ti.zero, okV u = true := by
  unfold tyOf at h
  split at h
  · rename_i i d hi hd
    split at h
    · rename_i z k hz hk
      split at h
      · rename_i ha
        injection h with h
        subst h
        exact ⟨i, d, z, hi, hd, hz, hk, rfl, rfl, rfl, fun u hu => List.all_eq_true.1 ha u hu⟩
      · cases h
    · cases h
  · cases h
theorem sizeOf_run {P : Program} {t : Nat} {ti : TI} (h : tyOf P t = some ti) (w : World) : (sizeOf t).run P w = .ok ti.size w := by
  obtain ⟨i, d, z, hi, hd, hz, h1, h2, h3, h4, h5⟩ := tyOf_spec h
  simp [sizeOf, typeInfo, hi, h2]
theorem isAgg_run {P : Program} {t : Nat} {ti : TI} (h : tyOf P t = some ti) (w : World) : (isAgg t).run P w = .ok ti.kind.agg w := by
  obtain ⟨i, d, z, hi, hd, hz, h1, h2, h3, h4, h5⟩ := tyOf_spec h
  cases d <;> simp only [kindOf, Option.some.injEq, Option.map_eq_some_iff] at h1 <;> first | (obtain ⟨l, -, h1⟩ := h1; rw [← h1]; simp [isAgg, run_underlying hd, TK.agg]) | (rw [← h1]; simp [isAgg, run_underlying hd, TK.agg])

theorem add_lit (g o j : Nat) : (⟨g, o, none⟩ : Addr).add j = ⟨g, o + j, none⟩ := by
  unfold Addr.add; split <;> simp_all

/-- A variable is read. -/
theorem loadVar_run {P : Program} {t : Nat} {ti : TI} (h : tyOf P t = some ti) (w : World) (g o : Nat) (cs : List Value) (hl : cs.length = if ti.kind.agg then ti.size else 1)
    (hc : ∀ j u, cs[j]? = some u → w.cell? ⟨g, o + j, none⟩ = some u) :
    (loadVar t ⟨g, o, none⟩).run P w = .ok (if ti.kind.agg then .agg cs.toArray else cs.headD undef) w := by
  unfold loadVar
  simp only [Sem.run_bind, isAgg_run h, Result.andThen_ok]
  cases hk : ti.kind.agg
  · simp only [hk] at hl
    obtain ⟨u, rfl⟩ : ∃ u, cs = [u] := by
      match cs, hl with
      | [u], _ => exact ⟨u, rfl⟩
    have := hc 0 u rfl
    rw [Nat.add_zero] at this
    simp [run_load, this]
  · simp only [hk, if_true] at hl
    simp only [if_true, Sem.run_bind, sizeOf_run h, Result.andThen_ok]
    rw [← hl, run_loadCells_list w ⟨g, o, none⟩ cs (fun j v hj => by rw [add_lit]; exact hc j v hj)]
    rfl

/-- A variable is written. -/
theorem storeVar_run {P : Program} {t : Nat} {ti : TI} (h : tyOf P t = some ti) (w : World) (g o ty : Nat) (cur : Array Value) (v : Value) (hv : v.cells.size = ti.size) (h1 : ∀ u ∈ v.cells.toList, u.oneCell' = true)
    (hg : w.heap[g]? = some (.cells cur ty (0, 0))) (ho : o + ti.size ≤ cur.size) :
    (storeVar t ⟨g, o, none⟩ v).run P w = .ok () (w.setRow g (cur.toList.take o ++ v.cells.toList ++ cur.toList.drop (o + ti.size)).toArray) := by
  have h2 : v.cells.toList.length = ti.size := by simpa using hv
  have := run_storeCells_at (P := P) g o ty v.cells.toList 0 cur w hg (by rw [h2]; omega) h1
  rw [h2] at this
  unfold storeVar
  simp only [Sem.run_bind, sizeOf_run h, Result.andThen_ok, hv, ne_eq, not_true, if_false]
  simpa using this
theorem setRow_facts {w : World} {g ty : Nat} {cur cs : Array Value} (hg : w.heap[g]? = some (.cells cur ty (0, 0))) :
    (w.setRow g cs).os = w.os ∧ (w.setRow g cs).tape = w.tape ∧ (w.setRow g cs).output = w.output ∧ (w.setRow g cs).heap.size = w.heap.size ∧ (∀ k, k ≠ g → (w.setRow g cs).heap[k]? = w.heap[k]?) ∧ (w.setRow g cs).heap[g]? = some (.cells cs ty (0, 0)) := by
  refine ⟨rfl, rfl, rfl, by simp [World.setRow], fun k hk => ?_, setRow_heap w g cur cs ty (0, 0) hg⟩
  simp only [World.setRow, Array.getElem?_modify]
  rw [if_neg (by omega)]

/-- A list with a piece replaced. -/
def splice {α : Type} (l : List α) (o : Nat) (cs : List α) : List α := l.take o ++ cs ++ l.drop (o + cs.length)
theorem splice_len {α : Type} {l cs : List α} {o : Nat} (h : o + cs.length ≤ l.length) : (splice l o cs).length = l.length := by
  simp [splice]; omega
theorem splice_get {α : Type} {l cs : List α} {o : Nat} (h : o + cs.length ≤ l.length) (j : Nat) : (splice l o cs)[j]? = if j < o then l[j]? else if j < o + cs.length then cs[j - o]? else l[j]? := by
  unfold splice
  have h1 : (l.take o).length = o := by simp; omega
  split
  · rename_i hj
    rw [List.append_assoc, List.getElem?_append_left (by omega), List.getElem?_take_of_lt hj]
  · split
    · rename_i hj hj2
      rw [List.append_assoc, List.getElem?_append_right (by omega), h1, List.getElem?_append_left (by omega)]
    · rename_i hj hj2
      rw [List.getElem?_append_right (by simp; omega)]
      simp only [List.length_append, h1, List.getElem?_drop]
      congr 1; omega

/-- Two lists that belong together. -/
def All2 {α β : Type} (r : α → β → Prop) (l : List α) (m : List β) : Prop := m.length = l.length ∧ ∀ (j : Nat) (x : α), l[j]? = some x → ∃ u, m[j]? = some u ∧ r x u
theorem All2.splice {α β : Type} {r : α → β → Prop} {l cs : List α} {m ds : List β} {o : Nat} (h : All2 r l m) (k : All2 r cs ds) (ho : o + cs.length ≤ l.length) : All2 r (splice l o cs) (splice m o ds) := by
  have hm := h.1; have hd := k.1
  refine ⟨by rw [splice_len ho, splice_len (by omega), hm], fun j x hj => ?_⟩
  rw [splice_get ho] at hj
  rw [splice_get (by omega), hd]
  split at hj
  · rename_i h1; rw [if_pos h1]; exact h.2 j x hj
  · rename_i h1
    rw [if_neg h1]
    split at hj
    · rename_i h2; rw [if_pos h2]; exact k.2 _ x hj
    · rename_i h2; rw [if_neg h2]; exact h.2 j x hj
theorem All2.nil {α β : Type} (r : α → β → Prop) : All2 r [] [] := ⟨rfl, fun j x h => by simp at h⟩
theorem All2.cons {α β : Type} {r : α → β → Prop} {x : α} {u : β} {l : List α} {m : List β} (h : r x u) (k : All2 r l m) : All2 r (x :: l) (u :: m) :=
  ⟨by simp [k.1], fun j y hj => by
    cases j with
    | zero => simp at hj; subst hj; exact ⟨u, rfl, h⟩
    | succ j => simpa using k.2 j y (by simpa using hj)⟩
theorem All2.append {α β : Type} {r : α → β → Prop} {l l' : List α} {m m' : List β} (h : All2 r l m) (k : All2 r l' m') : All2 r (l ++ l') (m ++ m') := by
  refine ⟨by simp [h.1, k.1], fun j x hj => ?_⟩
  rcases Nat.lt_or_ge j l.length with hlt | hge
  · rw [List.getElem?_append_left hlt] at hj
    rw [List.getElem?_append_left (by rw [h.1]; exact hlt)]; exact h.2 j x hj
  · rw [List.getElem?_append_right hge] at hj
    rw [List.getElem?_append_right (by rw [h.1]; exact hge), h.1]; exact k.2 _ x hj
theorem All2.take {α β : Type} {r : α → β → Prop} {l : List α} {m : List β} (h : All2 r l m) (n : Nat) : All2 r (l.take n) (m.take n) := by
  refine ⟨by simp [h.1], fun j x hj => ?_⟩
  have hlt : j < n := by have := (List.getElem?_eq_some_iff.1 hj).1; simp at this; omega
  rw [List.getElem?_take_of_lt hlt] at hj ⊢
  exact h.2 j x hj
theorem All2.drop {α β : Type} {r : α → β → Prop} {l : List α} {m : List β} (h : All2 r l m) (n : Nat) : All2 r (l.drop n) (m.drop n) := by
  refine ⟨by simp [h.1], fun j x hj => ?_⟩
  rw [List.getElem?_drop] at hj ⊢
  exact h.2 _ x hj
theorem All2.mono {α β : Type} {r s : α → β → Prop} {l : List α} {m : List β} (h : All2 r l m) (k : ∀ x u, r x u → s x u) : All2 s l m :=
  ⟨h.1, fun j x hj => let ⟨u, h1, h2⟩ := h.2 j x hj; ⟨u, h1, k x u h2⟩⟩
theorem All2.mem {α β : Type} {r : α → β → Prop} {l : List α} {m : List β} (h : All2 r l m) {u : β} (hu : u ∈ m) : ∃ x ∈ l, r x u := by
  obtain ⟨j, hj, rfl⟩ := List.mem_iff_getElem.1 hu
  have hj' : j < l.length := by rw [← h.1]; exact hj
  obtain ⟨v, h1, h2⟩ := h.2 j l[j] (List.getElem?_eq_getElem hj')
  rw [List.getElem?_eq_getElem hj] at h1
  injection h1 with h1; subst h1
  exact ⟨_, List.getElem_mem hj', h2⟩

/-- What 'fill' does with one part. -/
theorem fill_step (off : Nat) (cells : Array Value) (cs : List Value) (k : Nat) (h : off + k + cs.length ≤ cells.size) :
    (((cs.zipIdx k).foldl (fun (a : Array Value) (p : Value × Nat) => a.setIfInBounds (off + p.2) p.1) cells)).toList = splice cells.toList (off + k) cs := by
  induction cs generalizing k cells with
  | nil => simp [splice]
  | cons c cs ih =>
    rw [List.zipIdx_cons, List.foldl_cons, ih _ _ (by simp at h ⊢; omega)]
    apply List.ext_getElem?
    intro j
    simp only [List.length_cons] at h
    rw [splice_get (by simp; omega), splice_get (by simp; omega)]
    simp only [Array.toList_setIfInBounds, List.getElem?_set, List.length_cons]
    by_cases h1 : j < off + k
    · rw [if_pos (by omega), if_neg (by omega), if_pos h1]
    · by_cases h2 : j = off + k
      · subst h2
        rw [if_pos (by omega), if_pos rfl, if_pos (by simp; omega), if_neg (by omega), if_pos (by omega)]
        simp
      · by_cases h3 : j < off + (k + 1) + cs.length
        · rw [if_neg (by omega), if_pos h3, if_neg h1, if_pos (by omega), show j - (off + k) = (j - (off + (k + 1))) + 1 by omega, List.getElem?_cons_succ]
        · rw [if_neg (by omega), if_neg h3, if_neg (by omega), if_neg h1, if_neg (by omega)]
/-- The cells of a value. -/
def cellsV : AV → Option (List AC)
  | .one c => some [c]
  | .agg l => some l
  | .tup _ => none
theorem cellsV_sound {w : World} {E : En} {x : AV} {v : Value} {cs : List AC} (h : Rv w E x v) (hc : cellsV x = some cs) : All2 (Rc w E) cs v.cells.toList ∧ (∀ u ∈ v.cells.toList, u.oneCell' = true) ∧ v.cells.size = cs.length := by
  have : All2 (Rc w E) cs v.cells.toList := by
    cases h with
    | one h =>
      simp only [cellsV, Option.some.injEq] at hc; subst hc
      have : v.cells = #[v] := by
        have := h.one_
        cases v <;> simp_all [Value.cells, Value.oneCell']
      rw [this]
      exact All2.cons h (All2.nil _)
    | agg hs hr =>
      simp only [cellsV, Option.some.injEq] at hc; subst hc
      exact ⟨by simpa [Value.cells] using hs, fun j x hj => by simpa [Value.cells] using hr j x hj⟩
    | tup => cases hc
  exact ⟨this, fun u hu => let ⟨x, _, hx⟩ := this.mem hu; hx.one_, by simpa using this.1⟩
/-- 'fill' over cells. -/
def afill (place : Nat → Option (Nat × Nat)) (cells : List AC) : List (Nat × AV) → Option (List AC)
  | [] => some cells
  | p :: rest =>
    match place p.1, cellsV p.2 with
    | some q, some cs => if cs.length = q.2 ∧ q.1 + cs.length ≤ cells.length then afill place (splice cells q.1 cs) rest else none
    | _, _ => none
theorem afill_sound {w : World} {E : En} (place : Nat → Option (Nat × Nat)) : ∀ (ps : List (Nat × AV)) (vs : List (Nat × Value)) (cells : List AC) (out : List AC) (cv : Array Value), All2 (fun p q => q.1 = p.1 ∧ Rv w E p.2 q.2) ps vs →
    All2 (Rc w E) cells cv.toList → afill place cells ps = some out → ∃ ov, Instr.fill place cv vs = some ov ∧ All2 (Rc w E) out ov.toList
  | [], vs, cells, out, cv, h, hc, ha => by
    have : vs = [] := List.length_eq_zero_iff.1 h.1
    subst this
    simp only [afill, Option.some.injEq] at ha; subst ha
    exact ⟨cv, rfl, hc⟩
  | p :: ps, vs, cells, out, cv, h, hc, ha => by
    obtain ⟨q, vs', rfl⟩ : ∃ q vs', vs = q :: vs' := by
      cases vs with
      | nil => have := h.1; simp at this
      | cons q vs' => exact ⟨q, vs', rfl⟩
    obtain ⟨q', hq, hq1, hq2⟩ := h.2 0 p rfl
    simp at hq; subst hq
    unfold afill at ha
    split at ha
    · rename_i pl cs hp hcs
      split at ha
      · rename_i hcond
        obtain ⟨h1, h2, h3⟩ := cellsV_sound hq2 hcs
        have hcl := hc.1
        have hrest : All2 (fun (p : Nat × AV) (q : Nat × Value) => q.1 = p.1 ∧ Rv w E p.2 q.2) ps vs' := ⟨by have := h.1; simpa using this, fun j x hj => by simpa using h.2 (j + 1) x (by simpa using hj)⟩
        have hst := fill_step pl.1 cv q.2.cells.toList 0 (by simp at hcl; simp; omega)
        have hsp := hc.splice h1 hcond.2
        obtain ⟨ov, h4, h5⟩ := afill_sound place ps vs' _ out (q.2.cells.zipIdx.foldl (fun a p => a.setIfInBounds (pl.1 + p.2) p.1) cv) hrest (by
          have e : (q.2.cells.zipIdx.foldl (fun a p => a.setIfInBounds (pl.1 + p.2) p.1) cv).toList = splice cv.toList pl.1 q.2.cells.toList := by
            rw [Nat.add_zero] at hst
            rw [← hst]
            rw [← Array.foldl_toList]
            simp
          rw [e]; exact hsp) ha
        refine ⟨ov, ?_, h5⟩
        obtain ⟨qi, qv⟩ := q
        simp only at hq1 h3 h4
        subst hq1
        unfold Instr.fill
        simp only [hp]
        rw [if_neg (by simp at hcl; simp [h3]; omega)]
        exact h4
      · cases ha
    · cases ha
end Go.Abs

/- A pure model of Go code, 5: what single operations compute: slots, loads, stores, boxes. -/
set_option linter.unusedVariables false
set_option linter.unusedSimpArgs false
namespace Go.Abs
open Go.RowKit

def cv : Value → Option AV
  | .agg cs => if cs.toList.all okV then some (.agg (cs.toList.map fun u => .f (.v u))) else none
  | .tuple _ => none
  | .string s => if okV (.string s) then some (.one (.f (.v (.string s)))) else none
  | v => some (.one (.f (.v v)))
def evT (t : Nat → Option AV) : Operand → Option AV
  | .tmp i => t i
  | .const v => cv v
  | .global _ => none
  | .func f => some (.one (.fn (.func f) []))
theorem All2.vals {w : World} {E : En} : ∀ {cs : List Value}, (∀ u ∈ cs, okV u = true) → All2 (Rc w E) (cs.map fun u => AC.f (.v u)) cs
  | [], _ => All2.nil _
  | u :: cs, h => All2.cons (.f (.v u (h u (by simp)))) (All2.vals fun x hx => h x (by simp [hx]))
theorem Rv.ofAll2 {w : World} {E : En} {l : List AC} {vs : Array Value} (h : All2 (Rc w E) l vs.toList) : Rv w E (.agg l) (.agg vs) :=
  .agg (by simpa using h.1) fun j c hj => by simpa using h.2 j c hj
theorem cv_sound {w : World} {E : En} {v : Value} {x : AV} (h : cv v = some x) : Rv w E x v := by
  cases v with
  | agg cs =>
    simp only [cv] at h
    split at h
    · rename_i ha
      injection h with h; subst h
      exact Rv.ofAll2 (All2.vals fun u hu => List.all_eq_true.1 ha u hu)
    · cases h
  | tuple vs => cases h
  | string s =>
    simp only [cv] at h
    split at h
    · rename_i ho; injection h with h; subst h; exact .one (.f (.v _ ho))
    · cases h
  | _ => simp only [cv, Option.some.injEq] at h; subst h; exact .one (.f (.v _ rfl))
section
variable {P : Program} {fr : Fr} {E : En} {t : Nat → Option AV} {h : Nat → Option AB} {nx : Nat} {a : Act} {w : World}
theorem ev_sound (r : R fr E t h nx a w) {x : Operand} {y : AV} (hx : evT t x = some y) : Rv w E y (a.eval x) := by
  cases x with
  | tmp i => exact r.eval hx
  | const v => exact cv_sound hx
  | global g => cases hx
  | func f => simp only [evT, Option.some.injEq] at hx; subst hx; exact .one (.fn (fun _ => undef) rfl (fun j c hj => by simp at hj) (fun j c hj => by simp at hj))

def ups {α : Type} (h : Nat → Option α) : List (Nat × α) → Nat → Option α
  | [] => h
  | p :: r => ups (up h p.1 p.2) r
/-- What is to be shown of an operation. -/
def Sound (P : Program) (E : En) (h : Nat → Option AB) (a : Act) (w : World) (o : Oper) (x : Option AV) (ws : List (Nat × AB)) : Prop :=
  ∃ res w' E', (execOp a.eval o).run P w = .ok res w' ∧ ((∃ v, res = .value v ∧ ∀ y, x = some y → Rv w' E' y v) ∨ (res = .skip ∧ x = none)) ∧ Upd E h w (ws.map (·.1)) E' (ups h ws) w'
theorem Sound.same {o : Oper} {x : Option AV} {v : Value} (hr : (execOp a.eval o).run P w = .ok (.value v) w) (hv : ∀ y, x = some y → Rv w E y v) : Sound P E h a w o x [] :=
  ⟨_, w, E, hr, .inl ⟨v, rfl, hv⟩, Upd.refl E h w⟩

/-- Where a pointer leads. -/
def readAt (h : Nat → Option AB) : AV → Option (List AC × Nat)
  | .one (.ptr b off) => match h b with | some (.box _ l) => some (l, off) | _ => none
  | .one (.ep b n sz i off) => match h b with
    | some (.row _ sz' l) => if l.length = n ∧ sz' = sz then (match l[i]? with | some e => some (e.map .f, off) | none => none) else none
    | _ => none
  | .one (.fp l) => some (l.map .f, 0)
  | _ => none
theorem own_get {ty sz n : Nat} {v : Value} {vals : List Value} (hown : w.ownsRow 0 ty sz v n vals) {i : Nat} (hi : i < vals.length) : ∃ g cap cur, v = .slice (some ⟨g, 0, none⟩) n cap ∧ w.heap[g]? = some (.cells cur ty (0, 0)) ∧ n ≤ cap ∧ cap ≤ maxLen ∧ cur.size = cap * sz ∧ cur.toList.take (n * sz) = vals := by
  rcases hown.2 with ⟨h1, h2⟩ | ⟨g, cap, cur, h1, -, h2, h3, h4, h5, h6⟩
  · have := hown.1; rw [h2] at this; omega
  · exact ⟨g, cap, cur, h1, h2, h3, h4, h5, h6⟩
theorem cell_take {g ty m : Nat} {cur : Array Value} {vals : List Value} (hg : w.heap[g]? = some (.cells cur ty (0, 0))) (ht : cur.toList.take m = vals) {j : Nat} {u : Value} (hj : vals[j]? = some u) : w.cell? ⟨g, j, none⟩ = some u := by
  have hlt : j < m := by
    have := (List.getElem?_eq_some_iff.1 hj).1
    rw [← ht] at this; simp at this; omega
  rw [← ht, List.getElem?_take_of_lt hlt] at hj
  simp only [World.cell?, hg]
  simpa using hj
theorem mul_lt {i n sz j : Nat} (hi : i < n) (hj : j < sz) : i * sz + j < n * sz := by
  have : (i + 1) * sz ≤ n * sz := Nat.mul_le_mul_right _ (by omega)
  rw [Nat.succ_mul] at this; omega
theorem All2.map {α β γ : Type} {r : α → β → Prop} {s : γ → β → Prop} (f : α → γ) {l : List α} {m : List β} (h : All2 r l m) (k : ∀ x u, r x u → s (f x) u) : All2 s (l.map f) m :=
  ⟨by simp [h.1], fun j x hj => by
    rw [List.getElem?_map] at hj
    cases hl : l[j]? with
    | none => rw [hl] at hj; cases hj
    | some y =>
      rw [hl] at hj; simp at hj; subst hj
      obtain ⟨u, h1, h2⟩ := h.2 j y hl
      exact ⟨u, h1, k _ _ h2⟩⟩
theorem row_elem {b ty sz : Nat} {l : List (List FC)} (hb : Rb w E b (.row ty sz l)) {i : Nat} {e : List FC} (hi : l[i]? = some e) :
    ∃ g cap cur, E.m b l.length = some (.slice (some ⟨g, 0, none⟩) l.length cap) ∧ w.heap[g]? = some (.cells cur ty (0, 0)) ∧ l.length ≤ cap ∧ cap ≤ maxLen ∧ cur.size = cap * sz ∧ e.length = sz ∧
      ∃ ev : List Value, All2 (Rf w E.F) e ev ∧ (∀ j u, ev[j]? = some u → w.cell? ⟨g, i * sz + j, none⟩ = some u) ∧ ∀ j u, ev[j]? = some u → cur[i * sz + j]? = some u := by
  obtain ⟨v, vals, h1, h2, h3, h4, h5⟩ := hb
  have hil := (List.getElem?_eq_some_iff.1 hi).1
  have he := h3 i e hi
  have hvl := h2.1
  by_cases hsz : sz = 0
  · subst hsz
    have he0 : e = [] := List.length_eq_zero_iff.1 he
    subst he0
    rcases h2.2 with ⟨hv, hn⟩ | ⟨g, cap, cur, hv, -, hg, hc1, hc2, hc3, hc4⟩
    · omega
    · exact ⟨g, cap, cur, by rw [h1, hv], hg, hc1, hc2, hc3, he, [], All2.nil _, fun j u hj => by simp at hj, fun j u hj => by simp at hj⟩
  have hlt := mul_lt (j := 0) hil (Nat.pos_of_ne_zero hsz)
  obtain ⟨g, cap, cur, hv, hg, hc1, hc2, hc3, hc4⟩ := own_get h2 (i := i * sz + 0) (by omega)
  subst hv
  have hget : ∀ j u, ((vals.drop (i * sz)).take sz)[j]? = some u → vals[i * sz + j]? = some u := fun j u hj => by
    have hjl : j < sz := by have := (List.getElem?_eq_some_iff.1 hj).1; simp at this; omega
    rw [List.getElem?_take_of_lt hjl, List.getElem?_drop] at hj
    exact hj
  refine ⟨g, cap, cur, h1, hg, hc1, hc2, hc3, he, (vals.drop (i * sz)).take sz, ⟨?_, fun j c hj => ?_⟩, fun j u hj => cell_take hg hc4 (hget j u hj), fun j u hj => ?_⟩
  · have : i * sz + sz ≤ l.length * sz := by have := Nat.mul_le_mul_right sz (show i + 1 ≤ l.length by omega); rw [Nat.succ_mul] at this; exact this
    simp; omega
  · obtain ⟨u, h6, h7⟩ := h4 i e j c hi hj
    have hjl : j < sz := by have := (List.getElem?_eq_some_iff.1 hj).1; omega
    exact ⟨u, by rw [List.getElem?_take_of_lt hjl, List.getElem?_drop]; exact h6, h7⟩
  · have h6 := hget j u hj
    have hlt2 : i * sz + j < l.length * sz := by have := (List.getElem?_eq_some_iff.1 h6).1; omega
    rw [← hc4, List.getElem?_take_of_lt hlt2] at h6
    simpa using h6
theorem read_sound (r : R fr E t h nx a w) {x : AV} {v : Value} {cells : List AC} {off : Nat} (hv : Rv w E x v) (hx : readAt h x = some (cells, off)) :
    ∃ g base cvals, v = .pointer (some ⟨g, base + off, none⟩) ∧ All2 (Rc w E) cells cvals ∧ ∀ j u, cvals[j]? = some u → w.cell? ⟨g, base + j, none⟩ = some u := by
  cases hv with
  | agg => cases hx
  | tup => cases hx
  | one hc =>
    cases hc with
    | f => cases hx
    | row => cases hx
    | fn => cases hx
    | @ptr b o g hm =>
      simp only [readAt] at hx
      split at hx
      · rename_i ty l hb
        simp only [Option.some.injEq, Prod.mk.injEq] at hx
        obtain ⟨rfl, rfl⟩ := hx
        obtain ⟨g', vs, h1, h2, h3, h4⟩ := r.blk b _ hb
        rw [hm] at h1
        have : g = g' := by simpa using h1
        subst this
        refine ⟨g, 0, vs.toList, by simp, ⟨by simpa using h3, fun j c hj => by simpa using h4 j c hj⟩, fun j u hj => ?_⟩
        simp only [World.cell?, h2]
        simpa using hj
      · cases hx
    | @ep b n sz i o g c hm =>
      simp only [readAt] at hx
      split at hx
      · rename_i ty sz' l hb
        split at hx
        · rename_i hcond
          obtain ⟨rfl, rfl⟩ := hcond
          split at hx
          · rename_i e hi
            simp only [Option.some.injEq, Prod.mk.injEq] at hx
            obtain ⟨rfl, rfl⟩ := hx
            obtain ⟨g', cap, cur, h1, -, -, -, -, -, ev, h2, h3, -⟩ := row_elem (r.blk b _ hb) hi
            rw [hm] at h1
            have : g = g' := by simp at h1; exact h1.1
            subst this
            exact ⟨g, i * sz', ev, rfl, h2.map _ (fun x u hx => .f hx), h3⟩
          · cases hx
        · cases hx
      · cases hx
    | @fp l g o vals hF hcell hr =>
      simp only [readAt, Option.some.injEq, Prod.mk.injEq] at hx
      obtain ⟨rfl, rfl⟩ := hx
      refine ⟨g, o, (List.range l.length).map vals, rfl, ⟨by simp, fun j c hj => ?_⟩, fun j u hj => ?_⟩
      · rw [List.getElem?_map] at hj
        cases hl : l[j]? with
        | none => rw [hl] at hj; cases hj
        | some y =>
          rw [hl] at hj; simp at hj; subst hj
          have hjl := (List.getElem?_eq_some_iff.1 hl).1
          exact ⟨vals j, by simp [hjl], .f (hr j y hl)⟩
      · have hjl : j < l.length := by have := (List.getElem?_eq_some_iff.1 hj).1; simpa using this
        simp [hjl] at hj
        subst hj
        exact hcell j _ (List.getElem?_eq_getElem hjl)
def ldv (ti : TI) (cells : List AC) (off : Nat) : Option AV :=
  if ti.kind.agg then (if off + ti.size ≤ cells.length then some (.agg ((cells.drop off).take ti.size)) else none) else (match cells[off]? with | some c => some (.one c) | none => none)
def plLoad (P : Program) (h : Nat → Option AB) (t : Nat) (x : AV) : Option AV :=
  match tyOf P t, readAt h x with
  | some ti, some p => ldv ti p.1 p.2
  | _, _ => none
theorem ldv_sound {ty : Nat} {ti : TI} (hti : tyOf P ty = some ti) {cells : List AC} {cvals : List Value} {off g base : Nat} {y : AV} (h2 : All2 (Rc w E) cells cvals) (h3 : ∀ j u, cvals[j]? = some u → w.cell? ⟨g, base + j, none⟩ = some u)
    (hy : ldv ti cells off = some y) : ∃ v, (loadVar ty ⟨g, base + off, none⟩).run P w = .ok v w ∧ Rv w E y v := by
  unfold ldv at hy
  have hl := h2.1
  cases hk : ti.kind.agg
  · simp only [hk, Bool.false_eq_true, if_false] at hy
    split at hy
    · rename_i c hc
      simp only [Option.some.injEq] at hy; subst hy
      obtain ⟨u, h4, h5⟩ := h2.2 off c hc
      have := loadVar_run hti w g (base + off) [u] (by simp [hk]) (fun j v hj => by
        cases j with
        | zero => simp at hj; subst hj; exact h3 off _ h4
        | succ j => simp at hj)
      simp only [hk, Bool.false_eq_true, if_false, List.headD_cons] at this
      exact ⟨u, this, .one h5⟩
    · cases hy
  · simp only [hk, if_true] at hy
    split at hy
    · rename_i hle
      simp only [Option.some.injEq] at hy; subst hy
      have := loadVar_run hti w g (base + off) ((cvals.drop off).take ti.size) (by simp [hk]; omega) (fun j v hj => by
        have hjl : j < ti.size := by have := (List.getElem?_eq_some_iff.1 hj).1; simp at this; omega
        rw [List.getElem?_take_of_lt hjl, List.getElem?_drop] at hj
        rw [Nat.add_assoc]; exact h3 _ _ hj)
      simp only [hk, if_true] at this
      exact ⟨_, this, Rv.ofAll2 (by simpa using (h2.drop off).take ti.size)⟩
    · cases hy
theorem load_sound (r : R fr E t h nx a w) {o : Oper} {ty : Nat} {x : Operand} (ho : o.op = .load ty x) {xv y : AV} (hx : evT t x = some xv) (hy : plLoad P h ty xv = some y) : Sound P E h a w o (some y) [] := by
  unfold plLoad at hy
  split at hy
  · rename_i ti p hti hp
    obtain ⟨g, base, cvals, hv, h2, h3⟩ := read_sound r (ev_sound r hx) (cells := p.1) (off := p.2) hp
    obtain ⟨v, h4, h5⟩ := ldv_sound hti h2 h3 hy
    refine Sound.same (v := v) ?_ (fun y' e => by injection e with e; subst e; exact h5)
    unfold execOp
    simp only [ho, hv, Instr.loadAt, Instr.sureAddr, Sem.run_bind, Sem.run_pure, Result.andThen_ok, h4]
  · cases hy

/-- All cells are read only. -/
def toF : AC → Option FC
  | .f c => some c
  | _ => none
def allF : List AC → Option (List FC)
  | [] => some []
  | c :: r => match toF c, allF r with | some x, some y => some (x :: y) | _, _ => none
theorem allF_sound : ∀ {cs : List AC} {fs : List FC} {vs : List Value}, allF cs = some fs → All2 (Rc w E) cs vs → All2 (Rf w E.F) fs vs ∧ fs.length = cs.length
  | [], fs, vs, hf, hv => by
    simp only [allF, Option.some.injEq] at hf; subst hf
    exact ⟨⟨hv.1, fun j x hj => by simp at hj⟩, rfl⟩
  | c :: r, fs, vs, hf, hv => by
    unfold allF at hf
    split at hf
    · rename_i x y hx hy
      injection hf with hf; subst hf
      obtain ⟨u, vs', rfl⟩ : ∃ u vs', vs = u :: vs' := by
        cases vs with
        | nil => have := hv.1; simp at this
        | cons u vs' => exact ⟨u, vs', rfl⟩
      obtain ⟨u', h1, h2⟩ := hv.2 0 c rfl
      simp at h1; subst h1
      have ih := allF_sound hy (vs := vs') ⟨by have := hv.1; simpa using this, fun j x hj => by simpa using hv.2 (j + 1) x (by simpa using hj)⟩
      refine ⟨All2.cons ?_ ih.1, by simp [ih.2]⟩
      cases c with
      | f c => simp only [toF, Option.some.injEq] at hx; subst hx; cases h2 with | f h => exact h
      | _ => cases hx
    · cases hf
end
end Go.Abs

/- A pure model of Go code, 6: stores, new blocks, fields, elements. -/
set_option linter.unusedVariables false
set_option linter.unusedSimpArgs false
namespace Go.Abs
open Go.RowKit

section
variable {P : Program} {fr : Fr} {E : En} {t : Nat → Option AV} {h : Nat → Option AB} {nx : Nat} {a : Act} {w : World}

theorem Rv.ptr_inv {b off : Nat} {v : Value} (h : Rv w E (.one (.ptr b off)) v) : ∃ g, v = .pointer (some ⟨g, off, none⟩) ∧ E.m b 0 = some (.pointer (some ⟨g, 0, none⟩)) := by
  cases h with | one h => cases h with | ptr h => exact ⟨_, rfl, h⟩
theorem Rv.ep_inv {b n sz i off : Nat} {v : Value} (h : Rv w E (.one (.ep b n sz i off)) v) : ∃ g c, v = .pointer (some ⟨g, i * sz + off, none⟩) ∧ E.m b n = some (.slice (some ⟨g, 0, none⟩) n c) := by
  cases h with | one h => cases h with | ep h => exact ⟨_, _, rfl, h⟩
theorem Rv.row_inv {b n : Nat} {v : Value} (h : Rv w E (.one (.row b n)) v) : ∃ A c, v = .slice A n c ∧ E.m b n = some (.slice A n c) := by
  cases h with | one h => cases h with | row h => exact ⟨_, _, rfl, h⟩
theorem Rv.val_inv {x v : Value} (h : Rv w E (.one (.f (.v x))) v) : v = x := by
  cases h with | one h => cases h with | f h => cases h with | v => rfl
theorem Rv.agg_inv {l : List AC} {v : Value} (h : Rv w E (.agg l) v) : ∃ vs, v = .agg vs ∧ All2 (Rc w E) l vs.toList := by
  cases h with | @agg _ vs hs hr => exact ⟨vs, rfl, ⟨by simpa using hs, fun j c hj => by simpa using hr j c hj⟩⟩
theorem Rv.fz_inv {sz : Nat} {l : List (List FC)} {v : Value} (h : Rv w E (.one (.f (.fz sz l))) v) : ∃ A c, v = .slice A l.length c ∧ Rf w E.F (.fz sz l) v := by
  cases h with | one h => cases h with | f h => cases h with | fz sz l A cap g off vals h1 h2 h3 h4 h5 h6 h7 => exact ⟨A, cap, rfl, .fz sz l A cap g off vals h1 h2 h3 h4 h5 h6 h7⟩

def plStore (P : Program) (h : Nat → Option AB) (ty : Nat) (p x : AV) : Option (List (Nat × AB)) :=
  match tyOf P ty, cellsV x with
  | some ti, some cs =>
    if cs.length = ti.size then
      match p with
      | .one (.ptr b off) => (match h b with
        | some (.box ty l) => if off + cs.length ≤ l.length then some [(b, .box ty (splice l off cs))] else none
        | _ => none)
      | .one (.ep b n sz i off) => (match h b, allF cs with
        | some (.row ty sz' l), some fs => if l.length = n ∧ sz' = sz then (match l[i]? with
          | some e => if off + fs.length ≤ e.length then some [(b, .row ty sz' (l.set i (splice e off fs)))] else none
          | none => none) else none
        | _, _ => none)
      | _ => none
    else none
  | _, _ => none
theorem store_sound (r : R fr E t h nx a w) {o : Oper} {ty : Nat} {p x : Operand} (ho : o.op = .store ty p x) {pv xv : AV} {ws : List (Nat × AB)} (hp : evT t p = some pv) (hx : evT t x = some xv) (hy : plStore P h ty pv xv = some ws) : Sound P E h a w o none ws := by
  unfold plStore at hy
  split at hy
  case h_2 => cases hy
  rename_i ti cs hti hcs
  split at hy
  case isFalse => cases hy
  rename_i hlen
  obtain ⟨hx1, hx2, hx3⟩ := cellsV_sound (ev_sound r hx) hcs
  have hpv := ev_sound r hp
  have hvl : (a.eval x).cells.toList.length = cs.length := hx1.1
  have hvs : (a.eval x).cells.size = ti.size := by rw [hx3, hlen]
  split at hy
  · rename_i b off
    split at hy
    case h_2 => cases hy
    rename_i ty' l hb
    split at hy
    case isFalse => cases hy
    rename_i hle
    simp only [Option.some.injEq] at hy; subst hy
    obtain ⟨g, hpe, hm⟩ := hpv.ptr_inv
    obtain ⟨g', vs, h1, h2, h3, h4⟩ := r.blk b _ hb
    rw [hm] at h1
    have : g = g' := by simpa using h1
    subst this
    have hrun := storeVar_run (P := P) hti w g off ty' vs (a.eval x) hvs hx2 h2 (by omega)
    obtain ⟨f1, f2, f3, f4, f5, f6⟩ := setRow_facts (cs := (vs.toList.take off ++ (a.eval x).cells.toList ++ vs.toList.drop (off + ti.size)).toArray) h2
    have hall : All2 (Rc w E) l vs.toList := ⟨by simpa using h3, fun j c hj => by simpa using h4 j c hj⟩
    have hsp := hall.splice hx1 hle
    have hown := r.own b _ g hb hm
    refine ⟨_, _, E, ?_, .inr ⟨rfl, rfl⟩, Upd.store hb hm hown.2.1 hown.2.2 f1 f2 f3 f4 f5 f6 ?_ (fun j c hj => ?_)⟩
    · unfold execOp
      simp only [ho, hpe, Instr.storeAt, Instr.sureAddr, Sem.run_bind, Sem.run_pure, Result.andThen_ok, hrun]
    · have := hsp.1
      simp only [splice] at this ⊢
      rw [hvl] at this
      rw [hlen] at this ⊢
      simpa using this
    · obtain ⟨u, h5, h6⟩ := hsp.2 j c hj
      refine ⟨u, ?_, h6⟩
      simp only [splice] at h5
      rw [hvl, hlen] at h5
      simpa using h5
  · rename_i b n sz i off
    split at hy
    case h_2 => cases hy
    rename_i ty' sz' l fs hb hfs
    split at hy
    case isFalse => cases hy
    rename_i hcond
    obtain ⟨rfl, rfl⟩ := hcond
    split at hy
    case h_2 => cases hy
    rename_i e hi
    split at hy
    case isFalse => cases hy
    rename_i hle
    simp only [Option.some.injEq] at hy; subst hy
    obtain ⟨g, c0, hpe, hm⟩ := hpv.ep_inv
    obtain ⟨g', cap, cur, h1, h2, h3, h4, h5, h6, ev, h7, h8, h9⟩ := row_elem (r.blk b _ hb) hi
    rw [hm] at h1
    simp only [Option.some.injEq, Value.slice.injEq, Addr.mk.injEq, and_true, true_and] at h1
    obtain ⟨rfl, rfl⟩ := h1
    obtain ⟨hfa, hfl⟩ := allF_sound hfs hx1
    have hil := (List.getElem?_eq_some_iff.1 hi).1
    have hlt : i * sz' + sz' ≤ c0 * sz' := by have := Nat.mul_le_mul_right sz' (show i + 1 ≤ c0 by omega); rw [Nat.succ_mul] at this; exact this
    have hfl2 : fs.length = ti.size := by omega
    have hrun := storeVar_run (P := P) hti w g (i * sz' + off) ty' cur (a.eval x) hvs hx2 h2 (by rw [h5]; omega)
    obtain ⟨f1, f2, f3, f4, f5, f6⟩ := setRow_facts (cs := (cur.toList.take (i * sz' + off) ++ (a.eval x).cells.toList ++ cur.toList.drop (i * sz' + off + ti.size)).toArray) h2
    obtain ⟨v0, vals0, k1, k2, k3, k4, k5⟩ := r.blk b _ hb
    have hown := r.own b _ g hb ⟨_, _, hm⟩
    have hcur : cur.toList.length = c0 * sz' := by simpa using h5
    have hnew : ∀ _ : Nat, (cur.toList.take (i * sz' + off) ++ (a.eval x).cells.toList ++ cur.toList.drop (i * sz' + off + ti.size)) = splice cur.toList (i * sz' + off) (a.eval x).cells.toList := fun _ => by simp only [splice]; rw [hvl, hlen]
    have hspl : i * sz' + off + (a.eval x).cells.toList.length ≤ cur.toList.length := by rw [hvl, hcur]; omega
    refine ⟨_, _, E, ?_, .inr ⟨rfl, rfl⟩, Upd.setElem (l' := l.set i (splice e off fs)) hb hm k5 hown.2.1 hown.2.2 (by simp) rfl f1 f2 f3 f4 f5 f6 h3 h4 ?_ (fun i' e' hi' => ?_) (fun i' e' j c hi' hj => ?_)⟩
    · unfold execOp
      simp only [ho, hpe, Instr.storeAt, Instr.sureAddr, Sem.run_bind, Sem.run_pure, Result.andThen_ok, hrun]
    · rw [hnew 0]
      have := splice_len hspl
      simp [this, h5]
    · by_cases hii : i = i'
      · subst hii
        rw [List.getElem?_set_self hil] at hi'
        injection hi' with hi'; subst hi'
        rw [splice_len (by omega)]; exact h6
      · rw [List.getElem?_set_ne hii] at hi'; exact k3 i' e' hi'
    · rw [hnew 0]
      simp only [List.getElem?_toArray]
      rw [splice_get hspl, hvl]
      by_cases hii : i = i'
      · subst hii
        rw [List.getElem?_set_self hil] at hi'
        injection hi' with hi'; subst hi'
        rw [splice_get (by omega)] at hj
        by_cases c1 : j < off
        · rw [if_pos c1] at hj; rw [if_pos (by omega)]
          obtain ⟨u, h10, h11⟩ := h7.2 j c hj
          exact ⟨u, by simpa using h9 j u h10, h11⟩
        · rw [if_neg c1] at hj; rw [if_neg (by omega)]
          by_cases c2 : j < off + fs.length
          · rw [if_pos c2] at hj; rw [if_pos (by omega), show i * sz' + j - (i * sz' + off) = j - off by omega]
            exact hfa.2 _ c hj
          · rw [if_neg c2] at hj; rw [if_neg (by omega)]
            obtain ⟨u, h10, h11⟩ := h7.2 j c hj
            exact ⟨u, by simpa using h9 j u h10, h11⟩
      · rw [List.getElem?_set_ne hii] at hi'
        have hjl : j < sz' := by have := (List.getElem?_eq_some_iff.1 hj).1; rw [k3 i' e' hi'] at this; exact this
        have hor : i' * sz' + j < i * sz' + off ∨ i * sz' + off + cs.length ≤ i' * sz' + j := by
          rcases Nat.lt_or_gt_of_ne hii with hlt2 | hgt
          · have := Nat.mul_le_mul_right sz' (show i + 1 ≤ i' by omega); rw [Nat.succ_mul] at this; right; omega
          · have := Nat.mul_le_mul_right sz' (show i' + 1 ≤ i by omega); rw [Nat.succ_mul] at this; left; omega
        have hre := row_elem (r.blk b _ hb) hi'
        obtain ⟨g2, cap2, cur2, q1, q2, -, -, -, -, ev2, q7, q8, q9⟩ := hre
        rw [hm] at q1
        simp only [Option.some.injEq, Value.slice.injEq, Addr.mk.injEq, and_true, true_and] at q1
        obtain ⟨rfl, rfl⟩ := q1
        rw [h2] at q2
        simp only [Option.some.injEq, Obj.cells.injEq, and_true] at q2
        obtain ⟨rfl⟩ := q2
        obtain ⟨u, h10, h11⟩ := q7.2 j c hj
        refine ⟨u, ?_, h11⟩
        have := q9 j u h10
        split
        · simpa using this
        · rw [if_neg (by omega)]; simpa using this
  · cases hy

theorem R.lt (r : R fr E t h nx a w) : ∀ g, E.F g → g < w.heap.size := fun g hg => (r.hF2 g hg).1
def plAlloc (P : Program) (ty nid : Nat) : Option (AV × List (Nat × AB)) :=
  match tyOf P ty with
  | some ti => some (.one (.ptr nid 0), [(nid, .box ty (ti.zero.map fun u => .f (.v u)))])
  | none => none
theorem alloc_sound (r : R fr E t h nx a w) {o : Oper} {ty nid : Nat} (ho : o.op = .alloc ty) {y : AV} {ws : List (Nat × AB)} (hn : nx ≤ nid) (hb : h nid = none) (hy : plAlloc P ty nid = some (y, ws)) : Sound P E h a w o (some y) ws := by
  unfold plAlloc at hy
  split at hy
  case h_2 => cases hy
  rename_i ti hti
  simp only [Option.some.injEq, Prod.mk.injEq] at hy
  obtain ⟨rfl, rfl⟩ := hy
  obtain ⟨i, d, z, hi, hd, hz, h1, h2, h3, h4, h5⟩ := tyOf_spec hti
  have hall : All2 (Rc w E) (ti.zero.map fun u => AC.f (.v u)) z.cells.toList := by rw [h4] at h5 ⊢; exact All2.vals h5
  refine ⟨.value (.pointer (some ⟨w.heap.size, 0, none⟩)), _, _, ?_, .inl ⟨_, rfl, fun y hy => ?_⟩, Upd.box ty _ z.cells (fun n => r.fresh nid n hn hb) hb r.lt (by simpa using hall.1) (fun j c hj => by simpa using hall.2 j c hj)⟩
  · unfold execOp
    simp [ho, Instr.alloc, zeroValue, typeInfo, hi, hz, newVar, newRow]
  · injection hy with hy; subst hy
    exact .one (.ptr (En.set_at _ _ _ _))
def plBox (ty nid : Nat) (x : AV) : Option (AV × List (Nat × AB)) :=
  match cellsV x with
  | some cs => some (.one (.ptr nid 0), [(nid, .box ty cs)])
  | none => none
theorem box_sound (r : R fr E t h nx a w) {o : Oper} {ty nid : Nat} {x : Operand} (ho : o.op = .box ty x) {xv y : AV} {ws : List (Nat × AB)} (hx : evT t x = some xv) (hn : nx ≤ nid) (hb : h nid = none) (hy : plBox ty nid xv = some (y, ws)) : Sound P E h a w o (some y) ws := by
  unfold plBox at hy
  split at hy
  case h_2 => cases hy
  rename_i cs hcs
  simp only [Option.some.injEq, Prod.mk.injEq] at hy
  obtain ⟨rfl, rfl⟩ := hy
  obtain ⟨hx1, hx2, hx3⟩ := cellsV_sound (ev_sound r hx) hcs
  refine ⟨.value (.pointer (some ⟨w.heap.size, 0, none⟩)), _, _, ?_, .inl ⟨_, rfl, fun y hy => ?_⟩, Upd.box ty _ (a.eval x).cells (fun n => r.fresh nid n hn hb) hb r.lt hx3 (fun j c hj => by simpa using hx1.2 j c hj)⟩
  · unfold execOp
    simp [ho, Instr.box, newVar, newRow]
  · injection hy with hy; subst hy
    exact .one (.ptr (En.set_at _ _ _ _))
end
end Go.Abs

/- A pure model of Go code, 7: fields, elements, structs, numbers. -/
set_option linter.unusedVariables false
set_option linter.unusedSimpArgs false
namespace Go.Abs
open Go.RowKit

section
variable {P : Program} {fr : Fr} {E : En} {t : Nat → Option AV} {h : Nat → Option AB} {nx : Nat} {a : Act} {w : World}

/-- The parts of a literal. -/
def evParts (t : Nat → Option AV) : List (Nat × Operand) → Option (List (Nat × AV))
  | [] => some []
  | p :: r => match evT t p.2, evParts t r with | some x, some l => some ((p.1, x) :: l) | _, _ => none
theorem evParts_sound (r : R fr E t h nx a w) : ∀ {ps : List (Nat × Operand)} {l : List (Nat × AV)}, evParts t ps = some l → All2 (fun (p : Nat × AV) (q : Nat × Value) => q.1 = p.1 ∧ Rv w E p.2 q.2) l (ps.map fun p => (p.1, a.eval p.2))
  | [], l, h => by simp only [evParts, Option.some.injEq] at h; subst h; exact All2.nil _
  | p :: ps, l, h => by
    unfold evParts at h
    split at h
    · rename_i x l' hx hl
      injection h with h; subst h
      exact All2.cons ⟨rfl, ev_sound r hx⟩ (evParts_sound r hl)
    · cases h
def plBuild (P : Program) (ty : Nat) (ps : List (Nat × AV)) : Option AV :=
  match tyOf P ty with
  | some ti =>
    match ti.kind with
    | .struct fs => match afill (fun i => (fs[i]?).map (·.2)) (ti.zero.map fun u => .f (.v u)) ps with | some l => some (.agg l) | none => none
    | _ => none
  | none => none
theorem build_sound (r : R fr E t h nx a w) {o : Oper} {ty : Nat} {parts : Array (Nat × Operand)} (ho : o.op = .build ty parts) {ps : List (Nat × AV)} (hps : evParts t parts.toList = some ps) {y : AV} (hy : plBuild P ty ps = some y) : Sound P E h a w o (some y) [] := by
  unfold plBuild at hy
  split at hy
  case h_2 => cases hy
  rename_i ti hti
  split at hy
  case h_2 => cases hy
  rename_i fs hk
  split at hy
  case h_2 => cases hy
  rename_i l hl
  simp only [Option.some.injEq] at hy; subst hy
  obtain ⟨i, d, z, hi, hd, hz, h1, h2, h3, h4, h5⟩ := tyOf_spec hti
  have hall : All2 (Rc w E) (ti.zero.map fun u => AC.f (.v u)) z.cells.toList := by rw [h4] at h5 ⊢; exact All2.vals h5
  rw [hk] at h1
  cases d <;> simp only [kindOf, Option.some.injEq, Option.map_eq_some_iff, reduceCtorEq, and_false, exists_false, TK.struct.injEq] at h1
  rename_i fields
  obtain ⟨l', hf, rfl⟩ := h1
  have hpl := fieldsOf_places hf
  obtain ⟨ov, h6, h7⟩ := afill_sound _ ps _ _ l z.cells (evParts_sound r hps) hall hl
  have hb : P.built ty ((parts.toList.map fun p => (p.1, a.eval p.2))) = some ov := by
    unfold Program.built
    simp only [hi, hd, hz, hpl]
    rw [← h6]
    congr 1
    funext x
    simp
  have hrun := run_build w ty (parts.map fun (i, x) => (i, a.eval x)) ov (by simpa using hb)
  refine Sound.same (v := .agg ov) ?_ (fun y hy => by injection hy with hy; subst hy; exact Rv.ofAll2 h7)
  unfold execOp
  simp only [ho, Sem.run_bind, hrun, Result.andThen_ok, Sem.run_pure]

/-- The address of a field. -/
def plFieldAddr (P : Program) (ty f : Nat) (x : AV) : Option AV :=
  match tyOf P ty with
  | some ti =>
    match ti.kind with
    | .struct fs => match fs[f]? with
      | some q => if q.2.2 = 0 then none else match x with
        | .one (.ptr b off) => some (.one (.ptr b (off + q.2.1)))
        | .one (.ep b n sz i off) => some (.one (.ep b n sz i (off + q.2.1)))
        | .one (.fp l) => some (.one (.fp (l.drop q.2.1)))
        | _ => none
      | none => none
    | _ => none
  | none => none
theorem field_facts {ty : Nat} {ti : TI} (hti : tyOf P ty = some ti) {fs : List (Nat × Nat × Nat)} (hk : ti.kind = .struct fs) {f : Nat} {q : Nat × Nat × Nat} (hq : fs[f]? = some q) :
    ∃ fields fld i, P.underlying ty = some (.struct fields) ∧ fields[f]? = some fld ∧ P.info? fld.type = some i ∧ q = (fld.type, fld.offset, i.size) := by
  obtain ⟨i, d, z, hi, hd, hz, h1, h2, h3, h4, h5⟩ := tyOf_spec hti
  rw [hk] at h1
  cases d <;> simp only [kindOf, Option.some.injEq, Option.map_eq_some_iff, reduceCtorEq, and_false, exists_false, TK.struct.injEq] at h1
  rename_i fields
  obtain ⟨l', hf, rfl⟩ := h1
  obtain ⟨fld, i', h6, h7, h8⟩ := fieldsOf_get hf hq
  exact ⟨fields, fld, i', hd, by simpa using h6, h7, h8⟩
theorem fieldAddr_sound (r : R fr E t h nx a w) {o : Oper} {ty f : Nat} {x : Operand} (ho : o.op = .fieldAddr ty x f) {xv y : AV} (hx : evT t x = some xv) (hy : plFieldAddr P ty f xv = some y) : Sound P E h a w o (some y) [] := by
  unfold plFieldAddr at hy
  split at hy
  case h_2 => cases hy
  rename_i ti hti
  split at hy
  case h_2 => cases hy
  rename_i fs hk
  split at hy
  case h_2 => cases hy
  rename_i q hq
  split at hy
  case isTrue => cases hy
  rename_i hq0
  obtain ⟨fields, fld, i, h1, h2, h3, rfl⟩ := field_facts hti hk hq
  simp only at hq0 hy
  have hxv := ev_sound r hx
  have hrun : ∀ g o', a.eval x = .pointer (some ⟨g, o', none⟩) → (execOp a.eval o).run P w = .ok (.value (.pointer (some ⟨g, o' + fld.offset, none⟩))) w := fun g o' e => by
    unfold execOp
    simp [ho, e, Instr.fieldAt, run_underlying h1, h2, Instr.sureAddr, fieldPlace, sizeOf, typeInfo, h3, hq0, add_lit]
  split at hy
  · rename_i b off
    simp only [Option.some.injEq] at hy; subst hy
    obtain ⟨g, he, hm⟩ := hxv.ptr_inv
    exact Sound.same (hrun g off he) (fun y hy => by injection hy with hy; subst hy; exact .one (.ptr hm))
  · rename_i b n sz i' off
    simp only [Option.some.injEq] at hy; subst hy
    obtain ⟨g, c, he, hm⟩ := hxv.ep_inv
    exact Sound.same (hrun g _ he) (fun y hy => by injection hy with hy; subst hy; rw [Nat.add_assoc]; exact .one (.ep hm))
  · rename_i l
    simp only [Option.some.injEq] at hy; subst hy
    generalize hev : a.eval x = ev at hxv
    cases hxv with | one hxv => ?_
    cases hxv with | @fp _ g off vals hF hcell hr => ?_
    refine Sound.same (hrun g off hev) (fun y hy => ?_)
    injection hy with hy; subst hy
    refine .one (.fp (fun j => vals (fld.offset + j)) (fun hne => hF (fun e => hne (by rw [e]; simp))) (fun j c hj => ?_) (fun j c hj => ?_))
    · rw [List.getElem?_drop] at hj
      rw [Nat.add_assoc]; exact hcell _ c hj
    · rw [List.getElem?_drop] at hj; exact hr _ c hj
  · cases hy

/-- A field of a struct that is no variable. -/
def plField (P : Program) (ty f : Nat) (x : AV) : Option AV :=
  match tyOf P ty, x with
  | some ti, .agg l =>
    match ti.kind with
    | .struct fs => match fs[f]? with
      | some q => match tyOf P q.1 with | some tf => ldv tf l q.2.1 | none => none
      | none => none
    | _ => none
  | _, _ => none
theorem field_sound (r : R fr E t h nx a w) {o : Oper} {ty f : Nat} {x : Operand} (ho : o.op = .field ty x f) {xv y : AV} (hx : evT t x = some xv) (hy : plField P ty f xv = some y) : Sound P E h a w o (some y) [] := by
  unfold plField at hy
  split at hy
  case h_2 => cases hy
  rename_i ti l hti
  split at hy
  case h_2 => cases hy
  rename_i fs hk
  split at hy
  case h_2 => cases hy
  rename_i q hq
  split at hy
  case h_2 => cases hy
  rename_i tf htf
  obtain ⟨fields, fld, i, h1, h2, h3, rfl⟩ := field_facts hti hk hq
  simp only at htf hy
  obtain ⟨vs, hev, hall⟩ := (ev_sound r hx).agg_inv
  have hl := hall.1
  unfold ldv at hy
  cases hka : tf.kind.agg
  · simp only [hka, Bool.false_eq_true, if_false] at hy
    split at hy
    · rename_i c hc
      simp only [Option.some.injEq] at hy; subst hy
      obtain ⟨u, h4, h5⟩ := hall.2 _ c hc
      refine Sound.same (v := u) ?_ (fun y hy => by injection hy with hy; subst hy; exact .one h5)
      unfold execOp
      have h6 : vs[fld.offset]? = some u := by simpa using h4
      simp [ho, hev, Instr.field, run_underlying h1, h2, asAgg, part, isAgg_run htf, hka, h6]
    · cases hy
  · simp only [hka, if_true] at hy
    split at hy
    · rename_i hle
      simp only [Option.some.injEq] at hy; subst hy
      refine Sound.same (v := .agg (vs.extract fld.offset (fld.offset + tf.size))) ?_ (fun y hy => ?_)
      · unfold execOp
        simp [ho, hev, Instr.field, run_underlying h1, h2, asAgg, part, isAgg_run htf, hka, sizeOf_run htf]
      · injection hy with hy; subst hy
        refine Rv.ofAll2 ?_
        have := (hall.drop fld.offset).take tf.size
        have e : (vs.extract fld.offset (fld.offset + tf.size)).toList = (vs.toList.drop fld.offset).take tf.size := by
          simp [Array.toList_extract, List.extract]
        rw [e]; exact this
    · cases hy

/-- The address of an element. -/
def plIndexAddr (P : Program) (h : Nat → Option AB) (ty : Nat) (x i : AV) : Option AV :=
  match tyOf P ty, i with
  | some ti, .one (.f (.v (.int _ n))) =>
    match ti.kind with
    | .slice e => match tyOf P e with
      | some te => if 0 ≤ n then match x with
        | .one (.f (.fz sz l)) => if sz = te.size then match l[n.toNat]? with | some c => some (.one (.fp c)) | none => none else none
        | .one (.row b m) => (match h b with | some (.row _ sz l) => if l.length = m ∧ sz = te.size ∧ n.toNat < m then some (.one (.ep b m sz n.toNat 0)) else none | _ => none)
        | _ => none
        else none
      | none => none
    | _ => none
  | _, _ => none
theorem slice_elem {ty : Nat} {ti : TI} (hti : tyOf P ty = some ti) {e : Nat} (hk : ti.kind = .slice e) : P.underlying ty = some (.slice e) := by
  obtain ⟨i, d, z, hi, hd, hz, h1, h2, h3, h4, h5⟩ := tyOf_spec hti
  rw [hk] at h1
  cases d <;> simp only [kindOf, Option.some.injEq, Option.map_eq_some_iff, reduceCtorEq, and_false, exists_false, TK.slice.injEq] at h1
  rw [hd, h1]
theorem indexAddr_sound (r : R fr E t h nx a w) {o : Oper} {ty : Nat} {x i : Operand} (ho : o.op = .indexAddr ty x i) {xv iv y : AV} (hx : evT t x = some xv) (hi : evT t i = some iv) (hy : plIndexAddr P h ty xv iv = some y) : Sound P E h a w o (some y) [] := by
  unfold plIndexAddr at hy
  split at hy
  case h_2 => cases hy
  rename_i ti k n hti
  split at hy
  case h_2 => cases hy
  rename_i e hk
  split at hy
  case h_2 => cases hy
  rename_i te hte
  split at hy
  case isFalse => cases hy
  rename_i hn
  have hu := slice_elem hti hk
  have hiv := (ev_sound r hi).val_inv
  have hxv := ev_sound r hx
  have hrun : ∀ g o' len c, a.eval x = .slice (some ⟨g, o', none⟩) len c → n.toNat < len → (execOp a.eval o).run P w = .ok (.value (.pointer (some ⟨g, o' + n.toNat * te.size, none⟩))) w := fun g o' len c e hlt => by
    unfold execOp
    have : n < (len : Int) := by omega
    simp [ho, e, hiv, Instr.indexAt, asIntOf, run_underlying hu, sizeOf_run hte, hn, this, add_lit]
  split at hy
  · rename_i sz l
    split at hy
    case isFalse => cases hy
    rename_i hsz
    subst hsz
    split at hy
    case h_2 => cases hy
    rename_i c hc
    simp only [Option.some.injEq] at hy; subst hy
    generalize hev : a.eval x = ev at hxv
    cases hxv with | one hxv => ?_
    cases hxv with | f hxv => ?_
    cases hxv with | fz sz l A cap g off vals h1 h2 h3 h4 h5 h6 h7 => ?_
    have hlt := (List.getElem?_eq_some_iff.1 hc).1
    have hne : l ≠ [] := by intro e; rw [e] at hc; simp at hc
    obtain ⟨hA, hF⟩ := h4 hne
    subst hA
    refine Sound.same (hrun g off _ _ hev hlt) (fun y hy => ?_)
    injection hy with hy; subst hy
    exact .one (.fp (fun j => vals n.toNat j) (fun _ => hF) (fun j u hj => h6 _ c j u hc hj) (fun j u hj => h7 _ c j u hc hj))
  · rename_i b m
    split at hy
    case h_2 => cases hy
    rename_i ty' sz l hb
    split at hy
    case isFalse => cases hy
    rename_i hcond
    obtain ⟨rfl, hsz, hlt⟩ := hcond
    simp only [Option.some.injEq] at hy; subst hy
    obtain ⟨A, c, he, hm⟩ := hxv.row_inv
    obtain ⟨g, cap, cur, h1, -⟩ := row_elem (r.blk b _ hb) (List.getElem?_eq_getElem hlt)
    rw [hm] at h1
    simp only [Option.some.injEq, Value.slice.injEq, true_and] at h1
    obtain ⟨rfl, rfl⟩ := h1
    have := hrun g 0 _ _ he hlt
    rw [Nat.zero_add, ← hsz] at this
    exact Sound.same this (fun y hy => by injection hy with hy; subst hy; exact .one (.ep hm))
  · cases hy
end
end Go.Abs

/- A pure model of Go code, 8: numbers, strings, truth values; what a slot hands on. -/
set_option linter.unusedVariables false
set_option linter.unusedSimpArgs false
namespace Go.Abs
open Go.RowKit

section
variable {P : Program} {fr : Fr} {E : En} {t : Nat → Option AV} {h : Nat → Option AB} {nx : Nat} {a : Act} {w : World}

/-- A plain value. -/
abbrev AV.val (x : Value) : AV := .one (.f (.v x))
theorem Rv.val_ok {x v : Value} (h : Rv w E (.val x) v) : okV x = true := by
  cases h with | one h => cases h with | f h => cases h with | v _ h => exact h
theorem Rv.val {x : Value} (hx : okV x = true) : Rv w E (.val x) x := .one (.f (.v x hx))

def abin (op : BinOp) : Value → Value → Option Value
  | .int k a, .int k' b =>
    if k = k' then match op with
      | .add => some (.int k (k.wrap (a + b)))
      | .sub => some (.int k (k.wrap (a - b)))
      | .mul => some (.int k (k.wrap (a * b)))
      | .eql => some (.bool (decide (a = b)))
      | .neq => some (.bool (decide (a ≠ b)))
      | .lss => some (.bool (decide (a < b)))
      | .leq => some (.bool (decide (a ≤ b)))
      | .gtr => some (.bool (decide (b < a)))
      | .geq => some (.bool (decide (b ≤ a)))
      | _ => none
    else none
  | .string a, .string b => match op with
      | .eql => some (.bool (decide (a.toList = b.toList)))
      | .neq => some (.bool (decide (a.toList ≠ b.toList)))
      | .lss => some (.bool (Op.bytesLess a.toList b.toList))
      | .leq => some (.bool (Op.bytesLess a.toList b.toList || a.toList == b.toList))
      | .gtr => some (.bool !(Op.bytesLess a.toList b.toList || a.toList == b.toList))
      | .geq => some (.bool !(Op.bytesLess a.toList b.toList))
      | _ => none
  | _, _ => none
theorem abin_sound {op : BinOp} {ty : Nat} {xo yo : Operand} {x y z : Value} (hz : abin op x y = some z) : (do eqGuard op ty xo yo x y; binOp op ty x y : Sem Value).run P w = .ok z w ∧ okV z = true := by
  unfold abin at hz
  split at hz
  · rename_i k a k' b
    split at hz
    case isFalse => cases hz
    rename_i hk; subst hk
    cases op <;> simp only [Option.some.injEq, reduceCtorEq] at hz <;> subst hz <;>
      simp [eqGuard, binOp, Op.intArith, Op.intCmp, okV, bne] <;> rfl
  · rename_i a b
    cases op <;> simp only [Option.some.injEq, reduceCtorEq] at hz <;> subst hz <;>
      simp [eqGuard, binOp, Op.stringOp, okV] <;> (rw [Bool.eq_iff_iff]; simp)
  · cases hz
/-- An operation with two operands. -/
def plBin (P : Program) (op : BinOp) (ty : Nat) : AV → AV → Option AV
  | .one (.f (.v (.bool x))), .one (.f (.v (.bool y))) => match tyOf P ty, op with
    | some ti, .eql => (match ti.kind with | .bool => some (.val (.bool (x == y))) | _ => none)
    | some ti, .neq => (match ti.kind with | .bool => some (.val (.bool (x != y))) | _ => none)
    | _, _ => none
  | .one (.f (.v x)), .one (.f (.v y)) => match abin op x y with | some z => some (.val z) | none => none
  | .one (.ptr _ _), .one (.f (.v (.pointer none))) => match tyOf P ty, op with
    | some ti, .eql => (match ti.kind with | .pointer _ => some (.val (.bool false)) | _ => none)
    | some ti, .neq => (match ti.kind with | .pointer _ => some (.val (.bool true)) | _ => none)
    | _, _ => none
  | _, _ => none
theorem bool_ty {ty : Nat} {ti : TI} (hti : tyOf P ty = some ti) (hk : ti.kind = .bool) : P.underlying ty = some .bool := by
  obtain ⟨i, d, z, hi, hd, hz, h1, h2, h3, h4, h5⟩ := tyOf_spec hti
  rw [hk] at h1
  cases d <;> simp only [kindOf, Option.some.injEq, Option.map_eq_some_iff, reduceCtorEq, and_false, exists_false] at h1
  exact hd
theorem pointer_ty {ty e : Nat} {ti : TI} (hti : tyOf P ty = some ti) (hk : ti.kind = .pointer e) : P.underlying ty = some (.pointer e) := by
  obtain ⟨i, d, z, hi, hd, hz, h1, h2, h3, h4, h5⟩ := tyOf_spec hti
  rw [hk] at h1
  cases d <;> simp only [kindOf, Option.some.injEq, Option.map_eq_some_iff, reduceCtorEq, and_false, exists_false, TK.pointer.injEq] at h1
  rw [hd, h1]
theorem pointee_ty {ty e : Nat} {ti : TI} (hti : tyOf P ty = some ti) (hk : ti.kind = .pointer e) : P.underlying ty = some (.pointer (P.pointee ty)) := by
  have := pointer_ty hti hk
  simp [Program.pointee, this]
theorem int_ty {ty : Nat} {k : IntKind} {ti : TI} (hti : tyOf P ty = some ti) (hk : ti.kind = .int k) : P.underlying ty = some (.int k) := by
  obtain ⟨i, d, z, hi, hd, hz, h1, h2, h3, h4, h5⟩ := tyOf_spec hti
  rw [hk] at h1
  cases d <;> simp only [kindOf, Option.some.injEq, Option.map_eq_some_iff, reduceCtorEq, and_false, exists_false, TK.int.injEq] at h1
  rw [hd, h1]
theorem string_ty {ty : Nat} {ti : TI} (hti : tyOf P ty = some ti) (hk : ti.kind = .string) : P.underlying ty = some .string := by
  obtain ⟨i, d, z, hi, hd, hz, h1, h2, h3, h4, h5⟩ := tyOf_spec hti
  rw [hk] at h1
  cases d <;> simp only [kindOf, Option.some.injEq, Option.map_eq_some_iff, reduceCtorEq, and_false, exists_false] at h1
  exact hd
theorem bin_sound (r : R fr E t h nx a w) {o : Oper} {op : BinOp} {ty ty2 : Nat} {x y : Operand} (ho : o.op = .binOp op ty x y ty2) {xv yv z : AV} (hx : evT t x = some xv) (hy : evT t y = some yv) (hz : plBin P op ty xv yv = some z) : Sound P E h a w o (some z) [] := by
  have hxv := ev_sound r hx
  have hyv := ev_sound r hy
  have hrun : ∀ v, (do eqGuard op ty x y (a.eval x) (a.eval y); binOp op ty (a.eval x) (a.eval y) : Sem Value).run P w = .ok v w → (execOp a.eval o).run P w = .ok (.value v) w := fun v e => by
    unfold execOp
    simp only [ho, Sem.run_bind] at e ⊢
    rw [e]
    rfl
  unfold plBin at hz
  split at hz
  · rename_i p q
    have e1 := hxv.val_inv
    have e2 := hyv.val_inv
    split at hz
    · rename_i ti hti
      split at hz
      · rename_i hk
        simp only [Option.some.injEq] at hz; subst hz
        refine Sound.same (hrun _ ?_) (fun y hy => by injection hy with hy; subst hy; exact .val rfl)
        simp only [e1, e2, Sem.run_bind, eqGuard_at_bool, Sem.run_pure, Result.andThen_ok, run_eql_bool w ty _ _ (bool_ty hti hk)]
      · cases hz
    · rename_i ti hti
      split at hz
      · rename_i hk
        simp only [Option.some.injEq] at hz; subst hz
        refine Sound.same (hrun _ ?_) (fun y hy => by injection hy with hy; subst hy; exact .val rfl)
        simp only [e1, e2, Sem.run_bind, eqGuard_at_bool, Sem.run_pure, Result.andThen_ok, run_neq_bool w ty _ _ (bool_ty hti hk)]
        rfl
      · cases hz
    · cases hz
  · rename_i p q _
    have e1 := hxv.val_inv
    have e2 := hyv.val_inv
    split at hz
    · rename_i v hv
      simp only [Option.some.injEq] at hz; subst hz
      obtain ⟨h1, h2⟩ := abin_sound (P := P) (w := w) (ty := ty) (xo := x) (yo := y) hv
      rw [← e1, ← e2] at h1
      exact Sound.same (hrun _ h1) (fun y hy => by injection hy with hy; subst hy; exact .val h2)
    · cases hz
  · rename_i b off
    obtain ⟨g, e1, hm⟩ := hxv.ptr_inv
    have e2 := hyv.val_inv
    split at hz
    · rename_i ti hti
      split at hz
      · rename_i el hk
        simp only [Option.some.injEq] at hz; subst hz
        refine Sound.same (hrun _ ?_) (fun y hy => by injection hy with hy; subst hy; exact .val rfl)
        simp only [e1, e2, Sem.run_bind, eqGuard_at_pointer, Sem.run_pure, Result.andThen_ok, run_eql_pointer_nil w ty _ (pointee_ty hti hk)]
        rfl
      · cases hz
    · rename_i ti hti
      split at hz
      · rename_i el hk
        simp only [Option.some.injEq] at hz; subst hz
        refine Sound.same (hrun _ ?_) (fun y hy => by injection hy with hy; subst hy; exact .val rfl)
        simp only [e1, e2, Sem.run_bind, eqGuard_at_pointer, Sem.run_pure, Result.andThen_ok, run_neq_pointer_nil w ty _ (pointee_ty hti hk)]
        rfl
      · cases hz
    · cases hz
  · cases hz

def plUn (op : UnOp) : AV → Option AV
  | .one (.f (.v (.bool b))) => match op with | .not => some (.val (.bool !b)) | _ => none
  | .one (.f (.v (.int k n))) => match op with | .neg => some (.val (.int k (k.wrap (0 - n)))) | _ => none
  | _ => none
theorem un_sound (r : R fr E t h nx a w) {o : Oper} {op : UnOp} {ty : Nat} {x : Operand} (ho : o.op = .unOp op ty x) {xv z : AV} (hx : evT t x = some xv) (hz : plUn op xv = some z) : Sound P E h a w o (some z) [] := by
  have hxv := ev_sound r hx
  unfold plUn at hz
  split at hz
  · have e1 := hxv.val_inv
    cases op <;> simp only [Option.some.injEq, reduceCtorEq] at hz
    subst hz
    refine Sound.same (v := .bool _) ?_ (fun y hy => by injection hy with hy; subst hy; exact .val rfl)
    unfold execOp
    simp [ho, e1, Op.unary]
  · have e1 := hxv.val_inv
    cases op <;> simp only [Option.some.injEq, reduceCtorEq] at hz
    subst hz
    refine Sound.same (v := .int _ _) ?_ (fun y hy => by injection hy with hy; subst hy; exact .val rfl)
    unfold execOp
    simp [ho, e1, Op.unary, Op.intArith]
  · cases hz

def plConv (P : Program) (src dst : Nat) : AV → Option AV
  | .one (.f (.v (.int k n))) => match tyOf P src, tyOf P dst with
    | some ts, some td => (match td.kind with | .int k' => some (.val (.int k' (k'.wrap n))) | _ => none)
    | _, _ => none
  | .one (.f (.v (.string s))) => match tyOf P src, tyOf P dst with
    | some ts, some td => (match td.kind with | .string => some (.val (.string s)) | _ => none)
    | _, _ => none
  | _ => none
theorem conv_sound (r : R fr E t h nx a w) {o : Oper} {src dst : Nat} {x : Operand} (ho : o.op = .convert src dst x) {xv z : AV} (hx : evT t x = some xv) (hz : plConv P src dst xv = some z) : Sound P E h a w o (some z) [] := by
  have hxv := ev_sound r hx
  unfold plConv at hz
  split at hz
  · rename_i k n
    have e1 := hxv.val_inv
    split at hz
    case h_2 => cases hz
    rename_i ts td hts htd
    split at hz
    · rename_i k' hk
      simp only [Option.some.injEq] at hz; subst hz
      refine Sound.same (v := .int _ _) ?_ (fun y hy => by injection hy with hy; subst hy; exact .val rfl)
      obtain ⟨i, d, zz, hi, hd, -⟩ := tyOf_spec hts
      unfold execOp
      simp [ho, e1, convert, run_underlying hd, run_underlying (int_ty htd hk), Conv.intToInt]
    · cases hz
  · rename_i s
    have e1 := hxv.val_inv
    split at hz
    case h_2 => cases hz
    rename_i ts td hts htd
    split at hz
    · rename_i hk
      simp only [Option.some.injEq] at hz; subst hz
      refine Sound.same (v := .string _) ?_ (fun y hy => by injection hy with hy; subst hy; exact .val hxv.val_ok)
      obtain ⟨i, d, zz, hi, hd, -⟩ := tyOf_spec hts
      unfold execOp
      simp [ho, e1, convert, run_underlying hd, run_underlying (string_ty htd hk)]
    · cases hz
  · cases hz

theorem move_sound (r : R fr E t h nx a w) {o : Oper} {x : Operand} (ho : o.op = .move x ∨ o.op = .assign x) {xv : AV} (hx : evT t x = some xv) : Sound P E h a w o (some xv) [] := by
  refine Sound.same (v := a.eval x) ?_ (fun y hy => by injection hy with hy; subst hy; exact ev_sound r hx)
  unfold execOp
  rcases ho with ho | ho <;> simp [ho]
theorem pick_sound (r : R fr E t h nx a w) {o : Oper} {c x y : Operand} (ho : o.op = .pick c x y) {b : Bool} {z : AV} (hc : evT t c = some (.val (.bool b))) (hz : (if b then evT t x else evT t y) = some z) : Sound P E h a w o (some z) [] := by
  have e1 := (ev_sound r hc).val_inv
  refine Sound.same (v := if b then a.eval x else a.eval y) ?_ (fun y hy => ?_)
  · unfold execOp
    simp [ho, e1, asBool]
  · injection hy with hy; subst hy
    cases b
    · exact ev_sound r hz
    · exact ev_sound r hz
def plNil : AV → Option AV
  | .one (.ptr b o) => some (.one (.ptr b o))
  | .one (.ep b n sz i o) => some (.one (.ep b n sz i o))
  | .one (.fp l) => some (.one (.fp l))
  | _ => none
theorem nil_sound (r : R fr E t h nx a w) {o : Oper} {x : Operand} (ho : o.op = .nilCheck x) {xv z : AV} (hx : evT t x = some xv) (hz : plNil xv = some z) : Sound P E h a w o (some z) [] := by
  have hxv := ev_sound r hx
  have hp : z = xv ∧ ∃ ad, a.eval x = .pointer (some ad) := by
    unfold plNil at hz
    split at hz
    · obtain ⟨g, e, -⟩ := hxv.ptr_inv; simp only [Option.some.injEq] at hz; exact ⟨hz.symm, _, e⟩
    · obtain ⟨g, c, e, -⟩ := hxv.ep_inv; simp only [Option.some.injEq] at hz; exact ⟨hz.symm, _, e⟩
    · simp only [Option.some.injEq] at hz
      generalize hev : a.eval x = ev at hxv
      cases hxv with | one hxv => cases hxv with | fp => exact ⟨hz.symm, _, rfl⟩
    · cases hz
  obtain ⟨rfl, ad, e⟩ := hp
  refine Sound.same (v := a.eval x) ?_ (fun y hy => by injection hy with hy; subst hy; exact hxv)
  unfold execOp
  simp [ho, e]
def plExtract (i : Nat) : AV → Option AV
  | .tup l => l[i]?
  | _ => none
theorem extract_sound (r : R fr E t h nx a w) {o : Oper} {x : Operand} {i : Nat} (ho : o.op = .extract x i) {xv z : AV} (hx : evT t x = some xv) (hz : plExtract i xv = some z) : Sound P E h a w o (some z) [] := by
  have hxv := ev_sound r hx
  unfold plExtract at hz
  split at hz
  · generalize hev : a.eval x = ev at hxv
    cases hxv with | @tup _ vs vals hs hv hr => ?_
    refine Sound.same (v := vals i) ?_ (fun y hy => by injection hy with hy; subst hy; exact hr i _ hz)
    unfold execOp
    simp [ho, hev, Instr.extract, hv i _ hz]
  · cases hz
/-- The length of a slice or a string. -/
def plLen (P : Program) (ty : Nat) : AV → Option AV
  | .one (.f (.fz _ l)) => match tyOf P ty with
    | some ti => (match ti.kind with | .slice _ => some (.val (.int .i64 l.length)) | _ => none)
    | none => none
  | .one (.row _ n) => match tyOf P ty with
    | some ti => (match ti.kind with | .slice _ => some (.val (.int .i64 n)) | _ => none)
    | none => none
  | .one (.f (.v (.slice none 0 0))) => match tyOf P ty with
    | some ti => (match ti.kind with | .slice _ => some (.val (.int .i64 0)) | _ => none)
    | none => none
  | .one (.f (.v (.string s))) => match tyOf P ty with
    | some ti => (match ti.kind with | .string => some (.val (.int .i64 s.size)) | _ => none)
    | none => none
  | _ => none
theorem len_sound (r : R fr E t h nx a w) {o : Oper} {x : Operand} {ty : Nat} (ho : o.op = .call { callee := .builtin .len, args := #[x], argTypes := #[ty] }) {xv z : AV} (hx : evT t x = some xv) (hz : plLen P ty xv = some z) : Sound P E h a w o (some z) [] := by
  have hxv := ev_sound r hx
  have hrun : ∀ A n c e, P.underlying ty = some (.slice e) → a.eval x = .slice A n c → (execOp a.eval o).run P w = .ok (.value (.int .i64 n)) w := fun A n c e hu hv => by
    unfold execOp
    simp [ho, resolve, invoke, builtin, hv, Builtin.len_, run_underlying hu, goInt]
  unfold plLen at hz
  split at hz
  · obtain ⟨A, c, e, -⟩ := hxv.fz_inv
    split at hz <;> try (cases hz; done)
    rename_i ti hti
    split at hz <;> try (cases hz; done)
    rename_i el hk
    simp only [Option.some.injEq] at hz; subst hz
    exact Sound.same (hrun _ _ _ _ (slice_elem hti hk) e) (fun y hy => by injection hy with hy; subst hy; exact .val rfl)
  · obtain ⟨A, c, e, -⟩ := hxv.row_inv
    split at hz <;> try (cases hz; done)
    rename_i ti hti
    split at hz <;> try (cases hz; done)
    rename_i el hk
    simp only [Option.some.injEq] at hz; subst hz
    exact Sound.same (hrun _ _ _ _ (slice_elem hti hk) e) (fun y hy => by injection hy with hy; subst hy; exact .val rfl)
  · have e := hxv.val_inv
    split at hz <;> try (cases hz; done)
    rename_i ti hti
    split at hz <;> try (cases hz; done)
    rename_i el hk
    simp only [Option.some.injEq] at hz; subst hz
    exact Sound.same (hrun _ _ _ _ (slice_elem hti hk) e) (fun y hy => by injection hy with hy; subst hy; exact .val rfl)
  · have e := hxv.val_inv
    split at hz <;> try (cases hz; done)
    rename_i ti hti
    split at hz <;> try (cases hz; done)
    rename_i hk
    simp only [Option.some.injEq] at hz; subst hz
    refine Sound.same (v := .int _ _) ?_ (fun y hy => by injection hy with hy; subst hy; exact .val rfl)
    unfold execOp
    simp [ho, resolve, invoke, builtin, e, Builtin.len_, run_underlying (string_ty hti hk), goInt]
  · cases hz
/-- The greater and the less one of two numbers. -/
def plMax (b : Builtin) : AV → AV → Option AV
  | .one (.f (.v (.int k x))), .one (.f (.v (.int _ y))) => match b with
    | .max => some (.val (.int k (if x < y then y else x)))
    | .min => some (.val (.int k (if y < x then y else x)))
    | _ => none
  | _, _ => none
theorem max_sound (r : R fr E t h nx a w) {o : Oper} {x y : Operand} {b : Builtin} {ts : Array TypeId} (ho : o.op = .call { callee := .builtin b, args := #[x, y], argTypes := ts }) {xv yv z : AV} (hx : evT t x = some xv) (hy : evT t y = some yv) (hz : plMax b xv yv = some z) : Sound P E h a w o (some z) [] := by
  have hxv := ev_sound r hx
  have hyv := ev_sound r hy
  unfold plMax at hz
  split at hz
  · have e1 := hxv.val_inv
    have e2 := hyv.val_inv
    cases b <;> simp only [Option.some.injEq, reduceCtorEq] at hz <;> subst hz <;>
    · refine Sound.same (v := .int _ _) ?_ (fun y hy => by injection hy with hy; subst hy; exact .val rfl)
      unfold execOp
      simp [ho, resolve, invoke, builtin, e1, e2, Builtin.max_, Builtin.max2, Builtin.min_, Builtin.min2]
  · cases hz
/-- A byte of a string. -/
def plIndex (P : Program) (ty : Nat) : AV → AV → Option AV
  | .one (.f (.v (.string s))), .one (.f (.v (.int _ n))) => match tyOf P ty with
    | some ti => (match ti.kind with | .string => (if 0 ≤ n then (match s[n.toNat]? with | some b => some (.val (.int .u8 b.toNat)) | none => none) else none) | _ => none)
    | none => none
  | _, _ => none
theorem index_sound (r : R fr E t h nx a w) {o : Oper} {x i : Operand} {ty : Nat} (ho : o.op = .index ty x i) {xv iv z : AV} (hx : evT t x = some xv) (hi : evT t i = some iv) (hz : plIndex P ty xv iv = some z) : Sound P E h a w o (some z) [] := by
  have hxv := ev_sound r hx
  have hiv := ev_sound r hi
  unfold plIndex at hz
  split at hz
  · rename_i s k n
    have e1 := hxv.val_inv
    have e2 := hiv.val_inv
    split at hz <;> try (cases hz; done)
    rename_i ti hti
    split at hz <;> try (cases hz; done)
    rename_i hk
    split at hz <;> try (cases hz; done)
    rename_i hn
    split at hz <;> try (cases hz; done)
    rename_i b hb
    simp only [Option.some.injEq] at hz; subst hz
    refine Sound.same (v := .int .u8 b.toNat) ?_ (fun y hy => by injection hy with hy; subst hy; exact .val rfl)
    unfold execOp
    simp [ho, e1, e2, Instr.index, asIntOf, run_underlying (string_ty hti hk), hn, hb]
  · cases hz
end
end Go.Abs

/- A pure model of Go code, 9: literals of slices, append, functions as values. -/
set_option linter.unusedVariables false
set_option linter.unusedSimpArgs false
namespace Go.Abs
open Go.RowKit

section
variable {P : Program} {fr : Fr} {E : En} {t : Nat → Option AV} {h : Nat → Option AB} {nx : Nat} {a : Act} {w : World}

/-- A list in pieces of sz. -/
def chunk {α : Type} (sz : Nat) : Nat → List α → List (List α)
  | 0, _ => []
  | n + 1, l => l.take sz :: chunk sz n (l.drop sz)
theorem chunk_len {α : Type} (sz : Nat) : ∀ (n : Nat) (l : List α), (chunk sz n l).length = n
  | 0, _ => rfl
  | n + 1, l => by simp [chunk, chunk_len sz n]
theorem chunk_get {α : Type} (sz : Nat) : ∀ (n : Nat) (l : List α) (i : Nat), i < n → (chunk sz n l)[i]? = some ((l.drop (i * sz)).take sz)
  | 0, _, i, h => by omega
  | n + 1, l, 0, h => by simp [chunk]
  | n + 1, l, i + 1, h => by
    simp only [chunk, List.getElem?_cons_succ]
    rw [chunk_get sz n _ i (by omega), List.drop_drop, Nat.succ_mul, Nat.add_comm]
def zeros (te : TI) (n : Nat) : List AC := (List.range n).map fun i => .f (.v (te.zero.getD (i % te.zero.length) undef))
/-- A literal of a slice. -/
def plSlice (P : Program) (ty len nid : Nat) (ps : List (Nat × AV)) : Option (AV × List (Nat × AB)) :=
  match tyOf P ty with
  | some ti =>
    match ti.kind with
    | .slice e => match tyOf P e with
      | some te => if len * te.size ≤ 16777216 ∧ 0 < te.size ∧ te.zero.length = te.size ∧ len ≤ maxLen then (match afill (fun i => some (i * te.size, te.size)) (zeros te (len * te.size)) ps with
        | some l => (match allF l with
          | some fl => if fl.length = len * te.size then some (.one (.row nid len), [(nid, .row e te.size (chunk te.size len fl))]) else none
          | none => none)
        | none => none) else none
      | none => none
    | _ => none
  | none => none
theorem zeros_all2 {te : TI} (hz : ∀ u ∈ te.zero, okV u = true) (hl : 0 < te.zero.length) (n : Nat) : All2 (Rc w E) (zeros te n) ((List.range n).map fun i => te.zero.getD (i % te.zero.length) undef) := by
  refine ⟨by simp [zeros], fun j c hj => ?_⟩
  unfold zeros at hj
  have hjl : j < n := by have := (List.getElem?_eq_some_iff.1 hj).1; simpa using this
  simp [hjl] at hj
  subst hj
  refine ⟨_, by simp [hjl], .f (.v _ ?_)⟩
  have hm : j % te.zero.length < te.zero.length := Nat.mod_lt _ hl
  rw [List.getElem?_eq_getElem hm]
  exact hz _ (List.getElem_mem hm)
theorem slice_sound (r : R fr E t h nx a w) {o : Oper} {ty len nid : Nat} {parts : Array (Nat × Operand)} (ho : o.op = .buildSlice ty len parts) {ps : List (Nat × AV)} (hps : evParts t parts.toList = some ps) (hn : nx ≤ nid) (hb : h nid = none) {y : AV} {ws : List (Nat × AB)}
    (hy : plSlice P ty len nid ps = some (y, ws)) : Sound P E h a w o (some y) ws := by
  unfold plSlice at hy
  split at hy
  case h_2 => cases hy
  rename_i ti hti
  split at hy
  case h_2 => cases hy
  rename_i e hk
  split at hy
  case h_2 => cases hy
  rename_i te hte
  split at hy
  case isFalse => cases hy
  rename_i hcond
  obtain ⟨hmax, hpos, hzl, hml⟩ := hcond
  split at hy
  case h_2 => cases hy
  rename_i l hl
  split at hy
  case h_2 => cases hy
  rename_i fl hfl
  split at hy
  case isFalse => cases hy
  rename_i hfll
  simp only [Option.some.injEq, Prod.mk.injEq] at hy
  obtain ⟨rfl, rfl⟩ := hy
  obtain ⟨i, d, z, hi, hd, hz, h1, h2, h3, h4, h5⟩ := tyOf_spec hte
  have hu := slice_elem hti hk
  have hzz : z.cells.size = te.size := by rw [← hzl, h4]; simp
  obtain ⟨ov, h6, h7⟩ := afill_sound _ ps _ _ l ((List.range (len * te.size)).map fun i => te.zero.getD (i % te.zero.length) undef).toArray (evParts_sound r hps) (by simpa using zeros_all2 h5 (by omega) _) hl
  obtain ⟨h8, h9⟩ := allF_sound hfl h7
  have hvs : ov.size = len * te.size := by have := h8.1; simp at this; omega
  have hF : ∀ (i : Nat) (e : List FC) (j : Nat) (c : FC), (chunk te.size len fl)[i]? = some e → e[j]? = some c → ∃ u, ov[i * te.size + j]? = some u ∧ Rf w E.F c u := fun i e j c hi' hj => by
    have hil : i < len := by have := (List.getElem?_eq_some_iff.1 hi').1; rwa [chunk_len] at this
    rw [chunk_get _ _ _ _ hil] at hi'
    injection hi' with hi'; subst hi'
    have hjl : j < te.size := by have := (List.getElem?_eq_some_iff.1 hj).1; simp at this; omega
    rw [List.getElem?_take_of_lt hjl, List.getElem?_drop] at hj
    obtain ⟨u, q1, q2⟩ := h8.2 _ c hj
    exact ⟨u, by simpa using q1, q2⟩
  have hE : ∀ (i : Nat) (e : List FC), (chunk te.size len fl)[i]? = some e → e.length = te.size := fun i e hi' => by
    have hil : i < len := by have := (List.getElem?_eq_some_iff.1 hi').1; rwa [chunk_len] at this
    rw [chunk_get _ _ _ _ hil] at hi'
    injection hi' with hi'; subst hi'
    have : i * te.size + te.size ≤ len * te.size := by have := Nat.mul_le_mul_right te.size (show i + 1 ≤ len by omega); rw [Nat.succ_mul] at this; exact this
    simp; omega
  have hup := Upd.newRow (E := E) (h := h) (w := w) (b := nid) e te.size (chunk te.size len fl) ov (fun n => r.fresh nid n hn hb) hb r.lt (by rw [chunk_len]; exact hvs) (by rw [chunk_len]; exact hml) hE hF
  rw [chunk_len] at hup
  refine ⟨.value (.slice (some ⟨w.heap.size, 0, none⟩) len len), _, _, ?_, .inl ⟨_, rfl, fun y hy => ?_⟩, hup⟩
  · have hfill : Instr.fill (fun i => some (i * te.size, te.size)) ((Array.range (len * te.size)).map (fun x => z.cells[x % z.cells.size]!)) (parts.toList.map fun p => (p.1, a.eval p.2)) = some ov := by
      rw [← h6]
      congr 1
      apply Array.ext_getElem?
      intro j
      have hzs : te.zero = z.cells.toList := h4
      by_cases hj : j < len * te.size
      · have hm : j % te.size < z.cells.size := by rw [hzz]; exact Nat.mod_lt _ hpos
        simp [hj, hzs, hzz, getElem!_def]
        rw [Array.getElem?_eq_getElem hm]
        rfl
      · simp [hj]
    have hne : len * te.size = 0 → ov = #[] := fun e => Array.eq_empty_of_size_eq_zero (by omega)
    unfold execOp
    have hsz := sizeOf_run (P := P) hte w
    by_cases h0 : len * te.size = 0
    · have hl0 : len = 0 := by rcases Nat.mul_eq_zero.1 h0 with h | h <;> omega
      subst hl0
      have hr0 : ((Array.range (0 * te.size)).map (fun x => z.cells[x % z.cells.size]!)) = #[] := by simp
      rw [hr0] at hfill
      simp [ho, Instr.buildSlice, run_underlying hu, hsz, newRow, zeroValue, typeInfo, hi, hz]
      have hr1 : (Array.map (fun x => (default : Value)) (Array.range 0)) = #[] := by simp
      rw [hr1, hfill]
      rfl
    · have hcc : ¬ (16777216 < len * te.size) := by omega
      simp [ho, Instr.buildSlice, run_underlying hu, hsz, hcc, h0, newRow, zeroValue, typeInfo, hi, hz]
      rw [hfill]
      rfl
  · injection hy with hy; subst hy
    exact .one (.row (En.set_at _ _ _ _))
end
end Go.Abs

/- A pure model of Go code, 10: append, functions as values. -/
set_option linter.unusedVariables false
set_option linter.unusedSimpArgs false
namespace Go.Abs
open Go.RowKit

section
variable {P : Program} {fr : Fr} {E : En} {t : Nat → Option AV} {h : Nat → Option AB} {nx : Nat} {a : Act} {w : World}

/-- The elements of a slice. -/
def elemsOf (h : Nat → Option AB) : AV → Option (Nat × List (List FC))
  | .one (.row b n) => match h b with
    | some (.row _ sz l) => if l.length = n then some (sz, l) else none
    | _ => none
  | .one (.f (.fz sz l)) => some (sz, l)
  | .one (.f (.v (.slice none 0 0))) => some (0, [])
  | _ => none
def ElemsIn (w : World) (F : Nat → Prop) (A : Option Addr) (sz : Nat) (m : List (List FC)) : Prop :=
  ∃ vals : List Value, vals.length = m.length * sz ∧ (∀ (i : Nat) (e : List FC), m[i]? = some e → e.length = sz) ∧ (∀ u ∈ vals, u.oneCell' = true) ∧
    (∀ (i : Nat) (e : List FC) (j : Nat) (c : FC), m[i]? = some e → e[j]? = some c → ∃ u, vals[i * sz + j]? = some u ∧ Rf w F c u) ∧
    (m ≠ [] → ∃ g off, A = some ⟨g, off, none⟩ ∧ ∀ j u, vals[j]? = some u → w.cell? ⟨g, off + j, none⟩ = some u)
theorem flat_one {F : Nat → Prop} {m : List (List FC)} {sz : Nat} {vals : List Value} (hl : vals.length = m.length * sz) (hs : ∀ (i : Nat) (e : List FC), m[i]? = some e → e.length = sz)
    (hc : ∀ (i : Nat) (e : List FC) (j : Nat) (c : FC), m[i]? = some e → e[j]? = some c → ∃ u, vals[i * sz + j]? = some u ∧ Rf w F c u) : ∀ u ∈ vals, u.oneCell' = true := fun u hu => by
  obtain ⟨k, hk, rfl⟩ := List.mem_iff_getElem.1 hu
  have hsz : 0 < sz := by rcases Nat.eq_zero_or_pos sz with h0 | h0; · rw [h0] at hl; omega
                          · exact h0
  have hi : k / sz < m.length := Nat.div_lt_of_lt_mul (by rw [Nat.mul_comm]; omega)
  have hj : k % sz < sz := Nat.mod_lt _ hsz
  have he := hs _ _ (List.getElem?_eq_getElem hi)
  obtain ⟨u, h1, h2⟩ := hc _ _ (k % sz) _ (List.getElem?_eq_getElem hi) (List.getElem?_eq_getElem (by omega))
  rw [Nat.mul_comm, Nat.div_add_mod, List.getElem?_eq_getElem hk] at h1
  injection h1 with h1; rw [h1]; exact h2.one
theorem elems_sound (r : R fr E t h nx a w) {x : AV} {v : Value} {sz : Nat} {m : List (List FC)} (hv : Rv w E x v) (hx : elemsOf h x = some (sz, m)) : ∃ A c, v = .slice A m.length c ∧ ElemsIn w E.F A sz m := by
  unfold elemsOf at hx
  split at hx
  · rename_i b n
    split at hx
    case h_2 => cases hx
    rename_i ty sz' l hb
    split at hx
    case isFalse => cases hx
    rename_i hn
    simp only [Option.some.injEq, Prod.mk.injEq] at hx
    obtain ⟨rfl, rfl⟩ := hx
    subst hn
    obtain ⟨A, c, e1, hm⟩ := hv.row_inv
    obtain ⟨v0, vals, h1, h2, h3, h4, h5⟩ := r.blk b _ hb
    rw [hm] at h1
    simp only [Option.some.injEq] at h1; subst h1
    refine ⟨A, c, e1, vals, h2.1, h3, flat_one h2.1 h3 h4, h4, fun hne => ?_⟩
    rcases h2.2 with ⟨-, hl0⟩ | ⟨g, cap, cur, h6, -, h7, h8, h9, h10, h11⟩
    · exact absurd (List.length_eq_zero_iff.1 hl0) hne
    · simp only [Value.slice.injEq] at h6
      exact ⟨g, 0, h6.1, fun j u hj => by rw [Nat.zero_add]; exact cell_take h7 h11 hj⟩
  · rename_i sz' l
    simp only [Option.some.injEq, Prod.mk.injEq] at hx
    obtain ⟨rfl, rfl⟩ := hx
    cases hv with | one hv => ?_
    cases hv with | f hv => ?_
    have hsz' : ∃ sz, sz = sz' := ⟨_, rfl⟩
    obtain ⟨sz, hsz'⟩ := hsz'
    rw [← hsz'] at hv ⊢
    clear hsz'
    cases hv with | fz _ l A cap g off vals h1 h2 h3 h4 h5 h6 h7 => ?_
    have hlen : ((List.range (l.length * sz)).map fun k => vals (k / sz) (k % sz)).length = l.length * sz := by simp
    have hcc : ∀ (i : Nat) (e : List FC) (j : Nat) (c : FC), l[i]? = some e → e[j]? = some c → ∃ u, ((List.range (l.length * sz)).map fun k => vals (k / sz) (k % sz))[i * sz + j]? = some u ∧ Rf w E.F c u := fun i e j c hi hj => by
      have hil := (List.getElem?_eq_some_iff.1 hi).1
      have hjl : j < sz := by have := (List.getElem?_eq_some_iff.1 hj).1; rw [h5 i e hi] at this; exact this
      have hlt := mul_lt hil hjl
      have hd : (i * sz + j) / sz = i := by rw [Nat.mul_comm, Nat.mul_add_div (by omega), Nat.div_eq_of_lt hjl, Nat.add_zero]
      have hm : (i * sz + j) % sz = j := by rw [Nat.mul_comm, Nat.mul_add_mod, Nat.mod_eq_of_lt hjl]
      exact ⟨vals i j, by simp [hlt, hd, hm], h7 i e j c hi hj⟩
    refine ⟨A, cap, rfl, _, hlen, h5, flat_one hlen h5 hcc, hcc, fun hne => ⟨g, off, (h4 hne).1, fun k u hk => ?_⟩⟩
    have hkl : k < l.length * sz := by have := (List.getElem?_eq_some_iff.1 hk).1; rwa [hlen] at this
    have hsz : 0 < sz := by rcases Nat.eq_zero_or_pos sz with h0 | h0; · rw [h0] at hkl; omega
                            · exact h0
    have hi : k / sz < l.length := Nat.div_lt_of_lt_mul (by rw [Nat.mul_comm]; exact hkl)
    have hj : k % sz < sz := Nat.mod_lt _ hsz
    have he := h5 _ _ (List.getElem?_eq_getElem hi)
    have := h6 _ _ (k % sz) _ (List.getElem?_eq_getElem hi) (List.getElem?_eq_getElem (by omega))
    simp [hkl] at hk
    subst hk
    rw [Nat.add_assoc, Nat.mul_comm, Nat.div_add_mod] at this
    exact this
  · simp only [Option.some.injEq, Prod.mk.injEq] at hx
    obtain ⟨rfl, rfl⟩ := hx
    exact ⟨none, 0, hv.val_inv, [], by simp, by simp, by simp, by simp, fun h => absurd rfl h⟩
  · cases hx

/-- append. -/
def plAppend (P : Program) (h : Nat → Option AB) (ty : Nat) (s x : AV) : Option (AV × List (Nat × AB)) :=
  match s, tyOf P ty, elemsOf h x with
  | .one (.row b n), some ti, some em =>
    match ti.kind, h b with
    | .slice e, some (.row rt sz l) => match tyOf P e with
      | some te => if l.length = n ∧ rt = e ∧ sz = te.size ∧ 0 < sz ∧ te.zero.length = te.size then (match em.2 with
        | [] => some (.one (.row b n), [])
        | y :: m => if em.1 = sz ∧ n + (m.length + 1) ≤ maxLen ∧ (n + (m.length + 1)) * te.bytes ≤ 140737488355328 then some (.one (.row b (n + (m.length + 1))), [(b, .row e sz (l ++ y :: m))]) else none)
        else none
      | none => none
    | _, _ => none
  | _, _, _ => none
theorem append_sound (r : R fr E t h nx a w) {o : Oper} {ty : Nat} {s x : Operand} (ho : o.op = .call { callee := .builtin .append, args := #[s, x], argTypes := #[ty, ty] }) {sv xv : AV} (hs : evT t s = some sv) (hx : evT t x = some xv)
    {y : AV} {ws : List (Nat × AB)} (hy : plAppend P h ty sv xv = some (y, ws)) : Sound P E h a w o (some y) ws := by
  unfold plAppend at hy
  split at hy
  case h_2 => cases hy
  rename_i b n ti em hti hem
  split at hy
  case h_2 => cases hy
  rename_i e rt sz l hk hb
  split at hy
  case h_2 => cases hy
  rename_i te hte
  split at hy
  case isFalse => cases hy
  rename_i hcond
  obtain ⟨rfl, rfl, hsz, hpos, hzl⟩ := hcond
  subst hsz
  have hu := slice_elem hti hk
  obtain ⟨i, d, z, hi, hd, hz, h1, h2, h3, h4, h5⟩ := tyOf_spec hte
  have hzz : z.cells.size = te.size := by rw [← hzl, h4]; simp
  obtain ⟨A0, c0, e0, hm⟩ := (ev_sound r hs).row_inv
  obtain ⟨A, c, e1, vals, k1, k2, k3, k4, k5⟩ := elems_sound (sz := em.1) (m := em.2) r (ev_sound r hx) hem
  obtain ⟨v0, vals0, g1, g2, g3, g4, g5⟩ := r.blk b _ hb
  rw [hm] at g1
  simp only [Option.some.injEq] at g1; subst g1
  have hlc : l.length ≤ c0 := by
    rcases g2.2 with ⟨q1, q2⟩ | ⟨g, cap, cur, q1, -, q2, q3, -⟩
    · simp only [Value.slice.injEq] at q1; omega
    · simp only [Value.slice.injEq] at q1; omega
  split at hy
  · rename_i hnil
    simp only [Option.some.injEq, Prod.mk.injEq] at hy
    obtain ⟨rfl, rfl⟩ := hy
    rw [hnil] at e1
    refine Sound.same (v := .slice A0 l.length c0) ?_ (fun y hy => by injection hy with hy; subst hy; exact .one (.row hm))
    have : (Builtin.append_ #[ty, ty] o.type #[.slice A0 l.length c0, .slice A 0 c]).run P w = .ok (.slice A0 l.length c0) w := by
      cases A0 <;> cases A <;> simp [Builtin.append_, run_underlying hu, sizeOf, typeInfo, hi, Builtin.lenOf, Builtin.firstCells, hlc, storeCells, loadCells, loadCellsFrom]
    unfold execOp
    simp only [ho, resolve, invoke, builtin, Sem.run_bind, Sem.run_pure, Result.andThen_ok, List.map_toArray, List.map_cons, List.map_nil, e0, e1, List.length_nil, this]
  · rename_i y0 m hcons
    split at hy
    case isFalse => cases hy
    rename_i hcond
    obtain ⟨hsz2, h63, hby⟩ := hcond
    simp only [Option.some.injEq, Prod.mk.injEq] at hy
    obtain ⟨rfl, rfl⟩ := hy
    rw [hcons] at k1 k2 k4 k5 e1
    rw [hsz2] at k1 k2 k4
    obtain ⟨g, off, rfl, hcell⟩ := k5 (by simp)
    obtain ⟨v', w', q1, q2, q3, -, q5⟩ := run_append_own_at (P := P) w 0 ty o.type rt i z te.size te.bytes hu hi hz h2.symm h3.symm hzz hpos (.slice A0 l.length c0) l.length vals0 g2 ⟨g, off, none⟩ (m.length + 1) c vals
      (by rw [k1]; rfl) (fun j u hj => by rw [add_lit]; exact hcell j u hj) k3 h63 hby (Nat.zero_le _)
    have hgF : ∀ g', (Value.slice A0 l.length c0).ownBlock = some g' → ¬ E.F g' ∧ g' < w.heap.size := fun g' hg' => by
      rcases g2.2 with ⟨p1, p2⟩ | ⟨gg, cap, cur, p1, -⟩
      · simp only [Value.slice.injEq] at p1; obtain ⟨rfl, -⟩ := p1; simp [Value.ownBlock] at hg'
      · simp only [Value.slice.injEq] at p1; obtain ⟨rfl, -⟩ := p1
        simp [Value.ownBlock] at hg'; subst hg'
        exact (r.own b _ gg hb ⟨_, _, hm⟩).2
    have hv : ∀ g', (Value.slice A0 l.length c0).ownBlock = some g' → ∃ n c, Value.slice A0 l.length c0 = .slice (some ⟨g', 0, none⟩) n c := fun g' hg' => by
      rcases g2.2 with ⟨p1, p2⟩ | ⟨gg, cap, cur, p1, -⟩
      · simp only [Value.slice.injEq] at p1; obtain ⟨rfl, -⟩ := p1; simp [Value.ownBlock] at hg'
      · simp only [Value.slice.injEq] at p1; obtain ⟨rfl, -⟩ := p1
        simp [Value.ownBlock] at hg'; subst hg'
        exact ⟨_, _, rfl⟩
    have hup := Upd.append (m := y0 :: m) hb hm g5 g3 k2 g2.1 (by simp) q2 q3 q5 hgF r.lt hv g4 k4
    refine ⟨.value v', w', _, ?_, .inl ⟨v', rfl, fun y hy => ?_⟩, hup⟩
    · unfold execOp
      simp only [ho, resolve, invoke, builtin, Sem.run_bind, Sem.run_pure, Result.andThen_ok, List.map_toArray, List.map_cons, List.map_nil, e0, e1, List.length_cons, q1]
    · injection hy with hy; subst hy
      have hsl : ∃ A c, v' = .slice A (l.length + (m.length + 1)) c := by
        rcases q2.2 with ⟨-, p2⟩ | ⟨gg, cap, cur, p1, -⟩
        · omega
        · exact ⟨_, _, p1⟩
      obtain ⟨A', c', rfl⟩ := hsl
      exact .one (.row (En.set_at _ _ _ _))

/-- The captured values. -/
def evCaps (t : Nat → Option AV) : List Operand → Option (List AC)
  | [] => some []
  | x :: r => match evT t x, evCaps t r with | some (.one c), some l => some (c :: l) | _, _ => none
theorem evCaps_sound (r : R fr E t h nx a w) : ∀ {xs : List Operand} {l : List AC}, evCaps t xs = some l → All2 (Rc w E) l (xs.map a.eval)
  | [], l, h => by simp only [evCaps, Option.some.injEq] at h; subst h; exact All2.nil _
  | x :: xs, l, h => by
    unfold evCaps at h
    split at h
    · rename_i c l' hx hl
      injection h with h; subst h
      refine All2.cons ?_ (evCaps_sound r hl)
      have := ev_sound r hx
      cases this with | one h => exact h
    · cases h
theorem func_sound (r : R fr E t h nx a w) {o : Oper} {f : Fn} {caps : Array Operand} (ho : o.op = .makeFunc f #[] caps) {l : List AC} (hl : evCaps t caps.toList = some l) : Sound P E h a w o (some (.one (.fn f l))) [] := by
  have hall := evCaps_sound r hl
  refine Sound.same (v := .func f #[] (caps.map a.eval)) ?_ (fun y hy => ?_)
  · unfold execOp
    simp [ho, Instr.makeFunc]
  · injection hy with hy; subst hy
    have hc : ∀ j c, l[j]? = some c → (caps.map a.eval)[j]? = some ((caps.map a.eval).getD j undef) ∧ Rc w E c ((caps.map a.eval).getD j undef) := fun j c hj => by
      obtain ⟨u, h1, h2⟩ := hall.2 j c hj
      have h3 : (caps.map a.eval)[j]? = some u := by simpa using h1
      have h4 : (caps.map a.eval).getD j undef = u := by rw [Array.getD_eq_getD_getElem?, h3]; rfl
      rw [h4]; exact ⟨h3, h2⟩
    exact .one (.fn (fun j => (caps.map a.eval).getD j undef) (by have := hall.1; simpa using this) (fun j c hj => (hc j c hj).1) (fun j c hj => (hc j c hj).2))
end
end Go.Abs
