/- Part 7 of the base: the walks and plain facts that the statement rests on. -/
import Derived.Test.YtfhgknmkpegpbaaM6
import Derived.Laws.Pointers
import Derived.Laws.Small
import Derived.Laws.MakeOwn
import Derived.Laws.Append
import Derived.Laws.AppendOwn

set_option linter.unusedVariables false
set_option linter.unusedSimpArgs false
namespace Go.Abs
open Go.RowKit
def cv : Value → Option AV
 | .agg cs => if cs.toList.all okV then some (.agg (cs.toList.map fun u => .f (.v u))) else none
 | .tuple _ => none
 | .string s => if okV (.string s) then some (.one (.f (.v (.string s)))) else none
 | v => some (.one (.f (.v v)))
def evT (t : Nat → Option AV) : Operand → Option AV
 | .tmp i => t i
 | .const v => cv v
 | .global _ => none
 | .func f => some (.one (.fn (.func f) []))
theorem All2.vals {w : World} {E : En} : ∀ {cs : List Value}, (∀ u ∈ cs, okV u = true) → All2 (Rc w E) (cs.map fun u => AC.f (.v u)) cs
 | [], _ => All2.nil _
 | u :: cs, h => All2.cons (.f (.v u (h u (by simp)))) (All2.vals fun x hx => h x (by simp [hx]))
theorem Rv.ofAll2 {w : World} {E : En} {l : List AC} {vs : Array Value} (h : All2 (Rc w E) l vs.toList) : Rv w E (.agg l) (.agg vs) :=
 .agg (by simpa using h.1) fun j c hj => by simpa using h.2 j c hj
theorem cv_sound {w : World} {E : En} {v : Value} {x : AV} (h : cv v = some x) : Rv w E x v := by
 cases v with
 | agg cs =>
  simp only [cv] at h
  split at h
  ·rename_i ha
   injection h with h; subst h
   exact Rv.ofAll2 (All2.vals fun u hu => List.all_eq_true.1 ha u hu)
  ·cases h
 | tuple vs => cases h
 | string s =>
  simp only [cv] at h
  split at h
  ·rename_i ho; injection h with h; subst h; exact .one (.f (.v _ ho))
  ·cases h
 | _ => simp only [cv, Option.some.injEq] at h; subst h; exact .one (.f (.v _ rfl))
section
variable {P : Program} {fr : Fr} {E : En} {t : Nat → Option AV} {h : Nat → Option AB} {nx : Nat} {a : Act} {w : World}
theorem ev_sound (r : R fr E t h nx a w) {x : Operand} {y : AV} (hx : evT t x = some y) : Rv w E y (a.eval x) := by
 cases x with
 | tmp i => exact r.eval hx
 | const v => exact cv_sound hx
 | global g => cases hx
 | func f => simp only [evT, Option.some.injEq] at hx; subst hx; exact .one (.fn (fun _ => undef) rfl (fun j c hj => by simp at hj) (fun j c hj => by simp at hj))
def ups {α : Type} (h : Nat → Option α) : List (Nat × α) → Nat → Option α
 | [] => h
 | p :: r => ups (up h p.1 p.2) r
def Sound (P : Program) (E : En) (h : Nat → Option AB) (a : Act) (w : World) (o : Oper) (x : Option AV) (ws : List (Nat × AB)) : Prop :=
 ∃ res w' E', (execOp a.eval o).run P w = .ok res w' ∧ ((∃ v, res = .value v ∧ ∀ y, x = some y → Rv w' E' y v) ∨ (res = .skip ∧ x = none)) ∧ Upd E h w (ws.map (·.1)) E' (ups h ws) w'
theorem Sound.same {o : Oper} {x : Option AV} {v : Value} (hr : (execOp a.eval o).run P w = .ok (.value v) w) (hv : ∀ y, x = some y → Rv w E y v) : Sound P E h a w o x [] :=
 ⟨_, w, E, hr, .inl ⟨v, rfl, hv⟩, Upd.refl E h w⟩
def readAt (h : Nat → Option AB) : AV → Option (List AC × Nat)
 | .one (.ptr b off) => match h b with | some (.box _ l) => some (l, off) | _ => none
 | .one (.ep b n sz i off) => match h b with
  | some (.row _ sz' l) => if l.length = n ∧ sz' = sz then (match l[i]? with | some e => some (e.map .f, off) | none => none) else none
  | _ => none
 | .one (.fp l) => some (l.map .f, 0)
 | _ => none
theorem own_get {ty sz n : Nat} {v : Value} {vals : List Value} (hown : w.ownsRow 0 ty sz v n vals) {i : Nat} (hi : i < vals.length) : ∃ g cap cur, v = .slice (some ⟨g, 0, none⟩) n cap ∧ w.heap[g]? = some (.cells cur ty (0, 0)) ∧ n ≤ cap ∧ cap ≤ maxLen ∧ cur.size = cap * sz ∧ cur.toList.take (n * sz) = vals := by
 rcases hown.2 with ⟨h1, h2⟩ | ⟨g, cap, cur, h1, -, h2, h3, h4, h5, h6⟩
 ·have := hown.1; rw [h2] at this; omega
 ·exact ⟨g, cap, cur, h1, h2, h3, h4, h5, h6⟩
theorem cell_take {g ty m : Nat} {cur : Array Value} {vals : List Value} (hg : w.heap[g]? = some (.cells cur ty (0, 0))) (ht : cur.toList.take m = vals) {j : Nat} {u : Value} (hj : vals[j]? = some u) : w.cell? ⟨g, j, none⟩ = some u := by
 have hlt : j < m := by
  have := (List.getElem?_eq_some_iff.1 hj).1
  rw [← ht] at this; simp at this; omega
 rw [← ht, List.getElem?_take_of_lt hlt] at hj
 simp only [World.cell?, hg]
 simpa using hj
theorem mul_lt {i n sz j : Nat} (hi : i < n) (hj : j < sz) : i * sz + j < n * sz := by
 have : (i + 1) * sz ≤ n * sz := Nat.mul_le_mul_right _ (by omega)
 rw [Nat.succ_mul] at this; omega
theorem All2.map {α β γ : Type} {r : α → β → Prop} {s : γ → β → Prop} (f : α → γ) {l : List α} {m : List β} (h : All2 r l m) (k : ∀ x u, r x u → s (f x) u) : All2 s (l.map f) m :=
 ⟨by simp [h.1], fun j x hj => by
  rw [List.getElem?_map] at hj
  cases hl : l[j]? with
  | none => rw [hl] at hj; cases hj
  | some y =>
   rw [hl] at hj; simp at hj; subst hj
   obtain ⟨u, h1, h2⟩ := h.2 j y hl
   exact ⟨u, h1, k _ _ h2⟩⟩
theorem row_elem {b ty sz : Nat} {l : List (List FC)} (hb : Rb w E b (.row ty sz l)) {i : Nat} {e : List FC} (hi : l[i]? = some e) :
  ∃ g cap cur, E.m b l.length = some (.slice (some ⟨g, 0, none⟩) l.length cap) ∧ w.heap[g]? = some (.cells cur ty (0, 0)) ∧ l.length ≤ cap ∧ cap ≤ maxLen ∧ cur.size = cap * sz ∧ e.length = sz ∧
   ∃ ev : List Value, All2 (Rf w E.F) e ev ∧ (∀ j u, ev[j]? = some u → w.cell? ⟨g, i * sz + j, none⟩ = some u) ∧ ∀ j u, ev[j]? = some u → cur[i * sz + j]? = some u := by
 obtain ⟨v, vals, h1, h2, h3, h4, h5⟩ := hb
 have hil := (List.getElem?_eq_some_iff.1 hi).1
 have he := h3 i e hi
 have hvl := h2.1
 by_cases hsz : sz = 0
 ·subst hsz
  have he0 : e = [] := List.length_eq_zero_iff.1 he
  subst he0
  rcases h2.2 with ⟨hv, hn⟩ | ⟨g, cap, cur, hv, -, hg, hc1, hc2, hc3, hc4⟩
  ·omega
  ·exact ⟨g, cap, cur, by rw [h1, hv], hg, hc1, hc2, hc3, he, [], All2.nil _, fun j u hj => by simp at hj, fun j u hj => by simp at hj⟩
 have hlt := mul_lt (j := 0) hil (Nat.pos_of_ne_zero hsz)
 obtain ⟨g, cap, cur, hv, hg, hc1, hc2, hc3, hc4⟩ := own_get h2 (i := i * sz + 0) (by omega)
 subst hv
 have hget : ∀ j u, ((vals.drop (i * sz)).take sz)[j]? = some u → vals[i * sz + j]? = some u := fun j u hj => by
  have hjl : j < sz := by have := (List.getElem?_eq_some_iff.1 hj).1; simp at this; omega
  rw [List.getElem?_take_of_lt hjl, List.getElem?_drop] at hj
  exact hj
 refine ⟨g, cap, cur, h1, hg, hc1, hc2, hc3, he, (vals.drop (i * sz)).take sz, ⟨?_, fun j c hj => ?_⟩, fun j u hj => cell_take hg hc4 (hget j u hj), fun j u hj => ?_⟩
 ·have : i * sz + sz ≤ l.length * sz := by have := Nat.mul_le_mul_right sz (show i + 1 ≤ l.length by omega); rw [Nat.succ_mul] at this; exact this
  simp; omega
 ·obtain ⟨u, h6, h7⟩ := h4 i e j c hi hj
  have hjl : j < sz := by have := (List.getElem?_eq_some_iff.1 hj).1; omega
  exact ⟨u, by rw [List.getElem?_take_of_lt hjl, List.getElem?_drop]; exact h6, h7⟩
 ·have h6 := hget j u hj
  have hlt2 : i * sz + j < l.length * sz := by have := (List.getElem?_eq_some_iff.1 h6).1; omega
  rw [← hc4, List.getElem?_take_of_lt hlt2] at h6
  simpa using h6
theorem read_sound (r : R fr E t h nx a w) {x : AV} {v : Value} {cells : List AC} {off : Nat} (hv : Rv w E x v) (hx : readAt h x = some (cells, off)) :
  ∃ g base cvals, v = .pointer (some ⟨g, base + off, none⟩) ∧ All2 (Rc w E) cells cvals ∧ ∀ j u, cvals[j]? = some u → w.cell? ⟨g, base + j, none⟩ = some u := by
 cases hv with
 | agg => cases hx
 | tup => cases hx
 | one hc =>
  cases hc with
  | f => cases hx
  | row => cases hx
  | fn => cases hx
  | mp => cases hx
  | @ptr b o g hm =>
   simp only [readAt] at hx
   split at hx
   ·rename_i ty l hb
    simp only [Option.some.injEq, Prod.mk.injEq] at hx
    obtain ⟨rfl, rfl⟩ := hx
    obtain ⟨g', vs, h1, h2, h3, h4⟩ := r.blk b _ hb
    rw [hm] at h1
    have : g = g' := by simpa using h1
    subst this
    refine ⟨g, 0, vs.toList, by simp, ⟨by simpa using h3, fun j c hj => by simpa using h4 j c hj⟩, fun j u hj => ?_⟩
    simp only [World.cell?, h2]
    simpa using hj
   ·cases hx
  | @ep b n sz i o g oo c hm =>
   simp only [readAt] at hx
   split at hx
   ·rename_i ty sz' l hb
    split at hx
    ·rename_i hcond
     obtain ⟨rfl, rfl⟩ := hcond
     split at hx
     ·rename_i e hi
      simp only [Option.some.injEq, Prod.mk.injEq] at hx
      obtain ⟨rfl, rfl⟩ := hx
      obtain ⟨g', cap, cur, h1, -, -, -, -, -, ev, h2, h3, -⟩ := row_elem (r.blk b _ hb) hi
      rw [hm] at h1
      have hgg : g = g' ∧ oo = 0 := by simp at h1; exact ⟨h1.1.1, h1.1.2⟩
      obtain ⟨rfl, rfl⟩ := hgg
      exact ⟨g, i * sz', ev, by rw [Nat.zero_add], h2.map _ (fun x u hx => .f hx), h3⟩
     ·cases hx
    ·cases hx
   ·cases hx
  | @fp l g o vals hF hcell hr =>
   simp only [readAt, Option.some.injEq, Prod.mk.injEq] at hx
   obtain ⟨rfl, rfl⟩ := hx
   refine ⟨g, o, (List.range l.length).map vals, rfl, ⟨by simp, fun j c hj => ?_⟩, fun j u hj => ?_⟩
   ·rw [List.getElem?_map] at hj
    cases hl : l[j]? with
    | none => rw [hl] at hj; cases hj
    | some y =>
     rw [hl] at hj; simp at hj; subst hj
     have hjl := (List.getElem?_eq_some_iff.1 hl).1
     exact ⟨vals j, by simp [hjl], .f (hr j y hl)⟩
   ·have hjl : j < l.length := by have := (List.getElem?_eq_some_iff.1 hj).1; simpa using this
    simp [hjl] at hj
    subst hj
    exact hcell j _ (List.getElem?_eq_getElem hjl)
def ldv (ti : TI) (cells : List AC) (off : Nat) : Option AV :=
 if ti.kind.agg then (if off + ti.size ≤ cells.length then some (.agg ((cells.drop off).take ti.size)) else none) else (match cells[off]? with | some c => some (.one c) | none => none)
def plLoad (P : Program) (h : Nat → Option AB) (t : Nat) (x : AV) : Option AV :=
 match tyOf P t, readAt h x with
 | some ti, some p => ldv ti p.1 p.2
 | _, _ => none
theorem ldv_sound {ty : Nat} {ti : TI} (hti : tyOf P ty = some ti) {cells : List AC} {cvals : List Value} {off g base : Nat} {y : AV} (h2 : All2 (Rc w E) cells cvals) (h3 : ∀ j u, cvals[j]? = some u → w.cell? ⟨g, base + j, none⟩ = some u)
  (hy : ldv ti cells off = some y) : ∃ v, (loadVar ty ⟨g, base + off, none⟩).run P w = .ok v w ∧ Rv w E y v := by
 unfold ldv at hy
 have hl := h2.1
 cases hk : ti.kind.agg
 ·simp only [hk, Bool.false_eq_true, if_false] at hy
  split at hy
  ·rename_i c hc
   simp only [Option.some.injEq] at hy; subst hy
   obtain ⟨u, h4, h5⟩ := h2.2 off c hc
   have := loadVar_run hti w g (base + off) [u] (by simp [hk]) (fun j v hj => by
    cases j with
    | zero => simp at hj; subst hj; exact h3 off _ h4
    | succ j => simp at hj)
   simp only [hk, Bool.false_eq_true, if_false, List.headD_cons] at this
   exact ⟨u, this, .one h5⟩
  ·cases hy
 ·simp only [hk, if_true] at hy
  split at hy
  ·rename_i hle
   simp only [Option.some.injEq] at hy; subst hy
   have := loadVar_run hti w g (base + off) ((cvals.drop off).take ti.size) (by simp [hk]; omega) (fun j v hj => by
    have hjl : j < ti.size := by have := (List.getElem?_eq_some_iff.1 hj).1; simp at this; omega
    rw [List.getElem?_take_of_lt hjl, List.getElem?_drop] at hj
    rw [Nat.add_assoc]; exact h3 _ _ hj)
   simp only [hk, if_true] at this
   exact ⟨_, this, Rv.ofAll2 (by simpa using (h2.drop off).take ti.size)⟩
  ·cases hy
theorem load_sound (r : R fr E t h nx a w) {o : Oper} {ty : Nat} {x : Operand} (ho : o.op = .load ty x) {xv y : AV} (hx : evT t x = some xv) (hy : plLoad P h ty xv = some y) : Sound P E h a w o (some y) [] := by
 unfold plLoad at hy
 split at hy
 ·rename_i ti p hti hp
  obtain ⟨g, base, cvals, hv, h2, h3⟩ := read_sound r (ev_sound r hx) (cells := p.1) (off := p.2) hp
  obtain ⟨v, h4, h5⟩ := ldv_sound hti h2 h3 hy
  refine Sound.same (v := v) ?_ (fun y' e => by injection e with e; subst e; exact h5)
  unfold execOp
  simp only [ho, hv, Instr.loadAt, Instr.sureAddr, Sem.run_bind, Sem.run_pure, Result.andThen_ok, h4]
 ·cases hy
def toF : AC → Option FC
 | .f c => some c
 | _ => none
def allF : List AC → Option (List FC)
 | [] => some []
 | c :: r => match toF c, allF r with | some x, some y => some (x :: y) | _, _ => none
theorem allF_sound : ∀ {cs : List AC} {fs : List FC} {vs : List Value}, allF cs = some fs → All2 (Rc w E) cs vs → All2 (Rf w E.F) fs vs ∧ fs.length = cs.length
 | [], fs, vs, hf, hv => by
  simp only [allF, Option.some.injEq] at hf; subst hf
  exact ⟨⟨hv.1, fun j x hj => by simp at hj⟩, rfl⟩
 | c :: r, fs, vs, hf, hv => by
  unfold allF at hf
  split at hf
  ·rename_i x y hx hy
   injection hf with hf; subst hf
   obtain ⟨u, vs', rfl⟩ : ∃ u vs', vs = u :: vs' := by
    cases vs with
    | nil => have := hv.1; simp at this
    | cons u vs' => exact ⟨u, vs', rfl⟩
   obtain ⟨u', h1, h2⟩ := hv.2 0 c rfl
   simp at h1; subst h1
   have ih := allF_sound hy (vs := vs') ⟨by have := hv.1; simpa using this, fun j x hj => by simpa using hv.2 (j + 1) x (by simpa using hj)⟩
   refine ⟨All2.cons ?_ ih.1, by simp [ih.2]⟩
   cases c with
   | f c => simp only [toF, Option.some.injEq] at hx; subst hx; cases h2 with | f h => exact h
   | _ => cases hx
  ·cases hf
end
end Go.Abs
set_option linter.unusedVariables false
set_option linter.unusedSimpArgs false
namespace Go.Abs
open Go.RowKit
section
variable {P : Program} {fr : Fr} {E : En} {t : Nat → Option AV} {h : Nat → Option AB} {nx : Nat} {a : Act} {w : World}
theorem Rv.ptr_inv {b off : Nat} {v : Value} (h : Rv w E (.one (.ptr b off)) v) : ∃ g, v = .pointer (some ⟨g, off, none⟩) ∧ E.m b 0 = some (.pointer (some ⟨g, 0, none⟩)) := by
 cases h with | one h => cases h with | ptr h => exact ⟨_, rfl, h⟩
theorem Rv.ep_inv {b n sz i off : Nat} {v : Value} (h : Rv w E (.one (.ep b n sz i off)) v) : ∃ g o c, v = .pointer (some ⟨g, o + (i * sz + off), none⟩) ∧ E.m b n = some (.slice (some ⟨g, o, none⟩) n c) := by
 cases h with | one h => cases h with | ep h => exact ⟨_, _, _, rfl, h⟩
theorem Rv.row_inv {b n : Nat} {v : Value} (h : Rv w E (.one (.row b n)) v) : ∃ A c, v = .slice A n c ∧ E.m b n = some (.slice A n c) := by
 cases h with | one h => cases h with | row h => exact ⟨_, _, rfl, h⟩
theorem Rv.val_inv {x v : Value} (h : Rv w E (.one (.f (.v x))) v) : v = x := by
 cases h with | one h => cases h with | f h => cases h with | v => rfl
theorem Rv.agg_inv {l : List AC} {v : Value} (h : Rv w E (.agg l) v) : ∃ vs, v = .agg vs ∧ All2 (Rc w E) l vs.toList := by
 cases h with | @agg _ vs hs hr => exact ⟨vs, rfl, ⟨by simpa using hs, fun j c hj => by simpa using hr j c hj⟩⟩
theorem Rv.fz_inv {sz : Nat} {l : List (List FC)} {v : Value} (h : Rv w E (.one (.f (.fz sz l))) v) : ∃ A c, v = .slice A l.length c ∧ Rf w E.F (.fz sz l) v := by
 cases h with | one h => cases h with | f h => cases h with | fz sz l A cap g off vals h1 h2 h3 h4 h5 h6 h7 => exact ⟨A, cap, rfl, .fz sz l A cap g off vals h1 h2 h3 h4 h5 h6 h7⟩
def plStore (P : Program) (h : Nat → Option AB) (ty : Nat) (p x : AV) : Option (List (Nat × AB)) :=
 match tyOf P ty, cellsV x with
 | some ti, some cs =>
  if cs.length = ti.size then
   match p with
   | .one (.ptr b off) => (match h b with
    | some (.box ty l) => if off + cs.length ≤ l.length then some [(b, .box ty (splice l off cs))] else none
    | _ => none)
   | .one (.ep b n sz i off) => (match h b, allF cs with
    | some (.row ty sz' l), some fs => if l.length = n ∧ sz' = sz then (match l[i]? with
     | some e => if off + fs.length ≤ e.length then some [(b, .row ty sz' (l.set i (splice e off fs)))] else none
     | none => none) else none
    | _, _ => none)
   | _ => none
  else none
 | _, _ => none
theorem store_sound (r : R fr E t h nx a w) {o : Oper} {ty : Nat} {p x : Operand} (ho : o.op = .store ty p x) {pv xv : AV} {ws : List (Nat × AB)} (hp : evT t p = some pv) (hx : evT t x = some xv) (hy : plStore P h ty pv xv = some ws) : Sound P E h a w o none ws := by
 unfold plStore at hy
 split at hy
 case h_2 => cases hy
 rename_i ti cs hti hcs
 split at hy
 case isFalse => cases hy
 rename_i hlen
 obtain ⟨hx1, hx2, hx3⟩ := cellsV_sound (ev_sound r hx) hcs
 have hpv := ev_sound r hp
 have hvl : (a.eval x).cells.toList.length = cs.length := hx1.1
 have hvs : (a.eval x).cells.size = ti.size := by rw [hx3, hlen]
 split at hy
 ·rename_i b off
  split at hy
  case h_2 => cases hy
  rename_i ty' l hb
  split at hy
  case isFalse => cases hy
  rename_i hle
  simp only [Option.some.injEq] at hy; subst hy
  obtain ⟨g, hpe, hm⟩ := hpv.ptr_inv
  obtain ⟨g', vs, h1, h2, h3, h4⟩ := r.blk b _ hb
  rw [hm] at h1
  have : g = g' := by simpa using h1
  subst this
  have hrun := storeVar_run (P := P) hti w g off ty' vs (a.eval x) hvs hx2 h2 (by omega)
  obtain ⟨f1, f2, f3, f4, f5, f6⟩ := setRow_facts (cs := (vs.toList.take off ++ (a.eval x).cells.toList ++ vs.toList.drop (off + ti.size)).toArray) h2
  have hall : All2 (Rc w E) l vs.toList := ⟨by simpa using h3, fun j c hj => by simpa using h4 j c hj⟩
  have hsp := hall.splice hx1 hle
  have hown := r.own b _ g hb hm
  refine ⟨_, _, E, ?_, .inr ⟨rfl, rfl⟩, Upd.store hb hm hown.2.1 hown.2.2 f1 f2 f3 f4 f5 f6 ?_ (fun j c hj => ?_)⟩
  ·unfold execOp
   simp only [ho, hpe, Instr.storeAt, Instr.sureAddr, Sem.run_bind, Sem.run_pure, Result.andThen_ok, hrun]
  ·have := hsp.1
   simp only [splice] at this ⊢
   rw [hvl] at this
   rw [hlen] at this ⊢
   simpa using this
  ·obtain ⟨u, h5, h6⟩ := hsp.2 j c hj
   refine ⟨u, ?_, h6⟩
   simp only [splice] at h5
   rw [hvl, hlen] at h5
   simpa using h5
 ·rename_i b n sz i off
  split at hy
  case h_2 => cases hy
  rename_i ty' sz' l fs hb hfs
  split at hy
  case isFalse => cases hy
  rename_i hcond
  obtain ⟨rfl, rfl⟩ := hcond
  split at hy
  case h_2 => cases hy
  rename_i e hi
  split at hy
  case isFalse => cases hy
  rename_i hle
  simp only [Option.some.injEq] at hy; subst hy
  obtain ⟨g, o0, c0, hpe, hm⟩ := hpv.ep_inv
  obtain ⟨g', cap, cur, h1, h2, h3, h4, h5, h6, ev, h7, h8, h9⟩ := row_elem (r.blk b _ hb) hi
  rw [hm] at h1
  simp only [Option.some.injEq, Value.slice.injEq, Addr.mk.injEq, and_true, true_and] at h1
  obtain ⟨⟨rfl, rfl⟩, rfl⟩ := h1
  rw [Nat.zero_add] at hpe
  obtain ⟨hfa, hfl⟩ := allF_sound hfs hx1
  have hil := (List.getElem?_eq_some_iff.1 hi).1
  have hlt : i * sz' + sz' ≤ c0 * sz' := by have := Nat.mul_le_mul_right sz' (show i + 1 ≤ c0 by omega); rw [Nat.succ_mul] at this; exact this
  have hfl2 : fs.length = ti.size := by omega
  have hrun := storeVar_run (P := P) hti w g (i * sz' + off) ty' cur (a.eval x) hvs hx2 h2 (by rw [h5]; omega)
  obtain ⟨f1, f2, f3, f4, f5, f6⟩ := setRow_facts (cs := (cur.toList.take (i * sz' + off) ++ (a.eval x).cells.toList ++ cur.toList.drop (i * sz' + off + ti.size)).toArray) h2
  obtain ⟨v0, vals0, k1, k2, k3, k4, k5⟩ := r.blk b _ hb
  have hown := r.own b _ g hb ⟨_, _, hm⟩
  have hcur : cur.toList.length = c0 * sz' := by simpa using h5
  have hnew : ∀ _ : Nat, (cur.toList.take (i * sz' + off) ++ (a.eval x).cells.toList ++ cur.toList.drop (i * sz' + off + ti.size)) = splice cur.toList (i * sz' + off) (a.eval x).cells.toList := fun _ => by simp only [splice]; rw [hvl, hlen]
  have hspl : i * sz' + off + (a.eval x).cells.toList.length ≤ cur.toList.length := by rw [hvl, hcur]; omega
  refine ⟨_, _, E, ?_, .inr ⟨rfl, rfl⟩, Upd.setElem (l' := l.set i (splice e off fs)) hb hm k5 hown.2.1 hown.2.2 (by simp) rfl f1 f2 f3 f4 f5 f6 h3 h4 ?_ (fun i' e' hi' => ?_) (fun i' e' j c hi' hj => ?_)⟩
  ·unfold execOp
   simp only [ho, hpe, Instr.storeAt, Instr.sureAddr, Sem.run_bind, Sem.run_pure, Result.andThen_ok, hrun]
  ·rw [hnew 0]
   have := splice_len hspl
   simp [this, h5]
  ·by_cases hii : i = i'
   ·subst hii
    rw [List.getElem?_set_self hil] at hi'
    injection hi' with hi'; subst hi'
    rw [splice_len (by omega)]; exact h6
   ·rw [List.getElem?_set_ne hii] at hi'; exact k3 i' e' hi'
  ·rw [hnew 0]
   simp only [List.getElem?_toArray]
   rw [splice_get hspl, hvl]
   by_cases hii : i = i'
   ·subst hii
    rw [List.getElem?_set_self hil] at hi'
    injection hi' with hi'; subst hi'
    rw [splice_get (by omega)] at hj
    by_cases c1 : j < off
    ·rw [if_pos c1] at hj; rw [if_pos (by omega)]
     obtain ⟨u, h10, h11⟩ := h7.2 j c hj
     exact ⟨u, by simpa using h9 j u h10, h11⟩
    ·rw [if_neg c1] at hj; rw [if_neg (by omega)]
     by_cases c2 : j < off + fs.length
     ·rw [if_pos c2] at hj; rw [if_pos (by omega), show i * sz' + j - (i * sz' + off) = j - off by omega]
      exact hfa.2 _ c hj
     ·rw [if_neg c2] at hj; rw [if_neg (by omega)]
      obtain ⟨u, h10, h11⟩ := h7.2 j c hj
      exact ⟨u, by simpa using h9 j u h10, h11⟩
   ·rw [List.getElem?_set_ne hii] at hi'
    have hjl : j < sz' := by have := (List.getElem?_eq_some_iff.1 hj).1; rw [k3 i' e' hi'] at this; exact this
    have hor : i' * sz' + j < i * sz' + off ∨ i * sz' + off + cs.length ≤ i' * sz' + j := by
     rcases Nat.lt_or_gt_of_ne hii with hlt2 | hgt
     ·have := Nat.mul_le_mul_right sz' (show i + 1 ≤ i' by omega); rw [Nat.succ_mul] at this; right; omega
     ·have := Nat.mul_le_mul_right sz' (show i' + 1 ≤ i by omega); rw [Nat.succ_mul] at this; left; omega
    have hre := row_elem (r.blk b _ hb) hi'
    obtain ⟨g2, cap2, cur2, q1, q2, -, -, -, -, ev2, q7, q8, q9⟩ := hre
    rw [hm] at q1
    simp only [Option.some.injEq, Value.slice.injEq, Addr.mk.injEq, and_true, true_and] at q1
    obtain ⟨rfl, rfl⟩ := q1
    rw [h2] at q2
    simp only [Option.some.injEq, Obj.cells.injEq, and_true] at q2
    obtain ⟨rfl⟩ := q2
    obtain ⟨u, h10, h11⟩ := q7.2 j c hj
    refine ⟨u, ?_, h11⟩
    have := q9 j u h10
    split
    ·simpa using this
    ·rw [if_neg (by omega)]; simpa using this
 ·cases hy
theorem R.lt (r : R fr E t h nx a w) : ∀ g, E.F g → g < w.heap.size := fun g hg => (r.hF2 g hg).1
def plAlloc (P : Program) (ty nid : Nat) : Option (AV × List (Nat × AB)) :=
 match tyOf P ty with
 | some ti => some (.one (.ptr nid 0), [(nid, .box ty (ti.zero.map fun u => .f (.v u)))])
 | none => none
theorem alloc_sound (r : R fr E t h nx a w) {o : Oper} {ty nid : Nat} (ho : o.op = .alloc ty) {y : AV} {ws : List (Nat × AB)} (hn : nx ≤ nid) (hb : h nid = none) (hy : plAlloc P ty nid = some (y, ws)) : Sound P E h a w o (some y) ws := by
 unfold plAlloc at hy
 split at hy
 case h_2 => cases hy
 rename_i ti hti
 simp only [Option.some.injEq, Prod.mk.injEq] at hy
 obtain ⟨rfl, rfl⟩ := hy
 obtain ⟨i, d, z, hi, hd, hz, h1, h2, h3, h4, h5⟩ := tyOf_spec hti
 have hall : All2 (Rc w E) (ti.zero.map fun u => AC.f (.v u)) z.cells.toList := by rw [h4] at h5 ⊢; exact All2.vals h5
 refine ⟨.value (.pointer (some ⟨w.heap.size, 0, none⟩)), _, _, ?_, .inl ⟨_, rfl, fun y hy => ?_⟩, Upd.box ty _ z.cells (fun n => r.fresh nid n hn hb) hb r.lt (by simpa using hall.1) (fun j c hj => by simpa using hall.2 j c hj)⟩
 ·unfold execOp
  simp [ho, Instr.alloc, zeroValue, typeInfo, hi, hz, newVar, newRow]
 ·injection hy with hy; subst hy
  exact .one (.ptr (En.set_at _ _ _ _))
def plBox (ty nid : Nat) (x : AV) : Option (AV × List (Nat × AB)) :=
 match cellsV x with
 | some cs => some (.one (.ptr nid 0), [(nid, .box ty cs)])
 | none => none
theorem box_sound (r : R fr E t h nx a w) {o : Oper} {ty nid : Nat} {x : Operand} (ho : o.op = .box ty x) {xv y : AV} {ws : List (Nat × AB)} (hx : evT t x = some xv) (hn : nx ≤ nid) (hb : h nid = none) (hy : plBox ty nid xv = some (y, ws)) : Sound P E h a w o (some y) ws := by
 unfold plBox at hy
 split at hy
 case h_2 => cases hy
 rename_i cs hcs
 simp only [Option.some.injEq, Prod.mk.injEq] at hy
 obtain ⟨rfl, rfl⟩ := hy
 obtain ⟨hx1, hx2, hx3⟩ := cellsV_sound (ev_sound r hx) hcs
 refine ⟨.value (.pointer (some ⟨w.heap.size, 0, none⟩)), _, _, ?_, .inl ⟨_, rfl, fun y hy => ?_⟩, Upd.box ty _ (a.eval x).cells (fun n => r.fresh nid n hn hb) hb r.lt hx3 (fun j c hj => by simpa using hx1.2 j c hj)⟩
 ·unfold execOp
  simp [ho, Instr.box, newVar, newRow]
 ·injection hy with hy; subst hy
  exact .one (.ptr (En.set_at _ _ _ _))
end
end Go.Abs
set_option linter.unusedVariables false
set_option linter.unusedSimpArgs false
namespace Go.Abs
open Go.RowKit
section
variable {P : Program} {fr : Fr} {E : En} {t : Nat → Option AV} {h : Nat → Option AB} {nx : Nat} {a : Act} {w : World}
def evParts (t : Nat → Option AV) : List (Nat × Operand) → Option (List (Nat × AV))
 | [] => some []
 | p :: r => match evT t p.2, evParts t r with | some x, some l => some ((p.1, x) :: l) | _, _ => none
theorem evParts_sound (r : R fr E t h nx a w) : ∀ {ps : List (Nat × Operand)} {l : List (Nat × AV)}, evParts t ps = some l → All2 (fun (p : Nat × AV) (q : Nat × Value) => q.1 = p.1 ∧ Rv w E p.2 q.2) l (ps.map fun p => (p.1, a.eval p.2))
 | [], l, h => by simp only [evParts, Option.some.injEq] at h; subst h; exact All2.nil _
 | p :: ps, l, h => by
  unfold evParts at h
  split at h
  ·rename_i x l' hx hl
   injection h with h; subst h
   exact All2.cons ⟨rfl, ev_sound r hx⟩ (evParts_sound r hl)
  ·cases h
def plBuild (P : Program) (ty : Nat) (ps : List (Nat × AV)) : Option AV :=
 match tyOf P ty with
 | some ti =>
  match ti.kind with
  | .struct fs => match afill (fun i => (fs[i]?).map (·.2)) (ti.zero.map fun u => .f (.v u)) ps with | some l => some (.agg l) | none => none
  | _ => none
 | none => none
theorem build_sound (r : R fr E t h nx a w) {o : Oper} {ty : Nat} {parts : Array (Nat × Operand)} (ho : o.op = .build ty parts) {ps : List (Nat × AV)} (hps : evParts t parts.toList = some ps) {y : AV} (hy : plBuild P ty ps = some y) : Sound P E h a w o (some y) [] := by
 unfold plBuild at hy
 split at hy
 case h_2 => cases hy
 rename_i ti hti
 split at hy
 case h_2 => cases hy
 rename_i fs hk
 split at hy
 case h_2 => cases hy
 rename_i l hl
 simp only [Option.some.injEq] at hy; subst hy
 obtain ⟨i, d, z, hi, hd, hz, h1, h2, h3, h4, h5⟩ := tyOf_spec hti
 have hall : All2 (Rc w E) (ti.zero.map fun u => AC.f (.v u)) z.cells.toList := by rw [h4] at h5 ⊢; exact All2.vals h5
 rw [hk] at h1
 cases d <;> simp only [kindOf, Option.some.injEq, Option.map_eq_some_iff, reduceCtorEq, and_false, exists_false, TK.struct.injEq] at h1
 rename_i fields
 obtain ⟨l', hf, rfl⟩ := h1
 have hpl := fieldsOf_places hf
 obtain ⟨ov, h6, h7⟩ := afill_sound _ ps _ _ l z.cells (evParts_sound r hps) hall hl
 have hb : P.built ty ((parts.toList.map fun p => (p.1, a.eval p.2))) = some ov := by
  unfold Program.built
  simp only [hi, hd, hz, hpl]
  rw [← h6]
  congr 1
  funext x
  simp
 have hrun := run_build w ty (parts.map fun (i, x) => (i, a.eval x)) ov (by simpa using hb)
 refine Sound.same (v := .agg ov) ?_ (fun y hy => by injection hy with hy; subst hy; exact Rv.ofAll2 h7)
 unfold execOp
 simp only [ho, Sem.run_bind, hrun, Result.andThen_ok, Sem.run_pure]
def plFieldAddr (P : Program) (ty f : Nat) (x : AV) : Option AV :=
 match tyOf P ty with
 | some ti =>
  match ti.kind with
  | .struct fs => match fs[f]? with
   | some q => if q.2.2 = 0 then none else match x with
    | .one (.ptr b off) => some (.one (.ptr b (off + q.2.1)))
    | .one (.ep b n sz i off) => some (.one (.ep b n sz i (off + q.2.1)))
    | .one (.fp l) => some (.one (.fp (l.drop q.2.1)))
    | _ => none
   | none => none
  | _ => none
 | none => none
theorem field_facts {ty : Nat} {ti : TI} (hti : tyOf P ty = some ti) {fs : List (Nat × Nat × Nat)} (hk : ti.kind = .struct fs) {f : Nat} {q : Nat × Nat × Nat} (hq : fs[f]? = some q) :
  ∃ fields fld i, P.underlying ty = some (.struct fields) ∧ fields[f]? = some fld ∧ P.info? fld.type = some i ∧ q = (fld.type, fld.offset, i.size) := by
 obtain ⟨i, d, z, hi, hd, hz, h1, h2, h3, h4, h5⟩ := tyOf_spec hti
 rw [hk] at h1
 cases d <;> simp only [kindOf, Option.some.injEq, Option.map_eq_some_iff, reduceCtorEq, and_false, exists_false, TK.struct.injEq] at h1
 rename_i fields
 obtain ⟨l', hf, rfl⟩ := h1
 obtain ⟨fld, i', h6, h7, h8⟩ := fieldsOf_get hf hq
 exact ⟨fields, fld, i', hd, by simpa using h6, h7, h8⟩
theorem fieldAddr_sound (r : R fr E t h nx a w) {o : Oper} {ty f : Nat} {x : Operand} (ho : o.op = .fieldAddr ty x f) {xv y : AV} (hx : evT t x = some xv) (hy : plFieldAddr P ty f xv = some y) : Sound P E h a w o (some y) [] := by
 unfold plFieldAddr at hy
 split at hy
 case h_2 => cases hy
 rename_i ti hti
 split at hy
 case h_2 => cases hy
 rename_i fs hk
 split at hy
 case h_2 => cases hy
 rename_i q hq
 split at hy
 case isTrue => cases hy
 rename_i hq0
 obtain ⟨fields, fld, i, h1, h2, h3, rfl⟩ := field_facts hti hk hq
 simp only at hq0 hy
 have hxv := ev_sound r hx
 have hrun : ∀ g o', a.eval x = .pointer (some ⟨g, o', none⟩) → (execOp a.eval o).run P w = .ok (.value (.pointer (some ⟨g, o' + fld.offset, none⟩))) w := fun g o' e => by
  unfold execOp
  simp [ho, e, Instr.fieldAt, run_underlying h1, h2, Instr.sureAddr, fieldPlace, sizeOf, typeInfo, h3, hq0, add_lit]
 split at hy
 ·rename_i b off
  simp only [Option.some.injEq] at hy; subst hy
  obtain ⟨g, he, hm⟩ := hxv.ptr_inv
  exact Sound.same (hrun g off he) (fun y hy => by injection hy with hy; subst hy; exact .one (.ptr hm))
 ·rename_i b n sz i' off
  simp only [Option.some.injEq] at hy; subst hy
  obtain ⟨g, oo, c, he, hm⟩ := hxv.ep_inv
  exact Sound.same (hrun g _ he) (fun y hy => by injection hy with hy; subst hy; rw [Nat.add_assoc, Nat.add_assoc]; exact .one (.ep hm))
 ·rename_i l
  simp only [Option.some.injEq] at hy; subst hy
  generalize hev : a.eval x = ev at hxv
  cases hxv with | one hxv => ?_
  cases hxv with | @fp _ g off vals hF hcell hr => ?_
  refine Sound.same (hrun g off hev) (fun y hy => ?_)
  injection hy with hy; subst hy
  refine .one (.fp (fun j => vals (fld.offset + j)) (fun hne => hF (fun e => hne (by rw [e]; simp))) (fun j c hj => ?_) (fun j c hj => ?_))
  ·rw [List.getElem?_drop] at hj
   rw [Nat.add_assoc]; exact hcell _ c hj
  ·rw [List.getElem?_drop] at hj; exact hr _ c hj
 ·cases hy
def plField (P : Program) (ty f : Nat) (x : AV) : Option AV :=
 match tyOf P ty, x with
 | some ti, .agg l =>
  match ti.kind with
  | .struct fs => match fs[f]? with
   | some q => match tyOf P q.1 with | some tf => ldv tf l q.2.1 | none => none
   | none => none
  | _ => none
 | _, _ => none
theorem field_sound (r : R fr E t h nx a w) {o : Oper} {ty f : Nat} {x : Operand} (ho : o.op = .field ty x f) {xv y : AV} (hx : evT t x = some xv) (hy : plField P ty f xv = some y) : Sound P E h a w o (some y) [] := by
 unfold plField at hy
 split at hy
 case h_2 => cases hy
 rename_i ti l hti
 split at hy
 case h_2 => cases hy
 rename_i fs hk
 split at hy
 case h_2 => cases hy
 rename_i q hq
 split at hy
 case h_2 => cases hy
 rename_i tf htf
 obtain ⟨fields, fld, i, h1, h2, h3, rfl⟩ := field_facts hti hk hq
 simp only at htf hy
 obtain ⟨vs, hev, hall⟩ := (ev_sound r hx).agg_inv
 have hl := hall.1
 unfold ldv at hy
 cases hka : tf.kind.agg
 ·simp only [hka, Bool.false_eq_true, if_false] at hy
  split at hy
  ·rename_i c hc
   simp only [Option.some.injEq] at hy; subst hy
   obtain ⟨u, h4, h5⟩ := hall.2 _ c hc
   refine Sound.same (v := u) ?_ (fun y hy => by injection hy with hy; subst hy; exact .one h5)
   unfold execOp
   have h6 : vs[fld.offset]? = some u := by simpa using h4
   simp [ho, hev, Instr.field, run_underlying h1, h2, asAgg, part, isAgg_run htf, hka, h6]
  ·cases hy
 ·simp only [hka, if_true] at hy
  split at hy
  ·rename_i hle
   simp only [Option.some.injEq] at hy; subst hy
   refine Sound.same (v := .agg (vs.extract fld.offset (fld.offset + tf.size))) ?_ (fun y hy => ?_)
   ·unfold execOp
    simp [ho, hev, Instr.field, run_underlying h1, h2, asAgg, part, isAgg_run htf, hka, sizeOf_run htf]
   ·injection hy with hy; subst hy
    refine Rv.ofAll2 ?_
    have := (hall.drop fld.offset).take tf.size
    have e : (vs.extract fld.offset (fld.offset + tf.size)).toList = (vs.toList.drop fld.offset).take tf.size := by
     simp [Array.toList_extract, List.extract]
    rw [e]; exact this
  ·cases hy
def plIndexAddr (P : Program) (h : Nat → Option AB) (ty : Nat) (x i : AV) : Option AV :=
 match tyOf P ty, i with
 | some ti, .one (.f (.v (.int _ n))) =>
  match ti.kind with
  | .slice e => match tyOf P e with
   | some te => if 0 ≤ n then match x with
    | .one (.f (.fz sz l)) => if sz = te.size then match l[n.toNat]? with | some c => some (.one (.fp c)) | none => none else none
    | .one (.row b m) => (match h b with | some (.row _ sz l) => if l.length = m ∧ sz = te.size ∧ n.toNat < m then some (.one (.ep b m sz n.toNat 0)) else none | some (.obj (.row _ sz k _)) => if k = m ∧ sz = te.size ∧ n.toNat < m then some (.one (.ep b m sz n.toNat 0)) else none | _ => none)
    | _ => none
    else none
   | none => none
  | _ => none
 | _, _ => none
theorem slice_elem {ty : Nat} {ti : TI} (hti : tyOf P ty = some ti) {e : Nat} (hk : ti.kind = .slice e) : P.underlying ty = some (.slice e) := by
 obtain ⟨i, d, z, hi, hd, hz, h1, h2, h3, h4, h5⟩ := tyOf_spec hti
 rw [hk] at h1
 cases d <;> simp only [kindOf, Option.some.injEq, Option.map_eq_some_iff, reduceCtorEq, and_false, exists_false, TK.slice.injEq] at h1
 rw [hd, h1]
theorem indexAddr_sound (r : R fr E t h nx a w) {o : Oper} {ty : Nat} {x i : Operand} (ho : o.op = .indexAddr ty x i) {xv iv y : AV} (hx : evT t x = some xv) (hi : evT t i = some iv) (hy : plIndexAddr P h ty xv iv = some y) : Sound P E h a w o (some y) [] := by
 unfold plIndexAddr at hy
 split at hy
 case h_2 => cases hy
 rename_i ti k n hti
 split at hy
 case h_2 => cases hy
 rename_i e hk
 split at hy
 case h_2 => cases hy
 rename_i te hte
 split at hy
 case isFalse => cases hy
 rename_i hn
 have hu := slice_elem hti hk
 have hiv := (ev_sound r hi).val_inv
 have hxv := ev_sound r hx
 have hrun : ∀ g o' len c, a.eval x = .slice (some ⟨g, o', none⟩) len c → n.toNat < len → (execOp a.eval o).run P w = .ok (.value (.pointer (some ⟨g, o' + n.toNat * te.size, none⟩))) w := fun g o' len c e hlt => by
  unfold execOp
  have : n < (len : Int) := by omega
  simp [ho, e, hiv, Instr.indexAt, asIntOf, run_underlying hu, sizeOf_run hte, hn, this, add_lit]
 split at hy
 ·rename_i sz l
  split at hy
  case isFalse => cases hy
  rename_i hsz
  subst hsz
  split at hy
  case h_2 => cases hy
  rename_i c hc
  simp only [Option.some.injEq] at hy; subst hy
  generalize hev : a.eval x = ev at hxv
  cases hxv with | one hxv => ?_
  cases hxv with | f hxv => ?_
  cases hxv with | fz sz l A cap g off vals h1 h2 h3 h4 h5 h6 h7 => ?_
  have hlt := (List.getElem?_eq_some_iff.1 hc).1
  have hne : l ≠ [] := by intro e; rw [e] at hc; simp at hc
  obtain ⟨hA, hF⟩ := h4 hne
  subst hA
  refine Sound.same (hrun g off _ _ hev hlt) (fun y hy => ?_)
  injection hy with hy; subst hy
  exact .one (.fp (fun j => vals n.toNat j) (fun _ => hF) (fun j u hj => h6 _ c j u hc hj) (fun j u hj => h7 _ c j u hc hj))
 ·rename_i b m
  split at hy
  case h_3 => cases hy
  case h_1 =>
   rename_i ty' sz l hb
   split at hy
   case isFalse => cases hy
   rename_i hcond
   obtain ⟨rfl, hsz, hlt⟩ := hcond
   simp only [Option.some.injEq] at hy; subst hy
   obtain ⟨A, c, he, hm⟩ := hxv.row_inv
   obtain ⟨g, cap, cur, h1, -⟩ := row_elem (r.blk b _ hb) (List.getElem?_eq_getElem hlt)
   rw [hm] at h1
   simp only [Option.some.injEq, Value.slice.injEq, true_and] at h1
   obtain ⟨rfl, rfl⟩ := h1
   have := hrun g 0 _ _ he hlt
   rw [← hsz] at this
   exact Sound.same this (fun y hy => by injection hy with hy; subst hy; exact .one (.ep hm))
  case h_2 =>
   rename_i ty' sz k' l hb
   split at hy
   case isFalse => cases hy
   rename_i hcond
   obtain ⟨rfl, hsz, hlt⟩ := hcond
   simp only [Option.some.injEq] at hy; subst hy
   obtain ⟨A, c, he, hm⟩ := hxv.row_inv
   obtain ⟨u, h1, h2⟩ := r.blk b _ hb
   simp only [OC.len] at h1
   rw [hm] at h1
   injection h1 with h1; subst h1
   simp only [Ro] at h2
   rcases h2 with ⟨-, h3, -⟩ | ⟨g, off, cap, cur, Gc, h3, -⟩
   ·omega
   simp only [Value.slice.injEq, true_and] at h3
   obtain ⟨rfl, rfl⟩ := h3
   have := hrun g off _ _ he hlt
   rw [← hsz] at this
   exact Sound.same this (fun y hy => by injection hy with hy; subst hy; exact .one (.ep hm))
 ·cases hy
end
end Go.Abs
set_option linter.unusedVariables false
set_option linter.unusedSimpArgs false
namespace Go.Abs
open Go.RowKit
section
variable {P : Program} {fr : Fr} {E : En} {t : Nat → Option AV} {h : Nat → Option AB} {nx : Nat} {a : Act} {w : World}
abbrev AV.val (x : Value) : AV := .one (.f (.v x))
theorem Rv.val_ok {x v : Value} (h : Rv w E (.val x) v) : okV x = true := by
 cases h with | one h => cases h with | f h => cases h with | v _ h => exact h
theorem Rv.val {x : Value} (hx : okV x = true) : Rv w E (.val x) x := .one (.f (.v x hx))
def abin (op : BinOp) : Value → Value → Option Value
 | .int k a, .int k' b =>
  if k = k' then match op with
   | .add => some (.int k (k.wrap (a + b)))
   | .sub => some (.int k (k.wrap (a - b)))
   | .mul => some (.int k (k.wrap (a * b)))
   | .eql => some (.bool (decide (a = b)))
   | .neq => some (.bool (decide (a ≠ b)))
   | .lss => some (.bool (decide (a < b)))
   | .leq => some (.bool (decide (a ≤ b)))
   | .gtr => some (.bool (decide (b < a)))
   | .geq => some (.bool (decide (b ≤ a)))
   | _ => none
  else none
 | .string a, .string b => match op with
   | .eql => some (.bool (decide (a.toList = b.toList)))
   | .neq => some (.bool (decide (a.toList ≠ b.toList)))
   | .lss => some (.bool (Op.bytesLess a.toList b.toList))
   | .leq => some (.bool (Op.bytesLess a.toList b.toList || a.toList == b.toList))
   | .gtr => some (.bool !(Op.bytesLess a.toList b.toList || a.toList == b.toList))
   | .geq => some (.bool !(Op.bytesLess a.toList b.toList))
   | _ => none
 | _, _ => none
theorem abin_sound {op : BinOp} {ty : Nat} {xo yo : Operand} {x y z : Value} (hz : abin op x y = some z) : (do eqGuard op ty xo yo x y; binOp op ty x y : Sem Value).run P w = .ok z w ∧ okV z = true := by
 unfold abin at hz
 split at hz
 ·rename_i k a k' b
  split at hz
  case isFalse => cases hz
  rename_i hk; subst hk
  cases op <;> simp only [Option.some.injEq, reduceCtorEq] at hz <;> subst hz <;>
   simp [eqGuard, binOp, Op.intArith, Op.intCmp, okV, bne] <;> rfl
 ·rename_i a b
  cases op <;> simp only [Option.some.injEq, reduceCtorEq] at hz <;> subst hz <;>
   simp [eqGuard, binOp, Op.stringOp, okV] <;> (rw [Bool.eq_iff_iff]; simp)
 ·cases hz
def plBin (P : Program) (op : BinOp) (ty : Nat) : AV → AV → Option AV
 | .one (.f (.v (.bool x))), .one (.f (.v (.bool y))) => match tyOf P ty, op with
  | some ti, .eql => (match ti.kind with | .bool => some (.val (.bool (x == y))) | _ => none)
  | some ti, .neq => (match ti.kind with | .bool => some (.val (.bool (x != y))) | _ => none)
  | _, _ => none
 | .one (.f (.v x)), .one (.f (.v y)) => match abin op x y with | some z => some (.val z) | none => none
 | .one (.ptr _ _), .one (.f (.v (.pointer none))) => match tyOf P ty, op with
  | some ti, .eql => (match ti.kind with | .pointer _ => some (.val (.bool false)) | _ => none)
  | some ti, .neq => (match ti.kind with | .pointer _ => some (.val (.bool true)) | _ => none)
  | _, _ => none
 | _, _ => none
theorem bool_ty {ty : Nat} {ti : TI} (hti : tyOf P ty = some ti) (hk : ti.kind = .bool) : P.underlying ty = some .bool := by
 obtain ⟨i, d, z, hi, hd, hz, h1, h2, h3, h4, h5⟩ := tyOf_spec hti
 rw [hk] at h1
 cases d <;> simp only [kindOf, Option.some.injEq, Option.map_eq_some_iff, reduceCtorEq, and_false, exists_false] at h1
 exact hd
theorem pointer_ty {ty e : Nat} {ti : TI} (hti : tyOf P ty = some ti) (hk : ti.kind = .pointer e) : P.underlying ty = some (.pointer e) := by
 obtain ⟨i, d, z, hi, hd, hz, h1, h2, h3, h4, h5⟩ := tyOf_spec hti
 rw [hk] at h1
 cases d <;> simp only [kindOf, Option.some.injEq, Option.map_eq_some_iff, reduceCtorEq, and_false, exists_false, TK.pointer.injEq] at h1
 rw [hd, h1]
theorem pointee_ty {ty e : Nat} {ti : TI} (hti : tyOf P ty = some ti) (hk : ti.kind = .pointer e) : P.underlying ty = some (.pointer (P.pointee ty)) := by
 have := pointer_ty hti hk
 simp [Program.pointee, this]
theorem int_ty {ty : Nat} {k : IntKind} {ti : TI} (hti : tyOf P ty = some ti) (hk : ti.kind = .int k) : P.underlying ty = some (.int k) := by
 obtain ⟨i, d, z, hi, hd, hz, h1, h2, h3, h4, h5⟩ := tyOf_spec hti
 rw [hk] at h1
 cases d <;> simp only [kindOf, Option.some.injEq, Option.map_eq_some_iff, reduceCtorEq, and_false, exists_false, TK.int.injEq] at h1
 rw [hd, h1]
theorem string_ty {ty : Nat} {ti : TI} (hti : tyOf P ty = some ti) (hk : ti.kind = .string) : P.underlying ty = some .string := by
 obtain ⟨i, d, z, hi, hd, hz, h1, h2, h3, h4, h5⟩ := tyOf_spec hti
 rw [hk] at h1
 cases d <;> simp only [kindOf, Option.some.injEq, Option.map_eq_some_iff, reduceCtorEq, and_false, exists_false] at h1
 exact hd
theorem bin_sound (r : R fr E t h nx a w) {o : Oper} {op : BinOp} {ty ty2 : Nat} {x y : Operand} (ho : o.op = .binOp op ty x y ty2) {xv yv z : AV} (hx : evT t x = some xv) (hy : evT t y = some yv) (hz : plBin P op ty xv yv = some z) : Sound P E h a w o (some z) [] := by
 have hxv := ev_sound r hx
 have hyv := ev_sound r hy
 have hrun : ∀ v, (do eqGuard op ty x y (a.eval x) (a.eval y); binOp op ty (a.eval x) (a.eval y) : Sem Value).run P w = .ok v w → (execOp a.eval o).run P w = .ok (.value v) w := fun v e => by
  unfold execOp
  simp only [ho, Sem.run_bind] at e ⊢
  rw [e]
  rfl
 unfold plBin at hz
 split at hz
 ·rename_i p q
  have e1 := hxv.val_inv
  have e2 := hyv.val_inv
  split at hz
  ·rename_i ti hti
   split at hz
   ·rename_i hk
    simp only [Option.some.injEq] at hz; subst hz
    refine Sound.same (hrun _ ?_) (fun y hy => by injection hy with hy; subst hy; exact .val rfl)
    simp only [e1, e2, Sem.run_bind, eqGuard_at_bool, Sem.run_pure, Result.andThen_ok, run_eql_bool w ty _ _ (bool_ty hti hk)]
   ·cases hz
  ·rename_i ti hti
   split at hz
   ·rename_i hk
    simp only [Option.some.injEq] at hz; subst hz
    refine Sound.same (hrun _ ?_) (fun y hy => by injection hy with hy; subst hy; exact .val rfl)
    simp only [e1, e2, Sem.run_bind, eqGuard_at_bool, Sem.run_pure, Result.andThen_ok, run_neq_bool w ty _ _ (bool_ty hti hk)]
    rfl
   ·cases hz
  ·cases hz
 ·rename_i p q _
  have e1 := hxv.val_inv
  have e2 := hyv.val_inv
  split at hz
  ·rename_i v hv
   simp only [Option.some.injEq] at hz; subst hz
   obtain ⟨h1, h2⟩ := abin_sound (P := P) (w := w) (ty := ty) (xo := x) (yo := y) hv
   rw [← e1, ← e2] at h1
   exact Sound.same (hrun _ h1) (fun y hy => by injection hy with hy; subst hy; exact .val h2)
  ·cases hz
 ·rename_i b off
  obtain ⟨g, e1, hm⟩ := hxv.ptr_inv
  have e2 := hyv.val_inv
  split at hz
  ·rename_i ti hti
   split at hz
   ·rename_i el hk
    simp only [Option.some.injEq] at hz; subst hz
    refine Sound.same (hrun _ ?_) (fun y hy => by injection hy with hy; subst hy; exact .val rfl)
    simp only [e1, e2, Sem.run_bind, eqGuard_at_pointer, Sem.run_pure, Result.andThen_ok, run_eql_pointer_nil w ty _ (pointee_ty hti hk)]
    rfl
   ·cases hz
  ·rename_i ti hti
   split at hz
   ·rename_i el hk
    simp only [Option.some.injEq] at hz; subst hz
    refine Sound.same (hrun _ ?_) (fun y hy => by injection hy with hy; subst hy; exact .val rfl)
    simp only [e1, e2, Sem.run_bind, eqGuard_at_pointer, Sem.run_pure, Result.andThen_ok, run_neq_pointer_nil w ty _ (pointee_ty hti hk)]
    rfl
   ·cases hz
  ·cases hz
 ·cases hz
def plUn (op : UnOp) : AV → Option AV
 | .one (.f (.v (.bool b))) => match op with | .not => some (.val (.bool !b)) | _ => none
 | .one (.f (.v (.int k n))) => match op with | .neg => some (.val (.int k (k.wrap (0 - n)))) | _ => none
 | _ => none
theorem un_sound (r : R fr E t h nx a w) {o : Oper} {op : UnOp} {ty : Nat} {x : Operand} (ho : o.op = .unOp op ty x) {xv z : AV} (hx : evT t x = some xv) (hz : plUn op xv = some z) : Sound P E h a w o (some z) [] := by
 have hxv := ev_sound r hx
 unfold plUn at hz
 split at hz
 ·have e1 := hxv.val_inv
  cases op <;> simp only [Option.some.injEq, reduceCtorEq] at hz
  subst hz
  refine Sound.same (v := .bool _) ?_ (fun y hy => by injection hy with hy; subst hy; exact .val rfl)
  unfold execOp
  simp [ho, e1, Op.unary]
 ·have e1 := hxv.val_inv
  cases op <;> simp only [Option.some.injEq, reduceCtorEq] at hz
  subst hz
  refine Sound.same (v := .int _ _) ?_ (fun y hy => by injection hy with hy; subst hy; exact .val rfl)
  unfold execOp
  simp [ho, e1, Op.unary, Op.intArith]
 ·cases hz
def plConv (P : Program) (src dst : Nat) : AV → Option AV
 | .one (.f (.v (.int k n))) => match tyOf P src, tyOf P dst with
  | some ts, some td => (match td.kind with | .int k' => some (.val (.int k' (k'.wrap n))) | _ => none)
  | _, _ => none
 | .one (.f (.v (.string s))) => match tyOf P src, tyOf P dst with
  | some ts, some td => (match td.kind with | .string => some (.val (.string s)) | _ => none)
  | _, _ => none
 | _ => none
theorem conv_sound (r : R fr E t h nx a w) {o : Oper} {src dst : Nat} {x : Operand} (ho : o.op = .convert src dst x) {xv z : AV} (hx : evT t x = some xv) (hz : plConv P src dst xv = some z) : Sound P E h a w o (some z) [] := by
 have hxv := ev_sound r hx
 unfold plConv at hz
 split at hz
 ·rename_i k n
  have e1 := hxv.val_inv
  split at hz
  case h_2 => cases hz
  rename_i ts td hts htd
  split at hz
  ·rename_i k' hk
   simp only [Option.some.injEq] at hz; subst hz
   refine Sound.same (v := .int _ _) ?_ (fun y hy => by injection hy with hy; subst hy; exact .val rfl)
   obtain ⟨i, d, zz, hi, hd, -⟩ := tyOf_spec hts
   unfold execOp
   simp [ho, e1, convert, run_underlying hd, run_underlying (int_ty htd hk), Conv.intToInt]
  ·cases hz
 ·rename_i s
  have e1 := hxv.val_inv
  split at hz
  case h_2 => cases hz
  rename_i ts td hts htd
  split at hz
  ·rename_i hk
   simp only [Option.some.injEq] at hz; subst hz
   refine Sound.same (v := .string _) ?_ (fun y hy => by injection hy with hy; subst hy; exact .val hxv.val_ok)
   obtain ⟨i, d, zz, hi, hd, -⟩ := tyOf_spec hts
   unfold execOp
   simp [ho, e1, convert, run_underlying hd, run_underlying (string_ty htd hk)]
  ·cases hz
 ·cases hz
theorem move_sound (r : R fr E t h nx a w) {o : Oper} {x : Operand} (ho : o.op = .move x ∨ o.op = .assign x) {xv : AV} (hx : evT t x = some xv) : Sound P E h a w o (some xv) [] := by
 refine Sound.same (v := a.eval x) ?_ (fun y hy => by injection hy with hy; subst hy; exact ev_sound r hx)
 unfold execOp
 rcases ho with ho | ho <;> simp [ho]
theorem pick_sound (r : R fr E t h nx a w) {o : Oper} {c x y : Operand} (ho : o.op = .pick c x y) {b : Bool} {z : AV} (hc : evT t c = some (.val (.bool b))) (hz : (if b then evT t x else evT t y) = some z) : Sound P E h a w o (some z) [] := by
 have e1 := (ev_sound r hc).val_inv
 refine Sound.same (v := if b then a.eval x else a.eval y) ?_ (fun y hy => ?_)
 ·unfold execOp
  simp [ho, e1, asBool]
 ·injection hy with hy; subst hy
  cases b
  ·exact ev_sound r hz
  ·exact ev_sound r hz
def plNil : AV → Option AV
 | .one (.ptr b o) => some (.one (.ptr b o))
 | .one (.ep b n sz i o) => some (.one (.ep b n sz i o))
 | .one (.fp l) => some (.one (.fp l))
 | _ => none
theorem nil_sound (r : R fr E t h nx a w) {o : Oper} {x : Operand} (ho : o.op = .nilCheck x) {xv z : AV} (hx : evT t x = some xv) (hz : plNil xv = some z) : Sound P E h a w o (some z) [] := by
 have hxv := ev_sound r hx
 have hp : z = xv ∧ ∃ ad, a.eval x = .pointer (some ad) := by
  unfold plNil at hz
  split at hz
  ·obtain ⟨g, e, -⟩ := hxv.ptr_inv; simp only [Option.some.injEq] at hz; exact ⟨hz.symm, _, e⟩
  ·obtain ⟨g, oo, c, e, -⟩ := hxv.ep_inv; simp only [Option.some.injEq] at hz; exact ⟨hz.symm, _, e⟩
  ·simp only [Option.some.injEq] at hz
   generalize hev : a.eval x = ev at hxv
   cases hxv with | one hxv => cases hxv with | fp => exact ⟨hz.symm, _, rfl⟩
  ·cases hz
 obtain ⟨rfl, ad, e⟩ := hp
 refine Sound.same (v := a.eval x) ?_ (fun y hy => by injection hy with hy; subst hy; exact hxv)
 unfold execOp
 simp [ho, e]
def plExtract (i : Nat) : AV → Option AV
 | .tup l => l[i]?
 | _ => none
theorem extract_sound (r : R fr E t h nx a w) {o : Oper} {x : Operand} {i : Nat} (ho : o.op = .extract x i) {xv z : AV} (hx : evT t x = some xv) (hz : plExtract i xv = some z) : Sound P E h a w o (some z) [] := by
 have hxv := ev_sound r hx
 unfold plExtract at hz
 split at hz
 ·generalize hev : a.eval x = ev at hxv
  cases hxv with | @tup _ vs vals hs hv hr => ?_
  refine Sound.same (v := vals i) ?_ (fun y hy => by injection hy with hy; subst hy; exact hr i _ hz)
  unfold execOp
  simp [ho, hev, Instr.extract, hv i _ hz]
 ·cases hz
def plLen (P : Program) (ty : Nat) : AV → Option AV
 | .one (.f (.fz _ l)) => match tyOf P ty with
  | some ti => (match ti.kind with | .slice _ => some (.val (.int .i64 l.length)) | _ => none)
  | none => none
 | .one (.row _ n) => match tyOf P ty with
  | some ti => (match ti.kind with | .slice _ => some (.val (.int .i64 n)) | _ => none)
  | none => none
 | .one (.f (.v (.slice none 0 0))) => match tyOf P ty with
  | some ti => (match ti.kind with | .slice _ => some (.val (.int .i64 0)) | _ => none)
  | none => none
 | .one (.f (.v (.string s))) => match tyOf P ty with
  | some ti => (match ti.kind with | .string => some (.val (.int .i64 s.size)) | _ => none)
  | none => none
 | _ => none
theorem len_sound (r : R fr E t h nx a w) {o : Oper} {x : Operand} {ty : Nat} (ho : o.op = .call { callee := .builtin .len, args := #[x], argTypes := #[ty] }) {xv z : AV} (hx : evT t x = some xv) (hz : plLen P ty xv = some z) : Sound P E h a w o (some z) [] := by
 have hxv := ev_sound r hx
 have hrun : ∀ A n c e, P.underlying ty = some (.slice e) → a.eval x = .slice A n c → (execOp a.eval o).run P w = .ok (.value (.int .i64 n)) w := fun A n c e hu hv => by
  unfold execOp
  simp [ho, resolve, invoke, builtin, hv, Builtin.len_, run_underlying hu, goInt]
 unfold plLen at hz
 split at hz
 ·obtain ⟨A, c, e, -⟩ := hxv.fz_inv
  split at hz <;> try (cases hz; done)
  rename_i ti hti
  split at hz <;> try (cases hz; done)
  rename_i el hk
  simp only [Option.some.injEq] at hz; subst hz
  exact Sound.same (hrun _ _ _ _ (slice_elem hti hk) e) (fun y hy => by injection hy with hy; subst hy; exact .val rfl)
 ·obtain ⟨A, c, e, -⟩ := hxv.row_inv
  split at hz <;> try (cases hz; done)
  rename_i ti hti
  split at hz <;> try (cases hz; done)
  rename_i el hk
  simp only [Option.some.injEq] at hz; subst hz
  exact Sound.same (hrun _ _ _ _ (slice_elem hti hk) e) (fun y hy => by injection hy with hy; subst hy; exact .val rfl)
 ·have e := hxv.val_inv
  split at hz <;> try (cases hz; done)
  rename_i ti hti
  split at hz <;> try (cases hz; done)
  rename_i el hk
  simp only [Option.some.injEq] at hz; subst hz
  exact Sound.same (hrun _ _ _ _ (slice_elem hti hk) e) (fun y hy => by injection hy with hy; subst hy; exact .val rfl)
 ·have e := hxv.val_inv
  split at hz <;> try (cases hz; done)
  rename_i ti hti
  split at hz <;> try (cases hz; done)
  rename_i hk
  simp only [Option.some.injEq] at hz; subst hz
  refine Sound.same (v := .int _ _) ?_ (fun y hy => by injection hy with hy; subst hy; exact .val rfl)
  unfold execOp
  simp [ho, resolve, invoke, builtin, e, Builtin.len_, run_underlying (string_ty hti hk), goInt]
 ·cases hz
def plMax (b : Builtin) : AV → AV → Option AV
 | .one (.f (.v (.int k x))), .one (.f (.v (.int _ y))) => match b with
  | .max => some (.val (.int k (if x < y then y else x)))
  | .min => some (.val (.int k (if y < x then y else x)))
  | _ => none
 | _, _ => none
theorem max_sound (r : R fr E t h nx a w) {o : Oper} {x y : Operand} {b : Builtin} {ts : Array TypeId} (ho : o.op = .call { callee := .builtin b, args := #[x, y], argTypes := ts }) {xv yv z : AV} (hx : evT t x = some xv) (hy : evT t y = some yv) (hz : plMax b xv yv = some z) : Sound P E h a w o (some z) [] := by
 have hxv := ev_sound r hx
 have hyv := ev_sound r hy
 unfold plMax at hz
 split at hz
 ·have e1 := hxv.val_inv
  have e2 := hyv.val_inv
  cases b <;> simp only [Option.some.injEq, reduceCtorEq] at hz <;> subst hz <;>
  ·refine Sound.same (v := .int _ _) ?_ (fun y hy => by injection hy with hy; subst hy; exact .val rfl)
   unfold execOp
   simp [ho, resolve, invoke, builtin, e1, e2, Builtin.max_, Builtin.max2, Builtin.min_, Builtin.min2]
 ·cases hz
def plIndex (P : Program) (ty : Nat) : AV → AV → Option AV
 | .one (.f (.v (.string s))), .one (.f (.v (.int _ n))) => match tyOf P ty with
  | some ti => (match ti.kind with | .string => (if 0 ≤ n then (match s[n.toNat]? with | some b => some (.val (.int .u8 b.toNat)) | none => none) else none) | _ => none)
  | none => none
 | _, _ => none
theorem index_sound (r : R fr E t h nx a w) {o : Oper} {x i : Operand} {ty : Nat} (ho : o.op = .index ty x i) {xv iv z : AV} (hx : evT t x = some xv) (hi : evT t i = some iv) (hz : plIndex P ty xv iv = some z) : Sound P E h a w o (some z) [] := by
 have hxv := ev_sound r hx
 have hiv := ev_sound r hi
 unfold plIndex at hz
 split at hz
 ·rename_i s k n
  have e1 := hxv.val_inv
  have e2 := hiv.val_inv
  split at hz <;> try (cases hz; done)
  rename_i ti hti
  split at hz <;> try (cases hz; done)
  rename_i hk
  split at hz <;> try (cases hz; done)
  rename_i hn
  split at hz <;> try (cases hz; done)
  rename_i b hb
  simp only [Option.some.injEq] at hz; subst hz
  refine Sound.same (v := .int .u8 b.toNat) ?_ (fun y hy => by injection hy with hy; subst hy; exact .val rfl)
  unfold execOp
  simp [ho, e1, e2, Instr.index, asIntOf, run_underlying (string_ty hti hk), hn, hb]
 ·cases hz
end
end Go.Abs
set_option linter.unusedVariables false
set_option linter.unusedSimpArgs false
namespace Go.Abs
open Go.RowKit
section
variable {P : Program} {fr : Fr} {E : En} {t : Nat → Option AV} {h : Nat → Option AB} {nx : Nat} {a : Act} {w : World}
def chunk {α : Type} (sz : Nat) : Nat → List α → List (List α)
 | 0, _ => []
 | n + 1, l => l.take sz :: chunk sz n (l.drop sz)
theorem chunk_len {α : Type} (sz : Nat) : ∀ (n : Nat) (l : List α), (chunk sz n l).length = n
 | 0, _ => rfl
 | n + 1, l => by simp [chunk, chunk_len sz n]
theorem chunk_get {α : Type} (sz : Nat) : ∀ (n : Nat) (l : List α) (i : Nat), i < n → (chunk sz n l)[i]? = some ((l.drop (i * sz)).take sz)
 | 0, _, i, h => by omega
 | n + 1, l, 0, h => by simp [chunk]
 | n + 1, l, i + 1, h => by
  simp only [chunk, List.getElem?_cons_succ]
  rw [chunk_get sz n _ i (by omega), List.drop_drop, Nat.succ_mul, Nat.add_comm]
def zeros (te : TI) (n : Nat) : List AC := (List.range n).map fun i => .f (.v (te.zero.getD (i % te.zero.length) undef))
def plSlice (P : Program) (ty len nid : Nat) (ps : List (Nat × AV)) : Option (AV × List (Nat × AB)) :=
 match tyOf P ty with
 | some ti =>
  match ti.kind with
  | .slice e => match tyOf P e with
   | some te => if len * te.size ≤ 16777216 ∧ 0 < te.size ∧ te.zero.length = te.size ∧ len ≤ maxLen then (match afill (fun i => some (i * te.size, te.size)) (zeros te (len * te.size)) ps with
    | some l => (match allF l with
     | some fl => if fl.length = len * te.size then some (.one (.row nid len), [(nid, .row e te.size (chunk te.size len fl))]) else none
     | none => none)
    | none => none) else none
   | none => none
  | _ => none
 | none => none
theorem zeros_all2 {te : TI} (hz : ∀ u ∈ te.zero, okV u = true) (hl : 0 < te.zero.length) (n : Nat) : All2 (Rc w E) (zeros te n) ((List.range n).map fun i => te.zero.getD (i % te.zero.length) undef) := by
 refine ⟨by simp [zeros], fun j c hj => ?_⟩
 unfold zeros at hj
 have hjl : j < n := by have := (List.getElem?_eq_some_iff.1 hj).1; simpa using this
 simp [hjl] at hj
 subst hj
 refine ⟨_, by simp [hjl], .f (.v _ ?_)⟩
 have hm : j % te.zero.length < te.zero.length := Nat.mod_lt _ hl
 rw [List.getElem?_eq_getElem hm]
 exact hz _ (List.getElem_mem hm)
theorem slice_sound (r : R fr E t h nx a w) {o : Oper} {ty len nid : Nat} {parts : Array (Nat × Operand)} (ho : o.op = .buildSlice ty len parts) {ps : List (Nat × AV)} (hps : evParts t parts.toList = some ps) (hn : nx ≤ nid) (hb : h nid = none) {y : AV} {ws : List (Nat × AB)}
  (hy : plSlice P ty len nid ps = some (y, ws)) : Sound P E h a w o (some y) ws := by
 unfold plSlice at hy
 split at hy
 case h_2 => cases hy
 rename_i ti hti
 split at hy
 case h_2 => cases hy
 rename_i e hk
 split at hy
 case h_2 => cases hy
 rename_i te hte
 split at hy
 case isFalse => cases hy
 rename_i hcond
 obtain ⟨hmax, hpos, hzl, hml⟩ := hcond
 split at hy
 case h_2 => cases hy
 rename_i l hl
 split at hy
 case h_2 => cases hy
 rename_i fl hfl
 split at hy
 case isFalse => cases hy
 rename_i hfll
 simp only [Option.some.injEq, Prod.mk.injEq] at hy
 obtain ⟨rfl, rfl⟩ := hy
 obtain ⟨i, d, z, hi, hd, hz, h1, h2, h3, h4, h5⟩ := tyOf_spec hte
 have hu := slice_elem hti hk
 have hzz : z.cells.size = te.size := by rw [← hzl, h4]; simp
 obtain ⟨ov, h6, h7⟩ := afill_sound _ ps _ _ l ((List.range (len * te.size)).map fun i => te.zero.getD (i % te.zero.length) undef).toArray (evParts_sound r hps) (by simpa using zeros_all2 h5 (by omega) _) hl
 obtain ⟨h8, h9⟩ := allF_sound hfl h7
 have hvs : ov.size = len * te.size := by have := h8.1; simp at this; omega
 have hF : ∀ (i : Nat) (e : List FC) (j : Nat) (c : FC), (chunk te.size len fl)[i]? = some e → e[j]? = some c → ∃ u, ov[i * te.size + j]? = some u ∧ Rf w E.F c u := fun i e j c hi' hj => by
  have hil : i < len := by have := (List.getElem?_eq_some_iff.1 hi').1; rwa [chunk_len] at this
  rw [chunk_get _ _ _ _ hil] at hi'
  injection hi' with hi'; subst hi'
  have hjl : j < te.size := by have := (List.getElem?_eq_some_iff.1 hj).1; simp at this; omega
  rw [List.getElem?_take_of_lt hjl, List.getElem?_drop] at hj
  obtain ⟨u, q1, q2⟩ := h8.2 _ c hj
  exact ⟨u, by simpa using q1, q2⟩
 have hE : ∀ (i : Nat) (e : List FC), (chunk te.size len fl)[i]? = some e → e.length = te.size := fun i e hi' => by
  have hil : i < len := by have := (List.getElem?_eq_some_iff.1 hi').1; rwa [chunk_len] at this
  rw [chunk_get _ _ _ _ hil] at hi'
  injection hi' with hi'; subst hi'
  have : i * te.size + te.size ≤ len * te.size := by have := Nat.mul_le_mul_right te.size (show i + 1 ≤ len by omega); rw [Nat.succ_mul] at this; exact this
  simp; omega
 have hup := Upd.newRow (E := E) (h := h) (w := w) (b := nid) e te.size (chunk te.size len fl) ov (fun n => r.fresh nid n hn hb) hb r.lt (by rw [chunk_len]; exact hvs) (by rw [chunk_len]; exact hml) hE hF
 rw [chunk_len] at hup
 refine ⟨.value (.slice (some ⟨w.heap.size, 0, none⟩) len len), _, _, ?_, .inl ⟨_, rfl, fun y hy => ?_⟩, hup⟩
 ·have hfill : Instr.fill (fun i => some (i * te.size, te.size)) ((Array.range (len * te.size)).map (fun x => z.cells[x % z.cells.size]!)) (parts.toList.map fun p => (p.1, a.eval p.2)) = some ov := by
   rw [← h6]
   congr 1
   apply Array.ext_getElem?
   intro j
   have hzs : te.zero = z.cells.toList := h4
   by_cases hj : j < len * te.size
   ·have hm : j % te.size < z.cells.size := by rw [hzz]; exact Nat.mod_lt _ hpos
    simp [hj, hzs, hzz, getElem!_def]
    rw [Array.getElem?_eq_getElem hm]
    rfl
   ·simp [hj]
  have hne : len * te.size = 0 → ov = #[] := fun e => Array.eq_empty_of_size_eq_zero (by omega)
  unfold execOp
  have hsz := sizeOf_run (P := P) hte w
  by_cases h0 : len * te.size = 0
  ·have hl0 : len = 0 := by rcases Nat.mul_eq_zero.1 h0 with h | h <;> omega
   subst hl0
   have hr0 : ((Array.range (0 * te.size)).map (fun x => z.cells[x % z.cells.size]!)) = #[] := by simp
   rw [hr0] at hfill
   simp [ho, Instr.buildSlice, run_underlying hu, hsz, newRow, zeroValue, typeInfo, hi, hz]
   have hr1 : (Array.map (fun x => (default : Value)) (Array.range 0)) = #[] := by simp
   rw [hr1, hfill]
   rfl
  ·have hcc : ¬ (16777216 < len * te.size) := by omega
   simp [ho, Instr.buildSlice, run_underlying hu, hsz, hcc, h0, newRow, zeroValue, typeInfo, hi, hz]
   rw [hfill]
   rfl
 ·injection hy with hy; subst hy
  exact .one (.row (En.set_at _ _ _ _))
end
end Go.Abs
set_option linter.unusedVariables false
set_option linter.unusedSimpArgs false
namespace Go.Abs
open Go.RowKit
section
variable {P : Program} {fr : Fr} {E : En} {t : Nat → Option AV} {h : Nat → Option AB} {nx : Nat} {a : Act} {w : World}
def elemsOf (h : Nat → Option AB) : AV → Option (Nat × List (List FC))
 | .one (.row b n) => match h b with
  | some (.row _ sz l) => if l.length = n then some (sz, l) else none
  | _ => none
 | .one (.f (.fz sz l)) => some (sz, l)
 | .one (.f (.v (.slice none 0 0))) => some (0, [])
 | _ => none
def ElemsIn (w : World) (F : Nat → Prop) (A : Option Addr) (sz : Nat) (m : List (List FC)) : Prop :=
 ∃ vals : List Value, vals.length = m.length * sz ∧ (∀ (i : Nat) (e : List FC), m[i]? = some e → e.length = sz) ∧ (∀ u ∈ vals, u.oneCell' = true) ∧
  (∀ (i : Nat) (e : List FC) (j : Nat) (c : FC), m[i]? = some e → e[j]? = some c → ∃ u, vals[i * sz + j]? = some u ∧ Rf w F c u) ∧
  (m ≠ [] → ∃ g off, A = some ⟨g, off, none⟩ ∧ ∀ j u, vals[j]? = some u → w.cell? ⟨g, off + j, none⟩ = some u)
theorem flat_one {F : Nat → Prop} {m : List (List FC)} {sz : Nat} {vals : List Value} (hl : vals.length = m.length * sz) (hs : ∀ (i : Nat) (e : List FC), m[i]? = some e → e.length = sz)
    (hc : ∀ (i : Nat) (e : List FC) (j : Nat) (c : FC), m[i]? = some e → e[j]? = some c → ∃ u, vals[i * sz + j]? = some u ∧ Rf w F c u) : ∀ u ∈ vals, u.oneCell' = true := fun u hu => by
  obtain ⟨k, hk, rfl⟩ := List.mem_iff_getElem.1 hu
  have hsz : 0 < sz := by rcases Nat.eq_zero_or_pos sz with h0 | h0; · rw [h0] at hl; omega
                          · exact h0
  have hi : k / sz < m.length := Nat.div_lt_of_lt_mul (by rw [Nat.mul_comm]; omega)
  have hj : k % sz < sz := Nat.mod_lt _ hsz
  have he := hs _ _ (List.getElem?_eq_getElem hi)
  obtain ⟨u, h1, h2⟩ := hc _ _ (k % sz) _ (List.getElem?_eq_getElem hi) (List.getElem?_eq_getElem (by omega))
  rw [Nat.mul_comm, Nat.div_add_mod, List.getElem?_eq_getElem hk] at h1
  injection h1 with h1; rw [h1]; exact h2.one
theorem elems_sound (r : R fr E t h nx a w) {x : AV} {v : Value} {sz : Nat} {m : List (List FC)} (hv : Rv w E x v) (hx : elemsOf h x = some (sz, m)) : ∃ A c, v = .slice A m.length c ∧ ElemsIn w E.F A sz m := by
  unfold elemsOf at hx
  split at hx
  · rename_i b n
    split at hx
    case h_2 => cases hx
    rename_i ty sz' l hb
    split at hx
    case isFalse => cases hx
    rename_i hn
    simp only [Option.some.injEq, Prod.mk.injEq] at hx
    obtain ⟨rfl, rfl⟩ := hx
    subst hn
    obtain ⟨A, c, e1, hm⟩ := hv.row_inv
    obtain ⟨v0, vals, h1, h2, h3, h4, h5⟩ := r.blk b _ hb
    rw [hm] at h1
    simp only [Option.some.injEq] at h1; subst h1
    refine ⟨A, c, e1, vals, h2.1, h3, flat_one h2.1 h3 h4, h4, fun hne => ?_⟩
    rcases h2.2 with ⟨-, hl0⟩ | ⟨g, cap, cur, h6, -, h7, h8, h9, h10, h11⟩
    · exact absurd (List.length_eq_zero_iff.1 hl0) hne
    · simp only [Value.slice.injEq] at h6
      exact ⟨g, 0, h6.1, fun j u hj => by rw [Nat.zero_add]; exact cell_take h7 h11 hj⟩
  · rename_i sz' l
    simp only [Option.some.injEq, Prod.mk.injEq] at hx
    obtain ⟨rfl, rfl⟩ := hx
    cases hv with | one hv => ?_
    cases hv with | f hv => ?_
    have hsz' : ∃ sz, sz = sz' := ⟨_, rfl⟩
    obtain ⟨sz, hsz'⟩ := hsz'
    rw [← hsz'] at hv ⊢
    clear hsz'
    cases hv with | fz _ l A cap g off vals h1 h2 h3 h4 h5 h6 h7 => ?_
    have hlen : ((List.range (l.length * sz)).map fun k => vals (k / sz) (k % sz)).length = l.length * sz := by simp
    have hcc : ∀ (i : Nat) (e : List FC) (j : Nat) (c : FC), l[i]? = some e → e[j]? = some c → ∃ u, ((List.range (l.length * sz)).map fun k => vals (k / sz) (k % sz))[i * sz + j]? = some u ∧ Rf w E.F c u := fun i e j c hi hj => by
      have hil := (List.getElem?_eq_some_iff.1 hi).1
      have hjl : j < sz := by have := (List.getElem?_eq_some_iff.1 hj).1; rw [h5 i e hi] at this; exact this
      have hlt := mul_lt hil hjl
      have hd : (i * sz + j) / sz = i := by rw [Nat.mul_comm, Nat.mul_add_div (by omega), Nat.div_eq_of_lt hjl, Nat.add_zero]
      have hm : (i * sz + j) % sz = j := by rw [Nat.mul_comm, Nat.mul_add_mod, Nat.mod_eq_of_lt hjl]
      exact ⟨vals i j, by simp [hlt, hd, hm], h7 i e j c hi hj⟩
    refine ⟨A, cap, rfl, _, hlen, h5, flat_one hlen h5 hcc, hcc, fun hne => ⟨g, off, (h4 hne).1, fun k u hk => ?_⟩⟩
    have hkl : k < l.length * sz := by have := (List.getElem?_eq_some_iff.1 hk).1; rwa [hlen] at this
    have hsz : 0 < sz := by rcases Nat.eq_zero_or_pos sz with h0 | h0; · rw [h0] at hkl; omega
                            · exact h0
    have hi : k / sz < l.length := Nat.div_lt_of_lt_mul (by rw [Nat.mul_comm]; exact hkl)
    have hj : k % sz < sz := Nat.mod_lt _ hsz
    have he := h5 _ _ (List.getElem?_eq_getElem hi)
    have := h6 _ _ (k % sz) _ (List.getElem?_eq_getElem hi) (List.getElem?_eq_getElem (by omega))
    simp [hkl] at hk
    subst hk
    rw [Nat.add_assoc, Nat.mul_comm, Nat.div_add_mod] at this
    exact this
  · simp only [Option.some.injEq, Prod.mk.injEq] at hx
    obtain ⟨rfl, rfl⟩ := hx
    exact ⟨none, 0, hv.val_inv, [], by simp, by simp, by simp, by simp, fun h => absurd rfl h⟩
  · cases hx
def plAppend (P : Program) (h : Nat → Option AB) (ty : Nat) (s x : AV) : Option (AV × List (Nat × AB)) :=
 match s, tyOf P ty, elemsOf h x with
 | .one (.row b n), some ti, some em =>
  match ti.kind, h b with
  | .slice e, some (.row rt sz l) => match tyOf P e with
   | some te => if l.length = n ∧ rt = e ∧ sz = te.size ∧ 0 < sz ∧ te.zero.length = te.size then (match em.2 with
    | [] => some (.one (.row b n), [])
    | y :: m => if em.1 = sz ∧ n + (m.length + 1) ≤ maxLen ∧ (n + (m.length + 1)) * te.bytes ≤ 140737488355328 then some (.one (.row b (n + (m.length + 1))), [(b, .row e sz (l ++ y :: m))]) else none)
    else none
   | none => none
  | _, _ => none
 | _, _, _ => none
theorem append_sound (r : R fr E t h nx a w) {o : Oper} {ty : Nat} {s x : Operand} (ho : o.op = .call { callee := .builtin .append, args := #[s, x], argTypes := #[ty, ty] }) {sv xv : AV} (hs : evT t s = some sv) (hx : evT t x = some xv)
  {y : AV} {ws : List (Nat × AB)} (hy : plAppend P h ty sv xv = some (y, ws)) : Sound P E h a w o (some y) ws := by
 unfold plAppend at hy
 split at hy
 case h_2 => cases hy
 rename_i b n ti em hti hem
 split at hy
 case h_2 => cases hy
 rename_i e rt sz l hk hb
 split at hy
 case h_2 => cases hy
 rename_i te hte
 split at hy
 case isFalse => cases hy
 rename_i hcond
 obtain ⟨rfl, rfl, hsz, hpos, hzl⟩ := hcond
 subst hsz
 have hu := slice_elem hti hk
 obtain ⟨i, d, z, hi, hd, hz, h1, h2, h3, h4, h5⟩ := tyOf_spec hte
 have hzz : z.cells.size = te.size := by rw [← hzl, h4]; simp
 obtain ⟨A0, c0, e0, hm⟩ := (ev_sound r hs).row_inv
 obtain ⟨A, c, e1, vals, k1, k2, k3, k4, k5⟩ := elems_sound (sz := em.1) (m := em.2) r (ev_sound r hx) hem
 obtain ⟨v0, vals0, g1, g2, g3, g4, g5⟩ := r.blk b _ hb
 rw [hm] at g1
 simp only [Option.some.injEq] at g1; subst g1
 have hlc : l.length ≤ c0 := by
  rcases g2.2 with ⟨q1, q2⟩ | ⟨g, cap, cur, q1, -, q2, q3, -⟩
  ·simp only [Value.slice.injEq] at q1; omega
  ·simp only [Value.slice.injEq] at q1; omega
 split at hy
 ·rename_i hnil
  simp only [Option.some.injEq, Prod.mk.injEq] at hy
  obtain ⟨rfl, rfl⟩ := hy
  rw [hnil] at e1
  refine Sound.same (v := .slice A0 l.length c0) ?_ (fun y hy => by injection hy with hy; subst hy; exact .one (.row hm))
  have : (Builtin.append_ #[ty, ty] o.type #[.slice A0 l.length c0, .slice A 0 c]).run P w = .ok (.slice A0 l.length c0) w := by
   cases A0 <;> cases A <;> simp [Builtin.append_, run_underlying hu, sizeOf, typeInfo, hi, Builtin.lenOf, Builtin.firstCells, hlc, storeCells, loadCells, loadCellsFrom]
  unfold execOp
  simp only [ho, resolve, invoke, builtin, Sem.run_bind, Sem.run_pure, Result.andThen_ok, List.map_toArray, List.map_cons, List.map_nil, e0, e1, List.length_nil, this]
 ·rename_i y0 m hcons
  split at hy
  case isFalse => cases hy
  rename_i hcond
  obtain ⟨hsz2, h63, hby⟩ := hcond
  simp only [Option.some.injEq, Prod.mk.injEq] at hy
  obtain ⟨rfl, rfl⟩ := hy
  rw [hcons] at k1 k2 k4 k5 e1
  rw [hsz2] at k1 k2 k4
  obtain ⟨g, off, rfl, hcell⟩ := k5 (by simp)
  obtain ⟨v', w', q1, q2, q3, -, q5⟩ := run_append_own_at (P := P) w 0 ty o.type rt i z te.size te.bytes hu hi hz h2.symm h3.symm hzz hpos (.slice A0 l.length c0) l.length vals0 g2 ⟨g, off, none⟩ (m.length + 1) c vals
   (by rw [k1]; rfl) (fun j u hj => by rw [add_lit]; exact hcell j u hj) k3 h63 hby (Nat.zero_le _)
  have hgF : ∀ g', (Value.slice A0 l.length c0).ownBlock = some g' → ¬ E.F g' ∧ g' < w.heap.size := fun g' hg' => by
   rcases g2.2 with ⟨p1, p2⟩ | ⟨gg, cap, cur, p1, -⟩
   ·simp only [Value.slice.injEq] at p1; obtain ⟨rfl, -⟩ := p1; simp [Value.ownBlock] at hg'
   ·simp only [Value.slice.injEq] at p1; obtain ⟨rfl, -⟩ := p1
    simp [Value.ownBlock] at hg'; subst hg'
    exact (r.own b _ gg hb ⟨_, _, hm⟩).2
  have hv : ∀ g', (Value.slice A0 l.length c0).ownBlock = some g' → ∃ n c, Value.slice A0 l.length c0 = .slice (some ⟨g', 0, none⟩) n c := fun g' hg' => by
   rcases g2.2 with ⟨p1, p2⟩ | ⟨gg, cap, cur, p1, -⟩
   ·simp only [Value.slice.injEq] at p1; obtain ⟨rfl, -⟩ := p1; simp [Value.ownBlock] at hg'
   ·simp only [Value.slice.injEq] at p1; obtain ⟨rfl, -⟩ := p1
    simp [Value.ownBlock] at hg'; subst hg'
    exact ⟨_, _, rfl⟩
  have hup := Upd.append (m := y0 :: m) hb hm g5 g3 k2 g2.1 (by simp) q2 q3 q5 hgF r.lt hv g4 k4
  refine ⟨.value v', w', _, ?_, .inl ⟨v', rfl, fun y hy => ?_⟩, hup⟩
  ·unfold execOp
   simp only [ho, resolve, invoke, builtin, Sem.run_bind, Sem.run_pure, Result.andThen_ok, List.map_toArray, List.map_cons, List.map_nil, e0, e1, List.length_cons, q1]
  ·injection hy with hy; subst hy
   have hsl : ∃ A c, v' = .slice A (l.length + (m.length + 1)) c := by
    rcases q2.2 with ⟨-, p2⟩ | ⟨gg, cap, cur, p1, -⟩
    ·omega
    ·exact ⟨_, _, p1⟩
   obtain ⟨A', c', rfl⟩ := hsl
   exact .one (.row (En.set_at _ _ _ _))
def evCaps (t : Nat → Option AV) : List Operand → Option (List AC)
 | [] => some []
 | x :: r => match evT t x, evCaps t r with | some (.one c), some l => some (c :: l) | _, _ => none
theorem evCaps_sound (r : R fr E t h nx a w) : ∀ {xs : List Operand} {l : List AC}, evCaps t xs = some l → All2 (Rc w E) l (xs.map a.eval)
 | [], l, h => by simp only [evCaps, Option.some.injEq] at h; subst h; exact All2.nil _
 | x :: xs, l, h => by
  unfold evCaps at h
  split at h
  ·rename_i c l' hx hl
   injection h with h; subst h
   refine All2.cons ?_ (evCaps_sound r hl)
   have := ev_sound r hx
   cases this with | one h => exact h
  ·cases h
theorem func_sound (r : R fr E t h nx a w) {o : Oper} {f : Fn} {caps : Array Operand} (ho : o.op = .makeFunc f #[] caps) {l : List AC} (hl : evCaps t caps.toList = some l) : Sound P E h a w o (some (.one (.fn f l))) [] := by
 have hall := evCaps_sound r hl
 refine Sound.same (v := .func f #[] (caps.map a.eval)) ?_ (fun y hy => ?_)
 ·unfold execOp
  simp [ho, Instr.makeFunc]
 ·injection hy with hy; subst hy
  have hc : ∀ j c, l[j]? = some c → (caps.map a.eval)[j]? = some ((caps.map a.eval).getD j undef) ∧ Rc w E c ((caps.map a.eval).getD j undef) := fun j c hj => by
   obtain ⟨u, h1, h2⟩ := hall.2 j c hj
   have h3 : (caps.map a.eval)[j]? = some u := by simpa using h1
   have h4 : (caps.map a.eval).getD j undef = u := by rw [Array.getD_eq_getD_getElem?, h3]; rfl
   rw [h4]; exact ⟨h3, h2⟩
  exact .one (.fn (fun j => (caps.map a.eval).getD j undef) (by have := hall.1; simpa using this) (fun j c hj => (hc j c hj).1) (fun j c hj => (hc j c hj).2))
end
end Go.Abs
set_option linter.unusedVariables false
set_option linter.unusedSimpArgs false
namespace Go.Abs
open Go.RowKit
mutual
def AC.ren (ρ : Nat → Nat) : AC → AC
 | .f c => .f c
 | .ptr b o => .ptr (ρ b) o
 | .row b n => .row (ρ b) n
 | .ep b n sz i o => .ep (ρ b) n sz i o
 | .fp l => .fp l
 | .fn q caps => .fn q (AC.rens ρ caps)
 | .mp b => .mp (ρ b)
def AC.rens (ρ : Nat → Nat) : List AC → List AC
 | [] => []
 | c :: r => c.ren ρ :: AC.rens ρ r
end
mutual
def AV.ren (ρ : Nat → Nat) : AV → AV
 | .one c => .one (c.ren ρ)
 | .agg l => .agg (AC.rens ρ l)
 | .tup l => .tup (AV.rens ρ l)
def AV.rens (ρ : Nat → Nat) : List AV → List AV
 | [] => []
 | c :: r => c.ren ρ :: AV.rens ρ r
end
mutual
def OC.ren (ρ : Nat → Nat) : OC → OC
 | .c a => .c (a.ren ρ)
 | .box ty l => .box ty (OC.rens ρ l)
 | .row ty sz n l => .row ty sz n (OC.rens ρ l)
 | .map kt ks l => .map kt ks (OC.rens ρ l)
def OC.rens (ρ : Nat → Nat) : List OC → List OC
 | [] => []
 | x :: r => x.ren ρ :: OC.rens ρ r
end
def AB.ren (ρ : Nat → Nat) : AB → AB
 | .box ty l => .box ty (AC.rens ρ l)
 | .row ty sz l => .row ty sz l
 | .obj x => .obj (x.ren ρ)
 | .dead => .dead
mutual
def AC.lt (k : Nat) : AC → Bool
 | .f _ => true
 | .ptr b _ => decide (b < k)
 | .row b _ => decide (b < k)
 | .ep b _ _ _ _ => decide (b < k)
 | .fp _ => true
 | .fn _ caps => AC.lts k caps
 | .mp b => decide (b < k)
def AC.lts (k : Nat) : List AC → Bool
 | [] => true
 | c :: r => c.lt k && AC.lts k r
end
mutual
def OC.lt (k : Nat) : OC → Bool
 | .c a => a.lt k
 | .box _ l => OC.lts k l
 | .row _ _ _ l => OC.lts k l
 | .map _ _ l => OC.lts k l
def OC.lts (k : Nat) : List OC → Bool
 | [] => true
 | x :: r => x.lt k && OC.lts k r
end
def AB.ltP (k : Nat) : AB → Prop
 | .box _ l => AC.lts k l = true
 | .obj x => x.lt k = true
 | _ => True
mutual
def AV.lt (k : Nat) : AV → Bool
 | .one c => c.lt k
 | .agg l => AC.lts k l
 | .tup l => AV.lts k l
def AV.lts (k : Nat) : List AV → Bool
 | [] => true
 | c :: r => c.lt k && AV.lts k r
end
theorem AC.rens_map (ρ : Nat → Nat) (l : List AC) : AC.rens ρ l = l.map (·.ren ρ) := by
 induction l with
 | nil => rfl
 | cons c r ih => simp [AC.rens, ih]
theorem AV.rens_map (ρ : Nat → Nat) (l : List AV) : AV.rens ρ l = l.map (·.ren ρ) := by
 induction l with
 | nil => rfl
 | cons c r ih => simp [AV.rens, ih]
section
variable {w : World} {E Ec : En} {ρ : Nat → Nat} {k : Nat}
mutual
theorem Rc.back (hF : ∀ g, E.F g → Ec.F g) (hm : ∀ b n, b < k → Ec.m b n = E.m (ρ b) n) : ∀ (c : AC) (v : Value), Rc w E (c.ren ρ) v → c.lt k = true → Rc w Ec c v
 | .f c, v, h, hl => by cases h with | f h => exact .f (h.mono hF (Agree.refl _ _))
 | .ptr b o, v, h, hl => by
  simp only [AC.lt, decide_eq_true_eq] at hl
  cases h with | ptr h => exact .ptr (by rw [hm b 0 hl]; exact h)
 | .row b n, v, h, hl => by
  simp only [AC.lt, decide_eq_true_eq] at hl
  cases h with | row h => exact .row (by rw [hm b n hl]; exact h)
 | .ep b n sz i o, v, h, hl => by
  simp only [AC.lt, decide_eq_true_eq] at hl
  cases h with | ep h => exact .ep (by rw [hm b n hl]; exact h)
 | .mp b, v, h, hl => by
  simp only [AC.lt, decide_eq_true_eq] at hl
  cases h with | mp h => exact .mp (by rw [hm b 0 hl]; exact h)
 | .fp l, v, h, hl => by cases h with | fp vals hF' hcell hr => exact .fp vals (fun h => hF _ (hF' h)) hcell (fun j c hj => (hr j c hj).mono hF (Agree.refl _ _))
 | .fn q caps, v, h, hl => by
  simp only [AC.lt] at hl
  cases h with | fn vals hs hv hr => 
   rw [AC.rens_map] at hs hv hr
   refine .fn vals (by simpa using hs) (fun j c hj => hv j (c.ren ρ) (by simp [hj])) (fun j c hj => ?_)
   exact Rcs.back hF hm caps hl j c hj (vals j) (hr j (c.ren ρ) (by simp [hj]))
theorem Rcs.back (hF : ∀ g, E.F g → Ec.F g) (hm : ∀ b n, b < k → Ec.m b n = E.m (ρ b) n) : ∀ (l : List AC), AC.lts k l = true → ∀ (j : Nat) (c : AC), l[j]? = some c → ∀ v, Rc w E (c.ren ρ) v → Rc w Ec c v
 | [], hl, j, c, hj, v, h => by simp at hj
 | d :: r, hl, 0, c, hj, v, h => by
  simp only [AC.lts, Bool.and_eq_true] at hl
  simp at hj; subst hj
  exact Rc.back hF hm d v h hl.1
 | d :: r, hl, j + 1, c, hj, v, h => by
  simp only [AC.lts, Bool.and_eq_true] at hl
  exact Rcs.back hF hm r hl.2 j c (by simpa using hj) v h
end
mutual
theorem Rv.back (hF : ∀ g, E.F g → Ec.F g) (hm : ∀ b n, b < k → Ec.m b n = E.m (ρ b) n) : ∀ (x : AV) (v : Value), Rv w E (x.ren ρ) v → x.lt k = true → Rv w Ec x v
 | .one c, v, h, hl => by cases h with | one h => exact .one (Rc.back hF hm c v h hl)
 | .agg l, v, h, hl => by
  simp only [AV.ren, AC.rens_map] at h
  cases h with | agg hs hr =>
   refine .agg (by simpa using hs) (fun j c hj => ?_)
   obtain ⟨u, h1, h2⟩ := hr j (c.ren ρ) (by simp [hj])
   exact ⟨u, h1, Rcs.back hF hm l hl j c hj u h2⟩
 | .tup l, v, h, hl => by
  simp only [AV.lt] at hl
  cases h with | tup vals hs hv hr =>
   rw [AV.rens_map] at hs hv hr
   refine .tup vals (by simpa using hs) (fun j c hj => hv j (c.ren ρ) (by simp [hj])) (fun j c hj => ?_)
   exact Rvs.back hF hm l hl j c hj (vals j) (hr j (c.ren ρ) (by simp [hj]))
theorem Rvs.back (hF : ∀ g, E.F g → Ec.F g) (hm : ∀ b n, b < k → Ec.m b n = E.m (ρ b) n) : ∀ (l : List AV), AV.lts k l = true → ∀ (j : Nat) (c : AV), l[j]? = some c → ∀ v, Rv w E (c.ren ρ) v → Rv w Ec c v
 | [], hl, j, c, hj, v, h => by simp at hj
 | d :: r, hl, 0, c, hj, v, h => by
  simp only [AV.lts, Bool.and_eq_true] at hl
  simp at hj; subst hj
  exact Rv.back hF hm d v h hl.1
 | d :: r, hl, j + 1, c, hj, v, h => by
  simp only [AV.lts, Bool.and_eq_true] at hl
  exact Rvs.back hF hm r hl.2 j c (by simpa using hj) v h
end
theorem Rc.forth (hF : ∀ g, Ec.F g → E.F g) (hm : ∀ b n v, Ec.m b n = some v → E.m (ρ b) n = some v) {c : AC} {v : Value} (h : Rc w Ec c v) : Rc w E (c.ren ρ) v := by
 induction h with
 | f h => exact .f (h.mono hF (Agree.refl _ _))
 | ptr h => exact .ptr (hm _ _ _ h)
 | row h => exact .row (hm _ _ _ h)
 | ep h => exact .ep (hm _ _ _ h)
 | fp vals hF' hcell hr => exact .fp vals (fun h => hF _ (hF' h)) hcell (fun j c hj => (hr j c hj).mono hF (Agree.refl _ _))
 | fn vals hs hv hr ih =>
  simp only [AC.ren, AC.rens_map]
  refine .fn vals (by simpa using hs) (fun j c hj => ?_) (fun j c hj => ?_)
  ·rw [List.getElem?_map] at hj
   obtain ⟨d, hd, rfl⟩ := Option.map_eq_some_iff.1 hj
   exact hv j d hd
  ·rw [List.getElem?_map] at hj
   obtain ⟨d, hd, rfl⟩ := Option.map_eq_some_iff.1 hj
   exact ih j d hd
 | mp h => exact .mp (hm _ _ _ h)
mutual
theorem Ro.back (hF : ∀ g, E.F g → Ec.F g) (hm : ∀ b n, b < k → Ec.m b n = E.m (ρ b) n) : ∀ (x : OC) {u : Value} {G : Nat → Prop}, x.lt k = true → Ro w E (x.ren ρ) u G → Ro w Ec x u G
 | .c a, u, G, hl, h => by
  simp only [OC.ren, OC.lt, Ro] at h hl ⊢
  exact ⟨Rc.back hF hm a u h.1 hl, h.2⟩
 | .box ty l, u, G, hl, h => by
  simp only [OC.ren, OC.lt, Ro] at h hl ⊢
  obtain ⟨g, vs, Gc, h1, h2, h3, h4⟩ := h
  exact ⟨g, vs, Gc, h1, h2, Ros.back hF hm l hl h3, h4⟩
 | .row ty sz n l, u, G, hl, h => by
  simp only [OC.ren, OC.lt, Ro] at h hl ⊢
  rcases h with ⟨h1, h2, h3, h4⟩ | ⟨g, off, cap, cur, Gc, h1, h2, h3, h4, h5, h6, h7⟩
  ·refine .inl ⟨h1, h2, ?_, h4⟩
   cases l with
   | nil => rfl
   | cons c r => simp [OC.rens] at h3
  ·exact .inr ⟨g, off, cap, cur, Gc, h1, h2, h3, h4, h5, Ros.back hF hm l hl h6, h7⟩
 | .map kt ks l, u, G, hl, h => by
  simp only [OC.ren, OC.lt, Ro] at h hl ⊢
  obtain ⟨h0, g, es, clock, Gc, h1, h2, h3, h4, h5⟩ := h
  exact ⟨h0, g, es, clock, Gc, h1, h2, h3, Ros.back hF hm l hl h4, h5⟩
theorem Ros.back (hF : ∀ g, E.F g → Ec.F g) (hm : ∀ b n, b < k → Ec.m b n = E.m (ρ b) n) : ∀ (l : List OC) {vs : List Value} {G : Nat → Prop}, OC.lts k l = true → Ros w E (OC.rens ρ l) vs G → Ros w Ec l vs G
 | [], vs, G, hl, h => by simp only [OC.rens, Ros] at h ⊢; exact h
 | c :: r, vs, G, hl, h => by
  simp only [OC.rens, OC.lts, Ros, Bool.and_eq_true] at h hl ⊢
  obtain ⟨u, us, G1, G2, h1, h2, h3, h4⟩ := h
  exact ⟨u, us, G1, G2, h1, Ro.back hF hm c hl.1 h2, Ros.back hF hm r hl.2 h3, h4⟩
end
mutual
theorem Ro.forth (hF : ∀ g, Ec.F g → E.F g) (hm : ∀ b n v, Ec.m b n = some v → E.m (ρ b) n = some v) : ∀ (x : OC) {u : Value} {G : Nat → Prop}, Ro w Ec x u G → Ro w E (x.ren ρ) u G
 | .c a, u, G, h => by
  simp only [OC.ren, Ro] at h ⊢
  exact ⟨h.1.forth hF hm, h.2⟩
 | .box ty l, u, G, h => by
  simp only [OC.ren, Ro] at h ⊢
  obtain ⟨g, vs, Gc, h1, h2, h3, h4⟩ := h
  exact ⟨g, vs, Gc, h1, h2, Ros.forth hF hm l h3, h4⟩
 | .row ty sz n l, u, G, h => by
  simp only [OC.ren, Ro] at h ⊢
  rcases h with ⟨h1, h2, h3, h4⟩ | ⟨g, off, cap, cur, Gc, h1, h2, h3, h4, h5, h6, h7⟩
  ·exact .inl ⟨h1, h2, by rw [h3]; rfl, h4⟩
  ·exact .inr ⟨g, off, cap, cur, Gc, h1, h2, h3, h4, h5, Ros.forth hF hm l h6, h7⟩
 | .map kt ks l, u, G, h => by
  simp only [OC.ren, Ro] at h ⊢
  obtain ⟨h0, g, es, clock, Gc, h1, h2, h3, h4, h5⟩ := h
  exact ⟨h0, g, es, clock, Gc, h1, h2, h3, Ros.forth hF hm l h4, h5⟩
theorem Ros.forth (hF : ∀ g, Ec.F g → E.F g) (hm : ∀ b n v, Ec.m b n = some v → E.m (ρ b) n = some v) : ∀ (l : List OC) {vs : List Value} {G : Nat → Prop}, Ros w Ec l vs G → Ros w E (OC.rens ρ l) vs G
 | [], vs, G, h => by simp only [OC.rens, Ros] at h ⊢; exact h
 | c :: r, vs, G, h => by
  simp only [OC.rens, Ros] at h ⊢
  obtain ⟨u, us, G1, G2, h1, h2, h3, h4⟩ := h
  exact ⟨u, us, G1, G2, h1, Ro.forth hF hm c h2, Ros.forth hF hm r h3, h4⟩
end
theorem OC.ren_len (x : OC) : (x.ren ρ).len = x.len := by cases x <;> simp only [OC.ren, OC.len]
theorem Rv.forth (hF : ∀ g, Ec.F g → E.F g) (hm : ∀ b n v, Ec.m b n = some v → E.m (ρ b) n = some v) {x : AV} {v : Value} (h : Rv w Ec x v) : Rv w E (x.ren ρ) v := by
 induction h with
 | one h => exact .one (h.forth hF hm)
 | agg hs hr =>
  simp only [AV.ren, AC.rens_map]
  refine .agg (by simpa using hs) (fun j c hj => ?_)
  rw [List.getElem?_map] at hj
  obtain ⟨d, hd, rfl⟩ := Option.map_eq_some_iff.1 hj
  obtain ⟨u, h1, h2⟩ := hr j d hd
  exact ⟨u, h1, h2.forth hF hm⟩
 | tup vals hs hv hr ih =>
  simp only [AV.ren, AV.rens_map]
  refine .tup vals (by simpa using hs) (fun j c hj => ?_) (fun j c hj => ?_)
  ·rw [List.getElem?_map] at hj
   obtain ⟨d, hd, rfl⟩ := Option.map_eq_some_iff.1 hj
   exact hv j d hd
  ·rw [List.getElem?_map] at hj
   obtain ⟨d, hd, rfl⟩ := Option.map_eq_some_iff.1 hj
   exact ih j d hd
end
def Enters (P : Program) (f : FuncId) : Prop := ∃ fn, P.funcs[f]? = some fn ∧ (fn.name == "runtime.NumGoroutine") = false ∧ fn.body.isNone = false
def ACall (P : Program) (f : FuncId) (args : List AV) (hs : List AB) (r : AV) (hs' : List AB) : Prop :=
 Enters P f ∧ hs.length ≤ hs'.length ∧ ∀ (E : En) (w : World) (vs : Array Value), All2 (Rv w E) args vs.toList →
  (∀ b x, hs[b]? = some x → Rb w E b x) → (∀ b b' x x' g, hs[b]? = some x → hs[b']? = some x' → owns E b x g → owns E b' x' g → b = b') →
  (∀ b x g, hs[b]? = some x → owns E b x g → ¬ E.F g ∧ g < w.heap.size) → (∀ b n, hs.length ≤ b → E.m b n = none) → (∀ g, E.F g → g < w.heap.size) →
  Calls P f vs w fun e w' => ∃ v E', e = .returned v ∧ Rv w' E' r v ∧ Upd E (fun b => hs[b]?) w (List.range hs'.length) E' (fun b => hs'[b]?) w'
section
variable {P : Program} {fr : Fr} {E : En} {t : Nat → Option AV} {h h' : Nat → Option AB} {nx : Nat} {a : Act} {w : World}
theorem Rb.back {ρ : Nat → Nat} {k : Nat} {Ec : En} (hF : ∀ g, E.F g → Ec.F g) {b : Nat} (hb : b < k) (hm : ∀ b n, b < k → Ec.m b n = E.m (ρ b) n) (hft : Ec.ft b = E.ft (ρ b)) {x : AB} (hx : Rb w E (ρ b) (x.ren ρ)) (hl : x.ltP k) : Rb w Ec b x := by
 cases x with
 | obj x =>
  obtain ⟨u, h1, h2⟩ := hx
  exact ⟨u, by rw [hm b _ hb, ← OC.ren_len (ρ := ρ)]; exact h1, by rw [hft]; exact Ro.back hF hm x hl h2⟩
 | dead => exact trivial
 | box ty l =>
  obtain ⟨g, vs, h1, h2, h3, h4⟩ := hx
  rw [AC.rens_map] at h3 h4
  refine ⟨g, vs, by rw [hm b 0 hb]; exact h1, h2, by simpa using h3, fun j c hj => ?_⟩
  obtain ⟨u, h5, h6⟩ := h4 j (c.ren ρ) (by simp [hj])
  exact ⟨u, h5, Rcs.back hF hm l hl j c hj u h6⟩
 | row ty sz l =>
  obtain ⟨v, vals, h1, h2, h3, h4, h5⟩ := hx
  exact ⟨v, vals, by rw [hm b _ hb]; exact h1, h2, h3, fun i e j c hi hj => let ⟨u, h6, h7⟩ := h4 i e j c hi hj; ⟨u, h6, h7.mono hF (Agree.refl _ _)⟩, fun n hn => by rw [hm b n hb]; exact h5 n hn⟩
theorem Rb.forth {ρ : Nat → Nat} {Ec : En} (hF : ∀ g, Ec.F g → E.F g) {b : Nat} (hm : ∀ b n v, Ec.m b n = some v → E.m (ρ b) n = some v) (hb : ∀ n, E.m (ρ b) n = Ec.m b n) (hft : E.ft (ρ b) = Ec.ft b) {x : AB} (hx : Rb w Ec b x) : Rb w E (ρ b) (x.ren ρ) := by
 cases x with
 | obj x =>
  obtain ⟨u, h1, h2⟩ := hx
  exact ⟨u, by rw [OC.ren_len]; exact hm _ _ _ h1, by rw [hft]; exact Ro.forth hF hm x h2⟩
 | dead => exact trivial
 | box ty l =>
  obtain ⟨g, vs, h1, h2, h3, h4⟩ := hx
  simp only [AB.ren, AC.rens_map]
  refine ⟨g, vs, hm _ _ _ h1, h2, by simpa using h3, fun j c hj => ?_⟩
  rw [List.getElem?_map] at hj
  obtain ⟨d, hd, rfl⟩ := Option.map_eq_some_iff.1 hj
  obtain ⟨u, h5, h6⟩ := h4 j d hd
  exact ⟨u, h5, h6.forth hF hm⟩
 | row ty sz l =>
  obtain ⟨v, vals, h1, h2, h3, h4, h5⟩ := hx
  exact ⟨v, vals, hm _ _ _ h1, h2, h3, fun i e j c hi hj => let ⟨u, h6, h7⟩ := h4 i e j c hi hj; ⟨u, h6, h7.mono hF (Agree.refl _ _)⟩, fun n hn => by rw [hb n]; exact h5 n hn⟩
theorem owns_ren {ρ : Nat → Nat} {Ec : En} {b : Nat} (hb : ∀ n, E.m (ρ b) n = Ec.m b n) (hft : E.ft (ρ b) = Ec.ft b) (x : AB) (g : Nat) : owns E (ρ b) (x.ren ρ) g ↔ owns Ec b x g := by
 cases x <;> simp only [owns, AB.ren, hb, hft]
theorem call_upd (r : R fr E t h nx a w) {f : FuncId} {args : List AV} {hs hs' : List AB} {res : AV} (hc : ACall P f args hs res hs') {ids : List Nat} (hnd : ids.Nodup) (hlen : ids.length = hs'.length)
  {ρ : Nat → Nat} (hρ : ∀ j b, ids[j]? = some b → ρ j = b) (hold : ∀ j x, hs[j]? = some x → h (ρ j) = some (x.ren ρ)) (hnew : ∀ j b, ids[j]? = some b → hs.length ≤ j → nx ≤ b ∧ h b = none)
  (hargs : ∀ x ∈ args, x.lt hs.length = true) (hboxes : ∀ x ∈ hs, x.ltP hs.length) {vs : Array Value} (hvs : All2 (Rv w E) (args.map (·.ren ρ)) vs.toList)
  (hn1 : ∀ j x, hs'[j]? = some x → h' (ρ j) = some (x.ren ρ)) (hn2 : ∀ b, b ∉ ids → h' b = h b) :
  Calls P f vs w fun e w' => ∃ v E', e = .returned v ∧ Rv w' E' (res.ren ρ) v ∧ Upd E h w ids E' h' w' := by
 obtain ⟨hent, hle, hcall⟩ := hc
 have hidx : ∀ j, j < hs'.length → ids[j]? = some (ρ j) := fun j hj => by
  have h1 := List.getElem?_eq_getElem (l := ids) (i := j) (by omega)
  rw [h1, hρ j _ h1]
 have hinj : ∀ i j, i < hs'.length → j < hs'.length → ρ i = ρ j → i = j := fun i j hi hj e => by
  have h1 := hidx i hi; have h2 := hidx j hj
  rw [e] at h1
  exact (List.getElem?_inj (by omega) hnd).1 (h1.trans h2.symm)
 have hmem : ∀ j, j < hs'.length → ρ j ∈ ids := fun j hj => List.mem_of_getElem? (hidx j hj)
 have hof : ∀ b, b ∈ ids → ∃ j, j < hs'.length ∧ ρ j = b := fun b hb => by
  obtain ⟨j, hj, rfl⟩ := List.mem_iff_getElem.1 hb
  exact ⟨j, by omega, hρ j _ (List.getElem?_eq_getElem hj)⟩
 -- the callee's names
 let Ec : En := ⟨E.F, fun b n => if b < hs.length then E.m (ρ b) n else none, fun b => E.ft (ρ b)⟩
 have hm : ∀ b n, b < hs.length → Ec.m b n = E.m (ρ b) n := fun b n hb => if_pos hb
 have hm0 : ∀ b n, hs.length ≤ b → Ec.m b n = none := fun b n hb => if_neg (by omega)
 have hF : ∀ g, E.F g → Ec.F g := fun _ h => h
 have hlt : ∀ {b x}, hs[b]? = some x → b < hs.length := fun h => (List.getElem?_eq_some_iff.1 h).1
 have hown : ∀ b x g, hs[b]? = some x → (owns Ec b x g ↔ owns E (ρ b) (x.ren ρ) g) := fun b x g hb => (owns_ren (fun n => (hm b n (hlt hb)).symm) rfl x g).symm
 refine (hcall Ec w vs ⟨by simpa using hvs.1, fun j x hj => ?_⟩ (fun b x hb => ?_) (fun b b' x x' g hb hb' ho ho' => ?_) (fun b x g hb ho => ?_) hm0 r.lt).mono ?_
 ·obtain ⟨u, h1, h2⟩ := hvs.2 j (x.ren ρ) (by simp [hj])
  exact ⟨u, h1, Rv.back hF hm x u h2 (hargs x (List.mem_of_getElem? hj))⟩
 ·exact Rb.back hF (hlt hb) hm rfl (r.blk _ _ (hold b x hb)) (hboxes x (List.mem_of_getElem? hb))
 ·exact hinj b b' (by have := hlt hb; omega) (by have := hlt hb'; omega) (r.sep _ _ _ _ g (hold b x hb) (hold b' x' hb') ((hown b x g hb).1 ho) ((hown b' x' g hb').1 ho'))
 ·exact (r.own _ _ g (hold b x hb) ((hown b x g hb).1 ho)).2
 ·rintro e w' ⟨v, E2, rfl, hv, u⟩
  -- the caller's names
  classical
  let E' : En := ⟨E2.F, fun b n => if b ∈ ids then E2.m (ids.idxOf b) n else E.m b n, fun b => if b ∈ ids then E2.ft (ids.idxOf b) else E.ft b⟩
  have hidxOf : ∀ j, j < hs'.length → ids.idxOf (ρ j) = j := fun j hj => by
   have h1 : ids.idxOf (ρ j) < ids.length := List.idxOf_lt_length_of_mem (hmem j hj)
   have h2 := hidx _ (by omega : ids.idxOf (ρ j) < hs'.length)
   have h3 : ids[ids.idxOf (ρ j)]? = some (ρ j) := by rw [List.getElem?_eq_getElem h1, List.getElem_idxOf]
   rw [h2] at h3
   exact hinj _ _ (by omega) hj (by simpa using h3)
  have hE' : ∀ j n, j < hs'.length → E'.m (ρ j) n = E2.m j n := fun j n hj => by
   show (if ρ j ∈ ids then E2.m (ids.idxOf (ρ j)) n else E.m (ρ j) n) = _
   rw [if_pos (hmem j hj), hidxOf j hj]
  have hEf : ∀ j, j < hs'.length → E'.ft (ρ j) = E2.ft j := fun j hj => by
   show (if ρ j ∈ ids then E2.ft (ids.idxOf (ρ j)) else E.ft (ρ j)) = _
   rw [if_pos (hmem j hj), hidxOf j hj]
  have hE2 : ∀ b n v, E2.m b n = some v → b < hs'.length := fun b n v hb => by
   rcases Nat.lt_or_ge b hs'.length with hl | hg
   ·exact hl
   ·rw [u.out b n (by simp; omega), hm0 b n (by omega)] at hb; cases hb
  have hm2 : ∀ b n v, E2.m b n = some v → E'.m (ρ b) n = some v := fun b n v hb => by rw [hE' b n (hE2 b n v hb)]; exact hb
  have hF2 : ∀ g, E2.F g → E'.F g := fun _ h => h
  have hown' : ∀ b x g, hs'[b]? = some x → (owns E' (ρ b) (x.ren ρ) g ↔ owns E2 b x g) := fun b x g hb => owns_ren (fun n => hE' b n (List.getElem?_eq_some_iff.1 hb).1) (hEf b (List.getElem?_eq_some_iff.1 hb).1) x g
  have hback : ∀ b x, b ∈ ids → h' b = some x → ∃ j y, j < hs'.length ∧ ρ j = b ∧ hs'[j]? = some y ∧ x = y.ren ρ := fun b x hb hx => by
   obtain ⟨j, hj, rfl⟩ := hof b hb
   have h1 := List.getElem?_eq_getElem (l := hs') (i := j) hj
   rw [hn1 j _ h1] at hx
   injection hx with hx
   exact ⟨j, _, hj, rfl, h1, hx.symm⟩
  have hbacko : ∀ b x g, b ∈ ids → h b = some x → owns E b x g → ∃ j y, j < hs'.length ∧ ρ j = b ∧ hs[j]? = some y ∧ owns Ec j y g := fun b x g hb hx ho => by
   obtain ⟨j, hj, rfl⟩ := hof b hb
   rcases Nat.lt_or_ge j hs.length with hl | hg
   ·have h1 := List.getElem?_eq_getElem (l := hs) (i := j) hl
    rw [hold j _ h1] at hx
    injection hx with hx; subst hx
    exact ⟨j, _, hj, rfl, h1, (hown j _ g h1).2 ho⟩
   ·rw [(hnew j _ (hidx j hj) hg).2] at hx; cases hx
  refine ⟨v, E', rfl, hv.forth hF2 hm2, ⟨⟨fun g hg => u.le.F g hg, fun b n v hb => ?_⟩, fun g hg => ?_, u.os, u.tape, u.output, u.grow, fun g hg hk => ?_, hn2, fun b n hb => if_neg hb, fun b hb => if_neg hb, fun b hb x hx => ?_, fun b hb x g hx ho => ?_, fun b hb b' hb' x x' g hx hx' ho ho' => ?_, fun b hb => ?_⟩⟩
  ·by_cases hbi : b ∈ ids
   ·obtain ⟨j, hj, rfl⟩ := hof b hbi
    rw [hE' j n hj]
    rcases Nat.lt_or_ge j hs.length with hl | hg
    ·exact u.le.m j n v (by rw [hm j n hl]; exact hb)
    ·obtain ⟨h1, h2⟩ := hnew j _ (hidx j hj) hg
     rw [r.fresh _ n h1 h2] at hb; cases hb
   ·show (if b ∈ ids then E2.m (ids.idxOf b) n else E.m b n) = _
    rw [if_neg hbi]; exact hb
  ·rcases u.F g hg with h1 | h1 | ⟨h0, b, hb, x, hx, ho⟩
   ·exact .inl h1
   ·exact .inr (.inl h1)
   ·exact .inr (.inr ⟨h0, ρ b, hmem b (by simpa using hb), _, hold b x hx, (hown b x g hx).1 ho⟩)
  ·exact u.kept g hg fun b hb x hx ho => hk (ρ b) (hmem b (by simpa using hb)) _ (hold b x hx) ((hown b x g hx).1 ho)
  ·obtain ⟨j, y, hj, rfl, hy, rfl⟩ := hback b x hb hx
   exact (u.blk j (by simpa using hj) y hy).forth hF2 hm2 (fun n => hE' j n hj) (hEf j hj)
  ·obtain ⟨j, y, hj, rfl, hy, rfl⟩ := hback b x hb hx
   obtain ⟨h1, h2, h3⟩ := u.own j (by simpa using hj) y g hy ((hown' j y g hy).1 ho)
   refine ⟨?_, h2, h3⟩
   rcases h1 with h1 | ⟨b', hb', x', hx', ho'⟩
   ·exact .inl h1
   ·exact .inr ⟨ρ b', hmem b' (by simpa using hb'), _, hold b' x' hx', (hown b' x' g hx').1 ho'⟩
  ·obtain ⟨j, y, hj, rfl, hy, rfl⟩ := hback b x hb hx
   obtain ⟨j', y', hj', rfl, hy', rfl⟩ := hback b' x' hb' hx'
   rw [u.sep j (by simpa using hj) j' (by simpa using hj') y y' g hy hy' ((hown' j y g hy).1 ho) ((hown' j' y' g hy').1 ho')]
  ·obtain ⟨j, hj, rfl⟩ := hof b hb
   rw [hn1 j _ (List.getElem?_eq_getElem hj)]; simp
end
end Go.Abs
set_option linter.unusedVariables false
set_option linter.unusedSimpArgs false
namespace Go.Abs
open Go.RowKit
def OC.with : OC → List OC → OC
 | .box ty _, l => .box ty l
 | .row ty sz n _, l => .row ty sz n l
 | x, _ => x
def OC.ref (b : Nat) : OC → AC
 | .c a => a
 | .box _ _ => .ptr b 0
 | .row _ _ n _ => .row b n
 | .map _ _ _ => .mp b
def OC.pl : OC → Option AC
 | .c a => some a
 | _ => none
def plainL : List OC → Option (List AC)
 | [] => some []
 | x :: r => match x.pl, plainL r with | some a, some l => some (a :: l) | _, _ => none
theorem plainL_eq : ∀ {l : List OC} {cs : List AC}, plainL l = some cs → l = cs.map OC.c
 | [], cs, h => by simp only [plainL, Option.some.injEq] at h; subst h; rfl
 | x :: r, cs, h => by
  simp only [plainL] at h
  split at h
  ·rename_i a l ha hl
   simp only [Option.some.injEq] at h; subst h
   rw [plainL_eq hl]
   cases x <;> simp only [OC.pl, Option.some.injEq, reduceCtorEq] at ha
   subst ha; rfl
  ·cases h
def plPlace (h : Nat → Option AB) : AV → Option (Nat × OC × Nat × List OC)
 | .one (.ptr b off) => match h b with
  | some (.obj (.box ty l)) => some (b, .box ty l, off, l)
  | _ => none
 | .one (.ep b n sz i off) => match h b with
  | some (.obj (.row ty sz' n' l)) => if n' = n ∧ sz' = sz ∧ i < n then some (b, .row ty sz' n' l, i * sz + off, l) else none
  | _ => none
 | _ => none
section
variable {P : Program} {fr : Fr} {E : En} {t : Nat → Option AV} {h : Nat → Option AB} {nx : Nat} {a : Act} {w : World}
theorem place_sound (r : R fr E t h nx a w) {v : AV} {u : Value} {b k : Nat} {x : OC} {l : List OC} (hv : Rv w E v u) (hp : plPlace h v = some (b, x, k, l)) :
  ∃ (g base ty0 : Nat) (cur : Array Value) (Gc : Nat → Prop) (uu : Value), u = .pointer (some ⟨g, base + k, none⟩) ∧ h b = some (.obj x) ∧ E.m b x.len = some uu ∧ w.heap[g]? = some (.cells cur ty0 (0, 0)) ∧ base + l.length ≤ cur.size ∧
   Ros w E l ((cur.toList.drop base).take l.length) Gc ∧ ¬ Gc g ∧ (∀ q, E.ft b q ↔ q = g ∨ Gc q) ∧ (∀ l', (x.with l').len = x.len) ∧
   ∀ (w' : World) (E' : En) (l' : List OC) (cur' : Array Value) (Gc' : Nat → Prop), w'.heap[g]? = some (.cells cur' ty0 (0, 0)) → cur'.size = cur.size → l'.length = l.length → Ros w' E' l' ((cur'.toList.drop base).take l.length) Gc' → ¬ Gc' g →
    Ro w' E' (x.with l') uu (fun q => q = g ∨ Gc' q) := by
 cases hv with
 | agg => cases hp
 | tup => cases hp
 | one hc =>
  cases hc with
  | f => cases hp
  | row => cases hp
  | fn => cases hp
  | mp => cases hp
  | fp => cases hp
  | @ptr b' o g hm =>
   simp only [plPlace] at hp
   split at hp
   ·rename_i ty l' hb
    simp only [Option.some.injEq, Prod.mk.injEq] at hp
    obtain ⟨rfl, rfl, rfl, rfl⟩ := hp
    obtain ⟨uu, h1, h2⟩ := r.blk _ _ hb
    simp only [OC.len] at h1
    simp only [Ro] at h2
    rw [hm] at h1
    injection h1 with h1; subst h1
    obtain ⟨g', vs, Gc, h3, h4, h5, h6, h7⟩ := h2
    simp only [Value.pointer.injEq, Option.some.injEq, Addr.mk.injEq, and_true] at h3
    subst h3
    have hl := h5.len
    have hl2 : vs.size = l'.length := by simpa using hl
    have e1 : (vs.toList.drop 0).take l'.length = vs.toList := by rw [List.drop_zero, List.take_of_length_le (by simp [hl2])]
    refine ⟨g, 0, ty, vs, Gc, _, by rw [Nat.zero_add], hb, hm, h4, by omega, by rw [e1]; exact h5, h6, h7, fun _ => rfl, fun w' E' l2 cur' Gc' k1 k2 k3 k4 k5 => ?_⟩
    simp only [OC.with, Ro]
    refine ⟨g, cur', Gc', rfl, k1, ?_, k5, fun _ => Iff.rfl⟩
    rw [List.drop_zero, List.take_of_length_le (by simp; omega)] at k4
    exact k4
   ·cases hp
  | @ep b' n sz i o g oo c hm =>
   simp only [plPlace] at hp
   split at hp
   ·rename_i ty sz' n' l' hb
    split at hp
    ·rename_i hc
     obtain ⟨rfl, rfl, hi⟩ := hc
     simp only [Option.some.injEq, Prod.mk.injEq] at hp
     obtain ⟨rfl, rfl, rfl, rfl⟩ := hp
     obtain ⟨uu, h1, h2⟩ := r.blk _ _ hb
     simp only [OC.len] at h1
     simp only [Ro] at h2
     rw [hm] at h1
     injection h1 with h1; subst h1
     rcases h2 with ⟨h3, -⟩ | ⟨g', off, cap, cur, Gc, h3, h4, h5, h6, h7, h8, h9, h10⟩
     ·cases h3
     ·simp only [Value.slice.injEq, Option.some.injEq, Addr.mk.injEq, and_true, true_and] at h3
      obtain ⟨⟨rfl, rfl⟩, rfl⟩ := h3
      have hle : n' * sz' ≤ c * sz' := Nat.mul_le_mul_right _ h5
      have hl := h8.len
      have hl2 : l'.length = n' * sz' := by
       rw [← hl, List.length_take, List.length_drop]; simp; omega
      rw [← hl2] at h8
      refine ⟨g, oo, ty, cur, Gc, _, rfl, hb, hm, h4, by omega, h8, h9, h10, fun _ => rfl, fun w' E' l2 cur' Gc' k1 k2 k3 k4 k5 => ?_⟩
      simp only [OC.with, Ro]
      exact .inr ⟨g, oo, c, cur', Gc', rfl, k1, h5, h6, by omega, by rw [← hl2]; exact k4, k5, fun _ => Iff.rfl⟩
    ·cases hp
   ·cases hp
theorem take_splice {α : Type} {l us : List α} {k n : Nat} (hk : k + us.length ≤ n) (hn : n ≤ l.length) : (splice l k us).take n = splice (l.take n) k us := by
 apply List.ext_getElem?
 intro j
 have h1 : k + us.length ≤ (l.take n).length := by rw [List.length_take]; omega
 rw [List.getElem?_take, splice_get (by omega), splice_get h1, List.getElem?_take]
 by_cases c1 : j < n
 ·simp only [if_pos c1]
 ·simp only [if_neg c1]
  rw [if_neg (by omega), if_neg (by omega)]
theorem drop_splice {α : Type} {l us : List α} {k o : Nat} (hk : o + k + us.length ≤ l.length) : (splice l (o + k) us).drop o = splice (l.drop o) k us := by
 apply List.ext_getElem?
 intro j
 have h1 : k + us.length ≤ (l.drop o).length := by rw [List.length_drop]; omega
 rw [List.getElem?_drop, splice_get (by omega), splice_get h1, List.getElem?_drop]
 by_cases c1 : j < k
 ·rw [if_pos (by omega), if_pos c1]
 ·rw [if_neg (by omega), if_neg c1]
  by_cases c2 : j < k + us.length
  ·rw [if_pos (by omega), if_pos c2, show o + j - (o + k) = j - k by omega]
  ·rw [if_neg (by omega), if_neg c2]
def plLoadO (P : Program) (h : Nat → Option AB) (nid ty : Nat) (v : AV) : Option (AV × List (Nat × AB)) :=
 match tyOf P ty, plPlace h v with
 | some ti, some q =>
  if ti.kind.agg then (if q.2.2.1 + ti.size ≤ q.2.2.2.length then (match plainL ((q.2.2.2.drop q.2.2.1).take ti.size) with | some cs => some (.agg cs, []) | none => none) else none)
  else (match q.2.2.2[q.2.2.1]? with
   | some y => (match y.pl with
    | some a => some (.one a, [])
    | none => some (.one (y.ref nid), [(q.1, .obj (q.2.1.with (q.2.2.2.set q.2.2.1 (.c (y.ref nid))))), (nid, .obj y)]))
   | none => none)
 | _, _ => none
theorem cell_drop {w : World} {g base n k : Nat} {cur : Array Value} {ty0 : Nat} (h4 : w.heap[g]? = some (.cells cur ty0 (0, 0))) {u : Value} (hu : ((cur.toList.drop base).take n)[k]? = some u) : w.cell? ⟨g, base + k, none⟩ = some u := by
 have hk : k < n := by have := (List.getElem?_eq_some_iff.1 hu).1; rw [List.length_take] at this; omega
 rw [List.getElem?_take_of_lt hk, List.getElem?_drop] at hu
 simp only [World.cell?, h4]
 simpa using hu
theorem loadO_sound (r : R fr E t h nx a w) {o : Oper} {ty nid : Nat} {x : Operand} (ho : o.op = .load ty x) {xv y : AV} {ws : List (Nat × AB)} (hx : evT t x = some xv) (hn : nx ≤ nid) (hnid : h nid = none) (hy : plLoadO P h nid ty xv = some (y, ws)) : Sound P E h a w o (some y) ws := by
 unfold plLoadO at hy
 split at hy
 case h_2 => cases hy
 rename_i ti q hti hq
 obtain ⟨b, x0, k, l⟩ := q
 simp only at hy
 have hxv := ev_sound r hx
 obtain ⟨g, base, ty0, cur, Gc, uu, h1, h2, h3, h4, h5, h6, h7, h8, h9, h10⟩ := place_sound r hxv hq
 have hrun : ∀ cs : List Value, (cs.length = if ti.kind.agg then ti.size else 1) → (∀ j u, cs[j]? = some u → w.cell? ⟨g, base + k + j, none⟩ = some u) →
   (execOp a.eval o).run P w = .ok (.value (if ti.kind.agg then .agg cs.toArray else cs.headD undef)) w := fun cs hl hc => by
  unfold execOp
  simp only [ho, h1, Instr.loadAt, Instr.sureAddr, Sem.run_bind, Sem.run_pure, Result.andThen_ok, loadVar_run hti w g (base + k) cs hl hc]
 cases hk : ti.kind.agg
 ·simp only [hk, Bool.false_eq_true, if_false] at hy hrun
  split at hy
  case h_2 => cases hy
  rename_i y0 hy0
  obtain ⟨u, G1, G2, q1, q2, q3, q4, q5⟩ := h6.get hy0
  have hr := hrun [u] rfl (fun j u' hj => by
   cases j with
   | zero => simp at hj; subst hj; rw [Nat.add_zero]; exact cell_drop h4 q1
   | succ j => simp at hj)
  simp only [List.headD_cons] at hr
  split at hy
  ·rename_i c hc
   simp only [Option.some.injEq, Prod.mk.injEq] at hy
   obtain ⟨rfl, rfl⟩ := hy
   refine Sound.same (v := u) hr (fun y' e => ?_)
   injection e with e; subst e
   cases y0 <;> simp only [OC.pl, Option.some.injEq, reduceCtorEq] at hc
   subst hc
   simp only [Ro] at q2
   exact .one q2.1
  ·rename_i hc
   simp only [Option.some.injEq, Prod.mk.injEq] at hy
   obtain ⟨rfl, rfl⟩ := hy
   have hbn : b ≠ nid := fun e => by rw [e, hnid] at h2; cases h2
   have hfr := r.fresh nid
   have hm0 : ∀ n, E.m nid n = none := fun n => hfr n hn hnid
   -- the new name
   let E1 : En := ((E.set nid y0.len u).setF nid G1).setF b (fun q => q = g ∨ G2 q)
   have le0 : E.le (E.set nid y0.len u) := En.set_le (hm0 _)
   have le : E.le E1 := le0.trans ((En.setF_le _ _ _).trans (En.setF_le _ _ _))
   have m1 : E1.m nid y0.len = some u := En.set_at _ _ _ _
   have f1 : E1.ft nid = G1 := by show (if nid = b then _ else if nid = nid then G1 else _) = G1; rw [if_neg (Ne.symm hbn), if_pos rfl]
   have f2 : E1.ft b = fun q => q = g ∨ G2 q := by show (if b = b then _ else _) = _; rw [if_pos rfl]
   have href : Rc w E1 (y0.ref nid) u := by
    cases y0 with
    | c a => cases hc
    | box ty l => simp only [Ro] at q2; obtain ⟨g1, vs1, Gc1, rfl, -⟩ := q2; exact .ptr m1
    | row ty sz n l => simp only [Ro] at q2; rcases q2 with ⟨rfl, rfl, -⟩ | ⟨g1, off1, cap1, cur1, Gc1, rfl, -⟩ <;> exact .row m1
    | map kt ks l => simp only [Ro] at q2; obtain ⟨-, g1, es1, ck1, Gc1, rfl, -⟩ := q2; exact .mp m1
   have hset := q5 w E1 (.c (y0.ref nid)) (fun _ => False) le (Agree.refl _ _) (fun _ _ => rfl) (by simp only [Ro]; exact ⟨href, fun _ hf => hf⟩) (fun _ hf => hf.elim)
   have hg2 : ¬ G2 g := fun hh => h7 ((q4 g).2 (.inr hh))
   have hro := h10 w E1 (l.set k (.c (y0.ref nid))) cur G2 h4 rfl (by simp) (hset.congr fun q => by simp) hg2
   refine ⟨.value u, w, E1, hr, .inl ⟨u, rfl, fun y' e => ?_⟩, ?_⟩
   ·injection e with e; subst e; exact .one href
   have hbl := fun q => r.own b _ q h2
   refine Upd.two hbn h2 hnid le (fun _ hh => hh) rfl rfl rfl (Nat.le_refl _) (fun _ _ _ => rfl) (fun b' n e1 e2 => En.set_out _ _ _ _ e2) (fun b' e1 e2 => ?_) ⟨uu, by rw [h9]; exact le.m _ _ _ h3, by rw [f2]; exact hro⟩ ⟨u, m1, by rw [f1]; exact Ro.mono le (Agree.refl _ _) y0 (fun _ _ => rfl) q2⟩ (fun q hq' => ?_) (fun q hq' => ?_) (fun q hq1 hq2 => ?_)
   ·show (if b' = b then _ else if b' = nid then _ else E.ft b') = _; rw [if_neg e1, if_neg e2]
   ·have : E1.ft b q := hq'
    rw [f2] at this
    have hft : E.ft b q := (h8 q).2 (this.imp id fun hh => (q4 q).2 (.inr hh))
    exact ⟨.inr hft, (hbl q hft).2⟩
   ·have : E1.ft nid q := hq'
    rw [f1] at this
    have hft : E.ft b q := (h8 q).2 (.inr ((q4 q).2 (.inl this)))
    exact ⟨.inr hft, (hbl q hft).2⟩
   ·have e1 : E1.ft b q := hq1
    have e2 : E1.ft nid q := hq2
    rw [f2] at e1
    rw [f1] at e2
    rcases e1 with rfl | e1
    ·exact h7 ((q4 q).2 (.inl e2))
    ·exact q3 q e2 e1
 ·simp only [hk, if_true] at hy hrun
  split at hy
  case isFalse => cases hy
  rename_i hle
  split at hy
  case h_2 => cases hy
  rename_i cs hcs
  simp only [Option.some.injEq, Prod.mk.injEq] at hy
  obtain ⟨rfl, rfl⟩ := hy
  have hcs' := plainL_eq hcs
  have hlen := h6.len
  have esp : l = l.take k ++ ((l.drop k).take ti.size ++ l.drop (k + ti.size)) := by rw [← List.drop_drop, List.take_append_drop, List.take_append_drop]
  generalize hvv : (cur.toList.drop base).take l.length = vv at h6 hlen
  rw [esp] at h6
  obtain ⟨v1, v2, H1, H2, e1, e2, e3, e4, -⟩ := Ros.split h6
  obtain ⟨v3, v4, H3, H4, e5, e6, e7, e8, -⟩ := Ros.split e4
  rw [hcs'] at e7
  have hal := e7.unplain.1
  have hv3 : v3.length = ti.size := by rw [e6, List.length_take, List.length_drop]; omega
  have hv1 : v1.length = k := by rw [e2, List.length_take]; omega
  have hr := hrun v3 hv3 (fun j u hj => by
   have hjl := (List.getElem?_eq_some_iff.1 hj).1
   rw [Nat.add_assoc]
   refine cell_drop (n := l.length) h4 ?_
   rw [hvv, e1, e5, List.getElem?_append_right (by omega), List.getElem?_append_left (by omega), hv1, Nat.add_sub_cancel_left]
   exact hj)
  refine Sound.same (v := .agg v3.toArray) hr (fun y' e => ?_)
  injection e with e; subst e
  exact Rv.ofAll2 (by simpa using hal)
def plStoreO (P : Program) (h : Nat → Option AB) (ty : Nat) (p v : AV) : Option (List (Nat × AB)) :=
 match tyOf P ty, cellsV v, plPlace h p with
 | some ti, some cs, some q => if cs.length = ti.size ∧ q.2.2.1 + cs.length ≤ q.2.2.2.length then some [(q.1, .obj (q.2.1.with (splice q.2.2.2 q.2.2.1 (cs.map OC.c))))] else none
 | _, _, _ => none
theorem storeO_sound (r : R fr E t h nx a w) {o : Oper} {ty : Nat} {p x : Operand} (ho : o.op = .store ty p x) {pv xv : AV} {ws : List (Nat × AB)} (hp : evT t p = some pv) (hx : evT t x = some xv) (hy : plStoreO P h ty pv xv = some ws) : Sound P E h a w o none ws := by
 unfold plStoreO at hy
 split at hy
 case h_2 => cases hy
 rename_i ti cs q hti hcs hq
 obtain ⟨b, x0, k, l⟩ := q
 simp only at hy
 split at hy
 case isFalse => cases hy
 rename_i hcond
 obtain ⟨hlen, hkl⟩ := hcond
 simp only [Option.some.injEq] at hy; subst hy
 obtain ⟨hx1, hx2, hx3⟩ := cellsV_sound (ev_sound r hx) hcs
 obtain ⟨g, base, ty0, cur, Gc, uu, h1, h2, h3, h4, h5, h6, h7, h8, h9, h10⟩ := place_sound r (ev_sound r hp) hq
 have hvl : (a.eval x).cells.toList.length = cs.length := hx1.1
 have hvs : (a.eval x).cells.size = ti.size := by rw [hx3, hlen]
 have hrun := storeVar_run (P := P) hti w g (base + k) ty0 cur (a.eval x) hvs hx2 h4 (by omega)
 obtain ⟨cur', hcur'⟩ : ∃ c, c = (cur.toList.take (base + k) ++ (a.eval x).cells.toList ++ cur.toList.drop (base + k + ti.size)).toArray := ⟨_, rfl⟩
 rw [← hcur'] at hrun
 obtain ⟨f1, f2, f3, f4, f5, f6⟩ := setRow_facts (cs := cur') h4
 have hsp : cur'.toList = splice cur.toList (base + k) (a.eval x).cells.toList := by rw [hcur']; simp only [splice]; rw [hvl, hlen]
 have hcl : cur.toList.length = cur.size := by simp
 have hsz' : cur'.size = cur.size := by
  have := congrArg List.length hsp
  rw [splice_len (by omega)] at this
  simpa using this
 have hown := fun q => r.own b _ q h2
 have hag : Agree E.F w (w.setRow g cur') := fun q hq' => f5 q (fun e => by subst e; exact (hown q ((h8 q).2 (.inl rfl))).2.1 hq')
 have hke : ∀ q, Gc q → (w.setRow g cur').heap[q]? = w.heap[q]? := fun q hq' => f5 q (fun e => h7 (e ▸ hq'))
 obtain ⟨G', hG', hros⟩ := (Ros.mono (.refl E) hag l hke h6).splice (hx1.mono fun c u hc => hc.mono (.refl E) hag) hkl
 have hbl : (cur.toList.drop base).length = cur.size - base := by simp
 have hvals : (cur'.toList.drop base).take l.length = splice ((cur.toList.drop base).take l.length) k (a.eval x).cells.toList := by
  rw [hsp, drop_splice (by omega), take_splice (by omega) (by omega)]
 rw [← hvals] at hros
 have hro := h10 _ E _ cur' G' f6 hsz' (splice_len (by simpa using hkl)) hros (fun hh => h7 (hG' _ hh))
 refine ⟨_, _, E.setF b (fun q => q = g ∨ G' q), ?_, .inr ⟨rfl, rfl⟩, Upd.obj h2 (by rw [h9]; exact h3) hro (fun q hq' => (h8 q).2 (hq'.imp id (hG' q))) (fun q hq' => (hown q hq').2) f1 f2 f3 f4 (fun q hq' => f5 q (fun e => hq' ((h8 q).2 (.inl e))))⟩
 unfold execOp
 simp only [ho, h1, Instr.storeAt, Instr.sureAddr, Sem.run_bind, Sem.run_pure, Result.andThen_ok, hrun]
end
end Go.Abs
set_option linter.unusedVariables false
set_option linter.unusedSimpArgs false
namespace Go.Abs
open Go.RowKit
section
variable {P : Program} {fr : Fr} {E : En} {t : Nat → Option AV} {h : Nat → Option AB} {nx : Nat} {a : Act} {w : World}
theorem run_append_room_off (w : World) (t ty e : TypeId) (i : TypeInfo) (ht : P.underlying t = some (.slice e)) (hi : P.info? e = some i)
  (g off sLen sCap : Nat) (cur : Array Value) (hg : w.heap[g]? = some (.cells cur e (0, 0)))
  (a : Addr) (m c : Nat) (news : List Value) (hl : news.length = m * i.size) (hnews : ∀ j u, news[j]? = some u → w.cell? (a.add j) = some u) (h1 : ∀ u ∈ news, u.oneCell' = true)
  (hroom : sLen + m ≤ sCap) (hfit : off + sLen * i.size + news.length ≤ cur.size) :
  (Builtin.append_ #[t, t] ty #[.slice (some ⟨g, off, none⟩) sLen sCap, .slice (some a) m c]).run P w =
   .ok (.slice (some ⟨g, off, none⟩) (sLen + m) sCap) (w.setRow g (cur.toList.take (off + sLen * i.size) ++ news ++ cur.toList.drop (off + sLen * i.size + news.length)).toArray) := by
 have hf := run_firstCells_some (P := P) w i.size m a m c news hl hnews
 have hst := run_storeCells_at P g (off + sLen * i.size) e news 0 cur w hg (by simpa using hfit) h1
 simp only [Nat.add_zero] at hst
 simp [Builtin.append_, run_underlying ht, sizeOf, typeInfo, hi, Builtin.lenOf, hroom, hf, Addr.add_lit, hst]
def srcCells (h : Nat → Option AB) (x : AV) : Option (Nat × List AC) :=
 match elemsOf h x with
 | some (_, m) => some (m.length, m.flatten.map AC.f)
 | none => match x with
  | .one (.row b n) => (match h b with
   | some (.obj (.row _ sz n' l)) => if n' = n ∧ l.length = n * sz then (match plainL l with | some cs => some (n, cs) | none => none) else none
   | _ => none)
  | _ => none
theorem flat_get {m : List (List FC)} {sz : Nat} (hs : ∀ (i : Nat) (e : List FC), m[i]? = some e → e.length = sz) {vals : List Value} {F : Nat → Prop} (hl : vals.length = m.length * sz)
  (hc : ∀ (i : Nat) (e : List FC) (j : Nat) (c : FC), m[i]? = some e → e[j]? = some c → ∃ u, vals[i * sz + j]? = some u ∧ Rf w F c u) : All2 (Rf w F) m.flatten vals := by
 induction m generalizing vals with
 | nil => simp at hl; subst hl; exact All2.nil _
 | cons e r ih =>
  have he := hs 0 e rfl
  have h1 : vals.length = sz + r.length * sz := by rw [hl, List.length_cons, Nat.succ_mul, Nat.add_comm]
  have := ih (vals := vals.drop sz) (fun i e' hi => hs (i + 1) e' (by simpa using hi)) (by rw [List.length_drop, h1]; omega) (fun i e' j c hi hj => by
   obtain ⟨u, q1, q2⟩ := hc (i + 1) e' j c (by simpa using hi) hj
   exact ⟨u, by rw [List.getElem?_drop]; rw [Nat.succ_mul] at q1; rw [← q1]; congr 1; omega, q2⟩)
  have h2 : All2 (Rf w F) e (vals.take sz) := ⟨by rw [List.length_take]; omega, fun j c hj => by
   have hjl := (List.getElem?_eq_some_iff.1 hj).1
   obtain ⟨u, q1, q2⟩ := hc 0 e j c rfl hj
   exact ⟨u, by rw [List.getElem?_take_of_lt (by omega)]; simpa using q1, q2⟩⟩
  have h3 := h2.append this
  rw [List.take_append_drop] at h3
  simpa using h3
theorem srcCells_sound (r : R fr E t h nx a w) {x : AV} {v : Value} {k : Nat} {cs : List AC} (hv : Rv w E x v) (hx : srcCells h x = some (k, cs)) :
  ∃ A c vals, v = .slice A k c ∧ All2 (Rc w E) cs vals ∧ (cs ≠ [] → ∃ g off, A = some ⟨g, off, none⟩ ∧ ∀ j u, vals[j]? = some u → w.cell? ⟨g, off + j, none⟩ = some u) := by
 unfold srcCells at hx
 split at hx
 ·rename_i sz m hm
  simp only [Option.some.injEq, Prod.mk.injEq] at hx
  obtain ⟨rfl, rfl⟩ := hx
  obtain ⟨A, c, e1, vals, k1, k2, k3, k4, k5⟩ := elems_sound (sz := sz) (m := m) r hv hm
  have hal := flat_get (w := w) k2 k1 k4
  refine ⟨A, c, vals, e1, hal.map _ (fun x u hx => .f hx), fun hne => k5 (fun e => hne (by rw [e]; rfl))⟩
 ·split at hx
  ·rename_i b n
   split at hx
   ·rename_i ty sz n' l hb
    split at hx
    ·rename_i hcond
     obtain ⟨rfl, hl⟩ := hcond
     split at hx
     ·rename_i cs' hcs
      simp only [Option.some.injEq, Prod.mk.injEq] at hx
      obtain ⟨rfl, rfl⟩ := hx
      obtain ⟨A, c, e1, hm⟩ := hv.row_inv
      obtain ⟨u, h1, h2⟩ := r.blk _ _ hb
      simp only [OC.len] at h1
      rw [hm] at h1
      injection h1 with h1; subst h1
      simp only [Ro] at h2
      rw [plainL_eq hcs] at h2 hl
      rcases h2 with ⟨q1, q2, q3, -⟩ | ⟨g, off, cap, cur, Gc, q1, q2, q3, q4, q5, q6, -⟩
      ·have : cs' = [] := by cases cs' with | nil => rfl | cons => simp at q3
       subst this
       exact ⟨A, c, [], e1, All2.nil _, fun hh => absurd rfl hh⟩
      ·simp only [Value.slice.injEq, true_and] at q1
       obtain ⟨rfl, rfl⟩ := q1
       exact ⟨_, _, _, e1, q6.unplain.1, fun _ => ⟨g, off, rfl, fun j u hj => cell_drop q2 hj⟩⟩
     ·cases hx
    ·cases hx
   ·cases hx
  ·cases hx
def plAppendO (P : Program) (h : Nat → Option AB) (nid ty : Nat) (s x : AV) : Option (AV × List (Nat × AB)) :=
 match s, tyOf P ty, srcCells h x with
 | .one (.row b n), some ti, some kc =>
  match ti.kind, h b with
  | .slice e, some (.obj (.row rt sz n' l)) => (match tyOf P e with
   | some te => if n' = n ∧ rt = e ∧ sz = te.size ∧ 0 < sz ∧ te.zero.length = te.size ∧ l.length = n * sz ∧ kc.2.length = kc.1 * sz ∧ 0 < kc.1 ∧ n + kc.1 ≤ maxLen ∧ (n + kc.1) * te.bytes ≤ 140737488355328 then
     some (.one (.row nid (n + kc.1)), [(b, .dead), (nid, .obj (.row e sz (n + kc.1) (l ++ kc.2.map OC.c)))]) else none
   | none => none)
  | _, _ => none
 | _, _, _ => none
theorem take_app {α : Type} {l news rest : List α} {n : Nat} (h : n = (l ++ news).length) : (l ++ news ++ rest).take n = l ++ news := List.take_left' h.symm
theorem appendO_sound (r : R fr E t h nx a w) {o : Oper} {ty nid : Nat} {s x : Operand} (ho : o.op = .call { callee := .builtin .append, args := #[s, x], argTypes := #[ty, ty] }) {sv xv : AV} (hs : evT t s = some sv) (hx : evT t x = some xv)
    (hn : nx ≤ nid) (hnid : h nid = none) {y : AV} {ws : List (Nat × AB)} (hy : plAppendO P h nid ty sv xv = some (y, ws)) : Sound P E h a w o (some y) ws := by
  unfold plAppendO at hy
  split at hy
  case h_2 => cases hy
  rename_i b n ti kc hti hkc
  obtain ⟨k, cs⟩ := kc
  simp only at hy
  split at hy
  case h_2 => cases hy
  rename_i e rt sz n' l hk hb
  split at hy
  case h_2 => cases hy
  rename_i te hte
  split at hy
  case isFalse => cases hy
  rename_i hcond
  obtain ⟨rfl, rfl, rfl, hpos, hzl, hll, hcl, hk0, hml, hby⟩ := hcond
  simp only [Option.some.injEq, Prod.mk.injEq] at hy
  obtain ⟨rfl, rfl⟩ := hy
  have hu := slice_elem hti hk
  obtain ⟨i, d, z, hi, hd, hz, h1, h2, h3, h4, h5⟩ := tyOf_spec hte
  have hzz : z.cells.size = te.size := by rw [← hzl, h4]; simp
  obtain ⟨A0, c0, e0, hm⟩ := (ev_sound r hs).row_inv
  obtain ⟨A, c, vals, e1, k1, k2⟩ := srcCells_sound r (ev_sound r hx) hkc
  have hcne : cs ≠ [] := fun e => by rw [e] at hcl; simp at hcl; have := Nat.mul_pos hk0 hpos; omega
  obtain ⟨gs, offs, rfl, hcell⟩ := k2 hcne
  have hvl : vals.length = k * te.size := by rw [k1.1, hcl]
  have hones : ∀ u ∈ vals, u.oneCell' = true := fun u hu => by obtain ⟨c', -, hc⟩ := k1.mem hu; exact hc.one_
  obtain ⟨u, q1, q2⟩ := r.blk b _ hb
  simp only [OC.len] at q1
  rw [hm] at q1
  injection q1 with q1; subst q1
  have hbn : b ≠ nid := fun e => by rw [e, hnid] at hb; cases hb
  have hm0 : ∀ n, E.m nid n = none := fun n => r.fresh nid n hn hnid
  have hown := fun q => r.own b _ q hb
  have hnews : ∀ j u, vals[j]? = some u → w.cell? ((⟨gs, offs, none⟩ : Addr).add j) = some u := fun j u hj => by rw [add_lit]; exact hcell j u hj
  have h63 : ((n' + k : Nat) : Int) ≤ 9223372036854775807 := by simp only [maxLen] at hml; omega
  -- what is to be shown of the new place
  have main : ∀ (v' : Value) (w' : World) (Gn : Nat → Prop), (Builtin.append_ #[ty, ty] o.type #[a.eval s, a.eval x]).run P w = .ok v' w' → (∃ A c, v' = .slice A (n' + k) c) → w'.os = w.os → w'.tape = w.tape → w'.output = w.output → w.heap.size ≤ w'.heap.size →
      (∀ g, g < w.heap.size → ¬ E.ft b g → w'.heap[g]? = w.heap[g]?) → (∀ g, Gn g → w.heap.size ≤ g ∨ E.ft b g) → (∀ g, Gn g → g < w'.heap.size) →
      Ro w' E (.row rt te.size (n' + k) (l ++ cs.map OC.c)) v' Gn → Sound P E h a w o (some (.one (.row nid (n' + k)))) [(b, .dead), (nid, .obj (.row rt te.size (n' + k) (l ++ cs.map OC.c)))] := by
    intro v' w' Gn hrun hv' hos htp hou hgr hke hGn hGl hro
    obtain ⟨A', c', rfl⟩ := hv'
    let E1 : En := (E.set nid (n' + k) (.slice A' (n' + k) c')).setF nid Gn
    have le : E.le E1 := (En.set_le (hm0 _)).trans (En.setF_le _ _ _)
    have m1 : E1.m nid (n' + k) = some (.slice A' (n' + k) c') := En.set_at _ _ _ _
    have f1 : E1.ft nid = Gn := En.setF_at _ _ _
    refine ⟨.value (.slice A' (n' + k) c'), w', E1, ?_, .inl ⟨_, rfl, fun y' e => ?_⟩, ?_⟩
    · unfold execOp
      simp only [ho, resolve, invoke, builtin, Sem.run_bind, Sem.run_pure, Result.andThen_ok, List.map_toArray, List.map_cons, List.map_nil, hrun]
    · injection e with e; subst e; exact .one (.row m1)
    refine Upd.two hbn hb hnid le (fun _ hh => hh) hos htp hou hgr (fun q hq hno => hke q hq hno) (fun b' n e1 e2 => En.set_out _ _ _ _ e2) (fun b' e1 e2 => En.setF_out _ _ e2) trivial ⟨_, m1, by rw [f1]; exact Ro.mono le (Agree.refl _ _) _ (fun _ _ => rfl) hro⟩ (fun q hq' => hq'.elim) (fun q hq' => ?_) (fun q hq1 hq2 => hq1.elim)
    have hq : Gn q := by have : E1.ft nid q := hq'; rwa [f1] at this
    refine ⟨hGn q hq, fun hF => ?_, hGl q hq⟩
    rcases hGn q hq with hh | hh
    · have := r.lt q hF; omega
    · exact (hown q hh).2.1 hF
  have hFdrew : ∀ (w' : World), (∀ g, g < w.heap.size → w'.heap[g]? = w.heap[g]?) → Agree E.F w w' := fun w' hh g hg => hh g (r.lt g hg)
  have hgrow : ∀ (cp : Nat) (xs : List Value) (Gc : Nat → Prop), Ros w E l xs Gc → (∀ g, Gc g → E.ft b g) → cp < n' + k → (Builtin.append_ #[ty, ty] o.type #[a.eval s, a.eval x]).run P w = .ok (.slice (some ⟨w.heap.size, 0, none⟩) (n' + k) (grownCap w (n' + k) cp rt))
        (w.drew.alloc (.cells (xs.toArray ++ vals.toArray ++ Builtin.zeroCells z.cells (grownCap w (n' + k) cp rt - (n' + k))) rt)) → Sound P E h a w o (some (.one (.row nid (n' + k)))) [(b, .dead), (nid, .obj (.row rt te.size (n' + k) (l ++ cs.map OC.c)))] := by
    intro cp xs Gc hxs hGc hcp hrun
    have hge := grownCap_ge w (n' + k) cp rt
    have hcm : grownCap w (n' + k) cp rt ≤ maxLen := grownCap_le_maxLen w (n' + k) cp rt hml
    have hkept : ∀ g, g < w.heap.size → (w.drew.alloc (.cells (xs.toArray ++ vals.toArray ++ Builtin.zeroCells z.cells (grownCap w (n' + k) cp rt - (n' + k))) rt)).heap[g]? = w.heap[g]? := fun g hg => heap_alloc_old w.drew _ hg
    have hxl := hxs.len
    have hag := hFdrew _ hkept
    have hGlt : ∀ g, Gc g → g < w.heap.size := fun g hg => (hown g (hGc g hg)).2.2
    have hros := Ros.append ((Ros.plain (k1.mono fun c u hc => hc.mono (.refl E) hag))) (Ros.mono (.refl E) hag l (fun g hg => hkept g (hGlt g hg)) hxs) (fun _ _ hf => hf)
    refine main _ _ (fun g => g = w.heap.size ∨ Gc g) hrun ⟨_, _, rfl⟩ rfl rfl rfl (by simp) (fun g hg _ => hkept g hg) (fun g hg => hg.elim (fun e => .inl (by omega)) (fun hh => .inr (hGc g hh))) (fun g hg => hg.elim (fun e => by subst e; simp) (fun hh => by have := hGlt g hh; simp; omega)) ?_
    simp only [Ro]
    refine .inr ⟨w.heap.size, 0, _, _, Gc, rfl, heap_alloc_new w.drew _, hge, hcm, ?_, ?_, fun hh => by have := hGlt _ hh; omega, fun _ => Iff.rfl⟩
    · simp only [Array.size_append, List.size_toArray, size_zeroCells, hzz, hxl, hvl, hll, ← Nat.add_mul, Nat.zero_add]
      rw [show n' + k + (grownCap w (n' + k) cp rt - (n' + k)) = grownCap w (n' + k) cp rt by omega]; exact Nat.le_refl _
    · simp only [Array.toList_append, List.drop_zero]
      rw [take_app (by rw [List.length_append, hxl, hvl, hll, Nat.add_mul])]
      exact hros.congr fun g => by simp
  simp only [Ro] at q2
  rcases q2 with ⟨p1, p2, p3, p4⟩ | ⟨g, off, cap, cur, Gc, p1, p2, p3, p4, p5, p6, p7, p8⟩
  · subst p2 p3
    simp only [Value.slice.injEq] at p1
    obtain ⟨rfl, -, rfl⟩ := p1
    have hr := run_append_nil (P := P) w ty o.type rt i z hu hi hz ⟨gs, offs, none⟩ k c vals (by rw [← h2]; exact hvl) hnews hk0 (by simpa using h63) (by
      have hb := growslice_fits (need := 0 + k) (old := 0) (bytes := te.bytes) (by omega) hby
      rw [Nat.zero_add] at hb hby
      first | (rw [← h3]; exact hb) | (rw [← h3]; omega))
    rw [← e0, ← e1] at hr
    refine hgrow 0 [] (fun _ => False) (Ros.nil w E) (fun _ hf => hf.elim) (by omega) ?_
    rw [hr]
    simp
  · simp only [Value.slice.injEq, true_and] at p1
    obtain ⟨rfl, rfl⟩ := p1
    have hxl := p6.len
    by_cases hroom : n' + k ≤ c0
    · have hmul : (n' + k) * te.size ≤ c0 * te.size := Nat.mul_le_mul_right _ hroom
      rw [Nat.add_mul] at hmul
      have hr := run_append_room_off (P := P) w ty o.type rt i hu hi g off n' c0 cur p2 ⟨gs, offs, none⟩ k c vals (by rw [← h2]; exact hvl) hnews hones hroom (by rw [← h2]; omega)
      rw [← h2] at hr
      obtain ⟨cur', hcur'⟩ : ∃ q, q = (cur.toList.take (off + n' * te.size) ++ vals ++ cur.toList.drop (off + n' * te.size + vals.length)).toArray := ⟨_, rfl⟩
      rw [← hcur', ← e0, ← e1] at hr
      obtain ⟨f1, f2, f3, f4, f5, f6⟩ := setRow_facts (cs := cur') p2
      have hft : E.ft b g := (p8 g).2 (.inl rfl)
      have hag : Agree E.F w (w.setRow g cur') := fun q hq' => f5 q (fun e => by subst e; exact (hown q hft).2.1 hq')
      have hsp : cur'.toList = splice cur.toList (off + n' * te.size) vals := by rw [hcur']; simp only [splice]
      have hcsz : cur.toList.length = cur.size := by simp
      have hros := Ros.append ((Ros.plain (k1.mono fun c u hc => hc.mono (.refl E) hag))) (Ros.mono (.refl E) hag l (fun q hq => f5 q (fun e => p7 (e ▸ hq))) p6) (fun _ _ hf => hf)
      refine main _ _ (E.ft b) hr ⟨_, _, rfl⟩ f1 f2 f3 (by omega) (fun q _ hno => f5 q (fun e => hno (e ▸ hft))) (fun q hq => .inr hq) (fun q hq => by rw [f4]; exact (hown q hq).2.2) ?_
      simp only [Ro]
      have hsz' : cur'.size = cur.size := by
        have := congrArg List.length hsp
        rw [splice_len (by omega)] at this
        simpa using this
      refine .inr ⟨g, off, c0, cur', Gc, rfl, f6, hroom, p4, by omega, ?_, p7, p8⟩
      have e3 : (cur'.toList.drop off).take ((n' + k) * te.size) = (cur.toList.drop off).take (n' * te.size) ++ vals := by
        rw [hsp, drop_splice (by omega), Nat.add_mul]
        unfold splice
        rw [List.take_left' (by rw [List.length_append, List.length_take, List.length_drop, hvl]; omega)]
      rw [e3]
      exact hros.congr fun g => by simp
    · have holds : ∀ j u, ((cur.toList.drop off).take (n' * te.size))[j]? = some u → w.cell? ((⟨g, off, none⟩ : Addr).add j) = some u := fun j u hj => by rw [add_lit]; exact cell_drop p2 hj
      have hr := run_append_grow (P := P) w ty o.type rt i z hu hi hz ⟨g, off, none⟩ n' c0 _ (by rw [hxl, hll, h2]) holds ⟨gs, offs, none⟩ k c vals (by rw [← h2]; exact hvl) hnews (by omega) h63 (growslice_fits (by omega) (by rw [← h3]; exact hby))
      rw [← e0, ← e1] at hr
      exact hgrow c0 _ Gc p6 (fun q hq => (p8 q).2 (.inr hq)) (by omega) hr
end
end Go.Abs
