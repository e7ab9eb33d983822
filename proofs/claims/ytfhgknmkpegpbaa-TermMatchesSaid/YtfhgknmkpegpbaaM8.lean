/- Part 8 of the base: the walks and plain facts that the statement rests on. -/
import Derived.Test.YtfhgknmkpegpbaaM7
import Derived.Laws.StructEq
import Derived.MapKept
import Derived.RangeFuncRecord
import Derived.Laws.Cover3

set_option linter.unusedVariables false
set_option linter.unusedSimpArgs false
namespace Go.Abs
open Go.RowKit
theorem Upd.newRowC {E : En} {h : Nat → Option AB} {w : World} {b : Nat} (ty sz cap : Nat) (l : List (List FC)) (vs : Array Value) (hm : ∀ n, E.m b n = none) (hb : h b = none) (hFF : ∀ g, E.F g → g < w.heap.size) (hs : vs.size = cap * sz) (hcap : l.length ≤ cap) (hlm : cap ≤ maxLen)
  (hsz : ∀ (i : Nat) (e : List FC), l[i]? = some e → e.length = sz)
  (hc : ∀ (i : Nat) (e : List FC) (j : Nat) (c : FC), l[i]? = some e → e[j]? = some c → ∃ u, vs[i * sz + j]? = some u ∧ Rf w E.F c u) :
  Upd E h w [b] (E.set b l.length (.slice (some ⟨w.heap.size, 0, none⟩) l.length cap)) (up h b (.row ty sz l)) (w.alloc (.cells vs ty)) := by
 have le := En.set_le (v := .slice (some ⟨w.heap.size, 0, none⟩) l.length cap) (hm l.length)
 have hag : Agree E.F w (w.alloc (.cells vs ty)) := fun g hg => Below.heap_alloc w _ g (hFF g hg)
 have hle : l.length * sz ≤ cap * sz := Nat.mul_le_mul_right _ hcap
 refine Upd.single le (fun _ h => h) rfl rfl rfl (by simp) (fun g hg _ => Below.heap_alloc w _ g hg) (fun b' n hne => En.set_out _ _ _ _ hne) (fun _ _ => rfl) ⟨_, vs.toList.take (l.length * sz), En.set_at _ _ _ _, ⟨by simp; omega, .inr ⟨w.heap.size, cap, vs, rfl, Nat.zero_le _, heap_alloc_new w _, hcap, hlm, hs, rfl⟩⟩, hsz, fun i e j c hi hj => ?_, fun n hn => ?_⟩ (fun g hg => ?_)
 ·obtain ⟨u, h1, h2⟩ := hc i e j c hi hj
  have h3 := (List.getElem?_eq_some_iff.1 hi).1
  have h4 := (List.getElem?_eq_some_iff.1 hj).1
  have h5 := hsz i e hi
  have h6 : i * sz + j < l.length * sz := by
   have : (i + 1) * sz ≤ l.length * sz := Nat.mul_le_mul_right _ (by omega)
   rw [Nat.succ_mul] at this; omega
  exact ⟨u, by rw [List.getElem?_take_of_lt h6]; simpa using h1, h2.mono (fun _ h => h) hag⟩
 ·rw [En.set_ne _ _ _ (by omega)]; exact hm n
 ·obtain ⟨n, c, hg'⟩ := hg
  rw [En.set_at] at hg'
  simp at hg'
  obtain ⟨rfl, -, -⟩ := hg'
  exact ⟨.inl (Nat.le_refl _), fun hF => by have := hFF _ hF; omega, by simp⟩
section
variable {P : Program} {fr : Fr} {E : En} {t : Nat → Option AV} {h : Nat → Option AB} {nx : Nat} {a : Act} {w : World}
def plMake (P : Program) (nid ty : Nat) : AV → AV → Option (AV × List (Nat × AB))
 | .one (.f (.v (.int _ n))), .one (.f (.v (.int _ c))) => match tyOf P ty with
  | some ti => (match ti.kind with
   | .slice e => (match tyOf P e with
    | some te => if 0 ≤ n ∧ n ≤ c ∧ c.toNat ≤ maxLen ∧ te.bytes * c.toNat ≤ 281474976710656 ∧ 0 < te.size ∧ te.zero.length = te.size then
      some (.one (.row nid n.toNat), [(nid, .row e te.size (List.replicate n.toNat (te.zero.map FC.v)))]) else none
    | none => none)
   | _ => none)
  | none => none
 | _, _ => none
theorem make_sound (r : R fr E t h nx a w) {o : Oper} {ty nid : Nat} {x c : Operand} (ho : o.op = .makeSlice ty x c) {xv cv : AV} (hx : evT t x = some xv) (hc : evT t c = some cv)
  (hn : nx ≤ nid) (hnid : h nid = none) {y : AV} {ws : List (Nat × AB)} (hy : plMake P nid ty xv cv = some (y, ws)) : Sound P E h a w o (some y) ws := by
 unfold plMake at hy
 split at hy
 case h_2 => cases hy
 rename_i kx n kc c'
 split at hy
 case h_2 => cases hy
 rename_i ti hti
 split at hy
 case h_2 => cases hy
 rename_i e hk
 split at hy
 case h_2 => cases hy
 rename_i te hte
 split at hy
 case isFalse => cases hy
 rename_i hcond
 obtain ⟨h0, h1, h2, h3, h4, h5⟩ := hcond
 simp only [Option.some.injEq, Prod.mk.injEq] at hy
 obtain ⟨rfl, rfl⟩ := hy
 have hu := slice_elem hti hk
 obtain ⟨i, d, z, hi, hd, hz, q1, q2, q3, q4, q5⟩ := tyOf_spec hte
 have hzz : z.cells.size = te.size := by rw [← h5, q4]; simp
 have e1 := (ev_sound r hx).val_inv
 have e2 := (ev_sound r hc).val_inv
 have hby : (i.bytes : Int) * c' ≤ 281474976710656 := by
  have : (i.bytes : Int) * ((c'.toNat : Nat) : Int) ≤ 281474976710656 := by
   have hb : ((te.bytes * c'.toNat : Nat) : Int) ≤ 281474976710656 := by omega
   rw [q3] at hb
   rwa [Int.natCast_mul] at hb
  rwa [Int.toNat_of_nonneg (by omega)] at this
 have hrun := run_make (P := P) w ty e i z hu hi hz kx kc n c' h0 h1 hby (by simp only [maxLen] at h2; omega)
 rw [← q2] at hrun
 have hup := Upd.newRowC (E := E) (h := h) (w := w) (b := nid) e te.size c'.toNat (List.replicate n.toNat (te.zero.map FC.v)) (madeCells z.cells (c'.toNat * te.size)) (fun n => r.fresh nid n hn hnid) hnid r.lt (size_madeCells _ _) (by simp; omega) h2
  (fun i e hi => by
   rw [List.getElem?_replicate] at hi
   split at hi
   ·injection hi with hi; subst hi; simp [h5]
   ·cases hi)
  (fun i e j c hi hj => by
   have hil : i < n.toNat := by have := (List.getElem?_eq_some_iff.1 hi).1; simpa using this
   rw [List.getElem?_replicate, if_pos hil] at hi
   injection hi with hi; subst hi
   rw [List.getElem?_map] at hj
   obtain ⟨u, hu', rfl⟩ := Option.map_eq_some_iff.1 hj
   have hjl : j < te.size := by have := (List.getElem?_eq_some_iff.1 hu').1; omega
   have hlt : i * te.size + j < c'.toNat * te.size := by
    have : (i + 1) * te.size ≤ c'.toNat * te.size := Nat.mul_le_mul_right _ (by omega)
    rw [Nat.succ_mul] at this; omega
   refine ⟨u, ?_, .v u (q5 u (List.mem_of_getElem? hu'))⟩
   unfold madeCells
   have hm : (i * te.size + j) % z.cells.size = j := by rw [hzz, Nat.mul_comm, Nat.mul_add_mod, Nat.mod_eq_of_lt hjl]
   rw [q4] at hu'
   have hu2 : z.cells[j]? = some u := by simpa using hu'
   simp [hlt, hm, getElem!_def, hu2])
 rw [List.length_replicate] at hup
 refine ⟨.value (.slice (some ⟨w.heap.size, 0, none⟩) n.toNat c'.toNat), _, _, ?_, .inl ⟨_, rfl, fun y hy => ?_⟩, hup⟩
 ·unfold execOp
  simp [ho, e1, e2, hrun]
 ·injection hy with hy; subst hy
  exact .one (.row (En.set_at _ _ _ _))
def evO (t : Nat → Option AV) : Option Operand → Option (Option Int)
 | none => some none
 | some x => match evT t x with
  | some (.one (.f (.v (.int _ n)))) => some (some n)
  | _ => none
def bnd (d : Int) : Option Int → Int
 | some n => n
 | none => d
theorem run_bounds (s : Bool) (len cap : Nat) (lo hi : Option Value) (l u : Int) (hlo : (lo = none ∧ l = 0) ∨ ∃ k, lo = some (.int k l)) (hhi : (hi = none ∧ u = (len : Int)) ∨ ∃ k, hi = some (.int k u)) (h0 : 0 ≤ l) (h1 : l ≤ u) (h2 : u ≤ cap) :
  (Instr.sliceBounds s len cap lo hi none).run P w = .ok (l.toNat, u.toNat, cap) w := by
 have eu : ((u.toNat : Nat) : Int) = u := Int.toNat_of_nonneg (by omega)
 have c1 : 0 ≤ u ∧ u ≤ (cap : Int) := ⟨by omega, h2⟩
 have c2 : 0 ≤ l ∧ l ≤ ((u.toNat : Nat) : Int) := ⟨h0, by omega⟩
 rcases hlo with ⟨rfl, rfl⟩ | ⟨k, rfl⟩ <;> rcases hhi with ⟨rfl, rfl⟩ | ⟨k', rfl⟩
 ·simp [Instr.sliceBounds]
 ·simp [Instr.sliceBounds, Instr.sliceBound, asIntOf, c1]
 ·simp [Instr.sliceBounds, Instr.sliceBound, asIntOf, show 0 ≤ l ∧ l ≤ (len : Int) from ⟨h0, h1⟩]
 ·simp only [Instr.sliceBounds, Instr.sliceBound, asIntOf, Sem.run_bind, Sem.run_pure, Result.andThen_ok, if_pos c1, if_pos c2]
theorem evO_sound (r : R fr E t h nx a w) {o : Option Operand} {x : Option Int} (he : evO t o = some x) (d : Int) : ((o.map a.eval = none ∧ x = none) ∨ ∃ k, o.map a.eval = some (.int k (bnd d x))) := by
 cases o with
 | none => simp only [evO, Option.some.injEq] at he; exact .inl ⟨rfl, he.symm⟩
 | some y =>
  simp only [evO] at he
  split at he
  ·rename_i k n hy
   simp only [Option.some.injEq] at he; subst he
   exact .inr ⟨k, by simp [(ev_sound r hy).val_inv, bnd]⟩
  ·cases he
def plSub (P : Program) (h : Nat → Option AB) (nid ty : Nat) (x : AV) (lo hi : Option Int) : Option (AV × List (Nat × AB)) :=
 match x with
 | .one (.f (.v (.string s))) => (match tyOf P ty with
  | some ti => (match ti.kind with
   | .string => if 0 ≤ bnd 0 lo ∧ bnd 0 lo ≤ bnd s.size hi ∧ bnd s.size hi ≤ s.size then some (.val (.string (s.extract (bnd 0 lo).toNat (bnd s.size hi).toNat)), []) else none
   | _ => none)
  | none => none)
 | .one (.f (.fz sz m)) => (match tyOf P ty with
  | some ti => (match ti.kind with
   | .slice e => (match tyOf P e with
    | some te => if sz = te.size ∧ 0 ≤ bnd 0 lo ∧ bnd 0 lo ≤ bnd m.length hi ∧ bnd m.length hi ≤ m.length then some (.one (.f (.fz sz ((m.drop (bnd 0 lo).toNat).take ((bnd m.length hi).toNat - (bnd 0 lo).toNat)))), []) else none
    | none => none)
   | _ => none)
  | none => none)
 | .one (.row b n) => (match tyOf P ty, h b with
  | some ti, some (.obj (.row rt sz n' c)) => (match ti.kind with
   | .slice e => (match tyOf P e with
    | some te => if n' = n ∧ sz = te.size ∧ c.length = n * sz ∧ 0 ≤ bnd 0 lo ∧ bnd 0 lo ≤ bnd n hi ∧ bnd n hi ≤ n then
      some (.one (.row nid ((bnd n hi).toNat - (bnd 0 lo).toNat)), [(b, .dead), (nid, .obj (.row rt sz ((bnd n hi).toNat - (bnd 0 lo).toNat) ((c.drop ((bnd 0 lo).toNat * sz)).take (((bnd n hi).toNat - (bnd 0 lo).toNat) * sz))))]) else none
    | none => none)
   | _ => none)
  | _, _ => none)
 | _ => none
theorem Ros.sub {l : List OC} {vs : List Value} {G : Nat → Prop} (hr : Ros w E l vs G) (i n : Nat) (hi : i + n ≤ l.length) : ∃ G', (∀ g, G' g → G g) ∧ Ros w E ((l.drop i).take n) ((vs.drop i).take n) G' := by
 have e : l = l.take i ++ ((l.drop i).take n ++ l.drop (i + n)) := by rw [← List.drop_drop, List.take_append_drop, List.take_append_drop]
 rw [e] at hr
 obtain ⟨v1, v2, H1, H2, rfl, k2, k3, k4, k5, k6⟩ := Ros.split hr
 obtain ⟨v3, v4, H3, H4, rfl, m2, m3, m4, m5, m6⟩ := Ros.split k4
 have hl1 : v1.length = i := by rw [k2, List.length_take]; omega
 have hl3 : v3.length = n := by rw [m2, List.length_take, List.length_drop]; omega
 refine ⟨H3, fun g hg => (k6 g).2 (.inr ((m6 g).2 (.inl hg))), ?_⟩
 rw [List.drop_left' hl1, List.take_left' hl3]
 exact m3
theorem add_slice (g off k : Nat) : (⟨g, off, none⟩ : Addr).add k = ⟨g, off + k, none⟩ := add_lit g off k
theorem sub_sound (r : R fr E t h nx a w) {o : Oper} {ty nid : Nat} {x : Operand} {lo hi : Option Operand} (ho : o.op = .slice ty x lo hi none) {xv : AV} {lv hv : Option Int} (hx : evT t x = some xv) (hl : evO t lo = some lv) (hh : evO t hi = some hv)
  (hn : nx ≤ nid) (hnid : h nid = none) {y : AV} {ws : List (Nat × AB)} (hy : plSub P h nid ty xv lv hv = some (y, ws)) : Sound P E h a w o (some y) ws := by
 have hxv := ev_sound r hx
 have hlo : (lo.map a.eval = none ∧ bnd 0 lv = 0) ∨ ∃ k, lo.map a.eval = some (.int k (bnd 0 lv)) := by
  rcases evO_sound r hl 0 with ⟨q1, rfl⟩ | q
  ·exact .inl ⟨q1, rfl⟩
  ·exact .inr q
 have hhi : ∀ d : Nat, (hi.map a.eval = none ∧ bnd d hv = d) ∨ ∃ k, hi.map a.eval = some (.int k (bnd d hv)) := fun d => by
  rcases evO_sound r hh d with ⟨q1, rfl⟩ | q
  ·exact .inl ⟨q1, rfl⟩
  ·exact .inr q
 unfold plSub at hy
 split at hy
 ·rename_i s
  split at hy
  case h_2 => cases hy
  rename_i ti hti
  split at hy
  case h_2 => cases hy
  rename_i hk
  split at hy
  case isFalse => cases hy
  rename_i hcond
  simp only [Option.some.injEq, Prod.mk.injEq] at hy
  obtain ⟨rfl, rfl⟩ := hy
  have e1 := hxv.val_inv
  have hok := hxv.val_ok
  have hu := string_ty hti hk
  have hb := run_bounds (P := P) (w := w) false s.size s.size (lo.map a.eval) (hi.map a.eval) _ _ hlo (hhi s.size) hcond.1 hcond.2.1 hcond.2.2
  refine Sound.same (v := .string (s.extract (bnd 0 lv).toNat (bnd s.size hv).toNat)) ?_ (fun y hy => by
   injection hy with hy; subst hy
   refine .val ?_
   simp only [okV, decide_eq_true_eq] at hok ⊢
   rw [ByteArray.size_extract]
   omega)
  unfold execOp
  simp [ho, e1, Instr.sliceAt, Instr.slice, run_underlying hu, hb]
 ·rename_i sz m
  split at hy
  case h_2 => cases hy
  rename_i ti hti
  split at hy
  case h_2 => cases hy
  rename_i e hk
  split at hy
  case h_2 => cases hy
  rename_i te hte
  split at hy
  case isFalse => cases hy
  rename_i hcond
  obtain ⟨rfl, c1, c2, c3⟩ := hcond
  simp only [Option.some.injEq, Prod.mk.injEq] at hy
  obtain ⟨rfl, rfl⟩ := hy
  have hu := slice_elem hti hk
  generalize hev : a.eval x = ev at hxv
  have hsz' : ∃ sz, sz = te.size := ⟨_, rfl⟩
  obtain ⟨sz, hsz'⟩ := hsz'
  rw [← hsz'] at hxv ⊢
  cases hxv with | one hxv => ?_
  cases hxv with | f hxv => ?_
  cases hxv with | fz _ m A cap g off vals h1 h2 h3 h4 h5 h6 h7 => ?_
  have hb := run_bounds (P := P) (w := w) true m.length cap (lo.map a.eval) (hi.map a.eval) _ _ hlo (hhi m.length) c1 c2 (by omega)
  obtain ⟨L, hL⟩ : ∃ L : Nat, bnd 0 lv = (L : Int) := ⟨_, (Int.toNat_of_nonneg c1).symm⟩
  obtain ⟨U, hU⟩ : ∃ U : Nat, bnd m.length hv = (U : Int) := ⟨_, (Int.toNat_of_nonneg (by omega)).symm⟩
  rw [hL, hU] at c2 hb
  rw [hU] at c3
  rw [hL, hU]
  simp only [Int.toNat_natCast] at hb ⊢
  have hlen : ((m.drop L).take (U - L)).length = U - L := by rw [List.length_take, List.length_drop]; omega
  have hrun : (execOp a.eval o).run P w = .ok (.value (.slice (if cap = L then A else A.map (·.add (L * sz))) (U - L) (cap - L))) w := by
   unfold execOp
   simp [ho, hev, Instr.sliceAt, Instr.slice, run_underlying hu, hb, sizeOf_run hte, ← hsz']
  refine Sound.same hrun (fun y hy => ?_)
  injection hy with hy; subst hy
  refine .one (.f ?_)
  have key := Rf.fz (w := w) (F := E.F) sz ((m.drop L).take (U - L)) (if cap = L then A else A.map (·.add (L * sz))) (cap - L) g (off + L * sz) (fun i j => vals (L + i) j) (by rw [hlen]; omega) (by omega) (fun hA => ?_) (fun hne => ?_) (fun i e hi => ?_) (fun i e j c hi hj => ?_) (fun i e j c hi hj => ?_)
  ·rw [hlen] at key; exact key
  ·split at hA
   ·rw [h3 hA]; omega
   ·cases A with
    | none => rw [h3 rfl]; omega
    | some A => simp at hA
  ·have hlt : L < U := by
    rcases Nat.lt_or_ge L U with q | q
    ·exact q
    ·rw [show U - L = 0 by omega, List.take_zero] at hne; exact absurd rfl hne
   have hmne : m ≠ [] := by intro e; rw [e] at c3; simp at c3; omega
   obtain ⟨rfl, hF⟩ := h4 hmne
   rw [if_neg (by omega)]
   exact ⟨by simp [add_slice], hF⟩
  ·have hil : i < U - L := by have := (List.getElem?_eq_some_iff.1 hi).1; omega
   rw [List.getElem?_take_of_lt hil, List.getElem?_drop] at hi
   exact h5 _ _ hi
  ·have hil : i < U - L := by have := (List.getElem?_eq_some_iff.1 hi).1; omega
   rw [List.getElem?_take_of_lt hil, List.getElem?_drop] at hi
   have := h6 _ _ j c hi hj
   rw [Nat.add_mul] at this
   rw [← this]; congr 2; omega
  ·have hil : i < U - L := by have := (List.getElem?_eq_some_iff.1 hi).1; omega
   rw [List.getElem?_take_of_lt hil, List.getElem?_drop] at hi
   exact h7 _ _ j c hi hj
 ·rename_i b n
  split at hy
  case h_2 => cases hy
  rename_i ti rt sz n' c hti hb0
  split at hy
  case h_2 => cases hy
  rename_i e hk
  split at hy
  case h_2 => cases hy
  rename_i te hte
  split at hy
  case isFalse => cases hy
  rename_i hcond
  obtain ⟨rfl, rfl, hcl, c1, c2, c3⟩ := hcond
  simp only [Option.some.injEq, Prod.mk.injEq] at hy
  obtain ⟨rfl, rfl⟩ := hy
  have hu := slice_elem hti hk
  obtain ⟨A, cap, hev, hm⟩ := hxv.row_inv
  obtain ⟨u, q1, q2⟩ := r.blk b _ hb0
  simp only [OC.len] at q1
  rw [hm] at q1
  injection q1 with q1; subst q1
  have hbn : b ≠ nid := fun e => by rw [e, hnid] at hb0; cases hb0
  have hm0 : ∀ n, E.m nid n = none := fun n => r.fresh nid n hn hnid
  have hown := fun q => r.own b _ q hb0
  obtain ⟨L, hL⟩ : ∃ L : Nat, bnd 0 lv = (L : Int) := ⟨_, (Int.toNat_of_nonneg c1).symm⟩
  obtain ⟨U, hU⟩ : ∃ U : Nat, bnd n' hv = (U : Int) := ⟨_, (Int.toNat_of_nonneg (by omega)).symm⟩
  have hcap : n' ≤ cap := by
   simp only [Ro] at q2
   rcases q2 with ⟨p1, p2, -⟩ | ⟨g, off, cap', cur, Gc, p1, p2, p3, -⟩
   ·omega
   ·simp only [Value.slice.injEq, true_and] at p1; omega
  have hb := run_bounds (P := P) (w := w) true n' cap (lo.map a.eval) (hi.map a.eval) _ _ hlo (hhi n') c1 c2 (by omega)
  rw [hL, hU] at c2 hb
  rw [hU] at c3
  rw [hL, hU]
  simp only [Int.toNat_natCast] at hb ⊢
  obtain ⟨A1, hA1⟩ : ∃ A1, A1 = (if cap = L then A else A.map (·.add (L * te.size))) := ⟨_, rfl⟩
  have hrun : (execOp a.eval o).run P w = .ok (.value (.slice A1 (U - L) (cap - L))) w := by
   unfold execOp
   simp [ho, hev, Instr.sliceAt, Instr.slice, run_underlying hu, hb, sizeOf_run hte, hA1]
  have main : ∀ Gn : Nat → Prop, (∀ g, Gn g → E.ft b g) → Ro w E (.row rt te.size (U - L) ((c.drop (L * te.size)).take ((U - L) * te.size))) (.slice A1 (U - L) (cap - L)) Gn →
    Sound P E h a w o (some (.one (.row nid (U - L)))) [(b, .dead), (nid, .obj (.row rt te.size (U - L) ((c.drop (L * te.size)).take ((U - L) * te.size))))] := by
   intro Gn hGn hro
   let E1 : En := (E.set nid (U - L) (.slice A1 (U - L) (cap - L))).setF nid Gn
   have le : E.le E1 := (En.set_le (hm0 _)).trans (En.setF_le _ _ _)
   have m1 : E1.m nid (U - L) = some (.slice A1 (U - L) (cap - L)) := En.set_at _ _ _ _
   have f1 : E1.ft nid = Gn := En.setF_at _ _ _
   refine ⟨_, w, E1, hrun, .inl ⟨_, rfl, fun y' e => ?_⟩, ?_⟩
   ·injection e with e; subst e; exact .one (.row m1)
   refine Upd.two hbn hb0 hnid le (fun _ hh => hh) rfl rfl rfl (Nat.le_refl _) (fun _ _ _ => rfl) (fun b' n e1 e2 => En.set_out _ _ _ _ e2) (fun b' e1 e2 => En.setF_out _ _ e2) trivial ⟨_, m1, by rw [f1]; exact Ro.mono le (Agree.refl _ _) _ (fun _ _ => rfl) hro⟩ (fun q hq' => hq'.elim) (fun q hq' => ?_) (fun q hq1 hq2 => hq1.elim)
   have hq : Gn q := by have : E1.ft nid q := hq'; rwa [f1] at this
   exact ⟨.inr (hGn q hq), (hown q (hGn q hq)).2⟩
  simp only [Ro] at q2
  rcases q2 with ⟨p1, p2, p3, p4⟩ | ⟨g, off, cap', cur, Gc, p1, p2, p3, p4, p5, p6, p7, p8⟩
  ·simp only [Value.slice.injEq] at p1
   obtain ⟨rfl, rfl, rfl⟩ := p1
   have hL0 : L = 0 := by omega
   have hU0 : U = 0 := by omega
   subst hL0 hU0 p3
   refine main (E.ft b) (fun _ hg => hg) ?_
   simp only [Ro]
   refine .inl ⟨?_, by simp, by simp, p4⟩
   rw [hA1]; simp
  ·simp only [Value.slice.injEq, true_and] at p1
   obtain ⟨rfl, rfl⟩ := p1
   have hxl := p6.len
   have hUs : U * te.size ≤ n' * te.size := Nat.mul_le_mul_right _ (by omega)
   have hsub : L * te.size + (U - L) * te.size = U * te.size := by rw [← Nat.add_mul]; congr 1; omega
   have hcaps : L * te.size + (cap - L) * te.size = cap * te.size := by rw [← Nat.add_mul]; congr 1; omega
   have hncap : n' * te.size ≤ cap * te.size := Nat.mul_le_mul_right _ p3
   obtain ⟨G', hG', hros⟩ := p6.sub (L * te.size) ((U - L) * te.size) (by omega)
   have hadr : ∃ off', A1 = some ⟨g, off', none⟩ ∧ off' + (cap - L) * te.size ≤ cur.size ∧ (cur.toList.drop off').take ((U - L) * te.size) = (((cur.toList.drop off).take (n' * te.size)).drop (L * te.size)).take ((U - L) * te.size) := by
    by_cases hc : cap = L
    ·refine ⟨off, by rw [hA1, if_pos hc], by rw [hc]; simp; omega, ?_⟩
     have : U - L = 0 := by omega
     rw [this]; simp
    ·refine ⟨off + L * te.size, by rw [hA1, if_neg hc]; simp [add_slice], by omega, ?_⟩
     apply List.ext_getElem?
     intro j
     simp only [List.getElem?_take, List.getElem?_drop]
     by_cases hj : j < (U - L) * te.size
     ·rw [if_pos hj, if_pos hj, if_pos (by omega)]; congr 1; omega
     ·rw [if_neg hj, if_neg hj]
   obtain ⟨off', a1, a2, a3⟩ := hadr
   refine main (fun q => q = g ∨ G' q) (fun q hq => (p8 q).2 (hq.imp id (hG' q))) ?_
   simp only [Ro]
   exact .inr ⟨g, off', cap - L, cur, G', by rw [a1], p2, by omega, by omega, a2, by rw [a3]; exact hros, fun hg => p7 (hG' _ hg), fun _ => Iff.rfl⟩
 ·cases hy
end
end Go.Abs
set_option linter.unusedVariables false
set_option linter.unusedSimpArgs false
namespace Go.Abs
open Go.RowKit
def keqB : Value → Value → Bool
 | .int _ a, .int _ b => decide (a = b)
 | .string a, .string b => decide (a = b)
 | .bool a, .bool b => decide (a = b)
 | _, _ => false
def keqBs : List Value → List Value → Bool
 | [], [] => true
 | x :: r, y :: s => keqB x y && keqBs r s
 | _, _ => false
def keq : Value → Value → Bool
 | .agg a, .agg b => keqBs a.toList b.toList
 | x, y => keqB x y
def mapIx (k : Value) : List Value → Option Nat
 | [] => none
 | x :: r => if keq k x then some 0 else (mapIx k r).map (· + 1)
def ktB (P : Program) (t : Nat) : Option BT :=
 match tyOf P t with
 | some ti => (match ti.kind with | .int k => some (.int k) | .string => some .str | .bool => some .bl | _ => none)
 | none => none
def ktFs (P : Program) : Nat → List Field → Option (List BT)
 | _, [] => some []
 | i, f :: r => if f.name ≠ "_" ∧ f.offset = i then (match ktB P f.type, ktFs P (i + 1) r with | some b, some l => some (b :: l) | _, _ => none) else none
def ktOf (P : Program) (t : Nat) : Option KT :=
 match ktB P t with
 | some b => some (.one b)
 | none => (match P.underlying t with
  | some (.struct fs) => if P.stoodInHeld t then none else (match ktFs P 0 fs.toList with | some l => some (.st l) | none => none)
  | _ => none)
theorem beq_bytes (a b : ByteArray) : (a == b) = decide (a = b) := by
 rw [beq_toListBytes, Bool.eq_iff_iff]
 simp only [beq_iff_eq, decide_eq_true_eq]
 constructor
 ·intro e
  rw [ByteArray.toList_eq, ByteArray.toList_eq] at e
  obtain ⟨⟨x⟩⟩ := a
  obtain ⟨⟨y⟩⟩ := b
  simp only at e
  subst e; rfl
 ·rintro rfl; rfl
theorem keqB_eq {b : BT} {x y : Value} (hx : hasB b x = true) (hy : hasB b y = true) (h : keqB x y = true) : x = y := by
 cases b <;> cases x <;> simp only [hasB, Bool.false_eq_true, beq_iff_eq] at hx <;> cases y <;> simp only [hasB, Bool.false_eq_true, beq_iff_eq] at hy <;> simp only [keqB, decide_eq_true_eq] at h <;> subst h
 ·subst hx; subst hy; rfl
 ·rfl
 ·rfl
theorem keqBs_eq : ∀ {l : List BT} {x y : List Value}, hasBs l x = true → hasBs l y = true → keqBs x y = true → x = y
 | [], [], [], _, _, _ => rfl
 | b :: l, x :: r, y :: s, hx, hy, h => by
  simp only [hasBs, keqBs, Bool.and_eq_true] at hx hy h
  rw [keqB_eq hx.1 hy.1 h.1, keqBs_eq hx.2 hy.2 h.2]
 | [], _ :: _, _, hx, _, _ => by simp [hasBs] at hx
 | [], [], _ :: _, _, hy, _ => by simp [hasBs] at hy
 | _ :: _, [], _, hx, _, _ => by simp [hasBs] at hx
 | _ :: _, _ :: _, [], _, hy, _ => by simp [hasBs] at hy
theorem keq_eq {kt : KT} {x y : Value} (hx : hasK kt x = true) (hy : hasK kt y = true) (h : keq x y = true) : x = y := by
 cases kt with
 | one b =>
  simp only [hasK] at hx hy
  refine keqB_eq hx hy ?_
  cases x <;> first | exact h | (cases y <;> first | exact h | (cases b <;> simp [hasB] at hx))
 | st l =>
  cases x <;> simp only [hasK, Bool.false_eq_true] at hx
  cases y <;> simp only [hasK, Bool.false_eq_true] at hy
  simp only [keq] at h
  congr 1
  exact Array.ext' (keqBs_eq hx hy h)
section
variable {P : Program} {w : World}
theorem ktB_spec {t : Nat} {b : BT} (h : ktB P t = some b) : ∃ ti, tyOf P t = some ti ∧ ti.kind.agg = false ∧ ((∃ k, b = .int k ∧ P.underlying t = some (.int k)) ∨ (b = .str ∧ P.underlying t = some .string) ∨ (b = .bl ∧ P.underlying t = some .bool)) := by
 unfold ktB at h
 split at h
 ·rename_i ti hti
  split at h
  ·rename_i k hk; simp only [Option.some.injEq] at h; exact ⟨ti, hti, by rw [hk]; rfl, .inl ⟨k, h.symm, int_ty hti hk⟩⟩
  ·rename_i hk; simp only [Option.some.injEq] at h; exact ⟨ti, hti, by rw [hk]; rfl, .inr (.inl ⟨h.symm, string_ty hti hk⟩)⟩
  ·rename_i hk; simp only [Option.some.injEq] at h; exact ⟨ti, hti, by rw [hk]; rfl, .inr (.inr ⟨h.symm, bool_ty hti hk⟩)⟩
  ·cases h
 ·cases h
theorem run_equalB {t : Nat} {b : BT} (h : ktB P t = some b) {x y : Value} (hx : hasB b x = true) (hy : hasB b y = true) (d : Nat) (w : World) : (Op.equalIn (d + 1) t x y).run P w = .ok (keqB x y) w := by
 obtain ⟨ti, -, -, h⟩ := ktB_spec h
 rcases h with ⟨k, rfl, hu⟩ | ⟨rfl, hu⟩ | ⟨rfl, hu⟩
 ·cases x <;> simp only [hasB, Bool.false_eq_true, beq_iff_eq] at hx
  cases y <;> simp only [hasB, Bool.false_eq_true, beq_iff_eq] at hy
  subst hx
  subst hy
  rw [run_equalIn_int w d t k k _ _ hu]; simp [keqB, BEq.beq]
 ·cases x <;> simp only [hasB, Bool.false_eq_true] at hx
  cases y <;> simp only [hasB, Bool.false_eq_true] at hy
  rw [run_equalIn_string w d t _ _ hu, ← beq_toListBytes, beq_bytes]; rfl
 ·cases x <;> simp only [hasB, Bool.false_eq_true] at hx
  cases y <;> simp only [hasB, Bool.false_eq_true] at hy
  rw [run_equalIn_bool w d t _ _ hu]
  rename_i p q
  cases p <;> cases q <;> rfl
theorem part_run {t : Nat} {ti : TI} (hti : tyOf P t = some ti) (ha : ti.kind.agg = false) {cs : Array Value} {i : Nat} {v : Value} (hv : cs[i]? = some v) (w : World) : (part t cs i).run P w = .ok v w := by
 unfold part
 simp [isAgg_run hti, ha, hv]
theorem hasBs_get : ∀ {l : List BT} {vs : List Value}, hasBs l vs = true → ∀ {b : BT} {r : List BT}, l = b :: r → ∃ v s, vs = v :: s ∧ hasB b v = true ∧ hasBs r s = true
 | [], vs, h, b, r, e => by cases e
 | b :: l, [], h, _, _, _ => by simp [hasBs] at h
 | b :: l, v :: s, h, _, _, e => by
  injection e with e1 e2; subst e1; subst e2
  simp only [hasBs, Bool.and_eq_true] at h
  exact ⟨v, s, rfl, h.1, h.2⟩
theorem run_eqFs (d : Nat) (xs ys : Array Value) : ∀ {fs : List Field} {i : Nat} {l : List BT}, ktFs P i fs = some l → hasBs l (xs.toList.drop i) = true → hasBs l (ys.toList.drop i) = true → ∀ w : World,
    (Op.eqFields (d + 1) xs ys fs).run P w = .ok (keqBs (xs.toList.drop i) (ys.toList.drop i)) w
  | [], i, l, h, hx, hy, w => by
    simp only [ktFs, Option.some.injEq] at h; subst h
    have e1 : xs.toList.drop i = [] := by cases hh : xs.toList.drop i with | nil => rfl | cons => rw [hh] at hx; simp [hasBs] at hx
    have e2 : ys.toList.drop i = [] := by cases hh : ys.toList.drop i with | nil => rfl | cons => rw [hh] at hy; simp [hasBs] at hy
    rw [e1, e2]; simp [Op.eqFields, keqBs]
  | f :: r, i, l, h, hx, hy, w => by
    simp only [ktFs] at h
    split at h
    case isFalse => cases h
    rename_i hc
    obtain ⟨hn, ho⟩ := hc
    split at h
    case h_2 => cases h
    rename_i b l' hb hl
    simp only [Option.some.injEq] at h; subst h
    obtain ⟨x, s, ex, hx1, hx2⟩ := hasBs_get hx rfl
    obtain ⟨y, s', ey, hy1, hy2⟩ := hasBs_get hy rfl
    obtain ⟨ti, hti, hag, -⟩ := ktB_spec hb
    have gx : xs[i]? = some x := by have : (xs.toList.drop i)[0]? = some x := by rw [ex]; rfl
                                    rw [List.getElem?_drop] at this; simpa using this
    have gy : ys[i]? = some y := by have : (ys.toList.drop i)[0]? = some y := by rw [ey]; rfl
                                    rw [List.getElem?_drop] at this; simpa using this
    have dx : xs.toList.drop (i + 1) = s := by rw [← List.drop_drop, ex]; rfl
    have dy : ys.toList.drop (i + 1) = s' := by rw [← List.drop_drop, ey]; rfl
    have ih := run_eqFs d xs ys (i := i + 1) hl (by rw [dx]; exact hx2) (by rw [dy]; exact hy2) w
    rw [dx, dy] at ih
    rw [ex, ey]
    simp only [Op.eqFields, if_pos hn, ho, Sem.run_bind, part_run hti hag gx, part_run hti hag gy, Result.andThen_ok, run_equalB hb hx1 hy1, keqBs]
    cases hk : keqB x y
    · simp
    · simp [ih]
theorem ktOf_spec {t : Nat} {kt : KT} (h : ktOf P t = some kt) : (∃ b, kt = .one b ∧ ktB P t = some b) ∨ ∃ l, kt = .st l ∧ P.underlying t = some (.struct (P.fieldsOf t)) ∧ P.stoodInHeld t = false ∧ ktFs P 0 (P.fieldsOf t).toList = some l := by
 unfold ktOf at h
 split at h
 ·rename_i b hb; simp only [Option.some.injEq] at h; exact .inl ⟨b, h.symm, hb⟩
 ·split at h
  ·rename_i fs hu
   split at h
   ·cases h
   ·rename_i hs
    split at h
    ·rename_i l hl
     simp only [Option.some.injEq] at h
     have : P.fieldsOf t = fs := by simp [Program.fieldsOf, hu]
     exact .inr ⟨l, h.symm, by rw [this]; exact hu, by simpa using hs, by rw [this]; exact hl⟩
    ·cases h
  ·cases h
theorem run_equalK {t : Nat} {kt : KT} (h : ktOf P t = some kt) {x y : Value} (hx : hasK kt x = true) (hy : hasK kt y = true) (d : Nat) (w : World) : (Op.equalIn (d + 2) t x y).run P w = .ok (keq x y) w := by
 rcases ktOf_spec h with ⟨b, rfl, hb⟩ | ⟨l, rfl, hu, hs, hl⟩
 ·simp only [hasK] at hx hy
  rw [run_equalB hb hx hy (d + 1)]
  congr 1
  cases b <;> cases x <;> simp only [hasB, Bool.false_eq_true] at hx <;> rfl
 ·cases x <;> simp only [hasK, Bool.false_eq_true] at hx
  cases y <;> simp only [hasK, Bool.false_eq_true] at hy
  rw [run_equalIn_struct w (d + 1) t _ _ hu hs]
  have := run_eqFs d _ _ hl (by simpa using hx) (by simpa using hy) w
  simpa [keq] using this
def ent (k : Value) : List MapEntry → Nat → Option (Nat × Value)
 | [], _ => none
 | e :: r, i => if keq k e.key then some (i, e.val) else ent k r (i + 1)
theorem ent_ix (k : Value) : ∀ (es : List MapEntry) (i : Nat), ent k es i = match mapIx k (es.map (·.key)) with | some j => (es[j]?).map fun e => (i + j, e.val) | none => none
 | [], i => rfl
 | e :: r, i => by
  simp only [ent, List.map_cons, mapIx]
  split
  ·simp
  ·rw [ent_ix k r (i + 1)]
   cases mapIx k (r.map (·.key)) with
   | none => rfl
   | some j => simp only [Option.map_some, List.getElem?_cons_succ]; congr 1; funext e; rw [Nat.add_assoc, Nat.add_comm 1 j]
theorem findNow_int {q : IntKind} {k : Value} (hk : hasB (.int q) k = true) : ∀ (es : List MapEntry) (i : Nat), (∀ e ∈ es, hasB (.int q) e.key = true) → Instr.findNow (.int q) k es i = some (ent k es i)
 | [], i, _ => rfl
 | e :: r, i, h => by
  have h1 := h e (by simp)
  have ih := findNow_int hk r (i + 1) (fun x hx => h x (by simp [hx]))
  cases k <;> simp only [hasB, Bool.false_eq_true, beq_iff_eq] at hk
  obtain ⟨key, val, born⟩ := e
  cases key <;> simp only [hasB, Bool.false_eq_true, beq_iff_eq] at h1
  subst h1
  subst hk
  rename_i a b
  by_cases c : a = b
  ·subst c; simp [Instr.findNow, Instr.sameNow, ent, keq, keqB]
  ·have : (a == b) = false := by simpa using c
   simp [Instr.findNow, Instr.sameNow, ent, keq, keqB, c, this, ih]
theorem findNow_str {k : Value} (hk : hasB .str k = true) : ∀ (es : List MapEntry) (i : Nat), (∀ e ∈ es, hasB .str e.key = true) → Instr.findNow .string k es i = some (ent k es i)
 | [], i, _ => rfl
 | e :: r, i, h => by
  have h1 := h e (by simp)
  have ih := findNow_str hk r (i + 1) (fun x hx => h x (by simp [hx]))
  cases k <;> simp only [hasB, Bool.false_eq_true] at hk
  obtain ⟨key, val, born⟩ := e
  cases key <;> simp only [hasB, Bool.false_eq_true] at h1
  rename_i a b
  simp only [Instr.findNow, Instr.sameNow, ent, keq, keqB, beq_bytes]
  by_cases c : a = b
  ·subst c; simp
  ·simp [c, ih]
theorem findNow_bool {k : Value} (hk : hasB .bl k = true) : ∀ (es : List MapEntry) (i : Nat), (∀ e ∈ es, hasB .bl e.key = true) → Instr.findNow .bool k es i = some (ent k es i)
 | [], i, _ => rfl
 | e :: r, i, h => by
  have h1 := h e (by simp)
  have ih := findNow_bool hk r (i + 1) (fun x hx => h x (by simp [hx]))
  cases k <;> simp only [hasB, Bool.false_eq_true] at hk
  obtain ⟨key, val, born⟩ := e
  cases key <;> simp only [hasB, Bool.false_eq_true] at h1
  rename_i a b
  simp only [Instr.findNow, Instr.sameNow, ent, keq, keqB]
  cases a <;> cases b <;> simp [ih]
theorem run_asking {t : Nat} {kt : KT} (h : ktOf P t = some kt) {k : Value} (hk : hasK kt k = true) (w : World) : ∀ (es : List MapEntry) (i : Nat), (∀ e ∈ es, hasK kt e.key = true) → (Instr.findAsking t k es i).run P w = .ok (ent k es i) w
 | [], i, _ => by simp [Instr.findAsking, ent]
 | e :: r, i, hh => by
  have h1 := hh e (by simp)
  have ih := run_asking h hk w r (i + 1) (fun x hx => hh x (by simp [hx]))
  have he : (Op.equal t k e.key).run P w = .ok (keq k e.key) w := run_equalK h hk h1 9998 w
  simp only [Instr.findAsking, Sem.run_bind, he, Result.andThen_ok, ent]
  cases keq k e.key
  ·simpa using ih
  ·simp
theorem run_findK {t : Nat} {kt : KT} (h : ktOf P t = some kt) {k : Value} (hk : hasK kt k = true) {es : List MapEntry} (hes : ∀ e ∈ es, hasK kt e.key = true) (w : World) : (Instr.findKey t k es).run P w = .ok (ent k es 0) w := by
 unfold Instr.findKey
 rcases ktOf_spec h with ⟨b, rfl, hb⟩ | ⟨l, rfl, hu, hs, hl⟩
 ·obtain ⟨ti, -, -, hh⟩ := ktB_spec hb
  simp only [hasK] at hk hes
  rcases hh with ⟨q, rfl, hu⟩ | ⟨rfl, hu⟩ | ⟨rfl, hu⟩
  ·simp [run_underlying hu, findNow_int hk es 0 hes]
  ·simp [run_underlying hu, findNow_str hk es 0 hes]
  ·simp [run_underlying hu, findNow_bool hk es 0 hes]
 ·have ha := run_asking h hk w es 0 hes
  cases es with
  | nil => simp [run_underlying hu, Instr.findNow, ent]
  | cons e r =>
   have : Instr.findNow (.struct (P.fieldsOf t)) k (e :: r) 0 = none := by simp [Instr.findNow, Instr.sameNow]
   simp [run_underlying hu, this, ha]
theorem run_checkB {t : Nat} {b : BT} (h : ktB P t = some b) {x : Value} (hx : hasB b x = true) (em : Bool) (n : Nat) (w : World) : (Instr.checkKey em (n + 1) t x).run P w = .ok () w := by
 obtain ⟨ti, -, -, h⟩ := ktB_spec h
 rcases h with ⟨k, rfl, hu⟩ | ⟨rfl, hu⟩ | ⟨rfl, hu⟩ <;> cases x <;> simp only [hasB, Bool.false_eq_true] at hx <;> simp [Instr.checkKey, run_underlying hu]
theorem run_checkFs {em : Bool} {n : Nat} (xs : Array Value) : ∀ {fs : List Field} {i : Nat} {l : List BT}, ktFs P i fs = some l → hasBs l (xs.toList.drop i) = true → ∀ w : World,
    (forIn fs PUnit.unit fun (f : Field) (_ : PUnit) => (if f.name ≠ "_" then (do let v ← part f.type xs f.offset; Instr.checkKey em (n + 1) f.type v; pure (ForInStep.yield PUnit.unit)) else pure (ForInStep.yield PUnit.unit) : Sem (ForInStep PUnit))).run P w = .ok PUnit.unit w
  | [], i, l, h, hx, w => by simp
  | f :: r, i, l, h, hx, w => by
    simp only [ktFs] at h
    split at h
    case isFalse => cases h
    rename_i hc
    obtain ⟨hn, ho⟩ := hc
    split at h
    case h_2 => cases h
    rename_i b l' hb hl
    simp only [Option.some.injEq] at h; subst h
    obtain ⟨x, s, ex, hx1, hx2⟩ := hasBs_get hx rfl
    obtain ⟨ti, hti, hag, -⟩ := ktB_spec hb
    have gx : xs[i]? = some x := by have : (xs.toList.drop i)[0]? = some x := by rw [ex]; rfl
                                    rw [List.getElem?_drop] at this; simpa using this
    have dx : xs.toList.drop (i + 1) = s := by rw [← List.drop_drop, ex]; rfl
    have ih := run_checkFs (em := em) (n := n) xs (i := i + 1) hl (by rw [dx]; exact hx2) w
    simp only [List.forIn_cons, Sem.run_bind, if_pos hn, ho, part_run hti hag gx, run_checkB hb hx1, Result.andThen_ok, Sem.run_pure]
    exact ih
theorem run_checkK {t : Nat} {kt : KT} (h : ktOf P t = some kt) {x : Value} (hx : hasK kt x = true) (em : Bool) (w : World) : (Instr.checkKey em 10000 t x).run P w = .ok () w := by
 rcases ktOf_spec h with ⟨b, rfl, hb⟩ | ⟨l, rfl, hu, hs, hl⟩
 ·exact run_checkB hb hx em 9999 w
 ·cases x <;> simp only [hasK, Bool.false_eq_true] at hx
  rename_i cs
  have := run_checkFs (P := P) (em := em) (n := 9998) cs hl (by simpa using hx) w
  unfold Instr.checkKey
  simp only [Sem.run_bind, run_underlying hu, Result.andThen_ok]
  rw [← Array.forIn_toList]
  rw [this]
  rfl
end
end Go.Abs
set_option linter.unusedVariables false
set_option linter.unusedSimpArgs false
namespace Go.Abs
open Go.RowKit
def allVl : List AC → Option (List Value)
 | [] => some []
 | .f (.v x) :: r => (match allVl r with | some l => some (x :: l) | none => none)
 | _ => none
def keyV : AV → Option Value
 | .one (.f (.v x)) => some x
 | .agg l => (match allVl l with | some vs => some (.agg vs.toArray) | none => none)
 | _ => none
def zeroAV (P : Program) (t : Nat) : Option AV :=
 match P.info? t with
 | some i => (match i.zero with | some z => cv z | none => none)
 | none => none
def okRes (ok b : Bool) (v : AV) : AV := if ok then .tup [v, .val (.bool b)] else v
section
variable {P : Program} {fr : Fr} {E : En} {t : Nat → Option AV} {h : Nat → Option AB} {nx : Nat} {a : Act} {w : World}
theorem allVl_sound : ∀ {l : List AC} {vs us : List Value}, allVl l = some vs → All2 (Rc w E) l us → us = vs
 | [], vs, us, h, ha => by simp only [allVl, Option.some.injEq] at h; subst h; exact List.length_eq_zero_iff.1 ha.1
 | .f (.v x) :: r, vs, us, h, ha => by
  simp only [allVl] at h
  split at h
  ·rename_i l hl
   simp only [Option.some.injEq] at h; subst h
   obtain ⟨u, us', rfl⟩ : ∃ u us', us = u :: us' := by
    cases us with
    | nil => have := ha.1; simp at this
    | cons u us' => exact ⟨u, us', rfl⟩
   obtain ⟨u', h1, h2⟩ := ha.2 0 _ rfl
   simp at h1; subst h1
   have ih := allVl_sound hl (us := us') ⟨by have := ha.1; simpa using this, fun j c hj => by simpa using ha.2 (j + 1) c (by simpa using hj)⟩
   cases h2 with | f h2 => cases h2 with | v => rw [ih]
  ·cases h
 | .f (.fz _ _) :: r, vs, us, h, ha => by simp [allVl] at h
 | .ptr _ _ :: r, vs, us, h, ha => by simp [allVl] at h
 | .row _ _ :: r, vs, us, h, ha => by simp [allVl] at h
 | .ep _ _ _ _ _ :: r, vs, us, h, ha => by simp [allVl] at h
 | .fp _ :: r, vs, us, h, ha => by simp [allVl] at h
 | .fn _ _ :: r, vs, us, h, ha => by simp [allVl] at h
 | .mp _ :: r, vs, us, h, ha => by simp [allVl] at h
theorem keyV_sound {x : AV} {v k : Value} (hv : Rv w E x v) (h : keyV x = some k) : v = k := by
 unfold keyV at h
 split at h
 ·simp only [Option.some.injEq] at h; subst h; exact hv.val_inv
 ·split at h
  ·rename_i vs hvs
   simp only [Option.some.injEq] at h; subst h
   obtain ⟨us, rfl, ha⟩ := hv.agg_inv
   have := allVl_sound hvs ha
   rw [← this]
  ·cases h
 ·cases h
theorem Rv.mp_inv {b : Nat} {v : Value} (h : Rv w E (.one (.mp b)) v) : ∃ g, v = .map (some g) ∧ E.m b 0 = some (.map (some g)) := by
 cases h with | one h => cases h with | mp h => exact ⟨_, rfl, h⟩
theorem map_ty {ty k e : Nat} {ti : TI} (hti : tyOf P ty = some ti) (hk : ti.kind = .map k e) : P.underlying ty = some (.map k e) := by
 obtain ⟨i, d, z, hi, hd, hz, h1, h2, h3, h4, h5⟩ := tyOf_spec hti
 rw [hk] at h1
 cases d <;> simp only [kindOf, Option.some.injEq, Option.map_eq_some_iff, reduceCtorEq, and_false, exists_false, TK.map.injEq] at h1
 obtain ⟨rfl, rfl⟩ := h1; exact hd
theorem zeroAV_run {t : Nat} {x : AV} (hx : zeroAV P t = some x) (w : World) : ∃ z, (zeroValue t).run P w = .ok z w ∧ ∀ (w : World) (E : En), Rv w E x z := by
 unfold zeroAV at hx
 split at hx
 ·rename_i i hi
  split at hx
  ·rename_i z hz
   exact ⟨z, by simp [zeroValue, typeInfo, hi, hz], fun w E => cv_sound hx⟩
  ·cases hx
 ·cases hx
theorem keys_mem {es : List MapEntry} {kt : KT} {ks : List Value} (h : ∀ k ∈ ks, hasK kt k = true) (he : es.map (·.key) = ks) : ∀ e ∈ es, hasK kt e.key = true := fun e hm => h _ (by rw [← he]; exact List.mem_map_of_mem hm)
def plLookup (P : Program) (h : Nat → Option AB) (nid ty : Nat) (ok : Bool) (m k : AV) : Option (AV × List (Nat × AB)) :=
 match keyV k, tyOf P ty with
 | some kv, some ti => (match ti.kind with
  | .map kt vt => (match ktOf P kt with
   | some kk => if hasK kk kv = true then (match m with
    | .one (.mp b) => (match h b with
     | some (.obj (.map kk' ks l)) => if kk' = kk then (match mapIx kv ks with
      | some i => (match l[i]? with
       | some y => (match y.pl with
        | some c => some (okRes ok true (.one c), [])
        | none => some (okRes ok true (.one (y.ref nid)), [(b, .obj (.map kk' ks (l.set i (.c (y.ref nid))))), (nid, .obj y)]))
       | none => none)
      | none => (match zeroAV P vt with | some z => some (okRes ok false z, []) | none => none)) else none
     | _ => none)
    | .one (.f (.v (.map none))) => (match zeroAV P vt with | some z => some (okRes ok false z, []) | none => none)
    | _ => none) else none
   | none => none)
  | _ => none)
 | _, _ => none
theorem okRes_sound {ok b : Bool} {x : AV} {v : Value} (h : Rv w E x v) : Rv w E (okRes ok b x) (if ok then .tuple #[v, .bool b] else v) := by
 unfold okRes
 cases ok
 ·exact h
 ·simp only [if_true]
  refine .tup (fun j => if j = 0 then v else .bool b) rfl (fun j c hj => ?_) (fun j c hj => ?_)
  ·match j with
   | 0 => rfl
   | 1 => rfl
   | j + 2 => simp at hj
  ·match j with
   | 0 => simp at hj; subst hj; exact h
   | 1 => simp at hj; subst hj; exact .val rfl
   | j + 2 => simp at hj
theorem lookup_sound (r : R fr E t h nx a w) {o : Oper} {ty nid : Nat} {ok : Bool} {m k : Operand} (ho : o.op = .lookup ty m k ok) {mv kv : AV} (hm : evT t m = some mv) (hk : evT t k = some kv) (hn : nx ≤ nid) (hnid : h nid = none)
  {y : AV} {ws : List (Nat × AB)} (hy : plLookup P h nid ty ok mv kv = some (y, ws)) : Sound P E h a w o (some y) ws := by
 unfold plLookup at hy
 split at hy
 case h_2 => cases hy
 rename_i key ti hkey hti
 split at hy
 case h_2 => cases hy
 rename_i kt vt hkind
 split at hy
 case h_2 => cases hy
 rename_i kk hkk
 split at hy
 case isFalse => cases hy
 rename_i hhas
 have hu := map_ty hti hkind
 have hkv := keyV_sound (ev_sound r hk) hkey
 have hmv := ev_sound r hm
 have hck := fun em w => run_checkK (P := P) hkk hhas em w
 have hrun0 : ∀ v, (Instr.lookup ty (a.eval m) (a.eval k) ok).run P w = .ok v w → (execOp a.eval o).run P w = .ok (.value v) w := fun v e => by
  unfold execOp
  simp only [ho, Sem.run_bind, e, Result.andThen_ok, Sem.run_pure]
 split at hy
 ·rename_i b
  split at hy
  case h_2 => cases hy
  rename_i kk' ks l hb
  split at hy
  case isFalse => cases hy
  rename_i hkk'
  subst hkk'
  obtain ⟨g, hme, hmm⟩ := hmv.mp_inv
  obtain ⟨u, q1, q2⟩ := r.blk b _ hb
  simp only [OC.len] at q1
  rw [hmm] at q1
  injection q1 with q1; subst q1
  simp only [Ro] at q2
  obtain ⟨p0, g', es, clock, Gc, p1, p2, p3, p4, p5, p6, p7, p8⟩ := q2
  simp only [Value.map.injEq, Option.some.injEq] at p1
  subst p1
  have hfind := run_findK (P := P) hkk hhas (es := es.toList) (keys_mem p0 p3) w
  rw [ent_ix, p3] at hfind
  split at hy
  ·rename_i i hi
   rw [hi] at hfind
   split at hy
   case h_2 => cases hy
   rename_i y0 hy0
   obtain ⟨uu, G1, G2, g1, g2, g3, g4, g5⟩ := p4.get hy0
   rw [List.getElem?_map] at g1
   obtain ⟨en, hen, rfl⟩ := Option.map_eq_some_iff.1 g1
   simp only [hen, Option.map_some] at hfind
   have hr := hrun0 (if ok then .tuple #[en.val, .bool true] else en.val) (by
    rw [hme, hkv]
    simp [Instr.lookup, run_underlying hu, MapKept.run_getObj_map p2, hck, hfind])
   split at hy
   ·rename_i c hc
    simp only [Option.some.injEq, Prod.mk.injEq] at hy
    obtain ⟨rfl, rfl⟩ := hy
    refine Sound.same hr (fun y' e => ?_)
    injection e with e; subst e
    cases y0 <;> simp only [OC.pl, Option.some.injEq, reduceCtorEq] at hc
    subst hc
    simp only [Ro] at g2
    exact okRes_sound (.one g2.1)
   ·rename_i hc
    simp only [Option.some.injEq, Prod.mk.injEq] at hy
    obtain ⟨rfl, rfl⟩ := hy
    have hbn : b ≠ nid := fun e => by rw [e, hnid] at hb; cases hb
    have hm0 : ∀ n, E.m nid n = none := fun n => r.fresh nid n hn hnid
    let E1 : En := ((E.set nid y0.len en.val).setF nid G1).setF b (fun q => q = g ∨ G2 q)
    have le : E.le E1 := (En.set_le (hm0 _)).trans ((En.setF_le _ _ _).trans (En.setF_le _ _ _))
    have m1 : E1.m nid y0.len = some en.val := En.set_at _ _ _ _
    have f1 : E1.ft nid = G1 := by show (if nid = b then _ else if nid = nid then G1 else _) = G1; rw [if_neg (Ne.symm hbn), if_pos rfl]
    have f2 : E1.ft b = fun q => q = g ∨ G2 q := by show (if b = b then _ else _) = _; rw [if_pos rfl]
    have href : Rc w E1 (y0.ref nid) en.val := by
     cases y0 with
     | c a => cases hc
     | box ty l => simp only [Ro] at g2; obtain ⟨g1, vs1, Gc1, e, -⟩ := g2; rw [e] at m1 ⊢; exact .ptr m1
     | row ty sz n l =>
      simp only [Ro] at g2
      rcases g2 with ⟨e, rfl, -⟩ | ⟨g1, off1, cap1, cur1, Gc1, e, -⟩ <;> (rw [e] at m1 ⊢; exact .row m1)
     | map kt ks l => simp only [Ro] at g2; obtain ⟨-, g1, es1, ck1, Gc1, e, -⟩ := g2; rw [e] at m1 ⊢; exact .mp m1
    have hset := g5 w E1 (.c (y0.ref nid)) (fun _ => False) le (Agree.refl _ _) (fun _ _ => rfl) (by simp only [Ro]; exact ⟨href, fun _ hf => hf⟩) (fun _ hf => hf.elim)
    have hg2 : ¬ G2 g := fun hh => p7 ((g4 g).2 (.inr hh))
    have hbl := fun q => r.own b _ q hb
    refine ⟨.value _, w, E1, hr, .inl ⟨_, rfl, fun y' e => ?_⟩, ?_⟩
    ·injection e with e; subst e; exact okRes_sound (.one href)
    refine Upd.two hbn hb hnid le (fun _ hh => hh) rfl rfl rfl (Nat.le_refl _) (fun _ _ _ => rfl) (fun b' n e1 e2 => En.set_out _ _ _ _ e2) (fun b' e1 e2 => ?_) ⟨.map (some g), le.m _ _ _ hmm, by
      rw [f2]; simp only [Ro]
      exact ⟨p0, g, es, clock, G2, rfl, p2, p3, hset.congr fun q => by simp, p5, p6, hg2, fun _ => Iff.rfl⟩⟩ ⟨en.val, m1, by rw [f1]; exact Ro.mono le (Agree.refl _ _) y0 (fun _ _ => rfl) g2⟩ (fun q hq' => ?_) (fun q hq' => ?_) (fun q hq1 hq2 => ?_)
    ·show (if b' = b then _ else if b' = nid then _ else E.ft b') = _; rw [if_neg e1, if_neg e2]
    ·have : E1.ft b q := hq'
     rw [f2] at this
     have hft : E.ft b q := (p8 q).2 (this.imp id fun hh => (g4 q).2 (.inr hh))
     exact ⟨.inr hft, (hbl q hft).2⟩
    ·have : E1.ft nid q := hq'
     rw [f1] at this
     have hft : E.ft b q := (p8 q).2 (.inr ((g4 q).2 (.inl this)))
     exact ⟨.inr hft, (hbl q hft).2⟩
    ·have e1 : E1.ft b q := hq1
     have e2 : E1.ft nid q := hq2
     rw [f2] at e1
     rw [f1] at e2
     rcases e1 with rfl | e1
     ·exact p7 ((g4 q).2 (.inl e2))
     ·exact g3 q e2 e1
  ·rename_i hi
   rw [hi] at hfind
   split at hy
   case h_2 => cases hy
   rename_i z hz
   simp only [Option.some.injEq, Prod.mk.injEq] at hy
   obtain ⟨rfl, rfl⟩ := hy
   obtain ⟨zv, hz1, hz2⟩ := zeroAV_run hz w
   refine Sound.same (hrun0 (if ok then .tuple #[zv, .bool false] else zv) (by
    rw [hme, hkv]
    simp [Instr.lookup, run_underlying hu, MapKept.run_getObj_map p2, hck, hfind, hz1])) (fun y' e => ?_)
   injection e with e; subst e
   exact okRes_sound (hz2 w E)
 ·split at hy
  case h_2 => cases hy
  rename_i z hz
  simp only [Option.some.injEq, Prod.mk.injEq] at hy
  obtain ⟨rfl, rfl⟩ := hy
  obtain ⟨zv, hz1, hz2⟩ := zeroAV_run hz w
  have hfind := run_findK (P := P) hkk hhas (es := []) (fun e he => by simp at he) w
  refine Sound.same (hrun0 (if ok then .tuple #[zv, .bool false] else zv) (by
   rw [hmv.val_inv, hkv]
   simp [Instr.lookup, run_underlying hu, hck, hfind, hz1, ent])) (fun y' e => ?_)
  injection e with e; subst e
  exact okRes_sound (hz2 w E)
 ·cases hy
def plMakeMap (P : Program) (nid ty : Nat) : Option (AV × List (Nat × AB)) :=
 match tyOf P ty with
 | some ti => (match ti.kind with
  | .map kt _ => (match ktOf P kt with
   | some kk => some (.one (.mp nid), [(nid, .obj (.map kk [] []))])
   | none => none)
  | _ => none)
 | none => none
theorem makeMap_sound (r : R fr E t h nx a w) {o : Oper} {ty nid : Nat} (ho : o.op = .makeMap ty none) (hn : nx ≤ nid) (hnid : h nid = none) {y : AV} {ws : List (Nat × AB)} (hy : plMakeMap P nid ty = some (y, ws)) : Sound P E h a w o (some y) ws := by
 unfold plMakeMap at hy
 split at hy
 case h_2 => cases hy
 rename_i ti hti
 split at hy
 case h_2 => cases hy
 rename_i kt vt hkind
 split at hy
 case h_2 => cases hy
 rename_i kk hkk
 simp only [Option.some.injEq, Prod.mk.injEq] at hy
 obtain ⟨rfl, rfl⟩ := hy
 have hm0 : ∀ n, E.m nid n = none := fun n => r.fresh nid n hn hnid
 let E1 : En := (E.set nid 0 (.map (some w.heap.size))).setF nid (fun q => q = w.heap.size)
 have le : E.le E1 := (En.set_le (hm0 _)).trans (En.setF_le _ _ _)
 have m1 : E1.m nid 0 = some (.map (some w.heap.size)) := En.set_at _ _ _ _
 have f1 : E1.ft nid = fun q => q = w.heap.size := En.setF_at _ _ _
 refine ⟨.value (.map (some w.heap.size)), w.alloc (.map #[] 0), E1, ?_, .inl ⟨_, rfl, fun y hy => ?_⟩, ?_⟩
 ·unfold execOp
  simp [ho, Instr.makeMap]
 ·injection hy with hy; subst hy; exact .one (.mp m1)
 refine Upd.single le (fun _ hh => hh) rfl rfl rfl (by simp) (fun g hg _ => Below.heap_alloc w _ g hg) (fun b' n hne => En.set_out _ _ _ _ hne) (fun b' hne => En.setF_out _ _ hne) ⟨_, m1, ?_⟩ (fun g hg => ?_)
 ·rw [f1]; simp only [Ro]
  refine ⟨fun k hk => by simp at hk, w.heap.size, #[], 0, fun _ => False, rfl, heap_alloc_new w _, rfl, by simpa using Ros.nil _ _, by simp, fun e he => by simp at he, fun hf => hf, fun q => by simp⟩
 ·have : E1.ft nid g := hg
  rw [f1] at this
  subst this
  exact ⟨.inl (Nat.le_refl _), fun hF => by have := r.lt _ hF; omega, by simp⟩
def plUpdate (P : Program) (h : Nat → Option AB) (ty : Nat) (m k v : AV) : Option (List (Nat × AB)) :=
 match keyV k, tyOf P ty, cellsV v with
 | some kv, some ti, some [c] => (match ti.kind with
  | .map kt vt => (match ktOf P kt with
   | some kk => if hasK kk kv = true then (match m with
    | .one (.mp b) => (match h b with
     | some (.obj (.map kk' ks l)) => if kk' = kk then (match v with
      | .one _ => (match mapIx kv ks with
       | some i => if i < l.length then some [(b, .obj (.map kk' ks (l.set i (.c c))))] else none
       | none => some [(b, .obj (.map kk' (ks ++ [kv]) (l ++ [.c c])))])
      | _ => none) else none
     | _ => none)
    | _ => none) else none
   | none => none)
  | _ => none)
 | _, _, _ => none
theorem mapIx_get : ∀ {ks : List Value} {k : Value} {i : Nat}, mapIx k ks = some i → ∃ x, ks[i]? = some x ∧ keq k x = true
 | x :: r, k, i, h => by
  simp only [mapIx] at h
  split at h
  ·rename_i hk
   injection h with h; subst h; exact ⟨x, rfl, hk⟩
  ·obtain ⟨j, hj, rfl⟩ := Option.map_eq_some_iff.1 h
   obtain ⟨y, h1, h2⟩ := mapIx_get hj
   exact ⟨y, by simpa using h1, h2⟩
theorem sameBitsB {b : BT} {x : Value} (h : hasB b x = true) (n : Nat) : Instr.sameBits n x x = true := by
 cases b <;> cases x <;> simp only [hasB, Bool.false_eq_true] at h <;> cases n <;> simp [Instr.sameBits, beq_bytes]
theorem sameBits_all : ∀ {l : List BT} {vs : List Value}, hasBs l vs = true → ∀ n, ((vs.zip vs).all fun (x, y) => Instr.sameBits n x y) = true
 | [], [], _, n => rfl
 | b :: l, v :: r, h, n => by
  simp only [hasBs, Bool.and_eq_true] at h
  simp only [List.zip_cons_cons, List.all_cons, sameBitsB h.1, Bool.true_and]
  exact sameBits_all h.2 n
 | [], _ :: _, h, _ => by simp [hasBs] at h
 | _ :: _, [], h, _ => by simp [hasBs] at h
theorem sameBitsK {kt : KT} {x : Value} (h : hasK kt x = true) : Instr.sameBits 10000 x x = true := by
 cases kt with
 | one b => exact sameBitsB h _
 | st l =>
  cases x <;> simp only [hasK, Bool.false_eq_true] at h
  simp only [Instr.sameBits, beq_self_eq_true, Bool.true_and]
  exact sameBits_all h _
theorem update_sound (r : R fr E t h nx a w) {o : Oper} {ty : Nat} {m k v : Operand} (ho : o.op = .mapUpdate ty m k v ∨ o.op = .insert ty m k v) {mv kv vv : AV} (hm : evT t m = some mv) (hk : evT t k = some kv) (hv : evT t v = some vv)
  {ws : List (Nat × AB)} (hy : plUpdate P h ty mv kv vv = some ws) : Sound P E h a w o none ws := by
 unfold plUpdate at hy
 split at hy
 case h_2 => cases hy
 rename_i key ti c hkey hti hcv
 split at hy
 case h_2 => cases hy
 rename_i kt vt hkind
 split at hy
 case h_2 => cases hy
 rename_i kk hkk
 split at hy
 case isFalse => cases hy
 rename_i hhas
 split at hy
 case h_2 => cases hy
 rename_i b
 split at hy
 case h_2 => cases hy
 rename_i kk' ks l hb
 split at hy
 case isFalse => cases hy
 rename_i hkk'
 subst hkk'
 split at hy
 case h_2 => cases hy
 rename_i c0
 simp only [cellsV, Option.some.injEq, List.cons.injEq, and_true] at hcv
 subst hcv
 have hu := map_ty hti hkind
 have hkv := keyV_sound (ev_sound r hk) hkey
 have hvv : Rc w E c0 (a.eval v) := by have := ev_sound r hv; cases this with | one h => exact h
 have hck := fun em w => run_checkK (P := P) hkk hhas em w
 obtain ⟨g, hme, hmm⟩ := (ev_sound r hm).mp_inv
 obtain ⟨u, q1, q2⟩ := r.blk b _ hb
 simp only [OC.len] at q1
 rw [hmm] at q1
 injection q1 with q1; subst q1
 simp only [Ro] at q2
 obtain ⟨p0, g', es, clock, Gc, p1, p2, p3, p4, p5, p6, p7, p8⟩ := q2
 simp only [Value.map.injEq, Option.some.injEq] at p1
 subst p1
 have hfind := run_findK (P := P) hkk hhas (es := es.toList) (keys_mem p0 p3) w
 rw [ent_ix, p3] at hfind
 have hown := fun q => r.own b _ q hb
 have hft : E.ft b g := (p8 g).2 (.inl rfl)
 have hglt : g < w.heap.size := (hown g hft).2.2
 have hrun0 : ∀ w', (Instr.mapUpdate ty (a.eval m) (a.eval k) (a.eval v)).run P w = .ok () w' → (execOp a.eval o).run P w = .ok .skip w' := fun w' e => by
  unfold execOp
  rcases ho with ho | ho <;> simp only [ho, Sem.run_bind, e, Result.andThen_ok, Sem.run_pure]
 -- what is to be shown of the new entries
 have main : ∀ (es' : Array MapEntry) (clock' : Nat) (ks' : List Value) (l' : List OC), (Instr.mapUpdate ty (a.eval m) (a.eval k) (a.eval v)).run P w = .ok () (w.putObj g (.map es' clock')) → (∀ k ∈ ks', hasK kk' k = true) → es'.toList.map (·.key) = ks' →
   (es'.toList.map (·.born)).Nodup → (∀ e ∈ es'.toList, e.born < clock') → (∀ w', Agree E.F w w' → (∀ q, Gc q → w'.heap[q]? = w.heap[q]?) → ∃ G', (∀ q, G' q → Gc q) ∧ Ros w' E l' (es'.toList.map (·.val)) G') →
   Sound P E h a w o none [(b, .obj (.map kk' ks' l'))] := by
  intro es' clock' ks' l' hrun h0 h1 h2 h3 h4
  have f5 : ∀ q, q ≠ g → (w.putObj g (.map es' clock')).heap[q]? = w.heap[q]? := fun q hq => World.putObj_heap_other hq
  have hag : Agree E.F w (w.putObj g (.map es' clock')) := fun q hq => f5 q (fun e => by subst e; exact (hown q hft).2.1 hq)
  obtain ⟨G', hG', hros⟩ := h4 _ hag (fun q hq => f5 q (fun e => p7 (e ▸ hq)))
  refine ⟨_, _, E.setF b (fun q => q = g ∨ G' q), hrun0 _ hrun, .inr ⟨rfl, rfl⟩, Upd.obj (u := .map (some g)) hb hmm ?_ (fun q hq => (p8 q).2 (hq.imp id (hG' q))) (fun q hq => (hown q hq).2) rfl rfl rfl (by simp [World.putObj]) (fun q hq => f5 q (fun e => hq (e ▸ hft)))⟩
  simp only [Ro]
  exact ⟨h0, g, es', clock', G', rfl, World.putObj_heap_same hglt, h1, hros, h2, h3, fun hg => p7 (hG' _ hg), fun _ => Iff.rfl⟩
 have hlen : es.toList.length = l.length := by have := p4.len; simpa using this
 split at hy
 ·rename_i i hi
  split at hy
  case isFalse => cases hy
  rename_i hil
  simp only [Option.some.injEq] at hy; subst hy
  rw [hi] at hfind
  have hie : i < es.size := by simpa using (show i < es.toList.length by omega)
  obtain ⟨x, hx, hkx⟩ := mapIx_get hi
  have hkeyx : key = x := keq_eq hhas (p0 x (List.mem_of_getElem? hx)) hkx
  subst hkeyx
  have hek : es[i].key = key := by
   rw [← p3, List.getElem?_map, List.getElem?_eq_getElem (by simpa using hie)] at hx
   simpa using hx
  have hsame : (Instr.keyThatStays key key).run P w = .ok key w := by unfold Instr.keyThatStays; simp [sameBitsK hhas]
  have hen : es.toList[i]? = some es[i] := by rw [List.getElem?_eq_getElem (by simpa using hie)]; simp
  simp only [hen, Option.map_some] at hfind
  have hen2 : es[i]? = some es[i] := by simp [hie]
  refine main (es.modify i fun e => { e with key := key, val := a.eval v }) clock ks (l.set i (.c c0)) ?_ p0 ?_ ?_ ?_ (fun w' hag hke => ?_)
  ·rw [hme, hkv]
   simp [Instr.mapUpdate, run_underlying hu, MapKept.run_getObj_map p2, hck, hfind, hen2, hek, hsame, MapKept.run_setObj_map _ p2, World.putObj]
  ·rw [← p3]
   apply List.ext_getElem?
   intro j
   simp only [List.getElem?_map, Array.getElem?_toList, Array.getElem?_modify]
   by_cases hj : i = j
   ·subst hj; simp [hie, hek]
   ·simp [hj]
  ·have : (es.modify i fun e => { e with key := key, val := a.eval v }).toList.map (·.born) = es.toList.map (·.born) := by
    apply List.ext_getElem?
    intro j
    simp only [List.getElem?_map, Array.getElem?_toList, Array.getElem?_modify]
    by_cases hj : i = j
    ·subst hj; simp [hie]
    ·simp [hj]
   rw [this]; exact p5
  ·intro e he
   obtain ⟨j, hj⟩ := List.mem_iff_getElem?.1 he
   simp only [Array.getElem?_toList, Array.getElem?_modify] at hj
   by_cases hij : i = j
   ·subst hij
    simp [hie] at hj
    subst hj
    exact p6 es[i] (by simp)
   ·simp [hij] at hj
    exact p6 e (by obtain ⟨h1, h2⟩ := Array.getElem?_eq_some_iff.1 hj; rw [← h2]; simp)
  ·obtain ⟨y0, hy0⟩ : ∃ y0, l[i]? = some y0 := ⟨_, List.getElem?_eq_getElem hil⟩
   have p4' := Ros.mono (.refl E) hag l hke p4
   have hd : All2 (Rc w' E) [c0] [a.eval v] := All2.cons (hvv.mono (.refl E) hag) (All2.nil _)
   obtain ⟨G', hG', hs⟩ := p4'.splice hd (o := i) (by simp; omega)
   refine ⟨G', hG', ?_⟩
   have e1 : splice l i ([c0].map OC.c) = l.set i (.c c0) := by unfold splice; rw [List.set_eq_take_append_cons_drop, if_pos hil]; simp
   have e2 : splice (es.toList.map (·.val)) i [a.eval v] = (es.modify i fun e => { e with key := key, val := a.eval v }).toList.map (·.val) := by
    apply List.ext_getElem?
    intro j
    rw [splice_get (by simp; omega)]
    simp only [List.getElem?_map, Array.getElem?_toList, Array.getElem?_modify, List.length_singleton]
    by_cases hj : i = j
    ·subst hj; simp [hie]
    ·by_cases hj2 : j < i
     ·simp [hj2, hj]
     ·rw [if_neg hj2, if_neg (by omega)]; simp [hj]
   rw [e1, e2] at hs
   exact hs
 ·rename_i hi
  simp only [Option.some.injEq] at hy; subst hy
  rw [hi] at hfind
  refine main (es.push { key := key, val := a.eval v, born := clock }) (clock + 1) (ks ++ [key]) (l ++ [.c c0]) ?_ (fun k hk => ?_) (by simp [p3]) ?_ (fun e he => ?_) (fun w' hag hke => ?_)
  ·rw [hme, hkv]
   simp [Instr.mapUpdate, run_underlying hu, MapKept.run_getObj_map p2, hck, hfind, MapKept.run_setObj_map _ p2, World.putObj]
  ·rcases List.mem_append.1 hk with hk | hk
   ·exact p0 k hk
   ·simp at hk; subst hk; exact hhas
  ·simp only [Array.toList_push, List.map_append, List.map_cons, List.map_nil]
   rw [List.nodup_append]
   refine ⟨p5, by simp, fun x hx y hy => ?_⟩
   simp at hy; subst hy
   obtain ⟨e, he, rfl⟩ := List.mem_map.1 hx
   have := p6 e he
   omega
  ·simp only [Array.toList_push, List.mem_append, List.mem_singleton] at he
   rcases he with he | rfl
   ·have := p6 e he; omega
   ·simp
  ·have p4' := Ros.mono (.refl E) hag l hke p4
   refine ⟨Gc, fun _ hq => hq, ?_⟩
   have := Ros.append (Ros.plain (All2.cons (hvv.mono (.refl E) hag) (All2.nil _))) p4' (fun _ _ hf => hf)
   simp only [Array.toList_push, List.map_append, List.map_cons, List.map_nil]
   exact this.congr fun q => by simp
end
end Go.Abs
set_option linter.unusedVariables false
set_option linter.unusedSimpArgs false
namespace Go.Abs
open Go.RowKit
section
variable {P : Program} {fr : Fr} {E : En} {t : Nat → Option AV} {h : Nat → Option AB} {nx : Nat} {a : Act} {w : World}
theorem Ros.erase {l : List OC} {vs : List Value} {G : Nat → Prop} (hr : Ros w E l vs G) (i : Nat) (hi : i < l.length) : ∃ G', (∀ g, G' g → G g) ∧ Ros w E (l.eraseIdx i) (vs.eraseIdx i) G' := by
 have e : l = l.take i ++ (l[i] :: l.drop (i + 1)) := by rw [← List.drop_eq_getElem_cons hi, List.take_append_drop]
 rw [e] at hr
 obtain ⟨v1, v2, H1, H2, rfl, k2, k3, k4, k5, k6⟩ := Ros.split hr
 simp only [Ros] at k4
 obtain ⟨u, us, G1, G2, rfl, h2, h3, h4, h5⟩ := k4
 have hl1 : v1.length = i := by rw [k2, List.length_take]; omega
 refine ⟨fun g => H1 g ∨ G2 g, fun g hg => (k6 g).2 (hg.imp id fun x => (h5 g).2 (.inr x)), ?_⟩
 have e1 : l.eraseIdx i = l.take i ++ l.drop (i + 1) := List.eraseIdx_eq_take_drop_succ ..
 have e2 : (v1 ++ u :: us).eraseIdx i = v1 ++ us := by rw [List.eraseIdx_append_of_length_le (by omega), hl1]; simp
 rw [e1, e2]
 exact Ros.append h3 k3 (fun g hg hn => k5 g hg ((h5 g).2 (.inr hn)))
theorem map_erase {α β : Type} (f : α → β) : ∀ (l : List α) (i : Nat), (l.eraseIdx i).map f = (l.map f).eraseIdx i
 | [], i => rfl
 | x :: r, 0 => rfl
 | x :: r, i + 1 => by simp [List.eraseIdx, map_erase f r i]
theorem nodup_erase {α : Type} {l : List α} (h : l.Nodup) (i : Nat) : (l.eraseIdx i).Nodup := h.sublist (List.eraseIdx_sublist ..)
def plDelete (P : Program) (h : Nat → Option AB) (ty : Nat) (m k : AV) : Option (List (Nat × AB)) :=
 match keyV k, tyOf P ty with
 | some kv, some ti => (match ti.kind with
  | .map kt vt => (match ktOf P kt with
   | some kk => if hasK kk kv = true then (match m with
    | .one (.mp b) => (match h b with
     | some (.obj (.map kk' ks l)) => if kk' = kk then (match mapIx kv ks with
       | some i => if i < l.length then some [(b, .obj (.map kk' (ks.eraseIdx i) (l.eraseIdx i)))] else none
       | none => some [(b, .obj (.map kk' ks l))]) else none
     | _ => none)
    | _ => none) else none
   | none => none)
  | _ => none)
 | _, _ => none
theorem delete_sound (r : R fr E t h nx a w) {o : Oper} {ty ty' : Nat} {m k : Operand} (ho : o.op = .call { callee := .builtin .delete, args := #[m, k], argTypes := #[ty, ty'] }) {mv kv : AV} (hm : evT t m = some mv) (hk : evT t k = some kv)
  {ws : List (Nat × AB)} (hy : plDelete P h ty mv kv = some ws) : Sound P E h a w o (some (.tup [])) ws := by
 unfold plDelete at hy
 split at hy
 case h_2 => cases hy
 rename_i key ti hkey hti
 split at hy
 case h_2 => cases hy
 rename_i kt vt hkind
 split at hy
 case h_2 => cases hy
 rename_i kk hkk
 split at hy
 case isFalse => cases hy
 rename_i hhas
 split at hy
 case h_2 => cases hy
 rename_i b
 split at hy
 case h_2 => cases hy
 rename_i kk' ks l hb
 split at hy
 case isFalse => cases hy
 rename_i hkk'
 subst hkk'
 have hu := map_ty hti hkind
 have hkv := keyV_sound (ev_sound r hk) hkey
 have hck := fun em w => run_checkK (P := P) hkk hhas em w
 obtain ⟨g, hme, hmm⟩ := (ev_sound r hm).mp_inv
 obtain ⟨u, q1, q2⟩ := r.blk b _ hb
 simp only [OC.len] at q1
 rw [hmm] at q1
 injection q1 with q1; subst q1
 simp only [Ro] at q2
 obtain ⟨p0, g', es, clock, Gc, p1, p2, p3, p4, p5, p6, p7, p8⟩ := q2
 simp only [Value.map.injEq, Option.some.injEq] at p1
 subst p1
 have hfind := run_findK (P := P) hkk hhas (es := es.toList) (keys_mem p0 p3) w
 rw [ent_ix, p3] at hfind
 have hown := fun q => r.own b _ q hb
 have hft : E.ft b g := (p8 g).2 (.inl rfl)
 have hglt : g < w.heap.size := (hown g hft).2.2
 have hlen : es.toList.length = l.length := by have := p4.len; simpa using this
 have main : ∀ (es' : Array MapEntry) (ks' : List Value) (l' : List OC), (Builtin.delete_ #[ty, ty'] o.type #[a.eval m, a.eval k]).run P w = .ok (.tuple #[]) (w.putObj g (.map es' clock)) → (∀ k ∈ ks', hasK kk' k = true) → es'.toList.map (·.key) = ks' →
   (es'.toList.map (·.born)).Nodup → (∀ e ∈ es'.toList, e.born < clock) → (∃ G', (∀ q, G' q → Gc q) ∧ Ros w E l' (es'.toList.map (·.val)) G') →
   Sound P E h a w o (some (.tup [])) [(b, .obj (.map kk' ks' l'))] := by
  intro es' ks' l' hrun h0 h1 h2 h3 ⟨G', hG', hros0⟩
  have f5 : ∀ q, q ≠ g → (w.putObj g (.map es' clock)).heap[q]? = w.heap[q]? := fun q hq => World.putObj_heap_other hq
  have hag : Agree E.F w (w.putObj g (.map es' clock)) := fun q hq => f5 q (fun e => by subst e; exact (hown q hft).2.1 hq)
  have hros := Ros.mono (.refl E) hag l' (fun q hq => f5 q (fun e => p7 (e ▸ hG' _ hq))) hros0
  refine ⟨.value (.tuple #[]), w.putObj g (.map es' clock), E.setF b (fun q => q = g ∨ G' q), ?_, .inl ⟨_, rfl, fun y e => ?_⟩, Upd.obj (u := .map (some g)) hb hmm ?_ (fun q hq => (p8 q).2 (hq.imp id (hG' q))) (fun q hq => (hown q hq).2) rfl rfl rfl (by simp [World.putObj]) (fun q hq => f5 q (fun e => hq (e ▸ hft)))⟩
  ·unfold execOp
   simp only [ho, resolve, invoke, builtin, Sem.run_bind, Sem.run_pure, Result.andThen_ok, List.map_toArray, List.map_cons, List.map_nil, hrun]
  ·injection e with e; subst e; exact .tup (fun _ => undef) rfl (fun j c hj => by simp at hj) (fun j c hj => by simp at hj)
  simp only [Ro]
  exact ⟨h0, g, es', clock, G', rfl, World.putObj_heap_same hglt, h1, hros, h2, h3, fun hg => p7 (hG' _ hg), fun _ => Iff.rfl⟩
 split at hy
 ·rename_i i hi
  split at hy
  case isFalse => cases hy
  rename_i hil
  simp only [Option.some.injEq] at hy; subst hy
  rw [hi] at hfind
  have hie : i < es.size := by simpa using (show i < es.toList.length by omega)
  have hen : es.toList[i]? = some es[i] := by rw [List.getElem?_eq_getElem (by simpa using hie)]; simp
  simp only [hen, Option.map_some] at hfind
  have hel : (es.eraseIdxIfInBounds i).toList = es.toList.eraseIdx i := by simp [Array.eraseIdxIfInBounds, hie]
  refine main (es.eraseIdxIfInBounds i) (ks.eraseIdx i) (l.eraseIdx i) ?_ (fun k hk => p0 k ((List.eraseIdx_sublist ..).subset hk)) ?_ ?_ (fun e he => ?_) ?_
  ·rw [hme, hkv]
   simp [Builtin.delete_, run_underlying hu, MapKept.run_getObj_map p2, hck, hfind, MapKept.run_setObj_map _ p2, World.putObj]
  ·rw [hel, map_erase, p3]
  ·rw [hel, map_erase]; exact nodup_erase p5 i
  ·rw [hel] at he; exact p6 e ((List.eraseIdx_sublist ..).subset he)
  ·rw [hel, map_erase]; exact p4.erase i hil
 ·rename_i hi
  simp only [Option.some.injEq] at hy; subst hy
  rw [hi] at hfind
  refine main es ks l ?_ p0 p3 p5 p6 ⟨Gc, fun _ hq => hq, p4⟩
  rw [hme, hkv]
  simp [Builtin.delete_, run_underlying hu, MapKept.run_getObj_map p2, hck, hfind, MapKept.run_setObj_map _ p2, World.putObj]
def plLenM (P : Program) (h : Nat → Option AB) (ty : Nat) : AV → Option AV
 | .one (.mp b) => (match tyOf P ty, h b with
  | some ti, some (.obj (.map _ ks _)) => (match ti.kind with | .map _ _ => some (.val (.int .i64 ks.length)) | _ => none)
  | _, _ => none)
 | _ => none
theorem lenM_sound (r : R fr E t h nx a w) {o : Oper} {x : Operand} {ty : Nat} (ho : o.op = .call { callee := .builtin .len, args := #[x], argTypes := #[ty] }) {xv z : AV} (hx : evT t x = some xv) (hz : plLenM P h ty xv = some z) : Sound P E h a w o (some z) [] := by
 unfold plLenM at hz
 split at hz
 ·rename_i b
  split at hz
  case h_2 => cases hz
  rename_i ti kk ks l hti hb
  split at hz
  case h_2 => cases hz
  rename_i kt vt hkind
  simp only [Option.some.injEq] at hz; subst hz
  obtain ⟨g, hme, hmm⟩ := (ev_sound r hx).mp_inv
  obtain ⟨u, q1, q2⟩ := r.blk b _ hb
  simp only [OC.len] at q1
  rw [hmm] at q1
  injection q1 with q1; subst q1
  simp only [Ro] at q2
  obtain ⟨p0, g', es, clock, Gc, p1, p2, p3, -⟩ := q2
  simp only [Value.map.injEq, Option.some.injEq] at p1
  subst p1
  have hl : es.size = ks.length := by rw [← p3]; simp
  refine Sound.same (v := .int .i64 ks.length) ?_ (fun y e => by injection e with e; subst e; exact .val rfl)
  unfold execOp
  simp [ho, resolve, invoke, builtin, hme, Builtin.len_, run_underlying (map_ty hti hkind), MapKept.run_getObj_map p2, goInt, hl]
 ·cases hz
def eqT (P : Program) (t : Nat) : Option KT := if P.eqGuardType P.depth t then none else ktOf P t
def eqOp : BinOp → Bool → Option AV
 | .eql, b => some (.val (.bool b))
 | .neq, b => some (.val (.bool !b))
 | _, _ => none
def intOp2 (op : BinOp) (k : IntKind) (x y : Int) : Option Value :=
 match op with
 | .quo => if y = 0 then none else some (.int k (k.wrap (x.tdiv y)))
 | .rem => if y = 0 then none else some (.int k (x.tmod y))
 | .and => some (.int k (k.wrap (BitVec.ofInt k.bits x &&& BitVec.ofInt k.bits y).toNat))
 | .or => some (.int k (k.wrap (BitVec.ofInt k.bits x ||| BitVec.ofInt k.bits y).toNat))
 | .xor => some (.int k (k.wrap (BitVec.ofInt k.bits x ^^^ BitVec.ofInt k.bits y).toNat))
 | _ => none
def shOp (op : BinOp) (k : IntKind) (x y : Int) : Option Value :=
 if y < 0 then none else match op with
 | .shl => some (.int k (k.wrap (x * 2 ^ (min y.toNat k.bits))))
 | .shr => some (.int k (x.fdiv (2 ^ (min y.toNat k.bits))))
 | _ => none
def plBinO (P : Program) (op : BinOp) (ty : Nat) : AV → AV → Option AV
 | .agg l, .agg m => (match eqT P ty, keyV (.agg l), keyV (.agg m) with
  | some kk, some x, some y => if hasK kk x = true ∧ hasK kk y = true then eqOp op (keq x y) else none
  | _, _, _ => none)
 | .one (.ep _ _ _ _ _), .one (.f (.v (.pointer none))) => (match tyOf P ty with
  | some ti => (match ti.kind with | .pointer _ => eqOp op false | _ => none)
  | none => none)
 | .one (.fp _), .one (.f (.v (.pointer none))) => (match tyOf P ty with
  | some ti => (match ti.kind with | .pointer _ => eqOp op false | _ => none)
  | none => none)
 | .one (.mp _), .one (.f (.v (.map none))) => (match tyOf P ty with
  | some ti => (match ti.kind with | .map _ _ => eqOp op false | _ => none)
  | none => none)
 | .one (.f (.v (.pointer none))), .one (.f (.v (.pointer none))) => (match tyOf P ty with
  | some ti => (match ti.kind with | .pointer _ => eqOp op true | _ => none)
  | none => none)
 | .one (.f (.v (.map none))), .one (.f (.v (.map none))) => (match tyOf P ty with
  | some ti => (match ti.kind with | .map _ _ => eqOp op true | _ => none)
  | none => none)
 | .one (.f (.v (.string x))), .one (.f (.v (.string y))) => (match op with
  | .add => if x.size + y.size ≤ maxLen then some (.val (.string (x ++ y))) else none
  | _ => none)
 | .one (.f (.v (.int k x))), .one (.f (.v (.int k' y))) => (match shOp op k x y with
  | some z => some (.val z)
  | none => if k = k' then (match intOp2 op k x y with | some z => some (.val z) | none => none) else none)
 | _, _ => none
theorem run_eqOp {op : BinOp} {b : Bool} {z : AV} (hz : eqOp op b = some z) {ty : Nat} {x y : Value} (h1 : (Op.equal ty x y).run P w = .ok b w) (hk : ∀ k n, x ≠ .int k n) (hf : ∀ k n, x ≠ .float k n) (hc : ∀ k n m, x ≠ .complex k n m) (hs : ∀ s, x ≠ .string s) :
  ∃ c : Bool, z = .val (.bool c) ∧ (binOp op ty x y).run P w = .ok (.bool c) w := by
 cases op <;> simp only [eqOp, Option.some.injEq, reduceCtorEq] at hz <;> subst hz
 ·refine ⟨_, rfl, ?_⟩
  cases x <;> first | exact absurd rfl (hk _ _) | exact absurd rfl (hf _ _) | exact absurd rfl (hc _ _ _) | exact absurd rfl (hs _) | simp [binOp, h1]
 ·refine ⟨_, rfl, ?_⟩
  cases x <;> first | exact absurd rfl (hk _ _) | exact absurd rfl (hf _ _) | exact absurd rfl (hc _ _ _) | exact absurd rfl (hs _) | simp [binOp, h1]
theorem binO_sound (r : R fr E t h nx a w) {o : Oper} {op : BinOp} {ty ty2 : Nat} {x y : Operand} (ho : o.op = .binOp op ty x y ty2) {xv yv z : AV} (hx : evT t x = some xv) (hy : evT t y = some yv) (hz : plBinO P op ty xv yv = some z) : Sound P E h a w o (some z) [] := by
 have hxv := ev_sound r hx
 have hyv := ev_sound r hy
 have hrun : ∀ v, (do eqGuard op ty x y (a.eval x) (a.eval y); binOp op ty (a.eval x) (a.eval y) : Sem Value).run P w = .ok v w → (execOp a.eval o).run P w = .ok (.value v) w := fun v e => by
  unfold execOp
  simp only [ho, Sem.run_bind] at e ⊢
  rw [e]
  rfl
 have ptr : ∀ (p q : Option Addr) (e : Nat) (ti : TI), tyOf P ty = some ti → ti.kind = .pointer e → a.eval x = .pointer p → a.eval y = .pointer none → ∀ b, p.isNone = b → eqOp op b = some z → Sound P E h a w o (some z) [] := by
  intro p q e ti hti hk e1 e2 b hb hz
  obtain ⟨c, rfl, hc⟩ := run_eqOp (P := P) (w := w) (ty := ty) (x := .pointer p) (y := .pointer none) hz (by rw [← hb]; exact run_equal_pointer_nil w ty p (pointee_ty hti hk)) (fun _ _ e => by cases e) (fun _ _ e => by cases e) (fun _ _ _ e => by cases e) (fun _ e => by cases e)
  refine Sound.same (hrun _ ?_) (fun y hy => by injection hy with hy; subst hy; exact .val rfl)
  simp only [e1, e2, Sem.run_bind, eqGuard_at_pointer, Sem.run_pure, Result.andThen_ok, hc]
 have mpp : ∀ (p : Option Nat) (k e : Nat) (ti : TI), tyOf P ty = some ti → ti.kind = .map k e → a.eval x = .map p → a.eval y = .map none → ∀ b, p.isNone = b → eqOp op b = some z → Sound P E h a w o (some z) [] := by
  intro p k e ti hti hk e1 e2 b hb hz
  obtain ⟨c, rfl, hc⟩ := run_eqOp (P := P) (w := w) (ty := ty) (x := .map p) (y := .map none) hz (by rw [← hb]; exact run_equal_map_nil w ty k e p (map_ty hti hk)) (fun _ _ e => by cases e) (fun _ _ e => by cases e) (fun _ _ _ e => by cases e) (fun _ e => by cases e)
  refine Sound.same (hrun _ ?_) (fun y hy => by injection hy with hy; subst hy; exact .val rfl)
  simp only [e1, e2, Sem.run_bind, eqGuard_at_map, Sem.run_pure, Result.andThen_ok, hc]
 unfold plBinO at hz
 split at hz
 ·rename_i l m
  split at hz
  case h_2 => cases hz
  rename_i kk xk yk hkk hxk hyk
  split at hz
  case isFalse => cases hz
  rename_i hcond
  unfold eqT at hkk
  split at hkk
  ·cases hkk
  rename_i hg
  obtain ⟨xs, e1, -⟩ := hxv.agg_inv
  obtain ⟨ys, e2, -⟩ := hyv.agg_inv
  have e3 := keyV_sound hxv hxk
  have e4 := keyV_sound hyv hyk
  rw [← e3, e1] at hcond hz
  rw [← e4, e2] at hcond hz
  obtain ⟨c, rfl, hc⟩ := run_eqOp (P := P) (w := w) (ty := ty) (x := .agg xs) (y := .agg ys) hz (run_equalK hkk hcond.1 hcond.2 9998 w) (fun _ _ e => by cases e) (fun _ _ e => by cases e) (fun _ _ _ e => by cases e) (fun _ e => by cases e)
  refine Sound.same (hrun _ ?_) (fun y hy => by injection hy with hy; subst hy; exact .val rfl)
  simp only [e1, e2, Sem.run_bind, run_eqGuard_agg w op ty x y xs ys (by simpa using hg), Result.andThen_ok, hc]
 ·split at hz
  ·rename_i ti hti
   split at hz
   ·rename_i e hk
    obtain ⟨g, oo, c, e1, -⟩ := hxv.ep_inv
    exact ptr _ none _ ti hti hk e1 hyv.val_inv false rfl hz
   ·cases hz
  ·cases hz
 ·split at hz
  ·rename_i ti hti
   split at hz
   ·rename_i e hk
    generalize hev : a.eval x = ev at hxv
    cases hxv with | one hxv => ?_
    cases hxv with | fp => ?_
    exact ptr _ none _ ti hti hk hev hyv.val_inv false rfl hz
   ·cases hz
  ·cases hz
 ·split at hz
  ·rename_i ti hti
   split at hz
   ·rename_i k e hk
    obtain ⟨g, e1, -⟩ := hxv.mp_inv
    exact mpp _ _ _ ti hti hk e1 hyv.val_inv false rfl hz
   ·cases hz
  ·cases hz
 ·split at hz
  ·rename_i ti hti
   split at hz
   ·rename_i e hk
    exact ptr none none _ ti hti hk hxv.val_inv hyv.val_inv true rfl hz
   ·cases hz
  ·cases hz
 ·split at hz
  ·rename_i ti hti
   split at hz
   ·rename_i k e hk
    exact mpp none _ _ ti hti hk hxv.val_inv hyv.val_inv true rfl hz
   ·cases hz
  ·cases hz
 ·rename_i s u
  split at hz
  ·split at hz
   ·rename_i hl
    simp only [Option.some.injEq] at hz; subst hz
    have e1 := hxv.val_inv
    have e2 := hyv.val_inv
    refine Sound.same (hrun (.string (s ++ u)) ?_) (fun y hy => by injection hy with hy; subst hy; exact .val (by simp only [okV, decide_eq_true_eq]; rw [ByteArray.size_append]; exact hl))
    have hno : ¬ (IntKind.i64.max < ((s.size + u.size : Nat) : Int)) := by
     have : IntKind.i64.max = 9223372036854775807 := by decide
     rw [this]; simp only [maxLen] at hl; omega
    rw [e1, e2]
    simp [eqGuard, binOp, Op.stringOp]
    simp only [maxLen] at hl; omega
   ·cases hz
  ·cases hz
 ·rename_i k p k' q
  have e1 := hxv.val_inv
  have e2 := hyv.val_inv
  split at hz
  ·rename_i v hv
   simp only [Option.some.injEq] at hz; subst hz
   unfold shOp at hv
   split at hv
   ·cases hv
   rename_i hq
   cases op <;> simp only [Option.some.injEq, reduceCtorEq] at hv <;> subst hv
   ·refine Sound.same (hrun (.int _ _) ?_) (fun y hy => by injection hy with hy; subst hy; exact .val rfl)
    rw [e1, e2]; simp [eqGuard, binOp, Op.shift, hq]
   ·refine Sound.same (hrun (.int _ _) ?_) (fun y hy => by injection hy with hy; subst hy; exact .val rfl)
    rw [e1, e2]; simp [eqGuard, binOp, Op.shift, hq]
  ·split at hz
   case isFalse => cases hz
   rename_i hkk
   subst hkk
   split at hz
   case h_2 => cases hz
   rename_i v hv
   simp only [Option.some.injEq] at hz; subst hz
   unfold intOp2 at hv
   cases op <;> simp only [Option.some.injEq, reduceCtorEq] at hv
   case quo =>
    split at hv
    ·cases hv
    rename_i hq
    simp only [Option.some.injEq] at hv; subst hv
    refine Sound.same (hrun (.int _ _) ?_) (fun y hy => by injection hy with hy; subst hy; exact .val rfl)
    rw [e1, e2]; simp [eqGuard, binOp, Op.intDiv, hq]
   case rem =>
    split at hv
    ·cases hv
    rename_i hq
    simp only [Option.some.injEq] at hv; subst hv
    refine Sound.same (hrun (.int _ _) ?_) (fun y hy => by injection hy with hy; subst hy; exact .val rfl)
    rw [e1, e2]; simp [eqGuard, binOp, Op.intDiv, hq]
   all_goals
    subst hv
    refine Sound.same (hrun (.int _ _) ?_) (fun y hy => by injection hy with hy; subst hy; exact .val rfl)
    rw [e1, e2]; simp [eqGuard, binOp, Op.intBits]
 ·cases hz
end
end Go.Abs
set_option linter.unusedVariables false
set_option linter.unusedSimpArgs false
namespace Go.Abs
open Go.RowKit
def o1 : Option AV → Option (Option AV × List (Nat × AB))
 | some v => some (some v, [])
 | none => none
def o2 : Option (AV × List (Nat × AB)) → Option (Option AV × List (Nat × AB))
 | some p => some (some p.1, p.2)
 | none => none
def o3 : Option (List (Nat × AB)) → Option (Option AV × List (Nat × AB))
 | some ws => some (none, ws)
 | none => none
def plBuiltin (P : Program) (t : Nat → Option AV) (h : Nat → Option AB) (nid : Nat) (b : Builtin) : List Operand → List Nat → Option (Option AV × List (Nat × AB))
 | [x], [ty] => match b, evT t x with
  | .len, some v => o1 (plLen P ty v)
  | _, _ => none
 | [x, y], [ty, ty'] => match evT t x, evT t y with
  | some v, some u => (match b with
   | .append => if ty = ty' then o2 (plAppend P h ty v u) else none
   | b => o1 (plMax b v u))
  | _, _ => none
 | _, _ => none
def pl0 (P : Program) (t : Nat → Option AV) (h : Nat → Option AB) (nid : Nat) : Op → Option (Option AV × List (Nat × AB))
 | .move x => o1 (evT t x)
 | .assign x => o1 (evT t x)
 | .pick c x y => match evT t c with
  | some (.one (.f (.v (.bool b)))) => o1 (if b then evT t x else evT t y)
  | _ => none
 | .alloc ty => o2 (plAlloc P ty nid)
 | .box ty x => match evT t x with | some v => o2 (plBox ty nid v) | none => none
 | .build ty parts => match evParts t parts.toList with | some ps => o1 (plBuild P ty ps) | none => none
 | .buildSlice ty len parts => match evParts t parts.toList with | some ps => o2 (plSlice P ty len nid ps) | none => none
 | .load ty x => match evT t x with | some v => o1 (plLoad P h ty v) | none => none
 | .store ty p x => match evT t p, evT t x with | some pv, some v => o3 (plStore P h ty pv v) | _, _ => none
 | .nilCheck x => match evT t x with | some v => o1 (plNil v) | none => none
 | .binOp op ty x y _ => match evT t x, evT t y with | some v, some u => o1 (plBin P op ty v u) | _, _ => none
 | .unOp op _ x => match evT t x with | some v => o1 (plUn op v) | none => none
 | .convert src dst x => match evT t x with | some v => o1 (plConv P src dst v) | none => none
 | .makeFunc f first caps => match first.toList, evCaps t caps.toList with | [], some l => some (some (.one (.fn f l)), []) | _, _ => none
 | .fieldAddr ty x f => match evT t x with | some v => o1 (plFieldAddr P ty f v) | none => none
 | .field ty x f => match evT t x with | some v => o1 (plField P ty f v) | none => none
 | .indexAddr ty x i => match evT t x, evT t i with | some v, some u => o1 (plIndexAddr P h ty v u) | _, _ => none
 | .index ty x i => match evT t x, evT t i with | some v, some u => o1 (plIndex P ty v u) | _, _ => none
 | .extract x i => match evT t x with | some v => o1 (plExtract i v) | none => none
 | .call c => match c.callee with
  | .builtin b => plBuiltin P t h nid b c.args.toList c.argTypes.toList
  | _ => none
 | _ => none
section
variable {P : Program} {fr : Fr} {E : En} {t : Nat → Option AV} {h : Nat → Option AB} {nx : Nat} {a : Act} {w : World}
theorem o1_some {x : Option AV} {y : Option AV} {ws : List (Nat × AB)} (h : o1 x = some (y, ws)) : ∃ v, x = some v ∧ y = some v ∧ ws = [] := by
 cases x with
 | none => cases h
 | some v => simp only [o1, Option.some.injEq, Prod.mk.injEq] at h; exact ⟨v, rfl, h.1.symm, h.2.symm⟩
theorem o2_some {x : Option (AV × List (Nat × AB))} {y : Option AV} {ws : List (Nat × AB)} (h : o2 x = some (y, ws)) : ∃ v, x = some (v, ws) ∧ y = some v := by
 cases x with
 | none => cases h
 | some p => simp only [o2, Option.some.injEq, Prod.mk.injEq] at h; exact ⟨p.1, by rw [← h.2], h.1.symm⟩
theorem o3_some {x : Option (List (Nat × AB))} {y : Option AV} {ws : List (Nat × AB)} (h : o3 x = some (y, ws)) : x = some ws ∧ y = none := by
 cases x with
 | none => cases h
 | some p => simp only [o3, Option.some.injEq, Prod.mk.injEq] at h; exact ⟨by rw [h.2], h.1.symm⟩
theorem toList_arr {α : Type} {xs : Array α} {l : List α} (h : xs.toList = l) : xs = l.toArray := by rw [← h]
theorem pl0_sound (r : R fr E t h nx a w) {o : Oper} {nid : Nat} (hn : nx ≤ nid) (hb : h nid = none) {x : Option AV} {ws : List (Nat × AB)} (hp : pl0 P t h nid o.op = some (x, ws)) : Sound P E h a w o x ws := by
 cases ho : o.op <;> rw [ho] at hp <;> simp only [pl0] at hp
 case move y => obtain ⟨v, h1, rfl, rfl⟩ := o1_some hp; exact move_sound r (.inl ho) h1
 case assign y => obtain ⟨v, h1, rfl, rfl⟩ := o1_some hp; exact move_sound r (.inr ho) h1
 case pick c x y =>
  split at hp
  ·rename_i b hc
   obtain ⟨v, h1, rfl, rfl⟩ := o1_some hp
   exact pick_sound r ho hc h1
  ·cases hp
 case alloc ty => obtain ⟨v, h1, rfl⟩ := o2_some hp; exact alloc_sound r ho hn hb h1
 case box ty y =>
  split at hp
  ·rename_i v hv; obtain ⟨u, h1, rfl⟩ := o2_some hp; exact box_sound r ho hv hn hb h1
  ·cases hp
 case build ty parts =>
  split at hp
  ·rename_i v hv; obtain ⟨u, h1, rfl, rfl⟩ := o1_some hp; exact build_sound r ho hv h1
  ·cases hp
 case buildSlice ty len parts =>
  split at hp
  ·rename_i v hv; obtain ⟨u, h1, rfl⟩ := o2_some hp; exact slice_sound r ho hv hn hb h1
  ·cases hp
 case load ty y =>
  split at hp
  ·rename_i v hv; obtain ⟨u, h1, rfl, rfl⟩ := o1_some hp; exact load_sound r ho hv h1
  ·cases hp
 case store ty p y =>
  split at hp
  ·rename_i pv v hpv hv; obtain ⟨h1, rfl⟩ := o3_some hp; exact store_sound r ho hpv hv h1
  ·cases hp
 case nilCheck y =>
  split at hp
  ·rename_i v hv; obtain ⟨u, h1, rfl, rfl⟩ := o1_some hp; exact nil_sound r ho hv h1
  ·cases hp
 case binOp op ty y z ty2 =>
  split at hp
  ·rename_i v u hv hu; obtain ⟨u, h1, rfl, rfl⟩ := o1_some hp; exact bin_sound r ho hv hu h1
  ·cases hp
 case unOp op ty y =>
  split at hp
  ·rename_i v hv; obtain ⟨u, h1, rfl, rfl⟩ := o1_some hp; exact un_sound r ho hv h1
  ·cases hp
 case convert src dst y =>
  split at hp
  ·rename_i v hv; obtain ⟨u, h1, rfl, rfl⟩ := o1_some hp; exact conv_sound r ho hv h1
  ·cases hp
 case makeFunc f first caps =>
  split at hp
  ·rename_i l hf hl
   simp only [Option.some.injEq, Prod.mk.injEq] at hp
   obtain ⟨rfl, rfl⟩ := hp
   have hf' := toList_arr hf
   subst hf'
   exact func_sound r ho hl
  ·cases hp
 case fieldAddr ty y f =>
  split at hp
  ·rename_i v hv; obtain ⟨u, h1, rfl, rfl⟩ := o1_some hp; exact fieldAddr_sound r ho hv h1
  ·cases hp
 case field ty y f =>
  split at hp
  ·rename_i v hv; obtain ⟨u, h1, rfl, rfl⟩ := o1_some hp; exact field_sound r ho hv h1
  ·cases hp
 case indexAddr ty y i =>
  split at hp
  ·rename_i v u hv hu; obtain ⟨u, h1, rfl, rfl⟩ := o1_some hp; exact indexAddr_sound r ho hv hu h1
  ·cases hp
 case index ty y i =>
  split at hp
  ·rename_i v u hv hu; obtain ⟨u, h1, rfl, rfl⟩ := o1_some hp; exact index_sound r ho hv hu h1
  ·cases hp
 case extract y i =>
  split at hp
  ·rename_i v hv; obtain ⟨u, h1, rfl, rfl⟩ := o1_some hp; exact extract_sound r ho hv h1
  ·cases hp
 case call c =>
  obtain ⟨callee, args, argTypes⟩ := c
  split at hp
  ·rename_i b hcal
   simp only at hcal hp
   subst hcal
   unfold plBuiltin at hp
   split at hp
   ·rename_i y ty ha ht
    have ha' := toList_arr ha; have ht' := toList_arr ht
    subst ha' ht'
    split at hp
    ·rename_i v hv
     obtain ⟨u, h1, rfl, rfl⟩ := o1_some hp; exact len_sound r ho hv h1
    ·cases hp
   ·rename_i y z ty ty' ha ht
    have ha' := toList_arr ha; have ht' := toList_arr ht
    subst ha' ht'
    split at hp
    ·rename_i v u hv hu
     split at hp
     ·split at hp
      ·rename_i e; subst e
       obtain ⟨u, h1, rfl⟩ := o2_some hp; exact append_sound r ho hv hu h1
      ·cases hp
     ·obtain ⟨u, h1, rfl, rfl⟩ := o1_some hp; exact max_sound r ho hv hu h1
    ·cases hp
   ·cases hp
  ·cases hp
 all_goals cases hp
def rdT (o : Op) : List Nat := o.operands.toList.filterMap fun | .tmp i => some i | _ => none
def top : AV → List Nat
 | .one (.ptr b _) => [b]
 | .one (.row b _) => [b]
 | .one (.ep b _ _ _ _) => [b]
 | .one (.mp b) => [b]
 | _ => []
def rdO : Op → List Operand
 | .load _ x => [x]
 | .store _ p _ => [p]
 | .indexAddr _ x _ => [x]
 | .slice _ x _ _ _ => [x]
 | .lookup _ m _ _ => [m]
 | .mapUpdate _ m _ _ => [m]
 | .insert _ m _ _ => [m]
 | .call c => c.args.toList
 | _ => []
def rdB (t : Nat → Option AV) (o : Op) : List Nat := (rdO o).flatMap fun x => match evT t x with | some v => top v | none => []
theorem evT_local {t' : Nat → Option AV} {l : List Operand} (h : ∀ i ∈ l.filterMap (fun x : Operand => match x with | .tmp i => some i | _ => none), t' i = t i) {x : Operand} (hx : x ∈ l) : evT t' x = evT t x := by
 cases x with
 | tmp i => exact h i (List.mem_filterMap.2 ⟨_, hx, rfl⟩)
 | _ => rfl
theorem evParts_local {t' : Nat → Option AV} : ∀ {l : List (Nat × Operand)}, (∀ p ∈ l, evT t' p.2 = evT t p.2) → evParts t' l = evParts t l
 | [], _ => rfl
 | p :: r, h => by simp only [evParts]; rw [h p (by simp), evParts_local (l := r) fun q hq => h q (by simp [hq])]
theorem evCaps_local {t' : Nat → Option AV} : ∀ {l : List Operand}, (∀ p ∈ l, evT t' p = evT t p) → evCaps t' l = evCaps t l
 | [], _ => rfl
 | p :: r, h => by simp only [evCaps]; rw [h p (by simp), evCaps_local (l := r) fun q hq => h q (by simp [hq])]
theorem readAt_local {h' : Nat → Option AB} {v : AV} (hb : ∀ b ∈ top v, h' b = h b) : readAt h' v = readAt h v := by
 cases v with
 | one c => cases c <;> simp only [readAt, top, List.mem_singleton, forall_eq] at hb ⊢ <;> rw [hb]
 | _ => rfl
theorem plStore_local {h' : Nat → Option AB} {ty : Nat} {v x : AV} (hb : ∀ b ∈ top v, h' b = h b) : plStore P h' ty v x = plStore P h ty v x := by
 unfold plStore
 cases v with
 | one c => cases c <;> simp only [top, List.mem_singleton, forall_eq] at hb ⊢ <;> rw [hb]
 | _ => rfl
theorem plIndexAddr_local {h' : Nat → Option AB} {ty : Nat} {v x : AV} (hb : ∀ b ∈ top v, h' b = h b) : plIndexAddr P h' ty v x = plIndexAddr P h ty v x := by
 unfold plIndexAddr
 cases v with
 | one c =>
  cases c with
  | row b n => simp only; rw [hb b (by simp [top])]
  | f c => cases c <;> rfl
  | _ => rfl
 | _ => rfl
theorem elemsOf_local {h' : Nat → Option AB} {v : AV} (hb : ∀ b ∈ top v, h' b = h b) : elemsOf h' v = elemsOf h v := by
 cases v with
 | one c =>
  cases c with
  | row b n => simp only [elemsOf]; rw [hb b (by simp [top])]
  | f c =>
   cases c with
   | v x => unfold elemsOf; split <;> simp_all
   | _ => rfl
  | _ => rfl
 | _ => rfl
theorem plAppend_local {h' : Nat → Option AB} {ty : Nat} {v x : AV} (hb : ∀ b ∈ top v, h' b = h b) (hb2 : ∀ b ∈ top x, h' b = h b) : plAppend P h' ty v x = plAppend P h ty v x := by
 unfold plAppend
 rw [elemsOf_local hb2]
 cases v with
 | one c =>
  cases c with
  | row b n =>
   cases tyOf P ty with
   | none => rfl
   | some ti =>
    cases elemsOf h x with
    | none => rfl
    | some em => simp only; rw [hb b (by simp [top])]
  | _ => rfl
 | _ => rfl
theorem pl0_local {t' : Nat → Option AV} {h' : Nat → Option AB} {nid : Nat} {o : Op} (ht : ∀ i ∈ rdT o, t' i = t i) (hh : ∀ b ∈ rdB t o, h' b = h b) : pl0 P t' h' nid o = pl0 P t h nid o := by
 have hev : ∀ x ∈ o.operands.toList, evT t' x = evT t x := fun x hx => evT_local ht hx
 have htop : ∀ x ∈ rdO o, ∀ v, evT t x = some v → ∀ b ∈ top v, h' b = h b := fun x hx v hv b hb => hh b (List.mem_flatMap.2 ⟨x, hx, by rw [hv]; exact hb⟩)
 cases o <;> simp only [Op.operands, rdO, List.mem_cons, List.not_mem_nil, or_false, forall_eq, forall_eq_or_imp, pl0] at hev htop ⊢ <;> try rfl
 case move x => rw [hev]
 case assign x => rw [hev]
 case pick c x y => rw [hev.1, hev.2.1, hev.2.2]
 case box ty x => rw [hev]
 case build ty parts => rw [evParts_local fun p hp => hev p.2 (by simp; exact ⟨p.1, by simpa using hp⟩)]
 case buildSlice ty len parts => rw [evParts_local fun p hp => hev p.2 (by simp; exact ⟨p.1, by simpa using hp⟩)]
 case load ty x =>
  rw [hev]
  cases hx : evT t x with
  | none => rfl
  | some v => simp only [plLoad, readAt_local (htop v hx)]
 case store ty p x =>
  rw [hev.1, hev.2]
  cases hp : evT t p with
  | none => rfl
  | some pv =>
   cases hx : evT t x with
   | none => rfl
   | some v => simp only [plStore_local (htop pv hp)]
 case nilCheck x => rw [hev]
 case binOp op ty x y ty2 => rw [hev.1, hev.2]
 case unOp op ty x => rw [hev]
 case convert s d x => rw [hev]
 case makeFunc f first caps =>
  have : evCaps t' caps.toList = evCaps t caps.toList := evCaps_local fun p hp => hev p (by simp at hp ⊢; exact .inr hp)
  rw [this]
 case fieldAddr ty x f => rw [hev]
 case field ty x f => rw [hev]
 case indexAddr ty x i =>
  rw [hev.1, hev.2]
  cases hp : evT t x with
  | none => rfl
  | some pv =>
   cases hx : evT t i with
   | none => rfl
   | some v => simp only [plIndexAddr_local (htop pv hp)]
 case index ty x i => rw [hev.1, hev.2]
 case extract x i => rw [hev]
 case call c =>
  obtain ⟨callee, args, argTypes⟩ := c
  cases callee with
  | builtin b =>
   have hev' : ∀ x ∈ args.toList, evT t' x = evT t x := fun x hx => hev x (by simpa [Call.operands] using hx)
   have htop' : ∀ x ∈ args.toList, ∀ v, evT t x = some v → ∀ b ∈ top v, h' b = h b := fun x hx => htop x hx
   simp only
   unfold plBuiltin
   split
   ·rename_i y ty ha hty
    rw [ha] at hev' htop'
    rw [hev' y (by simp)]
   ·rename_i y z ty ty' ha hty
    rw [ha] at hev' htop'
    rw [hev' y (by simp), hev' z (by simp)]
    cases hp : evT t y with
    | none => rfl
    | some pv =>
     cases hx : evT t z with
     | none => rfl
     | some v => simp only [plAppend_local (htop' y (by simp) pv hp) (htop' z (by simp) v hx)]
   ·rfl
  | _ => rfl
end
def plBuiltinO (P : Program) (t : Nat → Option AV) (h : Nat → Option AB) (nid : Nat) (b : Builtin) : List Operand → List Nat → Option (Option AV × List (Nat × AB))
 | [x], [ty] => match b, evT t x with
  | .len, some v => o1 (plLenM P h ty v)
  | _, _ => none
 | [x, y], [ty, ty'] => match evT t x, evT t y with
  | some v, some u => (match b with
   | .append => if ty = ty' then o2 (plAppendO P h nid ty v u) else none
   | .delete => (match plDelete P h ty v u with | some ws => some (some (.tup []), ws) | none => none)
   | _ => none)
  | _, _ => none
 | _, _ => none
def plO (P : Program) (t : Nat → Option AV) (h : Nat → Option AB) (nid : Nat) : Op → Option (Option AV × List (Nat × AB))
 | .load ty x => match evT t x with | some v => o2 (plLoadO P h nid ty v) | none => none
 | .store ty p x => match evT t p, evT t x with | some pv, some v => o3 (plStoreO P h ty pv v) | _, _ => none
 | .slice ty x lo hi mx => match mx with
  | none => (match evT t x, evO t lo, evO t hi with | some v, some l, some u => o2 (plSub P h nid ty v l u) | _, _, _ => none)
  | some _ => none
 | .makeSlice ty x c => match evT t x, evT t c with | some v, some u => o2 (plMake P nid ty v u) | _, _ => none
 | .makeMap ty r => match r with | none => o2 (plMakeMap P nid ty) | some _ => none
 | .lookup ty m k ok => match evT t m, evT t k with | some v, some u => o2 (plLookup P h nid ty ok v u) | _, _ => none
 | .mapUpdate ty m k x => match evT t m, evT t k, evT t x with | some v, some u, some z => o3 (plUpdate P h ty v u z) | _, _, _ => none
 | .insert ty m k x => match evT t m, evT t k, evT t x with | some v, some u, some z => o3 (plUpdate P h ty v u z) | _, _, _ => none
 | .binOp op ty x y _ => match evT t x, evT t y with | some v, some u => o1 (plBinO P op ty v u) | _, _ => none
 | .call c => match c.callee with
  | .builtin b => plBuiltinO P t h nid b c.args.toList c.argTypes.toList
  | _ => none
 | _ => none
def pl (P : Program) (t : Nat → Option AV) (h : Nat → Option AB) (nid : Nat) (o : Op) : Option (Option AV × List (Nat × AB)) :=
 match pl0 P t h nid o with
 | some r => some r
 | none => plO P t h nid o
section
variable {P : Program} {fr : Fr} {E : En} {t : Nat → Option AV} {h : Nat → Option AB} {nx : Nat} {a : Act} {w : World}
theorem plO_sound (r : R fr E t h nx a w) {o : Oper} {nid : Nat} (hn : nx ≤ nid) (hb : h nid = none) {x : Option AV} {ws : List (Nat × AB)} (hp : plO P t h nid o.op = some (x, ws)) : Sound P E h a w o x ws := by
 cases ho : o.op <;> rw [ho] at hp <;> simp only [plO] at hp
 case load ty y =>
  split at hp
  ·rename_i v hv; obtain ⟨u, h1, rfl⟩ := o2_some hp; exact loadO_sound r ho hv hn hb h1
  ·cases hp
 case store ty q y =>
  split at hp
  ·rename_i v u hv hu; obtain ⟨h1, rfl⟩ := o3_some hp; exact storeO_sound r ho hv hu h1
  ·cases hp
 case slice ty y lo hi mx =>
  split at hp
  ·split at hp
   ·rename_i v l u hv hl hu; obtain ⟨q, h1, rfl⟩ := o2_some hp; exact sub_sound r ho hv hl hu hn hb h1
   ·cases hp
  ·cases hp
 case makeSlice ty y c =>
  split at hp
  ·rename_i v u hv hu; obtain ⟨q, h1, rfl⟩ := o2_some hp; exact make_sound r ho hv hu hn hb h1
  ·cases hp
 case makeMap ty rs =>
  split at hp
  ·obtain ⟨q, h1, rfl⟩ := o2_some hp; exact makeMap_sound r ho hn hb h1
  ·cases hp
 case lookup ty m k ok =>
  split at hp
  ·rename_i v u hv hu; obtain ⟨q, h1, rfl⟩ := o2_some hp; exact lookup_sound r ho hv hu hn hb h1
  ·cases hp
 case mapUpdate ty m k y =>
  split at hp
  ·rename_i v u z hv hu hz; obtain ⟨h1, rfl⟩ := o3_some hp; exact update_sound r (.inl ho) hv hu hz h1
  ·cases hp
 case insert ty m k y =>
  split at hp
  ·rename_i v u z hv hu hz; obtain ⟨h1, rfl⟩ := o3_some hp; exact update_sound r (.inr ho) hv hu hz h1
  ·cases hp
 case binOp op ty y z ty2 =>
  split at hp
  ·rename_i v u hv hu; obtain ⟨q, h1, rfl, rfl⟩ := o1_some hp; exact binO_sound r ho hv hu h1
  ·cases hp
 case call c =>
  obtain ⟨callee, args, argTypes⟩ := c
  split at hp
  ·rename_i b hcb
   simp only at hcb; subst hcb
   simp only at hp
   unfold plBuiltinO at hp
   split at hp
   ·rename_i y ty ha hty
    have e1 := toList_arr ha; have e2 := toList_arr hty
    subst e1; subst e2
    split at hp
    ·rename_i v hv; obtain ⟨q, h1, rfl, rfl⟩ := o1_some hp; exact lenM_sound r ho hv h1
    ·cases hp
   ·rename_i y z ty ty' ha hty
    have e1 := toList_arr ha; have e2 := toList_arr hty
    subst e1; subst e2
    split at hp
    ·rename_i v u hv hu
     split at hp
     ·split at hp
      ·rename_i e; subst e
       obtain ⟨q, h1, rfl⟩ := o2_some hp; exact appendO_sound r ho hv hu hn hb h1
      ·cases hp
     ·split at hp
      ·rename_i ws' hws
       simp only [Option.some.injEq, Prod.mk.injEq] at hp
       obtain ⟨rfl, rfl⟩ := hp
       exact delete_sound r ho hv hu hws
      ·cases hp
     ·cases hp
    ·cases hp
   ·cases hp
  ·cases hp
 all_goals cases hp
theorem pl_sound (r : R fr E t h nx a w) {o : Oper} {nid : Nat} (hn : nx ≤ nid) (hb : h nid = none) {x : Option AV} {ws : List (Nat × AB)} (hp : pl P t h nid o.op = some (x, ws)) : Sound P E h a w o x ws := by
 unfold pl at hp
 split at hp
 ·rename_i q hq
  simp only [Option.some.injEq] at hp; subst hp
  exact pl0_sound r hn hb hq
 ·exact plO_sound r hn hb hp
section
variable {h' : Nat → Option AB} {v u : AV}
theorem plPlace_local (hb : ∀ b ∈ top v, h' b = h b) : plPlace h' v = plPlace h v := by
 cases v with
 | one c => cases c <;> simp only [top, List.mem_singleton, forall_eq] at hb <;> first | rfl | simp only [plPlace, hb]
 | _ => rfl
theorem srcCells_local (hb : ∀ b ∈ top v, h' b = h b) : srcCells h' v = srcCells h v := by
 unfold srcCells
 rw [elemsOf_local hb]
 cases v with
 | one c => cases c <;> simp only [top, List.mem_singleton, forall_eq] at hb <;> first | rfl | simp only [hb]
 | _ => rfl
theorem plSub_local {nid ty : Nat} {l q : Option Int} (hb : ∀ b ∈ top v, h' b = h b) : plSub P h' nid ty v l q = plSub P h nid ty v l q := by
 cases v with
 | one c =>
  cases c with
  | row b n => simp only [top, List.mem_singleton, forall_eq] at hb; simp only [plSub, hb]
  | f c => cases c with
   | v x => cases x <;> rfl
   | fz => rfl
  | _ => rfl
 | _ => rfl
theorem plLookup_local {nid ty : Nat} {ok : Bool} (hb : ∀ b ∈ top v, h' b = h b) : plLookup P h' nid ty ok v u = plLookup P h nid ty ok v u := by
 unfold plLookup
 cases v with
 | one c =>
  cases c with
  | mp b => simp only [top, List.mem_singleton, forall_eq] at hb; simp only [hb]
  | f c => cases c with
   | v x => cases x with
    | map q => cases q <;> rfl
    | _ => rfl
   | fz => rfl
  | _ => rfl
 | _ => rfl
theorem plUpdate_local {ty : Nat} {z : AV} (hb : ∀ b ∈ top v, h' b = h b) : plUpdate P h' ty v u z = plUpdate P h ty v u z := by
 unfold plUpdate
 cases v with
 | one c => cases c <;> simp only [top, List.mem_singleton, forall_eq] at hb <;> first | rfl | simp only [hb]
 | _ => rfl
theorem plDelete_local {ty : Nat} (hb : ∀ b ∈ top v, h' b = h b) : plDelete P h' ty v u = plDelete P h ty v u := by
 unfold plDelete
 cases v with
 | one c => cases c <;> simp only [top, List.mem_singleton, forall_eq] at hb <;> first | rfl | simp only [hb]
 | _ => rfl
theorem plLenM_local {ty : Nat} (hb : ∀ b ∈ top v, h' b = h b) : plLenM P h' ty v = plLenM P h ty v := by
 cases v with
 | one c => cases c <;> simp only [top, List.mem_singleton, forall_eq] at hb <;> first | rfl | simp only [plLenM, hb]
 | _ => rfl
theorem plAppendO_local {nid ty : Nat} (hb : ∀ b ∈ top v, h' b = h b) (hc : ∀ b ∈ top u, h' b = h b) : plAppendO P h' nid ty v u = plAppendO P h nid ty v u := by
 unfold plAppendO
 rw [srcCells_local hc]
 cases v with
 | one c =>
  cases c with
  | row b n =>
   simp only [top, List.mem_singleton, forall_eq] at hb
   cases tyOf P ty with
   | none => rfl
   | some ti =>
    cases srcCells h u with
    | none => rfl
    | some kc => simp only [hb]
  | _ => rfl
 | _ => rfl
end
theorem evO_local {t' : Nat → Option AV} {x : Option Operand} (h : ∀ y ∈ x.toList, evT t' y = evT t y) : evO t' x = evO t x := by
 cases x with
 | none => rfl
 | some y => simp only [evO, h y (by simp)]
theorem plO_local {t' : Nat → Option AV} {h' : Nat → Option AB} {nid : Nat} {o : Op} (ht : ∀ i ∈ rdT o, t' i = t i) (hh : ∀ b ∈ rdB t o, h' b = h b) : plO P t' h' nid o = plO P t h nid o := by
 have hev : ∀ x ∈ o.operands.toList, evT t' x = evT t x := fun x hx => evT_local ht hx
 have htop : ∀ x ∈ rdO o, ∀ v, evT t x = some v → ∀ b ∈ top v, h' b = h b := fun x hx v hv b hb => hh b (List.mem_flatMap.2 ⟨x, hx, by rw [hv]; exact hb⟩)
 cases o <;> simp only [Op.operands, rdO, List.mem_cons, List.not_mem_nil, or_false, forall_eq, forall_eq_or_imp, plO] at hev htop ⊢ <;> try rfl
 case load ty x =>
  rw [hev]
  cases hx : evT t x with
  | none => rfl
  | some v => simp only [plLoadO, plPlace_local (htop v hx)]
 case store ty p x =>
  rw [hev.1, hev.2]
  cases hp : evT t p with
  | none => rfl
  | some pv => cases evT t x with
   | none => rfl
   | some v => simp only [plStoreO, plPlace_local (htop pv hp)]
 case slice ty x lo hi mx =>
  have e1 : evT t' x = evT t x := hev x (by simp)
  have e2 : evO t' lo = evO t lo := evO_local fun y hy => hev y (by simp at hy ⊢; exact .inr (.inl hy))
  have e3 : evO t' hi = evO t hi := evO_local fun y hy => hev y (by simp at hy ⊢; exact .inr (.inr (.inl hy)))
  rw [e1, e2, e3]
  cases hx : evT t x with
  | none => rfl
  | some v => cases mx with
   | some _ => rfl
   | none => cases evO t lo with
    | none => rfl
    | some l => cases evO t hi with
     | none => rfl
     | some u => simp only [plSub_local (htop v hx)]
 case makeSlice ty x c => rw [hev.1, hev.2]
 case lookup ty m k ok =>
  rw [hev.1, hev.2]
  cases hx : evT t m with
  | none => rfl
  | some v => cases evT t k with
   | none => rfl
   | some u => simp only [plLookup_local (htop v hx)]
 case mapUpdate ty m k x =>
  rw [hev.1, hev.2.1, hev.2.2]
  cases hx : evT t m with
  | none => rfl
  | some v => cases evT t k with
   | none => rfl
   | some u => cases evT t x with
    | none => rfl
    | some z => simp only [plUpdate_local (htop v hx)]
 case insert ty m k x =>
  rw [hev.1, hev.2.1, hev.2.2]
  cases hx : evT t m with
  | none => rfl
  | some v => cases evT t k with
   | none => rfl
   | some u => cases evT t x with
    | none => rfl
    | some z => simp only [plUpdate_local (htop v hx)]
 case binOp op ty x y ty2 => rw [hev.1, hev.2]
 case call c =>
  obtain ⟨callee, args, argTypes⟩ := c
  cases callee with
  | builtin b =>
   have hev' : ∀ x ∈ args.toList, evT t' x = evT t x := fun x hx => hev x (by simpa [Call.operands] using hx)
   have htop' : ∀ x ∈ args.toList, ∀ v, evT t x = some v → ∀ b ∈ top v, h' b = h b := fun x hx => htop x hx
   simp only
   unfold plBuiltinO
   split
   ·rename_i y ty ha hty
    rw [ha] at hev' htop'
    rw [hev' y (by simp)]
    cases hp : evT t y with
    | none => cases b <;> rfl
    | some pv => cases b <;> first | rfl | simp only [plLenM_local (htop' y (by simp) pv hp)]
   ·rename_i y z ty ty' ha hty
    rw [ha] at hev' htop'
    rw [hev' y (by simp), hev' z (by simp)]
    cases hp : evT t y with
    | none => rfl
    | some pv =>
     cases hx : evT t z with
     | none => rfl
     | some v => simp only [plAppendO_local (htop' y (by simp) pv hp) (htop' z (by simp) v hx), plDelete_local (htop' y (by simp) pv hp)]
   ·rfl
  | _ => rfl
theorem pl_local {t' : Nat → Option AV} {h' : Nat → Option AB} {nid : Nat} {o : Op} (ht : ∀ i ∈ rdT o, t' i = t i) (hh : ∀ b ∈ rdB t o, h' b = h b) : pl P t' h' nid o = pl P t h nid o := by
 unfold pl
 rw [pl0_local ht hh, plO_local ht hh]
end
end Go.Abs
set_option linter.unusedVariables false
set_option linter.unusedSimpArgs false
namespace Go.Abs
open Go.RowKit
structure Rec where
 dst : Option Nat
 val : Option AV
 ws : List (Nat × AB)
 rt : List Nat
 rb : List Nat
 fr : List Nat
def Rec.appT (r : Rec) (t : Nat → Option AV) : Nat → Option AV := fun i => if r.dst = some i then r.val else t i
def Rec.appH (r : Rec) (h : Nat → Option AB) : Nat → Option AB := ups h r.ws
def Good (P : Program) (nt nx : Nat) (ops : Array Oper) (o : Oper) (rc : Rec) (t : Nat → Option AV) (h : Nat → Option AB) : Prop :=
 rc.dst = o.dst ∧ (∀ d, o.dst = some d → d < nt) ∧ ∀ (t' : Nat → Option AV) (h' : Nat → Option AB), (∀ i ∈ rc.rt, t' i = t i) → (∀ b ∈ rc.rb, h' b = h b) → (∀ b ∈ rc.fr, h' b = none ∧ nx ≤ b) →
  ∀ (fr : Fr) (E : En) (a : Act) (w : World), fr.nt = nt → R fr E t' h' nx a w → ∀ (K : Act → World → Prop) (Q : Exit → Act → World → Prop),
   (∀ E' v w', Upd E h' w (rc.ws.map (·.1)) E' (ups h' rc.ws) w' → (∀ y, rc.val = some y → Rv w' E' y v) → K (a.put o.dst v) w') →
   if Region.wanted o (yielded ops a.tmps) = true then o.wp P a w K Q else K (a.put o.dst undef) w
section
variable {P : Program} {nt nx : Nat} {ops : Array Oper} {o : Oper} {rc : Rec} {t : Nat → Option AV} {h : Nat → Option AB}
theorem Good.step (g : Good P nt nx ops o rc t h) {t' : Nat → Option AV} {h' : Nat → Option AB} (ht : ∀ i ∈ rc.rt, t' i = t i) (hh : ∀ b ∈ rc.rb, h' b = h b) (hf : ∀ b ∈ rc.fr, h' b = none ∧ nx ≤ b)
  {fr : Fr} {E : En} {a : Act} {w : World} (hn : fr.nt = nt) (r : R fr E t' h' nx a w) (K : Act → World → Prop) (Q : Exit → Act → World → Prop) (hK : ∀ E' a' w', R fr E' (rc.appT t') (rc.appH h') nx a' w' → K a' w') :
  if Region.wanted o (yielded ops a.tmps) = true then o.wp P a w K Q else K (a.put o.dst undef) w := by
 obtain ⟨hd, hnt, g⟩ := g
 refine g t' h' ht hh hf fr E a w hn r K Q fun E' v w' u hv => hK E' _ w' ?_
 have r' := r.upd u
 have hft : ∀ (hx : rc.val = none ∨ o.dst = none) (i : Nat) (x : AV), rc.appT t' i = some x → t' i = some x ∧ o.dst ≠ some i := fun hx i x hi => by
  unfold Rec.appT at hi
  rw [hd] at hi
  split at hi
  ·rename_i e
   rcases hx with hx | hx
   ·rw [hx] at hi; cases hi
   ·rw [hx] at e; cases e
  ·rename_i e; exact ⟨hi, e⟩
 cases hval : rc.val with
 | none => exact r'.forget v (hft (.inl hval))
 | some y =>
  cases hdst : o.dst with
  | none => rw [← hdst]; exact r'.forget v (hft (.inr hdst))
  | some d =>
   have := r'.put (d := d) (by rw [hn]; exact hnt d hdst) (hv y hval)
   have e : rc.appT t' = up t' d y := by
    funext i
    simp only [Rec.appT, up, hd, hdst, hval, Option.some.injEq]
   rw [e]; exact this
def gRd (ops : Array Oper) (o : Oper) : List Nat := match o.guard with
 | none => []
 | some p => match (ops[p.1]?).bind (·.dst) with | some d => [d] | none => []
def gOf (ops : Array Oper) (t : Nat → Option AV) (o : Oper) : Option Bool := match o.guard with
 | none => some true
 | some p => match (ops[p.1]?).bind (·.dst) with
  | some d => (match t d with | some (.one (.f (.v (.bool b)))) => some (b == p.2) | _ => none)
  | none => none
theorem gOf_sound {fr : Fr} {E : En} {a : Act} {w : World} (r : R fr E t h nx a w) {g : Bool} (hg : gOf ops t o = some g) : Region.wanted o (yielded ops a.tmps) = g := by
 unfold gOf at hg
 unfold Region.wanted
 split at hg
 ·rename_i e
  simp only [e]; simpa using hg
 ·rename_i p e
  simp only [e]
  split at hg
  ·rename_i d hd
   split at hg
   ·rename_i b hb
    injection hg with hg; subst hg
    obtain ⟨v, h1, h2⟩ := r.tmps d _ hb
    have := h2.val_inv
    subst this
    have hy : yielded ops a.tmps p.1 = some b := by
     unfold yielded
     simp [hd, Array.getD_eq_getD_getElem?, h1]
    rw [hy]
    cases b <;> cases p.2 <;> rfl
   ·cases hg
  ·cases hg
theorem gOf_local {t' : Nat → Option AV} (ht : ∀ i ∈ gRd ops o, t' i = t i) : gOf ops t' o = gOf ops t o := by
 unfold gOf
 unfold gRd at ht
 cases hg : o.guard with
 | none => rfl
 | some p =>
  rw [hg] at ht
  simp only at ht ⊢
  cases hd : (ops[p.1]?).bind (·.dst) with
  | none => rfl
  | some d => rw [hd] at ht; simp only at ht ⊢; rw [ht d (by simp)]
theorem good_op {nid : Nat} (hd : ∀ d, o.dst = some d → d < nt) (hg : gOf ops t o = some true) {x : Option AV} {ws : List (Nat × AB)} (hp : pl P t h nid o.op = some (x, ws)) :
  Good P nt nx ops o ⟨o.dst, x, ws, gRd ops o ++ rdT o.op, rdB t o.op, [nid]⟩ t h := by
 refine ⟨rfl, hd, fun t' h' ht hh hf fr E a w hn r K Q hK => ?_⟩
 have h1 : gOf ops t' o = some true := by rw [gOf_local fun i hi => ht i (by simp [hi])]; exact hg
 have h2 : pl P t' h' nid o.op = some (x, ws) := by rw [pl_local (fun i hi => ht i (by simp [hi])) hh]; exact hp
 rw [if_pos (gOf_sound r h1)]
 obtain ⟨hf1, hf2⟩ := hf nid (by simp)
 obtain ⟨res, w', E', hrun, hres, hu⟩ := pl_sound r hf2 hf1 h2
 unfold Oper.wp
 rw [hrun]
 rcases hres with ⟨v, rfl, hv⟩ | ⟨rfl, hx⟩
 ·exact hK E' v w' hu hv
 ·exact hK E' undef w' hu (fun y hy => by simp only at hy; rw [hx] at hy; cases hy)
theorem good_skip (hd : ∀ d, o.dst = some d → d < nt) (hg : gOf ops t o = some false) : Good P nt nx ops o ⟨o.dst, none, [], gRd ops o, [], []⟩ t h := by
 refine ⟨rfl, hd, fun t' h' ht hh hf fr E a w hn r K Q hK => ?_⟩
 have h1 : gOf ops t' o = some false := by rw [gOf_local fun i hi => ht i (by simpa using hi)]; exact hg
 rw [if_neg (by rw [gOf_sound r h1]; simp)]
 exact hK E undef w (Upd.refl E h' w) (fun y hy => by cases hy)
def evArgs (t : Nat → Option AV) : List Operand → Option (List AV)
 | [] => some []
 | x :: r => match evT t x, evArgs t r with | some v, some l => some (v :: l) | _, _ => none
theorem evArgs_sound {fr : Fr} {E : En} {a : Act} {w : World} (r : R fr E t h nx a w) : ∀ {xs : List Operand} {l : List AV}, evArgs t xs = some l → All2 (Rv w E) l (xs.map a.eval)
 | [], l, h => by simp only [evArgs, Option.some.injEq] at h; subst h; exact All2.nil _
 | x :: xs, l, h => by
  unfold evArgs at h
  split at h
  ·rename_i v l' hv hl
   injection h with h; subst h
   exact All2.cons (ev_sound r hv) (evArgs_sound r hl)
  ·cases h
theorem evArgs_local {t' : Nat → Option AV} : ∀ {l : List Operand}, (∀ p ∈ l, evT t' p = evT t p) → evArgs t' l = evArgs t l
 | [], _ => rfl
 | p :: r, h => by simp only [evArgs]; rw [h p (by simp), evArgs_local (l := r) fun q hq => h q (by simp [hq])]
theorem enter_run {fid : FuncId} (he : Enters P fid) (args : Array Value) (w : World) : (callFunc fid args).run P w = .ok (.enter fid args) w := by
 obtain ⟨fn, h1, h2, h3⟩ := he
 unfold callFunc
 simp only [Sem.run_bind, run_program, Result.andThen_ok, h1, h2, h3, Bool.false_eq_true, if_false, Sem.run_pure]
theorem ups_zip {α : Type} : ∀ (ids : List Nat) (l : List α) (h : Nat → Option α), ids.Nodup → ids.length = l.length → (∀ (j : Nat) (b : Nat) (x : α), ids[j]? = some b → l[j]? = some x → ups h (ids.zip l) b = some x) ∧ ∀ b, b ∉ ids → ups h (ids.zip l) b = h b
 | [], l, h, hn, hl => ⟨fun j b x hj => by simp at hj, fun b hb => by simp [ups]⟩
 | i :: ids, [], h, hn, hl => by simp at hl
 | i :: ids, y :: l, h, hn, hl => by
  rw [List.nodup_cons] at hn
  obtain ⟨h1, h2⟩ := ups_zip ids l (up h i y) hn.2 (by simpa using hl)
  refine ⟨fun j b x hj hx => ?_, fun b hb => ?_⟩
  ·cases j with
   | zero =>
    simp at hj hx
    subst hj hx
    simp only [List.zip_cons_cons, ups]
    rw [h2 i hn.1, up_at]
   | succ j => simpa [ups] using h1 j b x (by simpa using hj) (by simpa using hx)
  ·simp only [List.mem_cons, not_or] at hb
   simp only [List.zip_cons_cons, ups]
   rw [h2 b hb.2, up_out _ _ (fun e => hb.1 e.symm)]
def nm (ids : List Nat) : Nat → Nat := fun j => ids.getD j 0
theorem good_call {f : Operand} {args : Array Operand} {tys : Array TypeId} (ho : o.op = .call ⟨.value f, args, tys⟩) (hd : ∀ d, o.dst = some d → d < nt) (hg : gOf ops t o = some true) {fid : FuncId} {caps : List AC} (hf : evT t f = some (.one (.fn (.func fid) caps)))
  {xs : List AV} (hxs : evArgs t args.toList = some xs) {cargs : List AV} {hs hs' : List AB} {res : AV} (hc : ACall P fid cargs hs res hs') {ids : List Nat} (hnd : ids.Nodup) (hlen : ids.length = hs'.length)
  (hargs : xs ++ caps.map AV.one = cargs.map (·.ren (nm ids))) (hlt : ∀ x ∈ cargs, x.lt hs.length = true) (hboxes : ∀ x ∈ hs, x.ltP hs.length) (hold : ∀ j x, hs[j]? = some x → h (nm ids j) = some (x.ren (nm ids))) :
  Good P nt nx ops o ⟨o.dst, some (res.ren (nm ids)), ids.zip (hs'.map (·.ren (nm ids))), gRd ops o ++ rdT o.op, ids.take hs.length, ids.drop hs.length⟩ t h := by
 refine ⟨rfl, hd, fun t' h' ht hh hfr fr E a w hn r K Q hK => ?_⟩
 have h1 : gOf ops t' o = some true := by rw [gOf_local fun i hi => ht i (by simp [hi])]; exact hg
 have hopd : o.op.operands.toList = f :: args.toList := by rw [ho]; simp [Op.operands, Call.operands]
 have hev : ∀ x ∈ o.op.operands.toList, evT t' x = evT t x := fun x hx => evT_local (fun i hi => ht i (by simp only [List.mem_append]; exact .inr hi)) hx
 rw [hopd] at hev
 have hf' : evT t' f = some (.one (.fn (.func fid) caps)) := by rw [hev f (by simp)]; exact hf
 have hxs' : evArgs t' args.toList = some xs := by rw [evArgs_local fun p hp => hev p (by simp at hp ⊢; exact .inr hp)]; exact hxs
 rw [if_pos (gOf_sound r h1)]
 have hle := hc.2.1
 have hnm : ∀ (j b : Nat), ids[j]? = some b → nm ids j = b := fun j b hj => by simp [nm, hj]
 have hfv := ev_sound r hf'
 have hav := evArgs_sound r hxs'
 have hcv : ∃ cv, a.eval f = .func (.func fid) #[] cv ∧ All2 (Rv w E) (caps.map AV.one) cv.toList := by
  generalize a.eval f = fv at hfv
  cases hfv with | one hfv => ?_
  cases hfv with | @fn _ _ vs vals hs hv hr => ?_
  refine ⟨vs, rfl, by simpa using hs, fun j c hj => ?_⟩
  rw [List.getElem?_map] at hj
  obtain ⟨d, hd, rfl⟩ := Option.map_eq_some_iff.1 hj
  exact ⟨vals j, by simpa using hv j d hd, .one (hr j d hd)⟩
 obtain ⟨cv, hfe, hcv⟩ := hcv
 have hz := ups_zip ids (hs'.map (·.ren (nm ids))) h' hnd (by simpa using hlen)
 have hcall := call_upd (h' := ups h' (ids.zip (hs'.map (·.ren (nm ids))))) r hc hnd hlen hnm (fun j x hj => by
   have hjl := (List.getElem?_eq_some_iff.1 hj).1
   have hjb : ids[j]? = some (nm ids j) := by have := List.getElem?_eq_getElem (l := ids) (i := j) (by omega); rw [this, hnm j _ this]
   rw [hh (nm ids j) (List.mem_of_getElem? (i := j) (by simp only; rw [List.getElem?_take_of_lt hjl]; exact hjb))]
   exact hold j x hj)
  (fun j b hj hg => by
   have := hfr b (List.mem_of_getElem? (i := j - hs.length) (by simp only; rw [List.getElem?_drop, ← hj]; congr 1; omega))
   exact ⟨this.2, this.1⟩)
  hlt hboxes (vs := (args.map a.eval) ++ cv) (by rw [← hargs]; simpa using hav.append hcv)
  (fun j x hj => by
   have hjl := (List.getElem?_eq_some_iff.1 hj).1
   have hjb : ids[j]? = some (nm ids j) := by have := List.getElem?_eq_getElem (l := ids) (i := j) (by omega); rw [this, hnm j _ this]
   exact hz.1 j _ _ hjb (by simp [hj]))
  hz.2
 unfold Oper.wp
 have hrun : (execOp a.eval o).run P w = .ok (.enter fid (args.map a.eval ++ cv)) w := by
  unfold execOp
  simp only [ho, resolve, Deferred.ofValue, hfe, Sem.run_bind, Sem.run_pure, Result.andThen_ok, invoke, enter_run hc.1]
  simp [enter_run hc.1]
 rw [hrun]
 refine hcall.mono ?_
 rintro e w' ⟨v, E', rfl, hv, hu⟩
 refine hK E' v w' ?_ (fun y hy => by simp only at hy; injection hy with hy; subst hy; exact hv)
 have hids : (ids.zip (hs'.map (·.ren (nm ids)))).map (·.1) = ids := by
  rw [← List.unzip_fst, List.unzip_zip (by simpa using hlen)]
 simp only
 rw [hids]
 exact hu
end
end Go.Abs
