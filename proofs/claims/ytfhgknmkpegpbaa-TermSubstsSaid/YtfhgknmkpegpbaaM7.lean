/- Part 7 of the base: the walks and plain facts that the statement rests on. -/
import Derived.Test.YtfhgknmkpegpbaaM6
import Derived.Laws.Pointers
import Derived.Laws.Small

set_option linter.unusedVariables false
set_option linter.unusedSimpArgs false
namespace Go.Abs
open Go.RowKit
section
variable {P : Program} {fr : Fr} {E : En} {t : Nat → Option AV} {h : Nat → Option AB} {nx : Nat} {a : Act} {w : World}
def evParts (t : Nat → Option AV) : List (Nat × Operand) → Option (List (Nat × AV))
 | [] => some []
 | p :: r => match evT t p.2, evParts t r with | some x, some l => some ((p.1, x) :: l) | _, _ => none
theorem evParts_sound (r : R fr E t h nx a w) : ∀ {ps : List (Nat × Operand)} {l : List (Nat × AV)}, evParts t ps = some l → All2 (fun (p : Nat × AV) (q : Nat × Value) => q.1 = p.1 ∧ Rv w E p.2 q.2) l (ps.map fun p => (p.1, a.eval p.2))
 | [], l, h => by simp only [evParts, Option.some.injEq] at h; subst h; exact All2.nil _
 | p :: ps, l, h => by
  unfold evParts at h
  split at h
  ·rename_i x l' hx hl
   injection h with h; subst h
   exact All2.cons ⟨rfl, ev_sound r hx⟩ (evParts_sound r hl)
  ·cases h
def plBuild (P : Program) (ty : Nat) (ps : List (Nat × AV)) : Option AV :=
 match tyOf P ty with
 | some ti =>
  match ti.kind with
  | .struct fs => match afill (fun i => (fs[i]?).map (·.2)) (ti.zero.map fun u => .f (.v u)) ps with | some l => some (.agg l) | none => none
  | _ => none
 | none => none
theorem build_sound (r : R fr E t h nx a w) {o : Oper} {ty : Nat} {parts : Array (Nat × Operand)} (ho : o.op = .build ty parts) {ps : List (Nat × AV)} (hps : evParts t parts.toList = some ps) {y : AV} (hy : plBuild P ty ps = some y) : Sound P E h a w o (some y) [] := by
 unfold plBuild at hy
 split at hy
 case h_2 => cases hy
 rename_i ti hti
 split at hy
 case h_2 => cases hy
 rename_i fs hk
 split at hy
 case h_2 => cases hy
 rename_i l hl
 simp only [Option.some.injEq] at hy; subst hy
 obtain ⟨i, d, z, hi, hd, hz, h1, h2, h3, h4, h5⟩ := tyOf_spec hti
 have hall : All2 (Rc w E) (ti.zero.map fun u => AC.f (.v u)) z.cells.toList := by rw [h4] at h5 ⊢; exact All2.vals h5
 rw [hk] at h1
 cases d <;> simp only [kindOf, Option.some.injEq, Option.map_eq_some_iff, reduceCtorEq, and_false, exists_false, TK.struct.injEq] at h1
 rename_i fields
 obtain ⟨l', hf, rfl⟩ := h1
 have hpl := fieldsOf_places hf
 obtain ⟨ov, h6, h7⟩ := afill_sound _ ps _ _ l z.cells (evParts_sound r hps) hall hl
 have hb : P.built ty ((parts.toList.map fun p => (p.1, a.eval p.2))) = some ov := by
  unfold Program.built
  simp only [hi, hd, hz, hpl]
  rw [← h6]
  congr 1
  funext x
  simp
 have hrun := run_build w ty (parts.map fun (i, x) => (i, a.eval x)) ov (by simpa using hb)
 refine Sound.same (v := .agg ov) ?_ (fun y hy => by injection hy with hy; subst hy; exact Rv.ofAll2 h7)
 unfold execOp
 simp only [ho, Sem.run_bind, hrun, Result.andThen_ok, Sem.run_pure]
def plFieldAddr (P : Program) (ty f : Nat) (x : AV) : Option AV :=
 match tyOf P ty with
 | some ti =>
  match ti.kind with
  | .struct fs => match fs[f]? with
   | some q => if q.2.2 = 0 then none else match x with
    | .one (.ptr b off) => some (.one (.ptr b (off + q.2.1)))
    | .one (.ep b n sz i off) => some (.one (.ep b n sz i (off + q.2.1)))
    | .one (.fp l) => some (.one (.fp (l.drop q.2.1)))
    | _ => none
   | none => none
  | _ => none
 | none => none
theorem field_facts {ty : Nat} {ti : TI} (hti : tyOf P ty = some ti) {fs : List (Nat × Nat × Nat)} (hk : ti.kind = .struct fs) {f : Nat} {q : Nat × Nat × Nat} (hq : fs[f]? = some q) :
  ∃ fields fld i, P.underlying ty = some (.struct fields) ∧ fields[f]? = some fld ∧ P.info? fld.type = some i ∧ q = (fld.type, fld.offset, i.size) := by
 obtain ⟨i, d, z, hi, hd, hz, h1, h2, h3, h4, h5⟩ := tyOf_spec hti
 rw [hk] at h1
 cases d <;> simp only [kindOf, Option.some.injEq, Option.map_eq_some_iff, reduceCtorEq, and_false, exists_false, TK.struct.injEq] at h1
 rename_i fields
 obtain ⟨l', hf, rfl⟩ := h1
 obtain ⟨fld, i', h6, h7, h8⟩ := fieldsOf_get hf hq
 exact ⟨fields, fld, i', hd, by simpa using h6, h7, h8⟩
theorem fieldAddr_sound (r : R fr E t h nx a w) {o : Oper} {ty f : Nat} {x : Operand} (ho : o.op = .fieldAddr ty x f) {xv y : AV} (hx : evT t x = some xv) (hy : plFieldAddr P ty f xv = some y) : Sound P E h a w o (some y) [] := by
 unfold plFieldAddr at hy
 split at hy
 case h_2 => cases hy
 rename_i ti hti
 split at hy
 case h_2 => cases hy
 rename_i fs hk
 split at hy
 case h_2 => cases hy
 rename_i q hq
 split at hy
 case isTrue => cases hy
 rename_i hq0
 obtain ⟨fields, fld, i, h1, h2, h3, rfl⟩ := field_facts hti hk hq
 simp only at hq0 hy
 have hxv := ev_sound r hx
 have hrun : ∀ g o', a.eval x = .pointer (some ⟨g, o', none⟩) → (execOp a.eval o).run P w = .ok (.value (.pointer (some ⟨g, o' + fld.offset, none⟩))) w := fun g o' e => by
  unfold execOp
  simp [ho, e, Instr.fieldAt, run_underlying h1, h2, Instr.sureAddr, fieldPlace, sizeOf, typeInfo, h3, hq0, add_lit]
 split at hy
 ·rename_i b off
  simp only [Option.some.injEq] at hy; subst hy
  obtain ⟨g, he, hm⟩ := hxv.ptr_inv
  exact Sound.same (hrun g off he) (fun y hy => by injection hy with hy; subst hy; exact .one (.ptr hm))
 ·rename_i b n sz i' off
  simp only [Option.some.injEq] at hy; subst hy
  obtain ⟨g, c, he, hm⟩ := hxv.ep_inv
  exact Sound.same (hrun g _ he) (fun y hy => by injection hy with hy; subst hy; rw [Nat.add_assoc]; exact .one (.ep hm))
 ·rename_i l
  simp only [Option.some.injEq] at hy; subst hy
  generalize hev : a.eval x = ev at hxv
  cases hxv with | one hxv => ?_
  cases hxv with | @fp _ g off vals hF hcell hr => ?_
  refine Sound.same (hrun g off hev) (fun y hy => ?_)
  injection hy with hy; subst hy
  refine .one (.fp (fun j => vals (fld.offset + j)) (fun hne => hF (fun e => hne (by rw [e]; simp))) (fun j c hj => ?_) (fun j c hj => ?_))
  ·rw [List.getElem?_drop] at hj
   rw [Nat.add_assoc]; exact hcell _ c hj
  ·rw [List.getElem?_drop] at hj; exact hr _ c hj
 ·cases hy
def plField (P : Program) (ty f : Nat) (x : AV) : Option AV :=
 match tyOf P ty, x with
 | some ti, .agg l =>
  match ti.kind with
  | .struct fs => match fs[f]? with
   | some q => match tyOf P q.1 with | some tf => ldv tf l q.2.1 | none => none
   | none => none
  | _ => none
 | _, _ => none
theorem field_sound (r : R fr E t h nx a w) {o : Oper} {ty f : Nat} {x : Operand} (ho : o.op = .field ty x f) {xv y : AV} (hx : evT t x = some xv) (hy : plField P ty f xv = some y) : Sound P E h a w o (some y) [] := by
 unfold plField at hy
 split at hy
 case h_2 => cases hy
 rename_i ti l hti
 split at hy
 case h_2 => cases hy
 rename_i fs hk
 split at hy
 case h_2 => cases hy
 rename_i q hq
 split at hy
 case h_2 => cases hy
 rename_i tf htf
 obtain ⟨fields, fld, i, h1, h2, h3, rfl⟩ := field_facts hti hk hq
 simp only at htf hy
 obtain ⟨vs, hev, hall⟩ := (ev_sound r hx).agg_inv
 have hl := hall.1
 unfold ldv at hy
 cases hka : tf.kind.agg
 ·simp only [hka, Bool.false_eq_true, if_false] at hy
  split at hy
  ·rename_i c hc
   simp only [Option.some.injEq] at hy; subst hy
   obtain ⟨u, h4, h5⟩ := hall.2 _ c hc
   refine Sound.same (v := u) ?_ (fun y hy => by injection hy with hy; subst hy; exact .one h5)
   unfold execOp
   have h6 : vs[fld.offset]? = some u := by simpa using h4
   simp [ho, hev, Instr.field, run_underlying h1, h2, asAgg, part, isAgg_run htf, hka, h6]
  ·cases hy
 ·simp only [hka, if_true] at hy
  split at hy
  ·rename_i hle
   simp only [Option.some.injEq] at hy; subst hy
   refine Sound.same (v := .agg (vs.extract fld.offset (fld.offset + tf.size))) ?_ (fun y hy => ?_)
   ·unfold execOp
    simp [ho, hev, Instr.field, run_underlying h1, h2, asAgg, part, isAgg_run htf, hka, sizeOf_run htf]
   ·injection hy with hy; subst hy
    refine Rv.ofAll2 ?_
    have := (hall.drop fld.offset).take tf.size
    have e : (vs.extract fld.offset (fld.offset + tf.size)).toList = (vs.toList.drop fld.offset).take tf.size := by
     simp [Array.toList_extract, List.extract]
    rw [e]; exact this
  ·cases hy
def plIndexAddr (P : Program) (h : Nat → Option AB) (ty : Nat) (x i : AV) : Option AV :=
 match tyOf P ty, i with
 | some ti, .one (.f (.v (.int _ n))) =>
  match ti.kind with
  | .slice e => match tyOf P e with
   | some te => if 0 ≤ n then match x with
    | .one (.f (.fz sz l)) => if sz = te.size then match l[n.toNat]? with | some c => some (.one (.fp c)) | none => none else none
    | .one (.row b m) => (match h b with | some (.row _ sz l) => if l.length = m ∧ sz = te.size ∧ n.toNat < m then some (.one (.ep b m sz n.toNat 0)) else none | _ => none)
    | _ => none
    else none
   | none => none
  | _ => none
 | _, _ => none
theorem slice_elem {ty : Nat} {ti : TI} (hti : tyOf P ty = some ti) {e : Nat} (hk : ti.kind = .slice e) : P.underlying ty = some (.slice e) := by
 obtain ⟨i, d, z, hi, hd, hz, h1, h2, h3, h4, h5⟩ := tyOf_spec hti
 rw [hk] at h1
 cases d <;> simp only [kindOf, Option.some.injEq, Option.map_eq_some_iff, reduceCtorEq, and_false, exists_false, TK.slice.injEq] at h1
 rw [hd, h1]
theorem indexAddr_sound (r : R fr E t h nx a w) {o : Oper} {ty : Nat} {x i : Operand} (ho : o.op = .indexAddr ty x i) {xv iv y : AV} (hx : evT t x = some xv) (hi : evT t i = some iv) (hy : plIndexAddr P h ty xv iv = some y) : Sound P E h a w o (some y) [] := by
 unfold plIndexAddr at hy
 split at hy
 case h_2 => cases hy
 rename_i ti k n hti
 split at hy
 case h_2 => cases hy
 rename_i e hk
 split at hy
 case h_2 => cases hy
 rename_i te hte
 split at hy
 case isFalse => cases hy
 rename_i hn
 have hu := slice_elem hti hk
 have hiv := (ev_sound r hi).val_inv
 have hxv := ev_sound r hx
 have hrun : ∀ g o' len c, a.eval x = .slice (some ⟨g, o', none⟩) len c → n.toNat < len → (execOp a.eval o).run P w = .ok (.value (.pointer (some ⟨g, o' + n.toNat * te.size, none⟩))) w := fun g o' len c e hlt => by
  unfold execOp
  have : n < (len : Int) := by omega
  simp [ho, e, hiv, Instr.indexAt, asIntOf, run_underlying hu, sizeOf_run hte, hn, this, add_lit]
 split at hy
 ·rename_i sz l
  split at hy
  case isFalse => cases hy
  rename_i hsz
  subst hsz
  split at hy
  case h_2 => cases hy
  rename_i c hc
  simp only [Option.some.injEq] at hy; subst hy
  generalize hev : a.eval x = ev at hxv
  cases hxv with | one hxv => ?_
  cases hxv with | f hxv => ?_
  cases hxv with | fz sz l A cap g off vals h1 h2 h3 h4 h5 h6 h7 => ?_
  have hlt := (List.getElem?_eq_some_iff.1 hc).1
  have hne : l ≠ [] := by intro e; rw [e] at hc; simp at hc
  obtain ⟨hA, hF⟩ := h4 hne
  subst hA
  refine Sound.same (hrun g off _ _ hev hlt) (fun y hy => ?_)
  injection hy with hy; subst hy
  exact .one (.fp (fun j => vals n.toNat j) (fun _ => hF) (fun j u hj => h6 _ c j u hc hj) (fun j u hj => h7 _ c j u hc hj))
 ·rename_i b m
  split at hy
  case h_2 => cases hy
  rename_i ty' sz l hb
  split at hy
  case isFalse => cases hy
  rename_i hcond
  obtain ⟨rfl, hsz, hlt⟩ := hcond
  simp only [Option.some.injEq] at hy; subst hy
  obtain ⟨A, c, he, hm⟩ := hxv.row_inv
  obtain ⟨g, cap, cur, h1, -⟩ := row_elem (r.blk b _ hb) (List.getElem?_eq_getElem hlt)
  rw [hm] at h1
  simp only [Option.some.injEq, Value.slice.injEq, true_and] at h1
  obtain ⟨rfl, rfl⟩ := h1
  have := hrun g 0 _ _ he hlt
  rw [Nat.zero_add, ← hsz] at this
  exact Sound.same this (fun y hy => by injection hy with hy; subst hy; exact .one (.ep hm))
 ·cases hy
end
end Go.Abs
set_option linter.unusedVariables false
set_option linter.unusedSimpArgs false
namespace Go.Abs
open Go.RowKit
section
variable {P : Program} {fr : Fr} {E : En} {t : Nat → Option AV} {h : Nat → Option AB} {nx : Nat} {a : Act} {w : World}
abbrev AV.val (x : Value) : AV := .one (.f (.v x))
theorem Rv.val_ok {x v : Value} (h : Rv w E (.val x) v) : okV x = true := by
 cases h with | one h => cases h with | f h => cases h with | v _ h => exact h
theorem Rv.val {x : Value} (hx : okV x = true) : Rv w E (.val x) x := .one (.f (.v x hx))
def abin (op : BinOp) : Value → Value → Option Value
 | .int k a, .int k' b =>
  if k = k' then match op with
   | .add => some (.int k (k.wrap (a + b)))
   | .sub => some (.int k (k.wrap (a - b)))
   | .mul => some (.int k (k.wrap (a * b)))
   | .eql => some (.bool (decide (a = b)))
   | .neq => some (.bool (decide (a ≠ b)))
   | .lss => some (.bool (decide (a < b)))
   | .leq => some (.bool (decide (a ≤ b)))
   | .gtr => some (.bool (decide (b < a)))
   | .geq => some (.bool (decide (b ≤ a)))
   | _ => none
  else none
 | .string a, .string b => match op with
   | .eql => some (.bool (decide (a.toList = b.toList)))
   | .neq => some (.bool (decide (a.toList ≠ b.toList)))
   | .lss => some (.bool (Op.bytesLess a.toList b.toList))
   | .leq => some (.bool (Op.bytesLess a.toList b.toList || a.toList == b.toList))
   | .gtr => some (.bool !(Op.bytesLess a.toList b.toList || a.toList == b.toList))
   | .geq => some (.bool !(Op.bytesLess a.toList b.toList))
   | _ => none
 | _, _ => none
theorem abin_sound {op : BinOp} {ty : Nat} {xo yo : Operand} {x y z : Value} (hz : abin op x y = some z) : (do eqGuard op ty xo yo x y; binOp op ty x y : Sem Value).run P w = .ok z w ∧ okV z = true := by
 unfold abin at hz
 split at hz
 ·rename_i k a k' b
  split at hz
  case isFalse => cases hz
  rename_i hk; subst hk
  cases op <;> simp only [Option.some.injEq, reduceCtorEq] at hz <;> subst hz <;>
   simp [eqGuard, binOp, Op.intArith, Op.intCmp, okV, bne] <;> rfl
 ·rename_i a b
  cases op <;> simp only [Option.some.injEq, reduceCtorEq] at hz <;> subst hz <;>
   simp [eqGuard, binOp, Op.stringOp, okV] <;> (rw [Bool.eq_iff_iff]; simp)
 ·cases hz
def plBin (P : Program) (op : BinOp) (ty : Nat) : AV → AV → Option AV
 | .one (.f (.v (.bool x))), .one (.f (.v (.bool y))) => match tyOf P ty, op with
  | some ti, .eql => (match ti.kind with | .bool => some (.val (.bool (x == y))) | _ => none)
  | some ti, .neq => (match ti.kind with | .bool => some (.val (.bool (x != y))) | _ => none)
  | _, _ => none
 | .one (.f (.v x)), .one (.f (.v y)) => match abin op x y with | some z => some (.val z) | none => none
 | .one (.ptr _ _), .one (.f (.v (.pointer none))) => match tyOf P ty, op with
  | some ti, .eql => (match ti.kind with | .pointer _ => some (.val (.bool false)) | _ => none)
  | some ti, .neq => (match ti.kind with | .pointer _ => some (.val (.bool true)) | _ => none)
  | _, _ => none
 | _, _ => none
theorem bool_ty {ty : Nat} {ti : TI} (hti : tyOf P ty = some ti) (hk : ti.kind = .bool) : P.underlying ty = some .bool := by
 obtain ⟨i, d, z, hi, hd, hz, h1, h2, h3, h4, h5⟩ := tyOf_spec hti
 rw [hk] at h1
 cases d <;> simp only [kindOf, Option.some.injEq, Option.map_eq_some_iff, reduceCtorEq, and_false, exists_false] at h1
 exact hd
theorem pointer_ty {ty e : Nat} {ti : TI} (hti : tyOf P ty = some ti) (hk : ti.kind = .pointer e) : P.underlying ty = some (.pointer e) := by
 obtain ⟨i, d, z, hi, hd, hz, h1, h2, h3, h4, h5⟩ := tyOf_spec hti
 rw [hk] at h1
 cases d <;> simp only [kindOf, Option.some.injEq, Option.map_eq_some_iff, reduceCtorEq, and_false, exists_false, TK.pointer.injEq] at h1
 rw [hd, h1]
theorem pointee_ty {ty e : Nat} {ti : TI} (hti : tyOf P ty = some ti) (hk : ti.kind = .pointer e) : P.underlying ty = some (.pointer (P.pointee ty)) := by
 have := pointer_ty hti hk
 simp [Program.pointee, this]
theorem int_ty {ty : Nat} {k : IntKind} {ti : TI} (hti : tyOf P ty = some ti) (hk : ti.kind = .int k) : P.underlying ty = some (.int k) := by
 obtain ⟨i, d, z, hi, hd, hz, h1, h2, h3, h4, h5⟩ := tyOf_spec hti
 rw [hk] at h1
 cases d <;> simp only [kindOf, Option.some.injEq, Option.map_eq_some_iff, reduceCtorEq, and_false, exists_false, TK.int.injEq] at h1
 rw [hd, h1]
theorem string_ty {ty : Nat} {ti : TI} (hti : tyOf P ty = some ti) (hk : ti.kind = .string) : P.underlying ty = some .string := by
 obtain ⟨i, d, z, hi, hd, hz, h1, h2, h3, h4, h5⟩ := tyOf_spec hti
 rw [hk] at h1
 cases d <;> simp only [kindOf, Option.some.injEq, Option.map_eq_some_iff, reduceCtorEq, and_false, exists_false] at h1
 exact hd
theorem bin_sound (r : R fr E t h nx a w) {o : Oper} {op : BinOp} {ty ty2 : Nat} {x y : Operand} (ho : o.op = .binOp op ty x y ty2) {xv yv z : AV} (hx : evT t x = some xv) (hy : evT t y = some yv) (hz : plBin P op ty xv yv = some z) : Sound P E h a w o (some z) [] := by
 have hxv := ev_sound r hx
 have hyv := ev_sound r hy
 have hrun : ∀ v, (do eqGuard op ty x y (a.eval x) (a.eval y); binOp op ty (a.eval x) (a.eval y) : Sem Value).run P w = .ok v w → (execOp a.eval o).run P w = .ok (.value v) w := fun v e => by
  unfold execOp
  simp only [ho, Sem.run_bind] at e ⊢
  rw [e]
  rfl
 unfold plBin at hz
 split at hz
 ·rename_i p q
  have e1 := hxv.val_inv
  have e2 := hyv.val_inv
  split at hz
  ·rename_i ti hti
   split at hz
   ·rename_i hk
    simp only [Option.some.injEq] at hz; subst hz
    refine Sound.same (hrun _ ?_) (fun y hy => by injection hy with hy; subst hy; exact .val rfl)
    simp only [e1, e2, Sem.run_bind, eqGuard_at_bool, Sem.run_pure, Result.andThen_ok, run_eql_bool w ty _ _ (bool_ty hti hk)]
   ·cases hz
  ·rename_i ti hti
   split at hz
   ·rename_i hk
    simp only [Option.some.injEq] at hz; subst hz
    refine Sound.same (hrun _ ?_) (fun y hy => by injection hy with hy; subst hy; exact .val rfl)
    simp only [e1, e2, Sem.run_bind, eqGuard_at_bool, Sem.run_pure, Result.andThen_ok, run_neq_bool w ty _ _ (bool_ty hti hk)]
    rfl
   ·cases hz
  ·cases hz
 ·rename_i p q _
  have e1 := hxv.val_inv
  have e2 := hyv.val_inv
  split at hz
  ·rename_i v hv
   simp only [Option.some.injEq] at hz; subst hz
   obtain ⟨h1, h2⟩ := abin_sound (P := P) (w := w) (ty := ty) (xo := x) (yo := y) hv
   rw [← e1, ← e2] at h1
   exact Sound.same (hrun _ h1) (fun y hy => by injection hy with hy; subst hy; exact .val h2)
  ·cases hz
 ·rename_i b off
  obtain ⟨g, e1, hm⟩ := hxv.ptr_inv
  have e2 := hyv.val_inv
  split at hz
  ·rename_i ti hti
   split at hz
   ·rename_i el hk
    simp only [Option.some.injEq] at hz; subst hz
    refine Sound.same (hrun _ ?_) (fun y hy => by injection hy with hy; subst hy; exact .val rfl)
    simp only [e1, e2, Sem.run_bind, eqGuard_at_pointer, Sem.run_pure, Result.andThen_ok, run_eql_pointer_nil w ty _ (pointee_ty hti hk)]
    rfl
   ·cases hz
  ·rename_i ti hti
   split at hz
   ·rename_i el hk
    simp only [Option.some.injEq] at hz; subst hz
    refine Sound.same (hrun _ ?_) (fun y hy => by injection hy with hy; subst hy; exact .val rfl)
    simp only [e1, e2, Sem.run_bind, eqGuard_at_pointer, Sem.run_pure, Result.andThen_ok, run_neq_pointer_nil w ty _ (pointee_ty hti hk)]
    rfl
   ·cases hz
  ·cases hz
 ·cases hz
def plUn (op : UnOp) : AV → Option AV
 | .one (.f (.v (.bool b))) => match op with | .not => some (.val (.bool !b)) | _ => none
 | .one (.f (.v (.int k n))) => match op with | .neg => some (.val (.int k (k.wrap (0 - n)))) | _ => none
 | _ => none
theorem un_sound (r : R fr E t h nx a w) {o : Oper} {op : UnOp} {ty : Nat} {x : Operand} (ho : o.op = .unOp op ty x) {xv z : AV} (hx : evT t x = some xv) (hz : plUn op xv = some z) : Sound P E h a w o (some z) [] := by
 have hxv := ev_sound r hx
 unfold plUn at hz
 split at hz
 ·have e1 := hxv.val_inv
  cases op <;> simp only [Option.some.injEq, reduceCtorEq] at hz
  subst hz
  refine Sound.same (v := .bool _) ?_ (fun y hy => by injection hy with hy; subst hy; exact .val rfl)
  unfold execOp
  simp [ho, e1, Op.unary]
 ·have e1 := hxv.val_inv
  cases op <;> simp only [Option.some.injEq, reduceCtorEq] at hz
  subst hz
  refine Sound.same (v := .int _ _) ?_ (fun y hy => by injection hy with hy; subst hy; exact .val rfl)
  unfold execOp
  simp [ho, e1, Op.unary, Op.intArith]
 ·cases hz
def plConv (P : Program) (src dst : Nat) : AV → Option AV
 | .one (.f (.v (.int k n))) => match tyOf P src, tyOf P dst with
  | some ts, some td => (match td.kind with | .int k' => some (.val (.int k' (k'.wrap n))) | _ => none)
  | _, _ => none
 | .one (.f (.v (.string s))) => match tyOf P src, tyOf P dst with
  | some ts, some td => (match td.kind with | .string => some (.val (.string s)) | _ => none)
  | _, _ => none
 | _ => none
theorem conv_sound (r : R fr E t h nx a w) {o : Oper} {src dst : Nat} {x : Operand} (ho : o.op = .convert src dst x) {xv z : AV} (hx : evT t x = some xv) (hz : plConv P src dst xv = some z) : Sound P E h a w o (some z) [] := by
 have hxv := ev_sound r hx
 unfold plConv at hz
 split at hz
 ·rename_i k n
  have e1 := hxv.val_inv
  split at hz
  case h_2 => cases hz
  rename_i ts td hts htd
  split at hz
  ·rename_i k' hk
   simp only [Option.some.injEq] at hz; subst hz
   refine Sound.same (v := .int _ _) ?_ (fun y hy => by injection hy with hy; subst hy; exact .val rfl)
   obtain ⟨i, d, zz, hi, hd, -⟩ := tyOf_spec hts
   unfold execOp
   simp [ho, e1, convert, run_underlying hd, run_underlying (int_ty htd hk), Conv.intToInt]
  ·cases hz
 ·rename_i s
  have e1 := hxv.val_inv
  split at hz
  case h_2 => cases hz
  rename_i ts td hts htd
  split at hz
  ·rename_i hk
   simp only [Option.some.injEq] at hz; subst hz
   refine Sound.same (v := .string _) ?_ (fun y hy => by injection hy with hy; subst hy; exact .val hxv.val_ok)
   obtain ⟨i, d, zz, hi, hd, -⟩ := tyOf_spec hts
   unfold execOp
   simp [ho, e1, convert, run_underlying hd, run_underlying (string_ty htd hk)]
  ·cases hz
 ·cases hz
theorem move_sound (r : R fr E t h nx a w) {o : Oper} {x : Operand} (ho : o.op = .move x ∨ o.op = .assign x) {xv : AV} (hx : evT t x = some xv) : Sound P E h a w o (some xv) [] := by
 refine Sound.same (v := a.eval x) ?_ (fun y hy => by injection hy with hy; subst hy; exact ev_sound r hx)
 unfold execOp
 rcases ho with ho | ho <;> simp [ho]
theorem pick_sound (r : R fr E t h nx a w) {o : Oper} {c x y : Operand} (ho : o.op = .pick c x y) {b : Bool} {z : AV} (hc : evT t c = some (.val (.bool b))) (hz : (if b then evT t x else evT t y) = some z) : Sound P E h a w o (some z) [] := by
 have e1 := (ev_sound r hc).val_inv
 refine Sound.same (v := if b then a.eval x else a.eval y) ?_ (fun y hy => ?_)
 ·unfold execOp
  simp [ho, e1, asBool]
 ·injection hy with hy; subst hy
  cases b
  ·exact ev_sound r hz
  ·exact ev_sound r hz
def plNil : AV → Option AV
 | .one (.ptr b o) => some (.one (.ptr b o))
 | .one (.ep b n sz i o) => some (.one (.ep b n sz i o))
 | .one (.fp l) => some (.one (.fp l))
 | _ => none
theorem nil_sound (r : R fr E t h nx a w) {o : Oper} {x : Operand} (ho : o.op = .nilCheck x) {xv z : AV} (hx : evT t x = some xv) (hz : plNil xv = some z) : Sound P E h a w o (some z) [] := by
 have hxv := ev_sound r hx
 have hp : z = xv ∧ ∃ ad, a.eval x = .pointer (some ad) := by
  unfold plNil at hz
  split at hz
  ·obtain ⟨g, e, -⟩ := hxv.ptr_inv; simp only [Option.some.injEq] at hz; exact ⟨hz.symm, _, e⟩
  ·obtain ⟨g, c, e, -⟩ := hxv.ep_inv; simp only [Option.some.injEq] at hz; exact ⟨hz.symm, _, e⟩
  ·simp only [Option.some.injEq] at hz
   generalize hev : a.eval x = ev at hxv
   cases hxv with | one hxv => cases hxv with | fp => exact ⟨hz.symm, _, rfl⟩
  ·cases hz
 obtain ⟨rfl, ad, e⟩ := hp
 refine Sound.same (v := a.eval x) ?_ (fun y hy => by injection hy with hy; subst hy; exact hxv)
 unfold execOp
 simp [ho, e]
def plExtract (i : Nat) : AV → Option AV
 | .tup l => l[i]?
 | _ => none
theorem extract_sound (r : R fr E t h nx a w) {o : Oper} {x : Operand} {i : Nat} (ho : o.op = .extract x i) {xv z : AV} (hx : evT t x = some xv) (hz : plExtract i xv = some z) : Sound P E h a w o (some z) [] := by
 have hxv := ev_sound r hx
 unfold plExtract at hz
 split at hz
 ·generalize hev : a.eval x = ev at hxv
  cases hxv with | @tup _ vs vals hs hv hr => ?_
  refine Sound.same (v := vals i) ?_ (fun y hy => by injection hy with hy; subst hy; exact hr i _ hz)
  unfold execOp
  simp [ho, hev, Instr.extract, hv i _ hz]
 ·cases hz
def plLen (P : Program) (ty : Nat) : AV → Option AV
 | .one (.f (.fz _ l)) => match tyOf P ty with
  | some ti => (match ti.kind with | .slice _ => some (.val (.int .i64 l.length)) | _ => none)
  | none => none
 | .one (.row _ n) => match tyOf P ty with
  | some ti => (match ti.kind with | .slice _ => some (.val (.int .i64 n)) | _ => none)
  | none => none
 | .one (.f (.v (.slice none 0 0))) => match tyOf P ty with
  | some ti => (match ti.kind with | .slice _ => some (.val (.int .i64 0)) | _ => none)
  | none => none
 | .one (.f (.v (.string s))) => match tyOf P ty with
  | some ti => (match ti.kind with | .string => some (.val (.int .i64 s.size)) | _ => none)
  | none => none
 | _ => none
theorem len_sound (r : R fr E t h nx a w) {o : Oper} {x : Operand} {ty : Nat} (ho : o.op = .call { callee := .builtin .len, args := #[x], argTypes := #[ty] }) {xv z : AV} (hx : evT t x = some xv) (hz : plLen P ty xv = some z) : Sound P E h a w o (some z) [] := by
 have hxv := ev_sound r hx
 have hrun : ∀ A n c e, P.underlying ty = some (.slice e) → a.eval x = .slice A n c → (execOp a.eval o).run P w = .ok (.value (.int .i64 n)) w := fun A n c e hu hv => by
  unfold execOp
  simp [ho, resolve, invoke, builtin, hv, Builtin.len_, run_underlying hu, goInt]
 unfold plLen at hz
 split at hz
 ·obtain ⟨A, c, e, -⟩ := hxv.fz_inv
  split at hz <;> try (cases hz; done)
  rename_i ti hti
  split at hz <;> try (cases hz; done)
  rename_i el hk
  simp only [Option.some.injEq] at hz; subst hz
  exact Sound.same (hrun _ _ _ _ (slice_elem hti hk) e) (fun y hy => by injection hy with hy; subst hy; exact .val rfl)
 ·obtain ⟨A, c, e, -⟩ := hxv.row_inv
  split at hz <;> try (cases hz; done)
  rename_i ti hti
  split at hz <;> try (cases hz; done)
  rename_i el hk
  simp only [Option.some.injEq] at hz; subst hz
  exact Sound.same (hrun _ _ _ _ (slice_elem hti hk) e) (fun y hy => by injection hy with hy; subst hy; exact .val rfl)
 ·have e := hxv.val_inv
  split at hz <;> try (cases hz; done)
  rename_i ti hti
  split at hz <;> try (cases hz; done)
  rename_i el hk
  simp only [Option.some.injEq] at hz; subst hz
  exact Sound.same (hrun _ _ _ _ (slice_elem hti hk) e) (fun y hy => by injection hy with hy; subst hy; exact .val rfl)
 ·have e := hxv.val_inv
  split at hz <;> try (cases hz; done)
  rename_i ti hti
  split at hz <;> try (cases hz; done)
  rename_i hk
  simp only [Option.some.injEq] at hz; subst hz
  refine Sound.same (v := .int _ _) ?_ (fun y hy => by injection hy with hy; subst hy; exact .val rfl)
  unfold execOp
  simp [ho, resolve, invoke, builtin, e, Builtin.len_, run_underlying (string_ty hti hk), goInt]
 ·cases hz
def plMax (b : Builtin) : AV → AV → Option AV
 | .one (.f (.v (.int k x))), .one (.f (.v (.int _ y))) => match b with
  | .max => some (.val (.int k (if x < y then y else x)))
  | .min => some (.val (.int k (if y < x then y else x)))
  | _ => none
 | _, _ => none
theorem max_sound (r : R fr E t h nx a w) {o : Oper} {x y : Operand} {b : Builtin} {ts : Array TypeId} (ho : o.op = .call { callee := .builtin b, args := #[x, y], argTypes := ts }) {xv yv z : AV} (hx : evT t x = some xv) (hy : evT t y = some yv) (hz : plMax b xv yv = some z) : Sound P E h a w o (some z) [] := by
 have hxv := ev_sound r hx
 have hyv := ev_sound r hy
 unfold plMax at hz
 split at hz
 ·have e1 := hxv.val_inv
  have e2 := hyv.val_inv
  cases b <;> simp only [Option.some.injEq, reduceCtorEq] at hz <;> subst hz <;>
  ·refine Sound.same (v := .int _ _) ?_ (fun y hy => by injection hy with hy; subst hy; exact .val rfl)
   unfold execOp
   simp [ho, resolve, invoke, builtin, e1, e2, Builtin.max_, Builtin.max2, Builtin.min_, Builtin.min2]
 ·cases hz
def plIndex (P : Program) (ty : Nat) : AV → AV → Option AV
 | .one (.f (.v (.string s))), .one (.f (.v (.int _ n))) => match tyOf P ty with
  | some ti => (match ti.kind with | .string => (if 0 ≤ n then (match s[n.toNat]? with | some b => some (.val (.int .u8 b.toNat)) | none => none) else none) | _ => none)
  | none => none
 | _, _ => none
theorem index_sound (r : R fr E t h nx a w) {o : Oper} {x i : Operand} {ty : Nat} (ho : o.op = .index ty x i) {xv iv z : AV} (hx : evT t x = some xv) (hi : evT t i = some iv) (hz : plIndex P ty xv iv = some z) : Sound P E h a w o (some z) [] := by
 have hxv := ev_sound r hx
 have hiv := ev_sound r hi
 unfold plIndex at hz
 split at hz
 ·rename_i s k n
  have e1 := hxv.val_inv
  have e2 := hiv.val_inv
  split at hz <;> try (cases hz; done)
  rename_i ti hti
  split at hz <;> try (cases hz; done)
  rename_i hk
  split at hz <;> try (cases hz; done)
  rename_i hn
  split at hz <;> try (cases hz; done)
  rename_i b hb
  simp only [Option.some.injEq] at hz; subst hz
  refine Sound.same (v := .int .u8 b.toNat) ?_ (fun y hy => by injection hy with hy; subst hy; exact .val rfl)
  unfold execOp
  simp [ho, e1, e2, Instr.index, asIntOf, run_underlying (string_ty hti hk), hn, hb]
 ·cases hz
end
end Go.Abs
set_option linter.unusedVariables false
set_option linter.unusedSimpArgs false
namespace Go.Abs
open Go.RowKit
section
variable {P : Program} {fr : Fr} {E : En} {t : Nat → Option AV} {h : Nat → Option AB} {nx : Nat} {a : Act} {w : World}
def chunk {α : Type} (sz : Nat) : Nat → List α → List (List α)
 | 0, _ => []
 | n + 1, l => l.take sz :: chunk sz n (l.drop sz)
theorem chunk_len {α : Type} (sz : Nat) : ∀ (n : Nat) (l : List α), (chunk sz n l).length = n
 | 0, _ => rfl
 | n + 1, l => by simp [chunk, chunk_len sz n]
theorem chunk_get {α : Type} (sz : Nat) : ∀ (n : Nat) (l : List α) (i : Nat), i < n → (chunk sz n l)[i]? = some ((l.drop (i * sz)).take sz)
 | 0, _, i, h => by omega
 | n + 1, l, 0, h => by simp [chunk]
 | n + 1, l, i + 1, h => by
  simp only [chunk, List.getElem?_cons_succ]
  rw [chunk_get sz n _ i (by omega), List.drop_drop, Nat.succ_mul, Nat.add_comm]
def zeros (te : TI) (n : Nat) : List AC := (List.range n).map fun i => .f (.v (te.zero.getD (i % te.zero.length) undef))
def plSlice (P : Program) (ty len nid : Nat) (ps : List (Nat × AV)) : Option (AV × List (Nat × AB)) :=
 match tyOf P ty with
 | some ti =>
  match ti.kind with
  | .slice e => match tyOf P e with
   | some te => if len * te.size ≤ 16777216 ∧ 0 < te.size ∧ te.zero.length = te.size ∧ len ≤ maxLen then (match afill (fun i => some (i * te.size, te.size)) (zeros te (len * te.size)) ps with
    | some l => (match allF l with
     | some fl => if fl.length = len * te.size then some (.one (.row nid len), [(nid, .row e te.size (chunk te.size len fl))]) else none
     | none => none)
    | none => none) else none
   | none => none
  | _ => none
 | none => none
theorem zeros_all2 {te : TI} (hz : ∀ u ∈ te.zero, okV u = true) (hl : 0 < te.zero.length) (n : Nat) : All2 (Rc w E) (zeros te n) ((List.range n).map fun i => te.zero.getD (i % te.zero.length) undef) := by
 refine ⟨by simp [zeros], fun j c hj => ?_⟩
 unfold zeros at hj
 have hjl : j < n := by have := (List.getElem?_eq_some_iff.1 hj).1; simpa using this
 simp [hjl] at hj
 subst hj
 refine ⟨_, by simp [hjl], .f (.v _ ?_)⟩
 have hm : j % te.zero.length < te.zero.length := Nat.mod_lt _ hl
 rw [List.getElem?_eq_getElem hm]
 exact hz _ (List.getElem_mem hm)
theorem slice_sound (r : R fr E t h nx a w) {o : Oper} {ty len nid : Nat} {parts : Array (Nat × Operand)} (ho : o.op = .buildSlice ty len parts) {ps : List (Nat × AV)} (hps : evParts t parts.toList = some ps) (hn : nx ≤ nid) (hb : h nid = none) {y : AV} {ws : List (Nat × AB)}
  (hy : plSlice P ty len nid ps = some (y, ws)) : Sound P E h a w o (some y) ws := by
 unfold plSlice at hy
 split at hy
 case h_2 => cases hy
 rename_i ti hti
 split at hy
 case h_2 => cases hy
 rename_i e hk
 split at hy
 case h_2 => cases hy
 rename_i te hte
 split at hy
 case isFalse => cases hy
 rename_i hcond
 obtain ⟨hmax, hpos, hzl, hml⟩ := hcond
 split at hy
 case h_2 => cases hy
 rename_i l hl
 split at hy
 case h_2 => cases hy
 rename_i fl hfl
 split at hy
 case isFalse => cases hy
 rename_i hfll
 simp only [Option.some.injEq, Prod.mk.injEq] at hy
 obtain ⟨rfl, rfl⟩ := hy
 obtain ⟨i, d, z, hi, hd, hz, h1, h2, h3, h4, h5⟩ := tyOf_spec hte
 have hu := slice_elem hti hk
 have hzz : z.cells.size = te.size := by rw [← hzl, h4]; simp
 obtain ⟨ov, h6, h7⟩ := afill_sound _ ps _ _ l ((List.range (len * te.size)).map fun i => te.zero.getD (i % te.zero.length) undef).toArray (evParts_sound r hps) (by simpa using zeros_all2 h5 (by omega) _) hl
 obtain ⟨h8, h9⟩ := allF_sound hfl h7
 have hvs : ov.size = len * te.size := by have := h8.1; simp at this; omega
 have hF : ∀ (i : Nat) (e : List FC) (j : Nat) (c : FC), (chunk te.size len fl)[i]? = some e → e[j]? = some c → ∃ u, ov[i * te.size + j]? = some u ∧ Rf w E.F c u := fun i e j c hi' hj => by
  have hil : i < len := by have := (List.getElem?_eq_some_iff.1 hi').1; rwa [chunk_len] at this
  rw [chunk_get _ _ _ _ hil] at hi'
  injection hi' with hi'; subst hi'
  have hjl : j < te.size := by have := (List.getElem?_eq_some_iff.1 hj).1; simp at this; omega
  rw [List.getElem?_take_of_lt hjl, List.getElem?_drop] at hj
  obtain ⟨u, q1, q2⟩ := h8.2 _ c hj
  exact ⟨u, by simpa using q1, q2⟩
 have hE : ∀ (i : Nat) (e : List FC), (chunk te.size len fl)[i]? = some e → e.length = te.size := fun i e hi' => by
  have hil : i < len := by have := (List.getElem?_eq_some_iff.1 hi').1; rwa [chunk_len] at this
  rw [chunk_get _ _ _ _ hil] at hi'
  injection hi' with hi'; subst hi'
  have : i * te.size + te.size ≤ len * te.size := by have := Nat.mul_le_mul_right te.size (show i + 1 ≤ len by omega); rw [Nat.succ_mul] at this; exact this
  simp; omega
 have hup := Upd.newRow (E := E) (h := h) (w := w) (b := nid) e te.size (chunk te.size len fl) ov (fun n => r.fresh nid n hn hb) hb r.lt (by rw [chunk_len]; exact hvs) (by rw [chunk_len]; exact hml) hE hF
 rw [chunk_len] at hup
 refine ⟨.value (.slice (some ⟨w.heap.size, 0, none⟩) len len), _, _, ?_, .inl ⟨_, rfl, fun y hy => ?_⟩, hup⟩
 ·have hfill : Instr.fill (fun i => some (i * te.size, te.size)) ((Array.range (len * te.size)).map (fun x => z.cells[x % z.cells.size]!)) (parts.toList.map fun p => (p.1, a.eval p.2)) = some ov := by
   rw [← h6]
   congr 1
   apply Array.ext_getElem?
   intro j
   have hzs : te.zero = z.cells.toList := h4
   by_cases hj : j < len * te.size
   ·have hm : j % te.size < z.cells.size := by rw [hzz]; exact Nat.mod_lt _ hpos
    simp [hj, hzs, hzz, getElem!_def]
    rw [Array.getElem?_eq_getElem hm]
    rfl
   ·simp [hj]
  have hne : len * te.size = 0 → ov = #[] := fun e => Array.eq_empty_of_size_eq_zero (by omega)
  unfold execOp
  have hsz := sizeOf_run (P := P) hte w
  by_cases h0 : len * te.size = 0
  ·have hl0 : len = 0 := by rcases Nat.mul_eq_zero.1 h0 with h | h <;> omega
   subst hl0
   have hr0 : ((Array.range (0 * te.size)).map (fun x => z.cells[x % z.cells.size]!)) = #[] := by simp
   rw [hr0] at hfill
   simp [ho, Instr.buildSlice, run_underlying hu, hsz, newRow, zeroValue, typeInfo, hi, hz]
   have hr1 : (Array.map (fun x => (default : Value)) (Array.range 0)) = #[] := by simp
   rw [hr1, hfill]
   rfl
  ·have hcc : ¬ (16777216 < len * te.size) := by omega
   simp [ho, Instr.buildSlice, run_underlying hu, hsz, hcc, h0, newRow, zeroValue, typeInfo, hi, hz]
   rw [hfill]
   rfl
 ·injection hy with hy; subst hy
  exact .one (.row (En.set_at _ _ _ _))
end
end Go.Abs
set_option linter.unusedVariables false
set_option linter.unusedSimpArgs false
namespace Go.Abs
open Go.RowKit
section
variable {P : Program} {fr : Fr} {E : En} {t : Nat → Option AV} {h : Nat → Option AB} {nx : Nat} {a : Act} {w : World}
def elemsOf (h : Nat → Option AB) : AV → Option (Nat × List (List FC))
 | .one (.row b n) => match h b with
  | some (.row _ sz l) => if l.length = n then some (sz, l) else none
  | _ => none
 | .one (.f (.fz sz l)) => some (sz, l)
 | .one (.f (.v (.slice none 0 0))) => some (0, [])
 | _ => none
def ElemsIn (w : World) (F : Nat → Prop) (A : Option Addr) (sz : Nat) (m : List (List FC)) : Prop :=
 ∃ vals : List Value, vals.length = m.length * sz ∧ (∀ (i : Nat) (e : List FC), m[i]? = some e → e.length = sz) ∧ (∀ u ∈ vals, u.oneCell' = true) ∧
  (∀ (i : Nat) (e : List FC) (j : Nat) (c : FC), m[i]? = some e → e[j]? = some c → ∃ u, vals[i * sz + j]? = some u ∧ Rf w F c u) ∧
  (m ≠ [] → ∃ g off, A = some ⟨g, off, none⟩ ∧ ∀ j u, vals[j]? = some u → w.cell? ⟨g, off + j, none⟩ = some u)
theorem flat_one {F : Nat → Prop} {m : List (List FC)} {sz : Nat} {vals : List Value} (hl : vals.length = m.length * sz) (hs : ∀ (i : Nat) (e : List FC), m[i]? = some e → e.length = sz)
    (hc : ∀ (i : Nat) (e : List FC) (j : Nat) (c : FC), m[i]? = some e → e[j]? = some c → ∃ u, vals[i * sz + j]? = some u ∧ Rf w F c u) : ∀ u ∈ vals, u.oneCell' = true := fun u hu => by
  obtain ⟨k, hk, rfl⟩ := List.mem_iff_getElem.1 hu
  have hsz : 0 < sz := by rcases Nat.eq_zero_or_pos sz with h0 | h0; · rw [h0] at hl; omega
                          · exact h0
  have hi : k / sz < m.length := Nat.div_lt_of_lt_mul (by rw [Nat.mul_comm]; omega)
  have hj : k % sz < sz := Nat.mod_lt _ hsz
  have he := hs _ _ (List.getElem?_eq_getElem hi)
  obtain ⟨u, h1, h2⟩ := hc _ _ (k % sz) _ (List.getElem?_eq_getElem hi) (List.getElem?_eq_getElem (by omega))
  rw [Nat.mul_comm, Nat.div_add_mod, List.getElem?_eq_getElem hk] at h1
  injection h1 with h1; rw [h1]; exact h2.one
theorem elems_sound (r : R fr E t h nx a w) {x : AV} {v : Value} {sz : Nat} {m : List (List FC)} (hv : Rv w E x v) (hx : elemsOf h x = some (sz, m)) : ∃ A c, v = .slice A m.length c ∧ ElemsIn w E.F A sz m := by
  unfold elemsOf at hx
  split at hx
  · rename_i b n
    split at hx
    case h_2 => cases hx
    rename_i ty sz' l hb
    split at hx
    case isFalse => cases hx
    rename_i hn
    simp only [Option.some.injEq, Prod.mk.injEq] at hx
    obtain ⟨rfl, rfl⟩ := hx
    subst hn
    obtain ⟨A, c, e1, hm⟩ := hv.row_inv
    obtain ⟨v0, vals, h1, h2, h3, h4, h5⟩ := r.blk b _ hb
    rw [hm] at h1
    simp only [Option.some.injEq] at h1; subst h1
    refine ⟨A, c, e1, vals, h2.1, h3, flat_one h2.1 h3 h4, h4, fun hne => ?_⟩
    rcases h2.2 with ⟨-, hl0⟩ | ⟨g, cap, cur, h6, -, h7, h8, h9, h10, h11⟩
    · exact absurd (List.length_eq_zero_iff.1 hl0) hne
    · simp only [Value.slice.injEq] at h6
      exact ⟨g, 0, h6.1, fun j u hj => by rw [Nat.zero_add]; exact cell_take h7 h11 hj⟩
  · rename_i sz' l
    simp only [Option.some.injEq, Prod.mk.injEq] at hx
    obtain ⟨rfl, rfl⟩ := hx
    cases hv with | one hv => ?_
    cases hv with | f hv => ?_
    have hsz' : ∃ sz, sz = sz' := ⟨_, rfl⟩
    obtain ⟨sz, hsz'⟩ := hsz'
    rw [← hsz'] at hv ⊢
    clear hsz'
    cases hv with | fz _ l A cap g off vals h1 h2 h3 h4 h5 h6 h7 => ?_
    have hlen : ((List.range (l.length * sz)).map fun k => vals (k / sz) (k % sz)).length = l.length * sz := by simp
    have hcc : ∀ (i : Nat) (e : List FC) (j : Nat) (c : FC), l[i]? = some e → e[j]? = some c → ∃ u, ((List.range (l.length * sz)).map fun k => vals (k / sz) (k % sz))[i * sz + j]? = some u ∧ Rf w E.F c u := fun i e j c hi hj => by
      have hil := (List.getElem?_eq_some_iff.1 hi).1
      have hjl : j < sz := by have := (List.getElem?_eq_some_iff.1 hj).1; rw [h5 i e hi] at this; exact this
      have hlt := mul_lt hil hjl
      have hd : (i * sz + j) / sz = i := by rw [Nat.mul_comm, Nat.mul_add_div (by omega), Nat.div_eq_of_lt hjl, Nat.add_zero]
      have hm : (i * sz + j) % sz = j := by rw [Nat.mul_comm, Nat.mul_add_mod, Nat.mod_eq_of_lt hjl]
      exact ⟨vals i j, by simp [hlt, hd, hm], h7 i e j c hi hj⟩
    refine ⟨A, cap, rfl, _, hlen, h5, flat_one hlen h5 hcc, hcc, fun hne => ⟨g, off, (h4 hne).1, fun k u hk => ?_⟩⟩
    have hkl : k < l.length * sz := by have := (List.getElem?_eq_some_iff.1 hk).1; rwa [hlen] at this
    have hsz : 0 < sz := by rcases Nat.eq_zero_or_pos sz with h0 | h0; · rw [h0] at hkl; omega
                            · exact h0
    have hi : k / sz < l.length := Nat.div_lt_of_lt_mul (by rw [Nat.mul_comm]; exact hkl)
    have hj : k % sz < sz := Nat.mod_lt _ hsz
    have he := h5 _ _ (List.getElem?_eq_getElem hi)
    have := h6 _ _ (k % sz) _ (List.getElem?_eq_getElem hi) (List.getElem?_eq_getElem (by omega))
    simp [hkl] at hk
    subst hk
    rw [Nat.add_assoc, Nat.mul_comm, Nat.div_add_mod] at this
    exact this
  · simp only [Option.some.injEq, Prod.mk.injEq] at hx
    obtain ⟨rfl, rfl⟩ := hx
    exact ⟨none, 0, hv.val_inv, [], by simp, by simp, by simp, by simp, fun h => absurd rfl h⟩
  · cases hx
def plAppend (P : Program) (h : Nat → Option AB) (ty : Nat) (s x : AV) : Option (AV × List (Nat × AB)) :=
 match s, tyOf P ty, elemsOf h x with
 | .one (.row b n), some ti, some em =>
  match ti.kind, h b with
  | .slice e, some (.row rt sz l) => match tyOf P e with
   | some te => if l.length = n ∧ rt = e ∧ sz = te.size ∧ 0 < sz ∧ te.zero.length = te.size then (match em.2 with
    | [] => some (.one (.row b n), [])
    | y :: m => if em.1 = sz ∧ n + (m.length + 1) ≤ maxLen ∧ (n + (m.length + 1)) * te.bytes ≤ 140737488355328 then some (.one (.row b (n + (m.length + 1))), [(b, .row e sz (l ++ y :: m))]) else none)
    else none
   | none => none
  | _, _ => none
 | _, _, _ => none
theorem append_sound (r : R fr E t h nx a w) {o : Oper} {ty : Nat} {s x : Operand} (ho : o.op = .call { callee := .builtin .append, args := #[s, x], argTypes := #[ty, ty] }) {sv xv : AV} (hs : evT t s = some sv) (hx : evT t x = some xv)
  {y : AV} {ws : List (Nat × AB)} (hy : plAppend P h ty sv xv = some (y, ws)) : Sound P E h a w o (some y) ws := by
 unfold plAppend at hy
 split at hy
 case h_2 => cases hy
 rename_i b n ti em hti hem
 split at hy
 case h_2 => cases hy
 rename_i e rt sz l hk hb
 split at hy
 case h_2 => cases hy
 rename_i te hte
 split at hy
 case isFalse => cases hy
 rename_i hcond
 obtain ⟨rfl, rfl, hsz, hpos, hzl⟩ := hcond
 subst hsz
 have hu := slice_elem hti hk
 obtain ⟨i, d, z, hi, hd, hz, h1, h2, h3, h4, h5⟩ := tyOf_spec hte
 have hzz : z.cells.size = te.size := by rw [← hzl, h4]; simp
 obtain ⟨A0, c0, e0, hm⟩ := (ev_sound r hs).row_inv
 obtain ⟨A, c, e1, vals, k1, k2, k3, k4, k5⟩ := elems_sound (sz := em.1) (m := em.2) r (ev_sound r hx) hem
 obtain ⟨v0, vals0, g1, g2, g3, g4, g5⟩ := r.blk b _ hb
 rw [hm] at g1
 simp only [Option.some.injEq] at g1; subst g1
 have hlc : l.length ≤ c0 := by
  rcases g2.2 with ⟨q1, q2⟩ | ⟨g, cap, cur, q1, -, q2, q3, -⟩
  ·simp only [Value.slice.injEq] at q1; omega
  ·simp only [Value.slice.injEq] at q1; omega
 split at hy
 ·rename_i hnil
  simp only [Option.some.injEq, Prod.mk.injEq] at hy
  obtain ⟨rfl, rfl⟩ := hy
  rw [hnil] at e1
  refine Sound.same (v := .slice A0 l.length c0) ?_ (fun y hy => by injection hy with hy; subst hy; exact .one (.row hm))
  have : (Builtin.append_ #[ty, ty] o.type #[.slice A0 l.length c0, .slice A 0 c]).run P w = .ok (.slice A0 l.length c0) w := by
   cases A0 <;> cases A <;> simp [Builtin.append_, run_underlying hu, sizeOf, typeInfo, hi, Builtin.lenOf, Builtin.firstCells, hlc, storeCells, loadCells, loadCellsFrom]
  unfold execOp
  simp only [ho, resolve, invoke, builtin, Sem.run_bind, Sem.run_pure, Result.andThen_ok, List.map_toArray, List.map_cons, List.map_nil, e0, e1, List.length_nil, this]
 ·rename_i y0 m hcons
  split at hy
  case isFalse => cases hy
  rename_i hcond
  obtain ⟨hsz2, h63, hby⟩ := hcond
  simp only [Option.some.injEq, Prod.mk.injEq] at hy
  obtain ⟨rfl, rfl⟩ := hy
  rw [hcons] at k1 k2 k4 k5 e1
  rw [hsz2] at k1 k2 k4
  obtain ⟨g, off, rfl, hcell⟩ := k5 (by simp)
  obtain ⟨v', w', q1, q2, q3, -, q5⟩ := run_append_own_at (P := P) w 0 ty o.type rt i z te.size te.bytes hu hi hz h2.symm h3.symm hzz hpos (.slice A0 l.length c0) l.length vals0 g2 ⟨g, off, none⟩ (m.length + 1) c vals
   (by rw [k1]; rfl) (fun j u hj => by rw [add_lit]; exact hcell j u hj) k3 h63 hby (Nat.zero_le _)
  have hgF : ∀ g', (Value.slice A0 l.length c0).ownBlock = some g' → ¬ E.F g' ∧ g' < w.heap.size := fun g' hg' => by
   rcases g2.2 with ⟨p1, p2⟩ | ⟨gg, cap, cur, p1, -⟩
   ·simp only [Value.slice.injEq] at p1; obtain ⟨rfl, -⟩ := p1; simp [Value.ownBlock] at hg'
   ·simp only [Value.slice.injEq] at p1; obtain ⟨rfl, -⟩ := p1
    simp [Value.ownBlock] at hg'; subst hg'
    exact (r.own b _ gg hb ⟨_, _, hm⟩).2
  have hv : ∀ g', (Value.slice A0 l.length c0).ownBlock = some g' → ∃ n c, Value.slice A0 l.length c0 = .slice (some ⟨g', 0, none⟩) n c := fun g' hg' => by
   rcases g2.2 with ⟨p1, p2⟩ | ⟨gg, cap, cur, p1, -⟩
   ·simp only [Value.slice.injEq] at p1; obtain ⟨rfl, -⟩ := p1; simp [Value.ownBlock] at hg'
   ·simp only [Value.slice.injEq] at p1; obtain ⟨rfl, -⟩ := p1
    simp [Value.ownBlock] at hg'; subst hg'
    exact ⟨_, _, rfl⟩
  have hup := Upd.append (m := y0 :: m) hb hm g5 g3 k2 g2.1 (by simp) q2 q3 q5 hgF r.lt hv g4 k4
  refine ⟨.value v', w', _, ?_, .inl ⟨v', rfl, fun y hy => ?_⟩, hup⟩
  ·unfold execOp
   simp only [ho, resolve, invoke, builtin, Sem.run_bind, Sem.run_pure, Result.andThen_ok, List.map_toArray, List.map_cons, List.map_nil, e0, e1, List.length_cons, q1]
  ·injection hy with hy; subst hy
   have hsl : ∃ A c, v' = .slice A (l.length + (m.length + 1)) c := by
    rcases q2.2 with ⟨-, p2⟩ | ⟨gg, cap, cur, p1, -⟩
    ·omega
    ·exact ⟨_, _, p1⟩
   obtain ⟨A', c', rfl⟩ := hsl
   exact .one (.row (En.set_at _ _ _ _))
def evCaps (t : Nat → Option AV) : List Operand → Option (List AC)
 | [] => some []
 | x :: r => match evT t x, evCaps t r with | some (.one c), some l => some (c :: l) | _, _ => none
theorem evCaps_sound (r : R fr E t h nx a w) : ∀ {xs : List Operand} {l : List AC}, evCaps t xs = some l → All2 (Rc w E) l (xs.map a.eval)
 | [], l, h => by simp only [evCaps, Option.some.injEq] at h; subst h; exact All2.nil _
 | x :: xs, l, h => by
  unfold evCaps at h
  split at h
  ·rename_i c l' hx hl
   injection h with h; subst h
   refine All2.cons ?_ (evCaps_sound r hl)
   have := ev_sound r hx
   cases this with | one h => exact h
  ·cases h
theorem func_sound (r : R fr E t h nx a w) {o : Oper} {f : Fn} {caps : Array Operand} (ho : o.op = .makeFunc f #[] caps) {l : List AC} (hl : evCaps t caps.toList = some l) : Sound P E h a w o (some (.one (.fn f l))) [] := by
 have hall := evCaps_sound r hl
 refine Sound.same (v := .func f #[] (caps.map a.eval)) ?_ (fun y hy => ?_)
 ·unfold execOp
  simp [ho, Instr.makeFunc]
 ·injection hy with hy; subst hy
  have hc : ∀ j c, l[j]? = some c → (caps.map a.eval)[j]? = some ((caps.map a.eval).getD j undef) ∧ Rc w E c ((caps.map a.eval).getD j undef) := fun j c hj => by
   obtain ⟨u, h1, h2⟩ := hall.2 j c hj
   have h3 : (caps.map a.eval)[j]? = some u := by simpa using h1
   have h4 : (caps.map a.eval).getD j undef = u := by rw [Array.getD_eq_getD_getElem?, h3]; rfl
   rw [h4]; exact ⟨h3, h2⟩
  exact .one (.fn (fun j => (caps.map a.eval).getD j undef) (by have := hall.1; simpa using this) (fun j c hj => (hc j c hj).1) (fun j c hj => (hc j c hj).2))
end
end Go.Abs
set_option linter.unusedVariables false
set_option linter.unusedSimpArgs false
namespace Go.Abs
open Go.RowKit
mutual
def AC.ren (ρ : Nat → Nat) : AC → AC
 | .f c => .f c
 | .ptr b o => .ptr (ρ b) o
 | .row b n => .row (ρ b) n
 | .ep b n sz i o => .ep (ρ b) n sz i o
 | .fp l => .fp l
 | .fn q caps => .fn q (AC.rens ρ caps)
def AC.rens (ρ : Nat → Nat) : List AC → List AC
 | [] => []
 | c :: r => c.ren ρ :: AC.rens ρ r
end
mutual
def AV.ren (ρ : Nat → Nat) : AV → AV
 | .one c => .one (c.ren ρ)
 | .agg l => .agg (AC.rens ρ l)
 | .tup l => .tup (AV.rens ρ l)
def AV.rens (ρ : Nat → Nat) : List AV → List AV
 | [] => []
 | c :: r => c.ren ρ :: AV.rens ρ r
end
def AB.ren (ρ : Nat → Nat) : AB → AB
 | .box ty l => .box ty (AC.rens ρ l)
 | .row ty sz l => .row ty sz l
mutual
def AC.lt (k : Nat) : AC → Bool
 | .f _ => true
 | .ptr b _ => decide (b < k)
 | .row b _ => decide (b < k)
 | .ep b _ _ _ _ => decide (b < k)
 | .fp _ => true
 | .fn _ caps => AC.lts k caps
def AC.lts (k : Nat) : List AC → Bool
 | [] => true
 | c :: r => c.lt k && AC.lts k r
end
mutual
def AV.lt (k : Nat) : AV → Bool
 | .one c => c.lt k
 | .agg l => AC.lts k l
 | .tup l => AV.lts k l
def AV.lts (k : Nat) : List AV → Bool
 | [] => true
 | c :: r => c.lt k && AV.lts k r
end
theorem AC.rens_map (ρ : Nat → Nat) (l : List AC) : AC.rens ρ l = l.map (·.ren ρ) := by
 induction l with
 | nil => rfl
 | cons c r ih => simp [AC.rens, ih]
theorem AV.rens_map (ρ : Nat → Nat) (l : List AV) : AV.rens ρ l = l.map (·.ren ρ) := by
 induction l with
 | nil => rfl
 | cons c r ih => simp [AV.rens, ih]
section
variable {w : World} {E Ec : En} {ρ : Nat → Nat} {k : Nat}
mutual
theorem Rc.back (hF : ∀ g, E.F g → Ec.F g) (hm : ∀ b n, b < k → Ec.m b n = E.m (ρ b) n) : ∀ (c : AC) (v : Value), Rc w E (c.ren ρ) v → c.lt k = true → Rc w Ec c v
 | .f c, v, h, hl => by cases h with | f h => exact .f (h.mono hF (Agree.refl _ _))
 | .ptr b o, v, h, hl => by
  simp only [AC.lt, decide_eq_true_eq] at hl
  cases h with | ptr h => exact .ptr (by rw [hm b 0 hl]; exact h)
 | .row b n, v, h, hl => by
  simp only [AC.lt, decide_eq_true_eq] at hl
  cases h with | row h => exact .row (by rw [hm b n hl]; exact h)
 | .ep b n sz i o, v, h, hl => by
  simp only [AC.lt, decide_eq_true_eq] at hl
  cases h with | ep h => exact .ep (by rw [hm b n hl]; exact h)
 | .fp l, v, h, hl => by cases h with | fp vals hF' hcell hr => exact .fp vals (fun h => hF _ (hF' h)) hcell (fun j c hj => (hr j c hj).mono hF (Agree.refl _ _))
 | .fn q caps, v, h, hl => by
  simp only [AC.lt] at hl
  cases h with | fn vals hs hv hr => 
   rw [AC.rens_map] at hs hv hr
   refine .fn vals (by simpa using hs) (fun j c hj => hv j (c.ren ρ) (by simp [hj])) (fun j c hj => ?_)
   exact Rcs.back hF hm caps hl j c hj (vals j) (hr j (c.ren ρ) (by simp [hj]))
theorem Rcs.back (hF : ∀ g, E.F g → Ec.F g) (hm : ∀ b n, b < k → Ec.m b n = E.m (ρ b) n) : ∀ (l : List AC), AC.lts k l = true → ∀ (j : Nat) (c : AC), l[j]? = some c → ∀ v, Rc w E (c.ren ρ) v → Rc w Ec c v
 | [], hl, j, c, hj, v, h => by simp at hj
 | d :: r, hl, 0, c, hj, v, h => by
  simp only [AC.lts, Bool.and_eq_true] at hl
  simp at hj; subst hj
  exact Rc.back hF hm d v h hl.1
 | d :: r, hl, j + 1, c, hj, v, h => by
  simp only [AC.lts, Bool.and_eq_true] at hl
  exact Rcs.back hF hm r hl.2 j c (by simpa using hj) v h
end
mutual
theorem Rv.back (hF : ∀ g, E.F g → Ec.F g) (hm : ∀ b n, b < k → Ec.m b n = E.m (ρ b) n) : ∀ (x : AV) (v : Value), Rv w E (x.ren ρ) v → x.lt k = true → Rv w Ec x v
 | .one c, v, h, hl => by cases h with | one h => exact .one (Rc.back hF hm c v h hl)
 | .agg l, v, h, hl => by
  simp only [AV.ren, AC.rens_map] at h
  cases h with | agg hs hr =>
   refine .agg (by simpa using hs) (fun j c hj => ?_)
   obtain ⟨u, h1, h2⟩ := hr j (c.ren ρ) (by simp [hj])
   exact ⟨u, h1, Rcs.back hF hm l hl j c hj u h2⟩
 | .tup l, v, h, hl => by
  simp only [AV.lt] at hl
  cases h with | tup vals hs hv hr =>
   rw [AV.rens_map] at hs hv hr
   refine .tup vals (by simpa using hs) (fun j c hj => hv j (c.ren ρ) (by simp [hj])) (fun j c hj => ?_)
   exact Rvs.back hF hm l hl j c hj (vals j) (hr j (c.ren ρ) (by simp [hj]))
theorem Rvs.back (hF : ∀ g, E.F g → Ec.F g) (hm : ∀ b n, b < k → Ec.m b n = E.m (ρ b) n) : ∀ (l : List AV), AV.lts k l = true → ∀ (j : Nat) (c : AV), l[j]? = some c → ∀ v, Rv w E (c.ren ρ) v → Rv w Ec c v
 | [], hl, j, c, hj, v, h => by simp at hj
 | d :: r, hl, 0, c, hj, v, h => by
  simp only [AV.lts, Bool.and_eq_true] at hl
  simp at hj; subst hj
  exact Rv.back hF hm d v h hl.1
 | d :: r, hl, j + 1, c, hj, v, h => by
  simp only [AV.lts, Bool.and_eq_true] at hl
  exact Rvs.back hF hm r hl.2 j c (by simpa using hj) v h
end
theorem Rc.forth (hF : ∀ g, Ec.F g → E.F g) (hm : ∀ b n v, Ec.m b n = some v → E.m (ρ b) n = some v) {c : AC} {v : Value} (h : Rc w Ec c v) : Rc w E (c.ren ρ) v := by
 induction h with
 | f h => exact .f (h.mono hF (Agree.refl _ _))
 | ptr h => exact .ptr (hm _ _ _ h)
 | row h => exact .row (hm _ _ _ h)
 | ep h => exact .ep (hm _ _ _ h)
 | fp vals hF' hcell hr => exact .fp vals (fun h => hF _ (hF' h)) hcell (fun j c hj => (hr j c hj).mono hF (Agree.refl _ _))
 | fn vals hs hv hr ih =>
  simp only [AC.ren, AC.rens_map]
  refine .fn vals (by simpa using hs) (fun j c hj => ?_) (fun j c hj => ?_)
  ·rw [List.getElem?_map] at hj
   obtain ⟨d, hd, rfl⟩ := Option.map_eq_some_iff.1 hj
   exact hv j d hd
  ·rw [List.getElem?_map] at hj
   obtain ⟨d, hd, rfl⟩ := Option.map_eq_some_iff.1 hj
   exact ih j d hd
theorem Rv.forth (hF : ∀ g, Ec.F g → E.F g) (hm : ∀ b n v, Ec.m b n = some v → E.m (ρ b) n = some v) {x : AV} {v : Value} (h : Rv w Ec x v) : Rv w E (x.ren ρ) v := by
 induction h with
 | one h => exact .one (h.forth hF hm)
 | agg hs hr =>
  simp only [AV.ren, AC.rens_map]
  refine .agg (by simpa using hs) (fun j c hj => ?_)
  rw [List.getElem?_map] at hj
  obtain ⟨d, hd, rfl⟩ := Option.map_eq_some_iff.1 hj
  obtain ⟨u, h1, h2⟩ := hr j d hd
  exact ⟨u, h1, h2.forth hF hm⟩
 | tup vals hs hv hr ih =>
  simp only [AV.ren, AV.rens_map]
  refine .tup vals (by simpa using hs) (fun j c hj => ?_) (fun j c hj => ?_)
  ·rw [List.getElem?_map] at hj
   obtain ⟨d, hd, rfl⟩ := Option.map_eq_some_iff.1 hj
   exact hv j d hd
  ·rw [List.getElem?_map] at hj
   obtain ⟨d, hd, rfl⟩ := Option.map_eq_some_iff.1 hj
   exact ih j d hd
end
def Enters (P : Program) (f : FuncId) : Prop := ∃ fn, P.funcs[f]? = some fn ∧ (fn.name == "runtime.NumGoroutine") = false ∧ fn.body.isNone = false
def ACall (P : Program) (f : FuncId) (args : List AV) (hs : List AB) (r : AV) (hs' : List AB) : Prop :=
 Enters P f ∧ hs.length ≤ hs'.length ∧ ∀ (E : En) (w : World) (vs : Array Value), All2 (Rv w E) args vs.toList →
  (∀ b x, hs[b]? = some x → Rb w E b x) → (∀ b b' x x' g, hs[b]? = some x → hs[b']? = some x' → owns E b x g → owns E b' x' g → b = b') →
  (∀ b x g, hs[b]? = some x → owns E b x g → ¬ E.F g ∧ g < w.heap.size) → (∀ b n, hs.length ≤ b → E.m b n = none) → (∀ g, E.F g → g < w.heap.size) →
  Calls P f vs w fun e w' => ∃ v E', e = .returned v ∧ Rv w' E' r v ∧ Upd E (fun b => hs[b]?) w (List.range hs'.length) E' (fun b => hs'[b]?) w'
section
variable {P : Program} {fr : Fr} {E : En} {t : Nat → Option AV} {h h' : Nat → Option AB} {nx : Nat} {a : Act} {w : World}
theorem Rb.back {ρ : Nat → Nat} {k : Nat} {Ec : En} (hF : ∀ g, E.F g → Ec.F g) {b : Nat} (hb : b < k) (hm : ∀ b n, b < k → Ec.m b n = E.m (ρ b) n) {x : AB} (hx : Rb w E (ρ b) (x.ren ρ)) (hl : ∀ ty l, x = .box ty l → AC.lts k l = true) : Rb w Ec b x := by
 cases x with
 | box ty l =>
  obtain ⟨g, vs, h1, h2, h3, h4⟩ := hx
  rw [AC.rens_map] at h3 h4
  refine ⟨g, vs, by rw [hm b 0 hb]; exact h1, h2, by simpa using h3, fun j c hj => ?_⟩
  obtain ⟨u, h5, h6⟩ := h4 j (c.ren ρ) (by simp [hj])
  exact ⟨u, h5, Rcs.back hF hm l (hl _ _ rfl) j c hj u h6⟩
 | row ty sz l =>
  obtain ⟨v, vals, h1, h2, h3, h4, h5⟩ := hx
  exact ⟨v, vals, by rw [hm b _ hb]; exact h1, h2, h3, fun i e j c hi hj => let ⟨u, h6, h7⟩ := h4 i e j c hi hj; ⟨u, h6, h7.mono hF (Agree.refl _ _)⟩, fun n hn => by rw [hm b n hb]; exact h5 n hn⟩
theorem Rb.forth {ρ : Nat → Nat} {Ec : En} (hF : ∀ g, Ec.F g → E.F g) {b : Nat} (hm : ∀ b n v, Ec.m b n = some v → E.m (ρ b) n = some v) (hb : ∀ n, E.m (ρ b) n = Ec.m b n) {x : AB} (hx : Rb w Ec b x) : Rb w E (ρ b) (x.ren ρ) := by
 cases x with
 | box ty l =>
  obtain ⟨g, vs, h1, h2, h3, h4⟩ := hx
  simp only [AB.ren, AC.rens_map]
  refine ⟨g, vs, hm _ _ _ h1, h2, by simpa using h3, fun j c hj => ?_⟩
  rw [List.getElem?_map] at hj
  obtain ⟨d, hd, rfl⟩ := Option.map_eq_some_iff.1 hj
  obtain ⟨u, h5, h6⟩ := h4 j d hd
  exact ⟨u, h5, h6.forth hF hm⟩
 | row ty sz l =>
  obtain ⟨v, vals, h1, h2, h3, h4, h5⟩ := hx
  exact ⟨v, vals, hm _ _ _ h1, h2, h3, fun i e j c hi hj => let ⟨u, h6, h7⟩ := h4 i e j c hi hj; ⟨u, h6, h7.mono hF (Agree.refl _ _)⟩, fun n hn => by rw [hb n]; exact h5 n hn⟩
theorem owns_ren {ρ : Nat → Nat} {Ec : En} {b : Nat} (hb : ∀ n, E.m (ρ b) n = Ec.m b n) (x : AB) (g : Nat) : owns E (ρ b) (x.ren ρ) g ↔ owns Ec b x g := by
 cases x <;> simp only [owns, AB.ren, hb]
theorem call_upd (r : R fr E t h nx a w) {f : FuncId} {args : List AV} {hs hs' : List AB} {res : AV} (hc : ACall P f args hs res hs') {ids : List Nat} (hnd : ids.Nodup) (hlen : ids.length = hs'.length)
  {ρ : Nat → Nat} (hρ : ∀ j b, ids[j]? = some b → ρ j = b) (hold : ∀ j x, hs[j]? = some x → h (ρ j) = some (x.ren ρ)) (hnew : ∀ j b, ids[j]? = some b → hs.length ≤ j → nx ≤ b ∧ h b = none)
  (hargs : ∀ x ∈ args, x.lt hs.length = true) (hboxes : ∀ ty l, .box ty l ∈ hs → AC.lts hs.length l = true) {vs : Array Value} (hvs : All2 (Rv w E) (args.map (·.ren ρ)) vs.toList)
  (hn1 : ∀ j x, hs'[j]? = some x → h' (ρ j) = some (x.ren ρ)) (hn2 : ∀ b, b ∉ ids → h' b = h b) :
  Calls P f vs w fun e w' => ∃ v E', e = .returned v ∧ Rv w' E' (res.ren ρ) v ∧ Upd E h w ids E' h' w' := by
 obtain ⟨hent, hle, hcall⟩ := hc
 have hidx : ∀ j, j < hs'.length → ids[j]? = some (ρ j) := fun j hj => by
  have h1 := List.getElem?_eq_getElem (l := ids) (i := j) (by omega)
  rw [h1, hρ j _ h1]
 have hinj : ∀ i j, i < hs'.length → j < hs'.length → ρ i = ρ j → i = j := fun i j hi hj e => by
  have h1 := hidx i hi; have h2 := hidx j hj
  rw [e] at h1
  exact (List.getElem?_inj (by omega) hnd).1 (h1.trans h2.symm)
 have hmem : ∀ j, j < hs'.length → ρ j ∈ ids := fun j hj => List.mem_of_getElem? (hidx j hj)
 have hof : ∀ b, b ∈ ids → ∃ j, j < hs'.length ∧ ρ j = b := fun b hb => by
  obtain ⟨j, hj, rfl⟩ := List.mem_iff_getElem.1 hb
  exact ⟨j, by omega, hρ j _ (List.getElem?_eq_getElem hj)⟩
 -- the callee's names
 let Ec : En := ⟨E.F, fun b n => if b < hs.length then E.m (ρ b) n else none⟩
 have hm : ∀ b n, b < hs.length → Ec.m b n = E.m (ρ b) n := fun b n hb => if_pos hb
 have hm0 : ∀ b n, hs.length ≤ b → Ec.m b n = none := fun b n hb => if_neg (by omega)
 have hF : ∀ g, E.F g → Ec.F g := fun _ h => h
 have hlt : ∀ {b x}, hs[b]? = some x → b < hs.length := fun h => (List.getElem?_eq_some_iff.1 h).1
 have hown : ∀ b x g, hs[b]? = some x → (owns Ec b x g ↔ owns E (ρ b) (x.ren ρ) g) := fun b x g hb => (owns_ren (fun n => (hm b n (hlt hb)).symm) x g).symm
 refine (hcall Ec w vs ⟨by simpa using hvs.1, fun j x hj => ?_⟩ (fun b x hb => ?_) (fun b b' x x' g hb hb' ho ho' => ?_) (fun b x g hb ho => ?_) hm0 r.lt).mono ?_
 ·obtain ⟨u, h1, h2⟩ := hvs.2 j (x.ren ρ) (by simp [hj])
  exact ⟨u, h1, Rv.back hF hm x u h2 (hargs x (List.mem_of_getElem? hj))⟩
 ·exact Rb.back hF (hlt hb) hm (r.blk _ _ (hold b x hb)) (fun ty l e => hboxes ty l (e ▸ List.mem_of_getElem? hb))
 ·exact hinj b b' (by have := hlt hb; omega) (by have := hlt hb'; omega) (r.sep _ _ _ _ g (hold b x hb) (hold b' x' hb') ((hown b x g hb).1 ho) ((hown b' x' g hb').1 ho'))
 ·exact (r.own _ _ g (hold b x hb) ((hown b x g hb).1 ho)).2
 ·rintro e w' ⟨v, E2, rfl, hv, u⟩
  -- the caller's names
  classical
  let E' : En := ⟨E2.F, fun b n => if b ∈ ids then E2.m (ids.idxOf b) n else E.m b n⟩
  have hidxOf : ∀ j, j < hs'.length → ids.idxOf (ρ j) = j := fun j hj => by
   have h1 : ids.idxOf (ρ j) < ids.length := List.idxOf_lt_length_of_mem (hmem j hj)
   have h2 := hidx _ (by omega : ids.idxOf (ρ j) < hs'.length)
   have h3 : ids[ids.idxOf (ρ j)]? = some (ρ j) := by rw [List.getElem?_eq_getElem h1, List.getElem_idxOf]
   rw [h2] at h3
   exact hinj _ _ (by omega) hj (by simpa using h3)
  have hE' : ∀ j n, j < hs'.length → E'.m (ρ j) n = E2.m j n := fun j n hj => by
   show (if ρ j ∈ ids then E2.m (ids.idxOf (ρ j)) n else E.m (ρ j) n) = _
   rw [if_pos (hmem j hj), hidxOf j hj]
  have hE2 : ∀ b n v, E2.m b n = some v → b < hs'.length := fun b n v hb => by
   rcases Nat.lt_or_ge b hs'.length with hl | hg
   ·exact hl
   ·rw [u.out b n (by simp; omega), hm0 b n (by omega)] at hb; cases hb
  have hm2 : ∀ b n v, E2.m b n = some v → E'.m (ρ b) n = some v := fun b n v hb => by rw [hE' b n (hE2 b n v hb)]; exact hb
  have hF2 : ∀ g, E2.F g → E'.F g := fun _ h => h
  have hown' : ∀ b x g, hs'[b]? = some x → (owns E' (ρ b) (x.ren ρ) g ↔ owns E2 b x g) := fun b x g hb => owns_ren (fun n => hE' b n (List.getElem?_eq_some_iff.1 hb).1) x g
  have hback : ∀ b x, b ∈ ids → h' b = some x → ∃ j y, j < hs'.length ∧ ρ j = b ∧ hs'[j]? = some y ∧ x = y.ren ρ := fun b x hb hx => by
   obtain ⟨j, hj, rfl⟩ := hof b hb
   have h1 := List.getElem?_eq_getElem (l := hs') (i := j) hj
   rw [hn1 j _ h1] at hx
   injection hx with hx
   exact ⟨j, _, hj, rfl, h1, hx.symm⟩
  have hbacko : ∀ b x g, b ∈ ids → h b = some x → owns E b x g → ∃ j y, j < hs'.length ∧ ρ j = b ∧ hs[j]? = some y ∧ owns Ec j y g := fun b x g hb hx ho => by
   obtain ⟨j, hj, rfl⟩ := hof b hb
   rcases Nat.lt_or_ge j hs.length with hl | hg
   ·have h1 := List.getElem?_eq_getElem (l := hs) (i := j) hl
    rw [hold j _ h1] at hx
    injection hx with hx; subst hx
    exact ⟨j, _, hj, rfl, h1, (hown j _ g h1).2 ho⟩
   ·rw [(hnew j _ (hidx j hj) hg).2] at hx; cases hx
  refine ⟨v, E', rfl, hv.forth hF2 hm2, ⟨⟨fun g hg => u.le.F g hg, fun b n v hb => ?_⟩, fun g hg => ?_, u.os, u.tape, u.output, u.grow, fun g hg hk => ?_, hn2, fun b n hb => if_neg hb, fun b hb x hx => ?_, fun b hb x g hx ho => ?_, fun b hb b' hb' x x' g hx hx' ho ho' => ?_, fun b hb => ?_⟩⟩
  ·by_cases hbi : b ∈ ids
   ·obtain ⟨j, hj, rfl⟩ := hof b hbi
    rw [hE' j n hj]
    rcases Nat.lt_or_ge j hs.length with hl | hg
    ·exact u.le.m j n v (by rw [hm j n hl]; exact hb)
    ·obtain ⟨h1, h2⟩ := hnew j _ (hidx j hj) hg
     rw [r.fresh _ n h1 h2] at hb; cases hb
   ·show (if b ∈ ids then E2.m (ids.idxOf b) n else E.m b n) = _
    rw [if_neg hbi]; exact hb
  ·rcases u.F g hg with h1 | h1 | ⟨h0, b, hb, x, hx, ho⟩
   ·exact .inl h1
   ·exact .inr (.inl h1)
   ·exact .inr (.inr ⟨h0, ρ b, hmem b (by simpa using hb), _, hold b x hx, (hown b x g hx).1 ho⟩)
  ·exact u.kept g hg fun b hb x hx ho => hk (ρ b) (hmem b (by simpa using hb)) _ (hold b x hx) ((hown b x g hx).1 ho)
  ·obtain ⟨j, y, hj, rfl, hy, rfl⟩ := hback b x hb hx
   exact (u.blk j (by simpa using hj) y hy).forth hF2 hm2 (fun n => hE' j n hj)
  ·obtain ⟨j, y, hj, rfl, hy, rfl⟩ := hback b x hb hx
   obtain ⟨h1, h2, h3⟩ := u.own j (by simpa using hj) y g hy ((hown' j y g hy).1 ho)
   refine ⟨?_, h2, h3⟩
   rcases h1 with h1 | ⟨b', hb', x', hx', ho'⟩
   ·exact .inl h1
   ·exact .inr ⟨ρ b', hmem b' (by simpa using hb'), _, hold b' x' hx', (hown b' x' g hx').1 ho'⟩
  ·obtain ⟨j, y, hj, rfl, hy, rfl⟩ := hback b x hb hx
   obtain ⟨j', y', hj', rfl, hy', rfl⟩ := hback b' x' hb' hx'
   rw [u.sep j (by simpa using hj) j' (by simpa using hj') y y' g hy hy' ((hown' j y g hy).1 ho) ((hown' j' y' g hy').1 ho')]
  ·obtain ⟨j, hj, rfl⟩ := hof b hb
   rw [hn1 j _ (List.getElem?_eq_getElem hj)]; simp
end
end Go.Abs
set_option linter.unusedVariables false
set_option linter.unusedSimpArgs false
namespace Go.Abs
open Go.RowKit
def o1 : Option AV → Option (Option AV × List (Nat × AB))
 | some v => some (some v, [])
 | none => none
def o2 : Option (AV × List (Nat × AB)) → Option (Option AV × List (Nat × AB))
 | some p => some (some p.1, p.2)
 | none => none
def o3 : Option (List (Nat × AB)) → Option (Option AV × List (Nat × AB))
 | some ws => some (none, ws)
 | none => none
def plBuiltin (P : Program) (t : Nat → Option AV) (h : Nat → Option AB) (nid : Nat) (b : Builtin) : List Operand → List Nat → Option (Option AV × List (Nat × AB))
 | [x], [ty] => match b, evT t x with
  | .len, some v => o1 (plLen P ty v)
  | _, _ => none
 | [x, y], [ty, ty'] => match evT t x, evT t y with
  | some v, some u => (match b with
   | .append => if ty = ty' then o2 (plAppend P h ty v u) else none
   | b => o1 (plMax b v u))
  | _, _ => none
 | _, _ => none
def pl (P : Program) (t : Nat → Option AV) (h : Nat → Option AB) (nid : Nat) : Op → Option (Option AV × List (Nat × AB))
 | .move x => o1 (evT t x)
 | .assign x => o1 (evT t x)
 | .pick c x y => match evT t c with
  | some (.one (.f (.v (.bool b)))) => o1 (if b then evT t x else evT t y)
  | _ => none
 | .alloc ty => o2 (plAlloc P ty nid)
 | .box ty x => match evT t x with | some v => o2 (plBox ty nid v) | none => none
 | .build ty parts => match evParts t parts.toList with | some ps => o1 (plBuild P ty ps) | none => none
 | .buildSlice ty len parts => match evParts t parts.toList with | some ps => o2 (plSlice P ty len nid ps) | none => none
 | .load ty x => match evT t x with | some v => o1 (plLoad P h ty v) | none => none
 | .store ty p x => match evT t p, evT t x with | some pv, some v => o3 (plStore P h ty pv v) | _, _ => none
 | .nilCheck x => match evT t x with | some v => o1 (plNil v) | none => none
 | .binOp op ty x y _ => match evT t x, evT t y with | some v, some u => o1 (plBin P op ty v u) | _, _ => none
 | .unOp op _ x => match evT t x with | some v => o1 (plUn op v) | none => none
 | .convert src dst x => match evT t x with | some v => o1 (plConv P src dst v) | none => none
 | .makeFunc f first caps => match first.toList, evCaps t caps.toList with | [], some l => some (some (.one (.fn f l)), []) | _, _ => none
 | .fieldAddr ty x f => match evT t x with | some v => o1 (plFieldAddr P ty f v) | none => none
 | .field ty x f => match evT t x with | some v => o1 (plField P ty f v) | none => none
 | .indexAddr ty x i => match evT t x, evT t i with | some v, some u => o1 (plIndexAddr P h ty v u) | _, _ => none
 | .index ty x i => match evT t x, evT t i with | some v, some u => o1 (plIndex P ty v u) | _, _ => none
 | .extract x i => match evT t x with | some v => o1 (plExtract i v) | none => none
 | .call c => match c.callee with
  | .builtin b => plBuiltin P t h nid b c.args.toList c.argTypes.toList
  | _ => none
 | _ => none
section
variable {P : Program} {fr : Fr} {E : En} {t : Nat → Option AV} {h : Nat → Option AB} {nx : Nat} {a : Act} {w : World}
theorem o1_some {x : Option AV} {y : Option AV} {ws : List (Nat × AB)} (h : o1 x = some (y, ws)) : ∃ v, x = some v ∧ y = some v ∧ ws = [] := by
 cases x with
 | none => cases h
 | some v => simp only [o1, Option.some.injEq, Prod.mk.injEq] at h; exact ⟨v, rfl, h.1.symm, h.2.symm⟩
theorem o2_some {x : Option (AV × List (Nat × AB))} {y : Option AV} {ws : List (Nat × AB)} (h : o2 x = some (y, ws)) : ∃ v, x = some (v, ws) ∧ y = some v := by
 cases x with
 | none => cases h
 | some p => simp only [o2, Option.some.injEq, Prod.mk.injEq] at h; exact ⟨p.1, by rw [← h.2], h.1.symm⟩
theorem o3_some {x : Option (List (Nat × AB))} {y : Option AV} {ws : List (Nat × AB)} (h : o3 x = some (y, ws)) : x = some ws ∧ y = none := by
 cases x with
 | none => cases h
 | some p => simp only [o3, Option.some.injEq, Prod.mk.injEq] at h; exact ⟨by rw [h.2], h.1.symm⟩
theorem toList_arr {α : Type} {xs : Array α} {l : List α} (h : xs.toList = l) : xs = l.toArray := by rw [← h]
theorem pl_sound (r : R fr E t h nx a w) {o : Oper} {nid : Nat} (hn : nx ≤ nid) (hb : h nid = none) {x : Option AV} {ws : List (Nat × AB)} (hp : pl P t h nid o.op = some (x, ws)) : Sound P E h a w o x ws := by
 cases ho : o.op <;> rw [ho] at hp <;> simp only [pl] at hp
 case move y => obtain ⟨v, h1, rfl, rfl⟩ := o1_some hp; exact move_sound r (.inl ho) h1
 case assign y => obtain ⟨v, h1, rfl, rfl⟩ := o1_some hp; exact move_sound r (.inr ho) h1
 case pick c x y =>
  split at hp
  ·rename_i b hc
   obtain ⟨v, h1, rfl, rfl⟩ := o1_some hp
   exact pick_sound r ho hc h1
  ·cases hp
 case alloc ty => obtain ⟨v, h1, rfl⟩ := o2_some hp; exact alloc_sound r ho hn hb h1
 case box ty y =>
  split at hp
  ·rename_i v hv; obtain ⟨u, h1, rfl⟩ := o2_some hp; exact box_sound r ho hv hn hb h1
  ·cases hp
 case build ty parts =>
  split at hp
  ·rename_i v hv; obtain ⟨u, h1, rfl, rfl⟩ := o1_some hp; exact build_sound r ho hv h1
  ·cases hp
 case buildSlice ty len parts =>
  split at hp
  ·rename_i v hv; obtain ⟨u, h1, rfl⟩ := o2_some hp; exact slice_sound r ho hv hn hb h1
  ·cases hp
 case load ty y =>
  split at hp
  ·rename_i v hv; obtain ⟨u, h1, rfl, rfl⟩ := o1_some hp; exact load_sound r ho hv h1
  ·cases hp
 case store ty p y =>
  split at hp
  ·rename_i pv v hpv hv; obtain ⟨h1, rfl⟩ := o3_some hp; exact store_sound r ho hpv hv h1
  ·cases hp
 case nilCheck y =>
  split at hp
  ·rename_i v hv; obtain ⟨u, h1, rfl, rfl⟩ := o1_some hp; exact nil_sound r ho hv h1
  ·cases hp
 case binOp op ty y z ty2 =>
  split at hp
  ·rename_i v u hv hu; obtain ⟨u, h1, rfl, rfl⟩ := o1_some hp; exact bin_sound r ho hv hu h1
  ·cases hp
 case unOp op ty y =>
  split at hp
  ·rename_i v hv; obtain ⟨u, h1, rfl, rfl⟩ := o1_some hp; exact un_sound r ho hv h1
  ·cases hp
 case convert src dst y =>
  split at hp
  ·rename_i v hv; obtain ⟨u, h1, rfl, rfl⟩ := o1_some hp; exact conv_sound r ho hv h1
  ·cases hp
 case makeFunc f first caps =>
  split at hp
  ·rename_i l hf hl
   simp only [Option.some.injEq, Prod.mk.injEq] at hp
   obtain ⟨rfl, rfl⟩ := hp
   have hf' := toList_arr hf
   subst hf'
   exact func_sound r ho hl
  ·cases hp
 case fieldAddr ty y f =>
  split at hp
  ·rename_i v hv; obtain ⟨u, h1, rfl, rfl⟩ := o1_some hp; exact fieldAddr_sound r ho hv h1
  ·cases hp
 case field ty y f =>
  split at hp
  ·rename_i v hv; obtain ⟨u, h1, rfl, rfl⟩ := o1_some hp; exact field_sound r ho hv h1
  ·cases hp
 case indexAddr ty y i =>
  split at hp
  ·rename_i v u hv hu; obtain ⟨u, h1, rfl, rfl⟩ := o1_some hp; exact indexAddr_sound r ho hv hu h1
  ·cases hp
 case index ty y i =>
  split at hp
  ·rename_i v u hv hu; obtain ⟨u, h1, rfl, rfl⟩ := o1_some hp; exact index_sound r ho hv hu h1
  ·cases hp
 case extract y i =>
  split at hp
  ·rename_i v hv; obtain ⟨u, h1, rfl, rfl⟩ := o1_some hp; exact extract_sound r ho hv h1
  ·cases hp
 case call c =>
  obtain ⟨callee, args, argTypes⟩ := c
  split at hp
  ·rename_i b hcal
   simp only at hcal hp
   subst hcal
   unfold plBuiltin at hp
   split at hp
   ·rename_i y ty ha ht
    have ha' := toList_arr ha; have ht' := toList_arr ht
    subst ha' ht'
    split at hp
    ·rename_i v hv
     obtain ⟨u, h1, rfl, rfl⟩ := o1_some hp; exact len_sound r ho hv h1
    ·cases hp
   ·rename_i y z ty ty' ha ht
    have ha' := toList_arr ha; have ht' := toList_arr ht
    subst ha' ht'
    split at hp
    ·rename_i v u hv hu
     split at hp
     ·split at hp
      ·rename_i e; subst e
       obtain ⟨u, h1, rfl⟩ := o2_some hp; exact append_sound r ho hv hu h1
      ·cases hp
     ·obtain ⟨u, h1, rfl, rfl⟩ := o1_some hp; exact max_sound r ho hv hu h1
    ·cases hp
   ·cases hp
  ·cases hp
 all_goals cases hp
def rdT (o : Op) : List Nat := o.operands.toList.filterMap fun | .tmp i => some i | _ => none
def top : AV → List Nat
 | .one (.ptr b _) => [b]
 | .one (.row b _) => [b]
 | .one (.ep b _ _ _ _) => [b]
 | _ => []
def rdO : Op → List Operand
 | .load _ x => [x]
 | .store _ p _ => [p]
 | .indexAddr _ x _ => [x]
 | .call c => c.args.toList
 | _ => []
def rdB (t : Nat → Option AV) (o : Op) : List Nat := (rdO o).flatMap fun x => match evT t x with | some v => top v | none => []
theorem evT_local {t' : Nat → Option AV} {l : List Operand} (h : ∀ i ∈ l.filterMap (fun x : Operand => match x with | .tmp i => some i | _ => none), t' i = t i) {x : Operand} (hx : x ∈ l) : evT t' x = evT t x := by
 cases x with
 | tmp i => exact h i (List.mem_filterMap.2 ⟨_, hx, rfl⟩)
 | _ => rfl
theorem evParts_local {t' : Nat → Option AV} : ∀ {l : List (Nat × Operand)}, (∀ p ∈ l, evT t' p.2 = evT t p.2) → evParts t' l = evParts t l
 | [], _ => rfl
 | p :: r, h => by simp only [evParts]; rw [h p (by simp), evParts_local (l := r) fun q hq => h q (by simp [hq])]
theorem evCaps_local {t' : Nat → Option AV} : ∀ {l : List Operand}, (∀ p ∈ l, evT t' p = evT t p) → evCaps t' l = evCaps t l
 | [], _ => rfl
 | p :: r, h => by simp only [evCaps]; rw [h p (by simp), evCaps_local (l := r) fun q hq => h q (by simp [hq])]
theorem readAt_local {h' : Nat → Option AB} {v : AV} (hb : ∀ b ∈ top v, h' b = h b) : readAt h' v = readAt h v := by
 cases v with
 | one c => cases c <;> simp only [readAt, top, List.mem_singleton, forall_eq] at hb ⊢ <;> rw [hb]
 | _ => rfl
theorem plStore_local {h' : Nat → Option AB} {ty : Nat} {v x : AV} (hb : ∀ b ∈ top v, h' b = h b) : plStore P h' ty v x = plStore P h ty v x := by
 unfold plStore
 cases v with
 | one c => cases c <;> simp only [top, List.mem_singleton, forall_eq] at hb ⊢ <;> rw [hb]
 | _ => rfl
theorem plIndexAddr_local {h' : Nat → Option AB} {ty : Nat} {v x : AV} (hb : ∀ b ∈ top v, h' b = h b) : plIndexAddr P h' ty v x = plIndexAddr P h ty v x := by
 unfold plIndexAddr
 cases v with
 | one c =>
  cases c with
  | row b n => simp only; rw [hb b (by simp [top])]
  | f c => cases c <;> rfl
  | _ => rfl
 | _ => rfl
theorem elemsOf_local {h' : Nat → Option AB} {v : AV} (hb : ∀ b ∈ top v, h' b = h b) : elemsOf h' v = elemsOf h v := by
 cases v with
 | one c =>
  cases c with
  | row b n => simp only [elemsOf]; rw [hb b (by simp [top])]
  | f c =>
   cases c with
   | v x => unfold elemsOf; split <;> simp_all
   | _ => rfl
  | _ => rfl
 | _ => rfl
theorem plAppend_local {h' : Nat → Option AB} {ty : Nat} {v x : AV} (hb : ∀ b ∈ top v, h' b = h b) (hb2 : ∀ b ∈ top x, h' b = h b) : plAppend P h' ty v x = plAppend P h ty v x := by
 unfold plAppend
 rw [elemsOf_local hb2]
 cases v with
 | one c =>
  cases c with
  | row b n =>
   cases tyOf P ty with
   | none => rfl
   | some ti =>
    cases elemsOf h x with
    | none => rfl
    | some em => simp only; rw [hb b (by simp [top])]
  | _ => rfl
 | _ => rfl
theorem pl_local {t' : Nat → Option AV} {h' : Nat → Option AB} {nid : Nat} {o : Op} (ht : ∀ i ∈ rdT o, t' i = t i) (hh : ∀ b ∈ rdB t o, h' b = h b) : pl P t' h' nid o = pl P t h nid o := by
 have hev : ∀ x ∈ o.operands.toList, evT t' x = evT t x := fun x hx => evT_local ht hx
 have htop : ∀ x ∈ rdO o, ∀ v, evT t x = some v → ∀ b ∈ top v, h' b = h b := fun x hx v hv b hb => hh b (List.mem_flatMap.2 ⟨x, hx, by rw [hv]; exact hb⟩)
 cases o <;> simp only [Op.operands, rdO, List.mem_cons, List.not_mem_nil, or_false, forall_eq, forall_eq_or_imp, pl] at hev htop ⊢ <;> try rfl
 case move x => rw [hev]
 case assign x => rw [hev]
 case pick c x y => rw [hev.1, hev.2.1, hev.2.2]
 case box ty x => rw [hev]
 case build ty parts => rw [evParts_local fun p hp => hev p.2 (by simp; exact ⟨p.1, by simpa using hp⟩)]
 case buildSlice ty len parts => rw [evParts_local fun p hp => hev p.2 (by simp; exact ⟨p.1, by simpa using hp⟩)]
 case load ty x =>
  rw [hev]
  cases hx : evT t x with
  | none => rfl
  | some v => simp only [plLoad, readAt_local (htop v hx)]
 case store ty p x =>
  rw [hev.1, hev.2]
  cases hp : evT t p with
  | none => rfl
  | some pv =>
   cases hx : evT t x with
   | none => rfl
   | some v => simp only [plStore_local (htop pv hp)]
 case nilCheck x => rw [hev]
 case binOp op ty x y ty2 => rw [hev.1, hev.2]
 case unOp op ty x => rw [hev]
 case convert s d x => rw [hev]
 case makeFunc f first caps =>
  have : evCaps t' caps.toList = evCaps t caps.toList := evCaps_local fun p hp => hev p (by simp at hp ⊢; exact .inr hp)
  rw [this]
 case fieldAddr ty x f => rw [hev]
 case field ty x f => rw [hev]
 case indexAddr ty x i =>
  rw [hev.1, hev.2]
  cases hp : evT t x with
  | none => rfl
  | some pv =>
   cases hx : evT t i with
   | none => rfl
   | some v => simp only [plIndexAddr_local (htop pv hp)]
 case index ty x i => rw [hev.1, hev.2]
 case extract x i => rw [hev]
 case call c =>
  obtain ⟨callee, args, argTypes⟩ := c
  cases callee with
  | builtin b =>
   have hev' : ∀ x ∈ args.toList, evT t' x = evT t x := fun x hx => hev x (by simpa [Call.operands] using hx)
   have htop' : ∀ x ∈ args.toList, ∀ v, evT t x = some v → ∀ b ∈ top v, h' b = h b := fun x hx => htop x hx
   simp only
   unfold plBuiltin
   split
   ·rename_i y ty ha hty
    rw [ha] at hev' htop'
    rw [hev' y (by simp)]
   ·rename_i y z ty ty' ha hty
    rw [ha] at hev' htop'
    rw [hev' y (by simp), hev' z (by simp)]
    cases hp : evT t y with
    | none => rfl
    | some pv =>
     cases hx : evT t z with
     | none => rfl
     | some v => simp only [plAppend_local (htop' y (by simp) pv hp) (htop' z (by simp) v hx)]
   ·rfl
  | _ => rfl
end
end Go.Abs
set_option linter.unusedVariables false
set_option linter.unusedSimpArgs false
namespace Go.Abs
open Go.RowKit
structure Rec where
 dst : Option Nat
 val : Option AV
 ws : List (Nat × AB)
 rt : List Nat
 rb : List Nat
 fr : List Nat
def Rec.appT (r : Rec) (t : Nat → Option AV) : Nat → Option AV := fun i => if r.dst = some i then r.val else t i
def Rec.appH (r : Rec) (h : Nat → Option AB) : Nat → Option AB := ups h r.ws
def Good (P : Program) (nt nx : Nat) (ops : Array Oper) (o : Oper) (rc : Rec) (t : Nat → Option AV) (h : Nat → Option AB) : Prop :=
 rc.dst = o.dst ∧ (∀ d, o.dst = some d → d < nt) ∧ ∀ (t' : Nat → Option AV) (h' : Nat → Option AB), (∀ i ∈ rc.rt, t' i = t i) → (∀ b ∈ rc.rb, h' b = h b) → (∀ b ∈ rc.fr, h' b = none ∧ nx ≤ b) →
  ∀ (fr : Fr) (E : En) (a : Act) (w : World), fr.nt = nt → R fr E t' h' nx a w → ∀ (K : Act → World → Prop) (Q : Exit → Act → World → Prop),
   (∀ E' v w', Upd E h' w (rc.ws.map (·.1)) E' (ups h' rc.ws) w' → (∀ y, rc.val = some y → Rv w' E' y v) → K (a.put o.dst v) w') →
   if Region.wanted o (yielded ops a.tmps) = true then o.wp P a w K Q else K (a.put o.dst undef) w
section
variable {P : Program} {nt nx : Nat} {ops : Array Oper} {o : Oper} {rc : Rec} {t : Nat → Option AV} {h : Nat → Option AB}
theorem Good.step (g : Good P nt nx ops o rc t h) {t' : Nat → Option AV} {h' : Nat → Option AB} (ht : ∀ i ∈ rc.rt, t' i = t i) (hh : ∀ b ∈ rc.rb, h' b = h b) (hf : ∀ b ∈ rc.fr, h' b = none ∧ nx ≤ b)
  {fr : Fr} {E : En} {a : Act} {w : World} (hn : fr.nt = nt) (r : R fr E t' h' nx a w) (K : Act → World → Prop) (Q : Exit → Act → World → Prop) (hK : ∀ E' a' w', R fr E' (rc.appT t') (rc.appH h') nx a' w' → K a' w') :
  if Region.wanted o (yielded ops a.tmps) = true then o.wp P a w K Q else K (a.put o.dst undef) w := by
 obtain ⟨hd, hnt, g⟩ := g
 refine g t' h' ht hh hf fr E a w hn r K Q fun E' v w' u hv => hK E' _ w' ?_
 have r' := r.upd u
 have hft : ∀ (hx : rc.val = none ∨ o.dst = none) (i : Nat) (x : AV), rc.appT t' i = some x → t' i = some x ∧ o.dst ≠ some i := fun hx i x hi => by
  unfold Rec.appT at hi
  rw [hd] at hi
  split at hi
  ·rename_i e
   rcases hx with hx | hx
   ·rw [hx] at hi; cases hi
   ·rw [hx] at e; cases e
  ·rename_i e; exact ⟨hi, e⟩
 cases hval : rc.val with
 | none => exact r'.forget v (hft (.inl hval))
 | some y =>
  cases hdst : o.dst with
  | none => rw [← hdst]; exact r'.forget v (hft (.inr hdst))
  | some d =>
   have := r'.put (d := d) (by rw [hn]; exact hnt d hdst) (hv y hval)
   have e : rc.appT t' = up t' d y := by
    funext i
    simp only [Rec.appT, up, hd, hdst, hval, Option.some.injEq]
   rw [e]; exact this
def gRd (ops : Array Oper) (o : Oper) : List Nat := match o.guard with
 | none => []
 | some p => match (ops[p.1]?).bind (·.dst) with | some d => [d] | none => []
def gOf (ops : Array Oper) (t : Nat → Option AV) (o : Oper) : Option Bool := match o.guard with
 | none => some true
 | some p => match (ops[p.1]?).bind (·.dst) with
  | some d => (match t d with | some (.one (.f (.v (.bool b)))) => some (b == p.2) | _ => none)
  | none => none
theorem gOf_sound {fr : Fr} {E : En} {a : Act} {w : World} (r : R fr E t h nx a w) {g : Bool} (hg : gOf ops t o = some g) : Region.wanted o (yielded ops a.tmps) = g := by
 unfold gOf at hg
 unfold Region.wanted
 split at hg
 ·rename_i e
  simp only [e]; simpa using hg
 ·rename_i p e
  simp only [e]
  split at hg
  ·rename_i d hd
   split at hg
   ·rename_i b hb
    injection hg with hg; subst hg
    obtain ⟨v, h1, h2⟩ := r.tmps d _ hb
    have := h2.val_inv
    subst this
    have hy : yielded ops a.tmps p.1 = some b := by
     unfold yielded
     simp [hd, Array.getD_eq_getD_getElem?, h1]
    rw [hy]
    cases b <;> cases p.2 <;> rfl
   ·cases hg
  ·cases hg
theorem gOf_local {t' : Nat → Option AV} (ht : ∀ i ∈ gRd ops o, t' i = t i) : gOf ops t' o = gOf ops t o := by
 unfold gOf
 unfold gRd at ht
 cases hg : o.guard with
 | none => rfl
 | some p =>
  rw [hg] at ht
  simp only at ht ⊢
  cases hd : (ops[p.1]?).bind (·.dst) with
  | none => rfl
  | some d => rw [hd] at ht; simp only at ht ⊢; rw [ht d (by simp)]
theorem good_op {nid : Nat} (hd : ∀ d, o.dst = some d → d < nt) (hg : gOf ops t o = some true) {x : Option AV} {ws : List (Nat × AB)} (hp : pl P t h nid o.op = some (x, ws)) :
  Good P nt nx ops o ⟨o.dst, x, ws, gRd ops o ++ rdT o.op, rdB t o.op, [nid]⟩ t h := by
 refine ⟨rfl, hd, fun t' h' ht hh hf fr E a w hn r K Q hK => ?_⟩
 have h1 : gOf ops t' o = some true := by rw [gOf_local fun i hi => ht i (by simp [hi])]; exact hg
 have h2 : pl P t' h' nid o.op = some (x, ws) := by rw [pl_local (fun i hi => ht i (by simp [hi])) hh]; exact hp
 rw [if_pos (gOf_sound r h1)]
 obtain ⟨hf1, hf2⟩ := hf nid (by simp)
 obtain ⟨res, w', E', hrun, hres, hu⟩ := pl_sound r hf2 hf1 h2
 unfold Oper.wp
 rw [hrun]
 rcases hres with ⟨v, rfl, hv⟩ | ⟨rfl, hx⟩
 ·exact hK E' v w' hu hv
 ·exact hK E' undef w' hu (fun y hy => by simp only at hy; rw [hx] at hy; cases hy)
theorem good_skip (hd : ∀ d, o.dst = some d → d < nt) (hg : gOf ops t o = some false) : Good P nt nx ops o ⟨o.dst, none, [], gRd ops o, [], []⟩ t h := by
 refine ⟨rfl, hd, fun t' h' ht hh hf fr E a w hn r K Q hK => ?_⟩
 have h1 : gOf ops t' o = some false := by rw [gOf_local fun i hi => ht i (by simpa using hi)]; exact hg
 rw [if_neg (by rw [gOf_sound r h1]; simp)]
 exact hK E undef w (Upd.refl E h' w) (fun y hy => by cases hy)
def evArgs (t : Nat → Option AV) : List Operand → Option (List AV)
 | [] => some []
 | x :: r => match evT t x, evArgs t r with | some v, some l => some (v :: l) | _, _ => none
theorem evArgs_sound {fr : Fr} {E : En} {a : Act} {w : World} (r : R fr E t h nx a w) : ∀ {xs : List Operand} {l : List AV}, evArgs t xs = some l → All2 (Rv w E) l (xs.map a.eval)
 | [], l, h => by simp only [evArgs, Option.some.injEq] at h; subst h; exact All2.nil _
 | x :: xs, l, h => by
  unfold evArgs at h
  split at h
  ·rename_i v l' hv hl
   injection h with h; subst h
   exact All2.cons (ev_sound r hv) (evArgs_sound r hl)
  ·cases h
theorem evArgs_local {t' : Nat → Option AV} : ∀ {l : List Operand}, (∀ p ∈ l, evT t' p = evT t p) → evArgs t' l = evArgs t l
 | [], _ => rfl
 | p :: r, h => by simp only [evArgs]; rw [h p (by simp), evArgs_local (l := r) fun q hq => h q (by simp [hq])]
theorem enter_run {fid : FuncId} (he : Enters P fid) (args : Array Value) (w : World) : (callFunc fid args).run P w = .ok (.enter fid args) w := by
 obtain ⟨fn, h1, h2, h3⟩ := he
 unfold callFunc
 simp only [Sem.run_bind, run_program, Result.andThen_ok, h1, h2, h3, Bool.false_eq_true, if_false, Sem.run_pure]
theorem ups_zip {α : Type} : ∀ (ids : List Nat) (l : List α) (h : Nat → Option α), ids.Nodup → ids.length = l.length → (∀ (j : Nat) (b : Nat) (x : α), ids[j]? = some b → l[j]? = some x → ups h (ids.zip l) b = some x) ∧ ∀ b, b ∉ ids → ups h (ids.zip l) b = h b
 | [], l, h, hn, hl => ⟨fun j b x hj => by simp at hj, fun b hb => by simp [ups]⟩
 | i :: ids, [], h, hn, hl => by simp at hl
 | i :: ids, y :: l, h, hn, hl => by
  rw [List.nodup_cons] at hn
  obtain ⟨h1, h2⟩ := ups_zip ids l (up h i y) hn.2 (by simpa using hl)
  refine ⟨fun j b x hj hx => ?_, fun b hb => ?_⟩
  ·cases j with
   | zero =>
    simp at hj hx
    subst hj hx
    simp only [List.zip_cons_cons, ups]
    rw [h2 i hn.1, up_at]
   | succ j => simpa [ups] using h1 j b x (by simpa using hj) (by simpa using hx)
  ·simp only [List.mem_cons, not_or] at hb
   simp only [List.zip_cons_cons, ups]
   rw [h2 b hb.2, up_out _ _ (fun e => hb.1 e.symm)]
def nm (ids : List Nat) : Nat → Nat := fun j => ids.getD j 0
theorem good_call {f : Operand} {args : Array Operand} {tys : Array TypeId} (ho : o.op = .call ⟨.value f, args, tys⟩) (hd : ∀ d, o.dst = some d → d < nt) (hg : gOf ops t o = some true) {fid : FuncId} {caps : List AC} (hf : evT t f = some (.one (.fn (.func fid) caps)))
  {xs : List AV} (hxs : evArgs t args.toList = some xs) {cargs : List AV} {hs hs' : List AB} {res : AV} (hc : ACall P fid cargs hs res hs') {ids : List Nat} (hnd : ids.Nodup) (hlen : ids.length = hs'.length)
  (hargs : xs ++ caps.map AV.one = cargs.map (·.ren (nm ids))) (hlt : ∀ x ∈ cargs, x.lt hs.length = true) (hboxes : ∀ ty l, .box ty l ∈ hs → AC.lts hs.length l = true) (hold : ∀ j x, hs[j]? = some x → h (nm ids j) = some (x.ren (nm ids))) :
  Good P nt nx ops o ⟨o.dst, some (res.ren (nm ids)), ids.zip (hs'.map (·.ren (nm ids))), gRd ops o ++ rdT o.op, ids.take hs.length, ids.drop hs.length⟩ t h := by
 refine ⟨rfl, hd, fun t' h' ht hh hfr fr E a w hn r K Q hK => ?_⟩
 have h1 : gOf ops t' o = some true := by rw [gOf_local fun i hi => ht i (by simp [hi])]; exact hg
 have hopd : o.op.operands.toList = f :: args.toList := by rw [ho]; simp [Op.operands, Call.operands]
 have hev : ∀ x ∈ o.op.operands.toList, evT t' x = evT t x := fun x hx => evT_local (fun i hi => ht i (by simp only [List.mem_append]; exact .inr hi)) hx
 rw [hopd] at hev
 have hf' : evT t' f = some (.one (.fn (.func fid) caps)) := by rw [hev f (by simp)]; exact hf
 have hxs' : evArgs t' args.toList = some xs := by rw [evArgs_local fun p hp => hev p (by simp at hp ⊢; exact .inr hp)]; exact hxs
 rw [if_pos (gOf_sound r h1)]
 have hle := hc.2.1
 have hnm : ∀ (j b : Nat), ids[j]? = some b → nm ids j = b := fun j b hj => by simp [nm, hj]
 have hfv := ev_sound r hf'
 have hav := evArgs_sound r hxs'
 have hcv : ∃ cv, a.eval f = .func (.func fid) #[] cv ∧ All2 (Rv w E) (caps.map AV.one) cv.toList := by
  generalize a.eval f = fv at hfv
  cases hfv with | one hfv => ?_
  cases hfv with | @fn _ _ vs vals hs hv hr => ?_
  refine ⟨vs, rfl, by simpa using hs, fun j c hj => ?_⟩
  rw [List.getElem?_map] at hj
  obtain ⟨d, hd, rfl⟩ := Option.map_eq_some_iff.1 hj
  exact ⟨vals j, by simpa using hv j d hd, .one (hr j d hd)⟩
 obtain ⟨cv, hfe, hcv⟩ := hcv
 have hz := ups_zip ids (hs'.map (·.ren (nm ids))) h' hnd (by simpa using hlen)
 have hcall := call_upd (h' := ups h' (ids.zip (hs'.map (·.ren (nm ids))))) r hc hnd hlen hnm (fun j x hj => by
   have hjl := (List.getElem?_eq_some_iff.1 hj).1
   have hjb : ids[j]? = some (nm ids j) := by have := List.getElem?_eq_getElem (l := ids) (i := j) (by omega); rw [this, hnm j _ this]
   rw [hh (nm ids j) (List.mem_of_getElem? (i := j) (by simp only; rw [List.getElem?_take_of_lt hjl]; exact hjb))]
   exact hold j x hj)
  (fun j b hj hg => by
   have := hfr b (List.mem_of_getElem? (i := j - hs.length) (by simp only; rw [List.getElem?_drop, ← hj]; congr 1; omega))
   exact ⟨this.2, this.1⟩)
  hlt hboxes (vs := (args.map a.eval) ++ cv) (by rw [← hargs]; simpa using hav.append hcv)
  (fun j x hj => by
   have hjl := (List.getElem?_eq_some_iff.1 hj).1
   have hjb : ids[j]? = some (nm ids j) := by have := List.getElem?_eq_getElem (l := ids) (i := j) (by omega); rw [this, hnm j _ this]
   exact hz.1 j _ _ hjb (by simp [hj]))
  hz.2
 unfold Oper.wp
 have hrun : (execOp a.eval o).run P w = .ok (.enter fid (args.map a.eval ++ cv)) w := by
  unfold execOp
  simp only [ho, resolve, Deferred.ofValue, hfe, Sem.run_bind, Sem.run_pure, Result.andThen_ok, invoke, enter_run hc.1]
  simp [enter_run hc.1]
 rw [hrun]
 refine hcall.mono ?_
 rintro e w' ⟨v, E', rfl, hv, hu⟩
 refine hK E' v w' ?_ (fun y hy => by simp only at hy; injection hy with hy; subst hy; exact hv)
 have hids : (ids.zip (hs'.map (·.ren (nm ids)))).map (·.1) = ids := by
  rw [← List.unzip_fst, List.unzip_zip (by simpa using hlen)]
 simp only
 rw [hids]
 exact hu
end
end Go.Abs
set_option linter.unusedVariables false
set_option linter.unusedSimpArgs false
namespace Go.Abs
open Go.RowKit
section generic
variable {α : Type} (app : Nat → (Nat → Option α) → Nat → Option α)
def ap (S : Nat → Bool) : Nat → (Nat → Option α) → Nat → Option α
 | 0, f => f
 | n + 1, f => if S n then app n (ap S n f) else ap S n f
variable (wr : Nat → Nat → Prop) (h1 : ∀ i f l, ¬ wr i l → app i f l = f l) (h2 : ∀ i f g l, wr i l → app i f l = app i g l)
include h1 in
theorem ap_none {S : Nat → Bool} {n l : Nat} {f : Nat → Option α} (h : ∀ j, j < n → S j = true → ¬ wr j l) : ap app S n f l = f l := by
 induction n with
 | zero => rfl
 | succ n ih =>
  simp only [ap]
  split
  ·rename_i hs; rw [h1 _ _ _ (h n (by omega) hs)]; exact ih fun j hj => h j (by omega)
  ·exact ih fun j hj => h j (by omega)
include h1 h2 in
theorem ap_agree {S S' : Nat → Bool} {n l : Nat} {f : Nat → Option α} (h : ∀ j, j < n → wr j l → S j = S' j) : ap app S n f l = ap app S' n f l := by
 induction n with
 | zero => rfl
 | succ n ih =>
  have ih := ih fun j hj => h j (by omega)
  simp only [ap]
  by_cases hw : wr n l
  ·rw [h n (by omega) hw]
   split
   ·exact h2 _ _ _ _ hw
   ·exact ih
  ·have e1 : (if S n = true then app n (ap app S n f) else ap app S n f) l = ap app S n f l := by split; exact h1 _ _ _ hw; rfl
   have e2 : (if S' n = true then app n (ap app S' n f) else ap app S' n f) l = ap app S' n f l := by split; exact h1 _ _ _ hw; rfl
   rw [e1, e2]; exact ih
include h1 h2 in
theorem ap_add {S : Nat → Bool} {n i l : Nat} {f : Nat → Option α} (hi : i < n) (h : ∀ j, i < j → j < n → S j = true → wr j l → ¬ wr i l) :
  ap app (fun j => j == i || S j) n f l = app i (ap app S n f) l := by
 by_cases hw : wr i l
 ·have key : ∀ m, i < m → m ≤ n → ∀ g, ap app (fun j => j == i || S j) m f l = app i g l := by
   intro m
   induction m with
   | zero => intro hm; omega
   | succ m ih =>
    intro hm hmn g
    simp only [ap]
    by_cases e : m = i
    ·subst e; rw [if_pos (by simp)]; exact h2 _ _ _ _ hw
    ·have hb : (m == i || S m) = S m := by simp [e]
     have hlt : i < m := by omega
     split
     ·rename_i hs0
      have hs : S m = true := hb ▸ hs0
      rw [h1 _ _ _ fun hwm => h m hlt (by omega) hs hwm hw]
      exact ih hlt (by omega) g
     ·exact ih hlt (by omega) g
  exact key n hi (Nat.le_refl _) _
 ·rw [h1 _ _ _ hw]
  refine ap_agree app wr h1 h2 fun j hj hwj => ?_
  by_cases e : j = i
  ·subst e; exact absurd hwj hw
  ·simp [e]
theorem ap_lt {n i : Nat} {f : Nat → Option α} (hi : i ≤ n) : ap app (fun j => decide (j < i)) n f = ap app (fun _ => true) i f := by
  induction n with
  | zero => have : i = 0 := by omega
            subst this; rfl
  | succ n ih =>
    by_cases e : i = n + 1
    · subst e
      have : ∀ m, m ≤ n + 1 → ap app (fun j => decide (j < n + 1)) m f = ap app (fun _ => true) m f := by
        intro m
        induction m with
        | zero => intro _; rfl
        | succ m ih2 => intro hm; simp only [ap]; rw [ih2 (by omega)]; rw [if_pos (by simp; omega)]; simp
      exact this _ (Nat.le_refl _)
    · simp only [ap]
      rw [if_neg (by simp; omega)]
      exact ih (by omega)
include h1 h2 in
theorem ap_pre {S : Nat → Bool} {n i l : Nat} {f : Nat → Option α} (hi : i ≤ n) (h : ∀ j, j < n → wr j l → S j = decide (j < i)) : ap app S n f l = ap app (fun _ => true) i f l := by
 rw [ap_agree app wr h1 h2 h, ap_lt app hi]
end generic
structure Chk where
 wt : Option Nat
 wb : List Nat
 rt : List Nat
 rb : List Nat
 fr : List Nat
def Rec.chk (r : Rec) : Chk := ⟨r.dst, r.ws.map (·.1), r.rt, r.rb, r.fr⟩
def clash (a b : Chk) : Bool :=
 (match a.wt with | some d => b.rt.contains d || b.wt == some d | none => false) || a.wb.any fun x => b.rb.contains x || b.wb.contains x
def preOf (acc : List (List Nat)) (o : Oper) : List Nat := o.after.toList.flatMap fun e => if Region.binds .any e then e.on :: acc.getD e.on [] else []
def preL : List Oper → List (List Nat) → List (List Nat)
 | [], acc => acc
 | o :: r, acc => preL r (acc ++ [preOf acc o])
def edgesOk : Nat → List Oper → Bool
 | _, [] => true
 | i, o :: r => o.after.toList.all (fun e => !Region.binds .any e || decide (e.on < i)) && edgesOk (i + 1) r
def okOrder (ops : List Oper) (cs : List Chk) : Bool :=
 let pre := preL ops []
 let d : Chk := ⟨none, [], [], [], []⟩
 edgesOk 0 ops && (List.range ops.length).all fun i => (List.range ops.length).all fun j => i == j || ((cs.getD i d).fr.all fun b => !(cs.getD j d).wb.contains b) &&
  (!decide (j < i) || !(clash (cs.getD j d) (cs.getD i d) || clash (cs.getD i d) (cs.getD j d)) || (pre.getD i []).contains j)
theorem edgesOk_spec : ∀ {k : Nat} {l : List Oper}, edgesOk k l = true → ∀ {i : Nat} {o : Oper}, l[i]? = some o → ∀ e ∈ o.after, Region.binds .any e = true → e.on < k + i
 | k, [], h, i, o, hi, e, he, hb => by simp at hi
 | k, p :: r, h, i, o, hi, e, he, hb => by
  simp only [edgesOk, Bool.and_eq_true, List.all_eq_true] at h
  cases i with
  | zero =>
   simp at hi; subst hi
   have := h.1 e (by simpa using he)
   simp [hb] at this
   omega
  | succ i =>
   have := edgesOk_spec h.2 (by simpa using hi) e he hb
   omega
theorem preL_spec {S : Nat → Bool} {all : List Oper} (hcl : ∀ i o, all[i]? = some o → S i = true → ∀ e ∈ o.after, Region.binds .any e = true → S e.on = true) :
  ∀ (l : List Oper) (acc : List (List Nat)), (∀ j o, l[j]? = some o → all[acc.length + j]? = some o) → (∀ k j, j ∈ acc.getD k [] → S k = true → S j = true) → ∀ k j, j ∈ (preL l acc).getD k [] → S k = true → S j = true
 | [], acc, hl, ha, k, j, hj, hk => ha k j hj hk
 | o :: r, acc, hl, ha, k, j, hj, hk => by
  refine preL_spec hcl r (acc ++ [preOf acc o]) (fun j o hj => ?_) (fun k j hj hk => ?_) k j hj hk
  ·have := hl (j + 1) o (by simpa using hj)
   rw [List.length_append, List.length_singleton, ← this]; congr 1; omega
  ·rcases Nat.lt_trichotomy k acc.length with hlt | heq | hgt
   ·rw [List.getD_eq_getElem?_getD, List.getElem?_append_left hlt, ← List.getD_eq_getElem?_getD] at hj
    exact ha k j hj hk
   ·subst heq
    rw [List.getD_eq_getElem?_getD, List.getElem?_append_right (Nat.le_refl _)] at hj
    simp at hj
    unfold preOf at hj
    obtain ⟨e, he, hje⟩ := List.mem_flatMap.1 hj
    split at hje
    ·rename_i hb
     have hS := hcl acc.length o (by have := hl 0 o rfl; simpa using this) hk e (by simpa using he) hb
     rcases List.mem_cons.1 hje with rfl | hje
     ·exact hS
     ·exact ha e.on j hje hS
    ·simp at hje
   ·rw [List.getD_eq_getElem?_getD, List.getElem?_append_right (by omega)] at hj
    have : [preOf acc o][k - acc.length]? = none := by simp; omega
    rw [this] at hj; simp at hj
def cnt (listed : Array Bool) : Nat → Nat
 | 0 => 0
 | n + 1 => cnt listed n + (if listed.getD n true then 0 else 1)
theorem cnt_set {listed : Array Bool} {i : Nat} (h : listed.getD i true = false) : ∀ n, (i < n → cnt (listed.setIfInBounds i true) n + 1 = cnt listed n) ∧ (n ≤ i → cnt (listed.setIfInBounds i true) n = cnt listed n)
 | 0 => ⟨fun h => by omega, fun _ => rfl⟩
 | n + 1 => by
  have ih := cnt_set h n
  have hil : i < listed.size := by
   rcases Nat.lt_or_ge i listed.size with h2 | h2
   ·exact h2
   ·simp [Array.getD, Nat.not_lt.2 h2] at h
  refine ⟨fun hn => ?_, fun hn => ?_⟩
  ·simp only [cnt]
   by_cases e : i = n
   ·subst e
    rw [ih.2 (Nat.le_refl _), h]
    simp [hil]
   ·have := ih.1 (by omega)
    rw [getD_set_ne true e]; omega
  ·simp only [cnt]
   rw [ih.2 (by omega), getD_set_ne true (by omega)]
theorem cnt_zero {listed : Array Bool} : ∀ {n : Nat}, cnt listed n = 0 → ∀ i, i < n → listed.getD i true = true
 | 0, h, i, hi => by omega
 | n + 1, h, i, hi => by
  simp only [cnt] at h
  by_cases e : i = n
  ·subst e
   cases hb : listed.getD i true
   ·rw [hb] at h; simp at h
   ·rfl
  ·exact cnt_zero (n := n) (by omega) i (by omega)
theorem cnt_le (listed : Array Bool) : ∀ n, cnt listed n ≤ n
 | 0 => Nat.le_refl _
 | n + 1 => by simp only [cnt]; have := cnt_le listed n; split <;> omega
section
variable {P : Program} {nt nx : Nat} {ops : List Oper} {Q : Exit → Act → World → Prop} {rec : Nat → Rec} {t : Nat → Option AV} {h : Nat → Option AB} {fr : Fr}
theorem appT_out {r : Rec} {f : Nat → Option AV} {l : Nat} (h : ¬ r.dst = some l) : r.appT f l = f l := if_neg h
theorem appT_in {r : Rec} {f g : Nat → Option AV} {l : Nat} (h : r.dst = some l) : r.appT f l = r.appT g l := by simp only [Rec.appT, if_pos h]
theorem ups_out {α : Type} : ∀ {ws : List (Nat × α)} {f : Nat → Option α} {l : Nat}, l ∉ ws.map (·.1) → ups f ws l = f l
 | [], f, l, h => rfl
 | p :: r, f, l, h => by
  simp only [List.map_cons, List.mem_cons, not_or] at h
  simp only [ups]
  rw [ups_out h.2, up_out _ _ (fun e => h.1 e.symm)]
theorem ups_in {α : Type} : ∀ {ws : List (Nat × α)} {f g : Nat → Option α} {l : Nat}, l ∈ ws.map (·.1) → ups f ws l = ups g ws l
 | [], f, g, l, h => by simp at h
 | p :: r, f, g, l, h => by
  simp only [ups]
  by_cases hr : l ∈ r.map (·.1)
  ·exact ups_in hr
  ·simp only [List.map_cons, List.mem_cons] at h
   rw [ups_out hr, ups_out hr, h.resolve_right hr, up_at, up_at]
def TS (rec : Nat → Rec) (S : Nat → Bool) (n : Nat) (t : Nat → Option AV) := ap (fun i => (rec i).appT) S n t
def HS (rec : Nat → Rec) (S : Nat → Bool) (n : Nat) (h : Nat → Option AB) := ap (fun i => (rec i).appH) S n h
def wT (rec : Nat → Rec) (i l : Nat) : Prop := (rec i).dst = some l
def wH (rec : Nat → Rec) (i l : Nat) : Prop := l ∈ (rec i).ws.map (·.1)
theorem draw_wp (hn : fr.nt = nt) (hg : ∀ i o, ops[i]? = some o → Good P nt nx ops.toArray o (rec i) (TS rec (fun _ => true) i t) (HS rec (fun _ => true) i h)) (hnx : ∀ i, ∀ b ∈ (rec i).fr, h b = none ∧ nx ≤ b)
  (hok : okOrder ops ((List.range ops.length).map fun i => (rec i).chk) = true)
  (hQ : ∀ E' a' w', R fr E' (TS rec (fun _ => true) ops.length t) (HS rec (fun _ => true) ops.length h) nx a' w' → Q .normal a' w') :
  ∀ (fuel : Nat) (listed : Array Bool) (E : En) (a : Act) (w : World), listed.size = ops.length → cnt listed ops.length ≤ fuel → (∀ i o, ops[i]? = some o → listed.getD i false = true → ∀ e ∈ o.after, Region.binds .any e = true → listed.getD e.on false = true) →
   R fr E (TS rec (fun i => listed.getD i false) ops.length t) (HS rec (fun i => listed.getD i false) ops.length h) nx a w → wpAny P .any ops.toArray Q fuel listed a w := by
 -- what the check says
 unfold okOrder at hok
 simp only [Bool.and_eq_true, List.all_eq_true, List.mem_range, Bool.or_eq_true, beq_iff_eq, Bool.not_eq_true', decide_eq_false_iff_not] at hok
 obtain ⟨hed, hpair⟩ := hok
 have hchk : ∀ i, i < ops.length → ((List.range ops.length).map fun i => (rec i).chk).getD i ⟨none, [], [], [], []⟩ = (rec i).chk := fun i hi => by simp [List.getD_eq_getElem?_getD, hi]
 have hfr : ∀ i j, i < ops.length → j < ops.length → i ≠ j → ∀ b ∈ (rec i).fr, ¬ wH rec j b := fun i j hi hj hne b hb hw => by
  have := ((hpair i hi j hj).resolve_left hne).1 
  rw [hchk i hi, hchk j hj] at this
  have := this b hb
  simp [Rec.chk] at this
  obtain ⟨p, hp, rfl⟩ := List.mem_map.1 hw
  exact this p.2 hp
 have hord : ∀ i j, i < ops.length → j < i → (clash (rec j).chk (rec i).chk = true ∨ clash (rec i).chk (rec j).chk = true) → j ∈ (preL ops []).getD i [] := fun i j hi hj hc => by
  have := ((hpair i hi j (by omega)).resolve_left (by omega)).2
  rw [hchk i hi, hchk j (by omega)] at this
  rcases this with (h1 | h1) | h1
  ·exact absurd hj h1
  ·rcases hc with hc | hc <;> rw [hc] at h1 <;> simp at h1
  ·simpa using h1
 have cT : ∀ i j l, wT rec i l → (l ∈ (rec j).rt ∨ wT rec j l) → clash (rec i).chk (rec j).chk = true := fun i j l hw hr => by
  unfold wT at hw hr
  simp only [clash, Rec.chk, hw, Bool.or_eq_true, List.contains_eq_mem, decide_eq_true_eq, beq_iff_eq]
  exact .inl hr
 have cH : ∀ i j l, wH rec i l → (l ∈ (rec j).rb ∨ wH rec j l) → clash (rec i).chk (rec j).chk = true := fun i j l hw hr => by
  unfold wH at hw hr
  simp only [clash, Rec.chk, Bool.or_eq_true, List.any_eq_true, List.contains_eq_mem, decide_eq_true_eq]
  exact .inr ⟨l, hw, hr⟩
 have outT : ∀ i f l, ¬ wT rec i l → (rec i).appT f l = f l := fun i f l hw => appT_out hw
 have inT : ∀ i f g l, wT rec i l → (rec i).appT f l = (rec i).appT g l := fun i f g l hw => appT_in hw
 have outH : ∀ i f l, ¬ wH rec i l → (rec i).appH f l = f l := fun i f l hw => ups_out hw
 have inH : ∀ i f g l, wH rec i l → (rec i).appH f l = (rec i).appH g l := fun i f g l hw => ups_in hw
 intro fuel
 induction fuel with
 | zero =>
  intro listed E a w hsz hc hcl r
  have hall : ∀ i, i < ops.length → listed.getD i true = true := cnt_zero (by omega)
  have hrd : Region.ready .any ops.toArray listed = [] := by
   refine List.eq_nil_iff_forall_not_mem.2 fun i hi => ?_
   obtain ⟨h1, o, ho, -⟩ := mem_ready.1 hi
   have hil : i < ops.length := by have := (Array.getElem?_eq_some_iff.1 ho).1; simpa using this
   rw [hall i hil] at h1; cases h1
  have hS : ∀ j, j < ops.length → listed.getD j false = true := fun j hj => by
   have := hall j hj
   simp only [Array.getD_eq_getD_getElem?] at this ⊢
   rw [Array.getElem?_eq_getElem (by omega)] at this ⊢
   simpa using this
  refine ⟨hrd, hQ E a w ?_⟩
  have e1 : TS rec (fun i => listed.getD i false) ops.length t = TS rec (fun _ => true) ops.length t := funext fun l => ap_agree _ (wT rec) outT inT fun j hj _ => hS j hj
  have e2 : HS rec (fun i => listed.getD i false) ops.length h = HS rec (fun _ => true) ops.length h := funext fun l => ap_agree _ (wH rec) outH inH fun j hj _ => hS j hj
  rw [← e1, ← e2]; exact r
 | succ fuel ih =>
  intro listed E a w hsz hc hcl r
  have hgd : ∀ j, j < ops.length → listed.getD j true = listed.getD j false := fun j hj => by
   simp only [Array.getD_eq_getD_getElem?]
   rw [Array.getElem?_eq_getElem (by omega)]; rfl
  refine ⟨fun hrd => ?_, fun i hi => ?_⟩
  ·have hS : ∀ j, j < ops.length → listed.getD j false = true := by
    intro j
    induction j using Nat.strongRecOn with
    | _ j ihj =>
     intro hj
     cases hb : listed.getD j false
     ·exfalso
      have : j ∈ Region.ready .any ops.toArray listed := mem_ready.2 ⟨by rw [hgd j hj]; exact hb, ops[j], by simp [hj], fun e he hbd => ihj e.on (by have := edgesOk_spec hed (List.getElem?_eq_getElem hj) e he hbd; omega) (by have := edgesOk_spec hed (List.getElem?_eq_getElem hj) e he hbd; omega)⟩
      rw [hrd] at this; simp at this
     ·rfl
   have e1 : TS rec (fun i => listed.getD i false) ops.length t = TS rec (fun _ => true) ops.length t := funext fun l => ap_agree _ (wT rec) outT inT fun j hj _ => hS j hj
   have e2 : HS rec (fun i => listed.getD i false) ops.length h = HS rec (fun _ => true) ops.length h := funext fun l => ap_agree _ (wH rec) outH inH fun j hj _ => hS j hj
   rw [e1, e2] at r
   exact hQ E a w r
  ·obtain ⟨hun, o, ho, hpre⟩ := mem_ready.1 hi
   have ho' : ops[i]? = some o := by simpa using ho
   have hil : i < ops.length := (List.getElem?_eq_some_iff.1 ho').1
   have huf : listed.getD i false = false := by rw [← hgd i hil]; exact hun
   -- the set with i
   have hset : ∀ j, (listed.setIfInBounds i true).getD j false = (j == i || listed.getD j false) := fun j => by
    by_cases e : j = i
    ·subst e; simp [hsz, hil]
    ·rw [getD_set_ne false (fun h => e h.symm)]; simp [e]
   have hcl2 : ∀ k o, ops[k]? = some o → (k == i || listed.getD k false) = true → ∀ e ∈ o.after, Region.binds .any e = true → (e.on == i || listed.getD e.on false) = true := fun k o' hk hs e he hb => by
    by_cases ek : k = i
    ·subst ek
     have : o' = o := by rw [ho'] at hk; injection hk with hk; exact hk.symm
     subst this
     rw [hpre e he hb]; simp
    ·rw [hcl k o' hk (by simpa [ek] using hs) e he hb]; simp
   have hbef : ∀ j, j < i → (clash (rec j).chk (rec i).chk = true ∨ clash (rec i).chk (rec j).chk = true) → listed.getD j false = true := fun j hj hcc => by
    have := preL_spec (S := fun k => (k == i || listed.getD k false)) (all := ops) hcl2 ops [] (fun j o hj => by simpa using hj) (fun k j hj => by simp at hj) i j (hord i j hil hj hcc) (by simp)
    have hne : j ≠ i := by omega
    simpa [hne] using this
   have haft : ∀ j, i < j → j < ops.length → (clash (rec i).chk (rec j).chk = true ∨ clash (rec j).chk (rec i).chk = true) → listed.getD j false = false := fun j hj hjl hcc => by
    cases hb : listed.getD j false
    ·rfl
    ·exfalso
     have := preL_spec (S := fun k => listed.getD k false) (all := ops) hcl ops [] (fun j o hj => by simpa using hj) (fun k j hj => by simp at hj) j i (hord j i hjl hj hcc) hb
     rw [huf] at this; cases this
   have hgood := hg i o ho'
   refine wpOp_step ho fun K' hK' => hgood.step (t' := TS rec (fun i => listed.getD i false) ops.length t) (h' := HS rec (fun i => listed.getD i false) ops.length h) (fun l hl => ?_) (fun b hb => ?_) (fun b hb => ?_) hn r K' Q fun E' a' w' r' => hK' _ _ ?_
   ·refine ap_pre _ (wT rec) outT inT (by omega) fun j hj hw => ?_
    rcases Nat.lt_trichotomy j i with h1 | h1 | h1
    ·rw [hbef j h1 (.inl (cT j i l hw (.inl hl)))]; simp [h1]
    ·subst h1; rw [huf]; simp
    ·rw [haft j h1 hj (.inr (cT j i l hw (.inl hl)))]; simp; omega
   ·refine ap_pre _ (wH rec) outH inH (by omega) fun j hj hw => ?_
    rcases Nat.lt_trichotomy j i with h1 | h1 | h1
    ·rw [hbef j h1 (.inl (cH j i b hw (.inl hb)))]; simp [h1]
    ·subst h1; rw [huf]; simp
    ·rw [haft j h1 hj (.inr (cH j i b hw (.inl hb)))]; simp; omega
   ·refine ⟨?_, (hnx i b hb).2⟩
    have := ap_none (fun i => (rec i).appH) (wH rec) outH (S := fun i => listed.getD i false) (n := ops.length) (l := b) (f := h) (fun j hj hs => by
     by_cases e : i = j
     ·subst e; rw [huf] at hs; cases hs
     ·exact hfr i j hil hj e b hb)
    unfold HS; rw [this]; exact (hnx i b hb).1
   ·have hfun : (fun k => (listed.setIfInBounds i true).getD k false) = fun k => (k == i || listed.getD k false) := funext hset
    refine ih (listed.setIfInBounds i true) E' a' w' (by simp [hsz]) (by have := (cnt_set hun ops.length).1 hil; omega) (fun k o' hk hs e he hb => by rw [hset] at hs ⊢; exact hcl2 k o' hk hs e he hb) ?_
    rw [hfun]
    have e1 : TS rec (fun k => (k == i || listed.getD k false)) ops.length t = (rec i).appT (TS rec (fun i => listed.getD i false) ops.length t) := funext fun l => ap_add _ (wT rec) outT inT hil fun j hj hjl hs hw hwi => by
     rw [haft j hj hjl (.inl (cT i j l hwi (.inr hw)))] at hs; cases hs
    have e2 : HS rec (fun k => (k == i || listed.getD k false)) ops.length h = (rec i).appH (HS rec (fun i => listed.getD i false) ops.length h) := funext fun l => ap_add _ (wH rec) outH inH hil fun j hj hjl hs hw hwi => by
     rw [haft j hj hjl (.inl (cH i j l hwi (.inr hw)))] at hs; cases hs
    rw [e1, e2]; exact r'
end
end Go.Abs
set_option linter.unusedVariables false
set_option linter.unusedSimpArgs false
namespace Go.Abs
open Go.RowKit
abbrev TL := List (Nat × AV)
abbrev HL := List (Nat × AB)
def setT (T : TL) : Option Nat → Option AV → TL
 | none, _ => T
 | some d, some v => (d, v) :: T
 | some d, none => T.filter (fun p => !(p.1 == d))
def puts (H : HL) : HL → HL
 | [] => H
 | p :: r => puts (put H p.1 p.2) r
theorem look_filter (T : TL) (d i : Nat) : look (T.filter (fun p => !(p.1 == d))) i = if d = i then none else look T i := by
 induction T with
 | nil => simp [look]
 | cons p r ih =>
  by_cases hp : p.1 = d
  ·rw [List.filter_cons_of_neg (by simp [hp]), ih]
   simp only [look, hp, beq_iff_eq]
   split <;> rfl
  ·rw [List.filter_cons_of_pos (by simp [hp])]
   simp only [look, ih, beq_iff_eq]
   split
   ·rename_i h; rw [if_neg (by omega)]
   ·rfl
theorem look_setT (T : TL) (r : Rec) : look (setT T r.dst r.val) = r.appT (look T) := by
 funext i
 unfold Rec.appT
 cases hd : r.dst with
 | none => simp [setT]
 | some d =>
  cases hv : r.val with
  | none => simp only [setT, look_filter, Option.some.injEq]
  | some v => simp only [setT, look_cons, beq_iff_eq, Option.some.injEq]
theorem look_puts : ∀ (ws : HL) (H : HL), look (puts H ws) = ups (look H) ws
 | [], H => rfl
 | p :: r, H => by
  simp only [puts, ups]
  rw [look_puts r]
  congr 1
  funext b
  rw [look_put]; rfl
def dstOk (nt : Nat) (o : Oper) : Bool := match o.dst with | some d => decide (d < nt) | none => true
def CallK (P : Program) (nx : Nat) (T : TL) (H : HL) (f : Operand) (args : List Operand) (K : AV → HL → List Nat → List Nat → Prop) : Prop :=
 ∃ (fid : FuncId) (caps : List AC) (xs cargs : List AV) (hs hs' : List AB) (res : AV) (ids : List Nat), evT (look T) f = some (.one (.fn (.func fid) caps)) ∧ evArgs (look T) args = some xs ∧ ACall P fid cargs hs res hs' ∧ ids.Nodup ∧ ids.length = hs'.length ∧
  xs ++ caps.map AV.one = cargs.map (·.ren (nm ids)) ∧ (∀ x ∈ cargs, x.lt hs.length = true) ∧ (∀ ty l, .box ty l ∈ hs → AC.lts hs.length l = true) ∧ (∀ j x, hs[j]? = some x → look H (nm ids j) = some (x.ren (nm ids))) ∧
  (∀ b ∈ ids.drop hs.length, look H b = none ∧ nx ≤ b) ∧ K (res.ren (nm ids)) (ids.zip (hs'.map (·.ren (nm ids)))) (ids.take hs.length) (ids.drop hs.length)
def RunO (P : Program) (nx : Nat) (ops : List Oper) (i : Nat) (o : Oper) (T : TL) (H : HL) (K : Option AV → HL → Chk → Prop) : Prop :=
 match gOf ops.toArray (look T) o with
 | some false => K none [] ⟨o.dst, [], gRd ops.toArray o, [], []⟩
 | some true => match o.op with
  | .call ⟨.value f, args, tys⟩ => CallK P nx T H f args.toList fun res ws rb fr => K (some res) ws ⟨o.dst, ws.map (·.1), gRd ops.toArray o ++ rdT o.op, rb, fr⟩
  | op => match pl P (look T) (look H) (nx + i) op with
   | some p => look H (nx + i) = none ∧ K p.1 p.2 ⟨o.dst, p.2.map (·.1), gRd ops.toArray o ++ rdT o.op, rdB (look T) o.op, [nx + i]⟩
   | none => False
 | none => False
def RunS (P : Program) (nx : Nat) (ops : List Oper) : Nat → List Oper → TL → HL → (TL → HL → Prop) → Prop
 | _, [], T, H, K => K T H
 | i, o :: rest, T, H, K => RunO P nx ops i o T H fun x ws _ => RunS P nx ops (i + 1) rest (setT T o.dst x) (puts H ws) K
def RunD (P : Program) (nx : Nat) (ops : List Oper) : Nat → List Oper → TL → HL → List Chk → (TL → HL → List Chk → Prop) → Prop
 | _, [], T, H, cs, K => K T H cs
 | i, o :: rest, T, H, cs, K => RunO P nx ops i o T H fun x ws c => RunD P nx ops (i + 1) rest (setT T o.dst x) (puts H ws) (cs ++ [c]) K
section
variable {P : Program} {nt k nx : Nat}
theorem runO_good {ops : List Oper} {i : Nat} {o : Oper} {T : TL} {H : HL} {K : Option AV → HL → Chk → Prop} (hd : dstOk nt o = true) (h : RunO P nx ops i o T H K) :
  ∃ rc : Rec, Good P nt nx ops.toArray o rc (look T) (look H) ∧ (∀ b ∈ rc.fr, look H b = none ∧ nx ≤ b) ∧ rc.dst = o.dst ∧ K rc.val rc.ws rc.chk := by
 have hd' : ∀ d, o.dst = some d → d < nt := fun d e => by unfold dstOk at hd; rw [e] at hd; simpa using hd
 unfold RunO at h
 split at h
 ·rename_i hg
  exact ⟨_, good_skip hd' hg, fun b hb => by simp at hb, rfl, h⟩
 ·rename_i hg
  split at h
  ·rename_i f args tys ho
   obtain ⟨fid, caps, xs, cargs, hs, hs', res, ids, h1, h2, h3, h4, h5, h6, h7, h8, h9, h10, h11⟩ := h
   refine ⟨_, good_call ho hd' hg h1 h2 h3 h4 h5 h6 h7 h8 h9, h10, rfl, ?_⟩
   simpa [Rec.chk] using h11
  ·split at h
   ·rename_i p hp
    exact ⟨_, good_op hd' hg hp, fun b hb => by simp at hb; subst hb; exact ⟨h.1, Nat.le_add_right _ _⟩, rfl, h.2⟩
   ·cases h
 ·cases h
theorem runS_wp {ops : List Oper} {Q : Exit → Act → World → Prop} {fr : Fr} (hn : fr.nt = nt) : ∀ {rest : List Oper} {i : Nat} {T : TL} {H : HL} {K : TL → HL → Prop}, (rest.all (dstOk nt) = true) → RunS P nx ops i rest T H K →
  (∀ E a w T' H', R fr E (look T') (look H') nx a w → K T' H' → Q .normal a w) → ∀ E a w, R fr E (look T) (look H) nx a w → wpList P ops.toArray Q rest a w
 | [], i, T, H, K, hd, h, hQ, E, a, w, r => hQ E a w T H r h
 | o :: rest, i, T, H, K, hd, h, hQ, E, a, w, r => by
  simp only [List.all_cons, Bool.and_eq_true] at hd
  obtain ⟨rc, h1, h2, h3, h4⟩ := runO_good hd.1 h
  refine wpList_step fun K' hK' => h1.step (fun _ _ => rfl) (fun _ _ => rfl) h2 hn r K' Q fun E' a' w' r' => hK' _ _ ?_
  refine runS_wp hn hd.2 h4 hQ E' a' w' ?_
  rw [← h3, look_setT, look_puts]
  exact r'
def foldT (rs : List Rec) (t : Nat → Option AV) : Nat → Option AV := rs.foldl (fun t r => r.appT t) t
def foldH (rs : List Rec) (h : Nat → Option AB) : Nat → Option AB := rs.foldl (fun h r => r.appH h) h
theorem runD_recs {ops : List Oper} : ∀ {rest : List Oper} {i : Nat} {T : TL} {H : HL} {cs : List Chk} {K : TL → HL → List Chk → Prop}, (rest.all (dstOk nt) = true) → RunD P nx ops i rest T H cs K →
  ∃ rs : List Rec, rs.length = rest.length ∧ (∀ (j : Nat) (o : Oper), rest[j]? = some o → ∃ rc, rs[j]? = some rc ∧ Good P nt nx ops.toArray o rc (foldT (rs.take j) (look T)) (foldH (rs.take j) (look H)) ∧ ∀ b ∈ rc.fr, nx ≤ b) ∧
   ∃ T' H', look T' = foldT rs (look T) ∧ look H' = foldH rs (look H) ∧ K T' H' (cs ++ rs.map Rec.chk)
 | [], i, T, H, cs, K, hd, h => ⟨[], rfl, fun j o hj => by simp at hj, T, H, rfl, rfl, by simpa [RunD] using h⟩
 | o :: rest, i, T, H, cs, K, hd, h => by
  simp only [List.all_cons, Bool.and_eq_true] at hd
  obtain ⟨rc, h1, h2, h3, h4⟩ := runO_good hd.1 h
  obtain ⟨rs, k1, k2, T', H', k3, k4, k5⟩ := runD_recs hd.2 h4
  rw [← h3, look_setT] at k2 k3
  rw [look_puts] at k2 k4
  refine ⟨rc :: rs, by simp [k1], fun j o' hj => ?_, T', H', k3, k4, by simpa using k5⟩
  cases j with
  | zero =>
   simp at hj; subst hj
   exact ⟨rc, rfl, h1, fun b hb => (h2 b hb).2⟩
  | succ j => exact k2 j o' (by simpa using hj)
theorem fold_TS (rs : List Rec) (d : Rec) (t : Nat → Option AV) : ∀ n, n ≤ rs.length → TS (fun i => rs.getD i d) (fun _ => true) n t = foldT (rs.take n) t
 | 0, _ => rfl
 | n + 1, hn => by
  have ih := fold_TS rs d t n (by omega)
  unfold TS at ih ⊢
  simp only [ap, if_true, ih]
  rw [List.take_add_one, List.getElem?_eq_getElem (by omega)]
  simp only [foldT, List.foldl_append, Option.toList_some, List.foldl_cons, List.foldl_nil]
  rw [List.getD_eq_getElem?_getD, List.getElem?_eq_getElem (by omega)]; rfl
theorem fold_HS (rs : List Rec) (d : Rec) (t : Nat → Option AB) : ∀ n, n ≤ rs.length → HS (fun i => rs.getD i d) (fun _ => true) n t = foldH (rs.take n) t
 | 0, _ => rfl
 | n + 1, hn => by
  have ih := fold_HS rs d t n (by omega)
  unfold HS at ih ⊢
  simp only [ap, if_true, ih]
  rw [List.take_add_one, List.getElem?_eq_getElem (by omega)]
  simp only [foldH, List.foldl_append, Option.toList_some, List.foldl_cons, List.foldl_nil]
  rw [List.getD_eq_getElem?_getD, List.getElem?_eq_getElem (by omega)]; rfl
theorem runD_wp {ops : List Oper} {Q : Exit → Act → World → Prop} {fr : Fr} (hn : fr.nt = nt) {T : TL} {H : HL} {K : TL → HL → Prop} (hd : ops.all (dstOk nt) = true) (hH : H.all (fun p => decide (p.1 < nx)) = true)
  (h : RunD P nx ops 0 ops T H [] fun T' H' cs => okOrder ops cs = true ∧ K T' H') (hQ : ∀ E a w T' H', R fr E (look T') (look H') nx a w → K T' H' → Q .normal a w) {E : En} {a : Act} {w : World} (r : R fr E (look T) (look H) nx a w) :
  wpAny P .any ops.toArray Q ops.length (Array.replicate ops.length false) a w := by
 obtain ⟨rs, h1, h2, T', H', h3, h4, h5, h6⟩ := runD_recs hd h
 let d : Rec := ⟨none, none, [], [], [], []⟩
 have hfr0 : ∀ b, nx ≤ b → look H b = none := fun b hb => by
  clear h h2 h4 h5 r
  induction H with
  | nil => rfl
  | cons p l ih =>
   simp only [List.all_cons, Bool.and_eq_true, decide_eq_true_eq] at hH
   rw [look, if_neg (by simp; omega)]
   exact ih hH.2
 have hlen : ops.length = rs.length := h1.symm
 have hchk : (List.range ops.length).map (fun i => (rs.getD i d).chk) = rs.map Rec.chk := by
  apply List.ext_getElem?
  intro j
  by_cases hj : j < ops.length
  ·simp [hj, List.getD_eq_getElem?_getD, List.getElem?_eq_getElem (show j < rs.length by omega)]
  ·simp [hj, List.getElem?_eq_none (show rs.length ≤ j by omega)]
 refine draw_wp (nx := nx) (nt := nt) (rec := fun i => rs.getD i d) (t := look T) (h := look H) hn (fun i o ho => ?_) (fun i b hb => ?_) (by rw [hchk]; simpa using h5) (fun E' a' w' r' => ?_) ops.length _ E a w (by simp) (cnt_le _ _) (fun i o ho hs => ?_) ?_
 ·obtain ⟨rc, k1, k2, -⟩ := h2 i o ho
  have hil := (List.getElem?_eq_some_iff.1 k1).1
  have e : rs.getD i d = rc := by rw [List.getD_eq_getElem?_getD, k1]; rfl
  show Good P nt nx ops.toArray o (rs.getD i d) _ _
  rw [e, fold_TS rs d _ i (by omega), fold_HS rs d _ i (by omega)]
  exact k2
 ·rcases Nat.lt_or_ge i rs.length with hlt | hge
  ·obtain ⟨rc, k1, -, k3⟩ := h2 i _ (List.getElem?_eq_getElem (l := ops) (i := i) (by omega))
   have e : rs.getD i d = rc := by rw [List.getD_eq_getElem?_getD, k1]; rfl
   rw [e] at hb
   exact ⟨hfr0 b (k3 b hb), k3 b hb⟩
  ·have e : rs.getD i d = d := by rw [List.getD_eq_getElem?_getD, List.getElem?_eq_none hge]; rfl
   rw [e] at hb; simp [d] at hb
 ·refine hQ E' a' w' T' H' ?_ h6
  rw [fold_TS rs d _ _ (by omega), fold_HS rs d _ _ (by omega), hlen, List.take_length] at r'
  rw [h3, h4]; exact r'
 ·exfalso
  have hil := (List.getElem?_eq_some_iff.1 ho).1
  simp [Array.getD, hil] at hs
 ·have e1 : TS (fun i => rs.getD i d) (fun i => (Array.replicate ops.length false).getD i false) ops.length (look T) = look T := by
   funext l
   refine ap_none _ (wT fun i => rs.getD i d) (fun i f l hw => appT_out hw) fun j hj hs => ?_
   simp [Array.getD] at hs
  have e2 : HS (fun i => rs.getD i d) (fun i => (Array.replicate ops.length false).getD i false) ops.length (look H) = look H := by
   funext l
   refine ap_none _ (wH fun i => rs.getD i d) (fun i f l hw => ups_out hw) fun j hj hs => ?_
   simp [Array.getD] at hs
  rw [e1, e2]; exact r
def W (P : Program) (nt k : Nat) (c : Code) (K : Exit → TL → HL → Nat → Prop) (T : TL) (H : HL) (nx : Nat) : Prop :=
 ∀ (fr : Fr) (E : En) (a : Act) (w : World), fr.nt = nt → fr.k = k → R fr E (look T) (look H) nx a w → c.wp P (fun e a' w' => ∃ T' H' nx' E', R fr E' (look T') (look H') nx' a' w' ∧ K e T' H' nx') a w
def WL (P : Program) (nt k : Nat) (c : Code) (K : Exit → TL → HL → Nat → Prop) (T : TL) (H : HL) (nx : Nat) : Prop :=
 ∀ (fr : Fr) (E : En) (a : Act) (w : World), fr.nt = nt → fr.k = k → R fr E (look T) (look H) nx a w → ∀ (b : Frame) (k' : List Item) (cs : List Frame),
  ∃ e a' w', (∃ T' H' nx' E', R fr E' (look T') (look H') nx' a' w' ∧ K e T' H' nx') ∧ Arrives P (lone (b.at a (.code c :: .inLoop c :: k')) cs w) b k' cs e a' w'
def kSeq (K : Exit → TL → HL → Nat → Prop) (N : TL → HL → Nat → Prop) : Exit → TL → HL → Nat → Prop
 | .normal, T, H, nx => N T H nx
 | e, T, H, nx => K e T H nx
def kBlock (id : Nat) (K : Exit → TL → HL → Nat → Prop) : Exit → TL → HL → Nat → Prop
 | .exit i, T, H, nx => if i = id then K .normal T H nx else K (.exit i) T H nx
 | e, T, H, nx => K e T H nx
section
variable {K : Exit → TL → HL → Nat → Prop} {T : TL} {H : HL}
theorem W.skip (h : K .normal T H nx) : W P nt k .skip K T H nx := fun fr E a w hn hk r => wp_skip ⟨T, H, nx, E, r, h⟩
theorem W.exit {id : Nat} (h : K (.exit id) T H nx) : W P nt k (.exit id) K T H nx := fun fr E a w hn hk r => wp_exit ⟨T, H, nx, E, r, h⟩
theorem W.ret (h : K .ret T H nx) : W P nt k .ret K T H nx := fun fr E a w hn hk r => wp_ret ⟨T, H, nx, E, r, h⟩
theorem W.seq {x y : Code} (h : W P nt k x (kSeq K (W P nt k y K)) T H nx) : W P nt k (.seq x y) K T H nx := fun fr E a w hn hk r =>
 wp_seq (wp_mono (h fr E a w hn hk r) fun e a' w' ⟨T', H', nx', E', r', hK⟩ => by
  cases e with
  | normal => exact hK fr E' a' w' hn hk r'
  | _ => exact ⟨T', H', nx', E', r', hK⟩)
theorem W.block {id : Nat} {x : Code} (h : W P nt k x (kBlock id K) T H nx) : W P nt k (.block id x) K T H nx := fun fr E a w hn hk r =>
 wp_block (wp_mono (h fr E a w hn hk r) fun e a' w' ⟨T', H', nx', E', r', hK⟩ => by
  cases e with
  | exit i =>
   simp only [kBlock] at hK
   simp only [Exit.inBlock]
   split
   ·rename_i e; rw [if_pos e] at hK; exact ⟨T', H', nx', E', r', hK⟩
   ·rename_i e; rw [if_neg e] at hK; exact ⟨T', H', nx', E', r', hK⟩
  | _ => exact ⟨T', H', nx', E', r', hK⟩)
theorem W.cond {c : Operand} {x y : Code} {b : Bool} (hc : evT (look T) c = some (.one (.f (.v (.bool b))))) (hx : b = true → W P nt k x K T H nx) (hy : b = false → W P nt k y K T H nx) : W P nt k (.cond c x y) K T H nx := fun fr E a w hn hk r =>
 wp_cond_split (ev_sound r hc).val_inv (fun e => hx e fr E a w hn hk r) (fun e => hy e fr E a w hn hk r)
theorem W.loop {c : Code} (h : WL P nt k c K T H nx) : W P nt k (.loop c) K T H nx := fun fr E a w hn hk r b k' cs => by
 obtain ⟨e, a', w', hq, harr⟩ := h fr E a w hn hk r b k' cs
 exact ⟨e, a', w', hq, .of_steps (.one step_loop) harr⟩
theorem WL.step {c : Code} (h : W P nt k c (kSeq K (WL P nt k c K)) T H nx) : WL P nt k c K T H nx := fun fr E a w hn hk r b k' cs => by
 obtain ⟨e, a₁, w₁, ⟨T', H', nx', E', r', hK⟩, harr⟩ := h fr E a w hn hk r b (.inLoop c :: k') cs
 cases e with
 | normal =>
  obtain ⟨e₂, a₂, w₂, hq₂, harr₂⟩ := hK fr E' a₁ w₁ hn hk r' b k' cs
  exact ⟨e₂, a₂, w₂, hq₂, .of_steps (Steps.trans harr (.one step_inLoop)) harr₂⟩
 | exit id => exact ⟨_, a₁, w₁, ⟨T', H', nx', E', r', hK⟩, .pass (x := .inLoop c) rfl (fun _ _ => .inl (by simp)) harr⟩
 | goto l => exact ⟨_, a₁, w₁, ⟨T', H', nx', E', r', hK⟩, .pass (x := .inLoop c) rfl (fun _ _ => .inl (by simp)) harr⟩
 | ret => exact ⟨_, a₁, w₁, ⟨T', H', nx', E', r', hK⟩, .pass (x := .inLoop c) rfl (fun _ _ => .inl (by simp)) harr⟩
 | panic ch => exact ⟨_, a₁, w₁, ⟨T', H', nx', E', r', hK⟩, .pass (x := .inLoop c) rfl (fun _ _ => .inl (by simp)) harr⟩
 | outgrown => exact ⟨_, a₁, w₁, ⟨T', H', nx', E', r', hK⟩, .pass (x := .inLoop c) rfl (fun _ _ => .inl (by simp)) harr⟩
theorem R.bump {fr : Fr} {E : En} {t : Nat → Option AV} {h : Nat → Option AB} {a : Act} {w : World} (r : R fr E t h nx a w) {nx' : Nat} (hn : nx ≤ nx') : R fr E t h nx' a w :=
 ⟨r.defers, r.size, r.tmps, r.blk, r.sep, r.own, fun b n hb => r.fresh b n (Nat.le_trans hn hb), r.os, r.tape, r.output, r.grow, r.kept, r.hF, r.hF2, r.old, r.oldk⟩
theorem W.region {id : Nat} {ops : List Oper} (hd : ops.all (dstOk nt) = true) (h : RunS P nx ops 0 ops T H fun T' H' => K .normal T' H' (nx + 4 * ops.length)) : W P nt k (.region id ops.toArray false) K T H nx := fun fr E a w hn hk r =>
 wp_region_list (by
  refine runS_wp hn hd h (fun E a w T' H' r' hK => ?_) E a w r
  exact ⟨T', H', _, E, r'.bump (Nat.le_add_right _ _), hK⟩)
theorem W.regionD (hm : P.follows .mixedOrders = true) {id : Nat} {ops : List Oper} (hd : ops.all (dstOk nt) = true) (hH : H.all (fun p => decide (p.1 < nx)) = true)
  (h : RunD P nx ops 0 ops T H [] fun T' H' cs => okOrder ops cs = true ∧ K .normal T' H' (nx + 4 * ops.length)) : W P nt k (.region id ops.toArray true) K T H nx := fun fr E a w hn hk r =>
 wp_region_any hm (by
  have := runD_wp (Q := fun e a' w' => ∃ T' H' nx' E', R fr E' (look T') (look H') nx' a' w' ∧ K e T' H' nx') hn hd hH h (fun E a w T' H' r' hK => ⟨T', H', _, E, r'.bump (Nat.le_add_right _ _), hK⟩) (r.drew (w.drawn + 1))
  simpa using this)
theorem W.regionK {id : Nat} {ops : List Oper} (hd : ops.all (dstOk nt) = true) (h : ∀ N : TL → HL → Nat → Prop, (∀ T' H' nx', K .normal T' H' nx' → N T' H' nx') → RunS P nx ops 0 ops T H fun T' H' => N T' H' (nx + 4 * ops.length)) :
  W P nt k (.region id ops.toArray false) K T H nx := W.region hd (h _ fun _ _ _ h => h)
theorem W.regionDK (hm : P.follows .mixedOrders = true) {id : Nat} {ops : List Oper} (hd : ops.all (dstOk nt) = true) (hH : H.all (fun p => decide (p.1 < nx)) = true)
  (h : ∀ N : TL → HL → Nat → Prop, (∀ T' H' nx', K .normal T' H' nx' → N T' H' nx') → RunD P nx ops 0 ops T H [] fun T' H' cs => okOrder ops cs = true ∧ N T' H' (nx + 4 * ops.length)) :
  W P nt k (.region id ops.toArray true) K T H nx := W.regionD hm hd hH (h _ fun _ _ _ h => h)
theorem W.condT {c : Operand} {x y : Code} (hc : evT (look T) c = some (.one (.f (.v (.bool true))))) (hx : W P nt k x K T H nx) : W P nt k (.cond c x y) K T H nx := W.cond hc (fun _ => hx) (fun h => by cases h)
theorem W.condF {c : Operand} {x y : Code} (hc : evT (look T) c = some (.one (.f (.v (.bool false))))) (hy : W P nt k y K T H nx) : W P nt k (.cond c x y) K T H nx := W.cond hc (fun h => by cases h) (fun _ => hy)
theorem W.condD {c : Operand} {x y : Code} {p : Prop} {i : Decidable p} (hc : evT (look T) c = some (.one (.f (.v (.bool (@decide p i)))))) (hx : p → W P nt k x K T H nx) (hy : ¬ p → W P nt k y K T H nx) : W P nt k (.cond c x y) K T H nx :=
 W.cond hc (fun h => hx (of_decide_eq_true h)) (fun h => hy (of_decide_eq_false h))
end
end
end Go.Abs
