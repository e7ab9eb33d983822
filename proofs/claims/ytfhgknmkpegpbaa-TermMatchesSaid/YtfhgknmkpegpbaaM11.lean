/- Part 11 of the base: the walks and plain facts that the statement rests on. -/
import Derived.Test.YtfhgknmkpegpbaaM10
import Derived.Test.YtfhgknmkpegpbaaM9
import Derived.Test.YtfhgknmkpegpbaaM6
import Derived.Test.YtfhgknmkpegpbaaM5
import Derived.Test.YtfhgknmkpegpbaaM4
import Derived.Test.YtfhgknmkpegpbaaM3
import Derived.Test.YtfhgknmkpegpbaaM1
import Derived.Test.YtfhgknmkpegpbaaM2

set_option linter.unusedVariables false
set_option linter.unusedSimpArgs false
namespace Go.Abs
open Go.RowKit
theorem ACall.nilA {P : Program} {f : FuncId} {args args1 : List AV} {hs hs' : List AB} {r : AV} (ty sz : Nat) (h : ACall P f args (hs ++ [.row ty sz []]) r hs')
  (ha : ∀ (w : World) (E : En) (vs : List Value), E.m hs.length 0 = some (.slice none 0 0) → All2 (Rv w E) args1 vs → All2 (Rv w E) args vs) : ACall P f args1 hs r hs' := by
 have hlen1 : (hs ++ [AB.row ty sz []]).length = hs.length + 1 := by simp
 refine ⟨h.1, by have := h.2.1; omega, fun E w vs hvs hblk hsep hown hfresh hFF => ?_⟩
 have hgn : (hs ++ [AB.row ty sz []])[hs.length]? = some (.row ty sz []) := by simp
 have hgo : ∀ j, j ≠ hs.length → (hs ++ [AB.row ty sz []])[j]? = hs[j]? := fun j hj2 => by
  rcases Nat.lt_or_ge j hs.length with hlt | hge
  ·rw [List.getElem?_append_left hlt]
  ·rw [List.getElem?_append_right hge, List.getElem?_eq_none (by simp; omega), List.getElem?_eq_none hge]
 let E1 := E.set hs.length 0 (.slice none 0 0)
 have le : E.le E1 := En.set_le (hfresh hs.length 0 (Nat.le_refl _))
 have hm : ∀ j n, j ≠ hs.length → E1.m j n = E.m j n := fun j n hj => En.set_out _ _ _ _ hj
 have hat : E1.m hs.length 0 = some (.slice none 0 0) := En.set_at _ _ _ _
 have hnown : ∀ g, ¬ owns E1 hs.length (.row ty sz []) g := fun g ⟨n, c, hg⟩ => by
  rw [List.length_nil] at hg
  rw [hat] at hg; simp at hg
 have back : ∀ j x g, (hs ++ [AB.row ty sz []])[j]? = some x → owns E1 j x g → ∃ x0, hs[j]? = some x0 ∧ owns E j x0 g := fun j x g hx ho => by
  by_cases e : j = hs.length
  ·subst e; rw [hgn] at hx; injection hx with hx; subst hx; exact absurd ho (hnown g)
  ·rw [hgo j e] at hx
   exact ⟨x, hx, (owns_out (fun n => hm j n e) rfl x g).1 ho⟩
 refine (h.2.2 E1 w vs (ha w E1 _ hat ⟨hvs.1, fun j x hj => let ⟨u, q1, q2⟩ := hvs.2 j x hj; ⟨u, q1, q2.mono le (Agree.refl _ _)⟩⟩) (fun j x hx => ?_) (fun j j' x x' g hx hx' ho ho' => ?_) (fun j x g hx ho => ?_) (fun j n hj => ?_) hFF).mono ?_
 ·by_cases e : j = hs.length
  ·subst e; rw [hgn] at hx; injection hx with hx; subst hx
   exact ⟨_, [], hat, ⟨by simp, .inl ⟨rfl, rfl⟩⟩, by simp, by simp, fun n hn => by
    have : E1.m hs.length n = E.m hs.length n := En.set_ne _ _ _ (by simp at hn; omega)
    rw [this]; exact hfresh _ n (Nat.le_refl _)⟩
  ·rw [hgo j e] at hx
   exact (hblk j x hx).mono le (fun n => hm j n e) rfl (Agree.refl _ _) (fun _ _ => rfl)
 ·obtain ⟨x0, q1, q2⟩ := back j x g hx ho
  obtain ⟨x0', q1', q2'⟩ := back j' x' g hx' ho'
  exact hsep j j' x0 x0' g q1 q1' q2 q2'
 ·obtain ⟨x0, q1, q2⟩ := back j x g hx ho
  exact hown j x0 g q1 q2
 ·rw [hm j n (by omega)]; exact hfresh j n (by omega)
 ·rintro e w' ⟨v, E', rfl, hv, u⟩
  have hle := h.2.1
  refine ⟨v, E', rfl, hv, ⟨le.trans u.le, fun g hg => ?_, u.os, u.tape, u.output, u.grow, fun g hg hk => u.kept g hg fun j hj x hx ho => ?_, fun j hj => ?_, fun j n hj => ?_, fun j hj => u.fto j hj, u.blk, fun j hj x g hx ho => ?_, u.sep, u.live⟩⟩
  ·rcases u.F g hg with q | q | ⟨q, j, hj, x, hx, ho⟩
   ·exact .inl q
   ·exact .inr (.inl q)
   ·obtain ⟨x0, q1, q2⟩ := back j x g hx ho
    exact .inr (.inr ⟨q, j, hj, x0, q1, q2⟩)
  ·obtain ⟨x0, q1, q2⟩ := back j x g hx ho
   exact hk j hj x0 q1 q2
  ·simp at hj
   rw [List.getElem?_eq_none hj, List.getElem?_eq_none (by omega)]
  ·rw [u.out j n hj]; simp at hj; exact hm j n (by omega)
  ·obtain ⟨q1, q2, q3⟩ := u.own j hj x g hx ho
   refine ⟨?_, q2, q3⟩
   rcases q1 with q1 | ⟨j', hj', x', hx', ho'⟩
   ·exact .inl q1
   ·obtain ⟨x0, q4, q5⟩ := back j' x' g hx' ho'
    exact .inr ⟨j', hj', x0, q4, q5⟩
theorem Wk.rowSub {nt k nx : Nat} {T : TL} {H : HL} (b ty sz : Nat) (l l' : List (List FC)) (hb : look H b = some (.row ty sz l)) (hl : l'.length = l.length)
  (hs : ∀ (i : Nat) (e' : List FC), l'[i]? = some e' → ∃ e, l[i]? = some e ∧ e'.length = e.length ∧ ∀ (j : Nat) (c' : FC), e'[j]? = some c' → ∃ c, e[j]? = some c ∧ ∀ (w : World) (F : Nat → Prop) (v : Value), Rf w F c v → Rf w F c' v) :
  Wk nt k T H nx T (put H b (.row ty sz l')) nx := by
 refine Wk.one b hb fun w E hF ⟨v, vals, h1, h2, h3, h4, h5⟩ => ⟨E.ft b, ⟨v, vals, by rw [hl]; exact h1, by rw [hl]; exact h2, fun i e hi => ?_, fun i e j c hi hj => ?_, fun n hn => h5 n (by omega)⟩, fun g ⟨n, c, hg⟩ => ⟨n, c, by rw [← hl]; exact hg⟩⟩
 ·obtain ⟨e0, q1, q2, -⟩ := hs i e hi
  rw [q2]; exact h3 i e0 q1
 ·obtain ⟨e0, q1, q2, q3⟩ := hs i e hi
  obtain ⟨c0, q4, q5⟩ := q3 j c hj
  obtain ⟨u, q6, q7⟩ := h4 i e0 j c0 q1 q4
  exact ⟨u, q6, q5 _ _ _ q7⟩
theorem rf_nil {w : World} {F : Nat → Prop} {v : Value} (sz : Nat) (h : Rf w F (.v (.slice none 0 0)) v) : Rf w F (.fz sz []) v := by
 cases h with | v =>
 exact .fz sz [] none 0 0 0 (fun _ _ => default) (by simp) (by simp [maxLen]) (fun _ => rfl) (fun h => absurd rfl h) (fun i e hi => by simp at hi) (fun i e j c hi => by simp at hi) (fun i e j c hi => by simp at hi)
end Go.Abs
set_option linter.unusedVariables false
set_option linter.unusedSimpArgs false
namespace Go.Abs
open Go.RowKit
def lk : TL → Nat → Option AV
 | [], _ => none
 | (k, x) :: r, i => if k == i then some x else lk r i
theorem lk_look : ∀ (T : TL) (i : Nat), lk T i = look T i
 | [], _ => rfl
 | (k, x) :: r, i => by simp only [lk, look, lk_look r i]
def evK (T : TL) : Operand → Option AV
 | .tmp i => lk T i
 | .const v => cv v
 | .global _ => none
 | .func f => some (.one (.fn (.func f) []))
theorem evK_evT (T : TL) (x : Operand) : evK T x = evT (look T) x := by cases x <;> simp only [evK, evT, lk_look]
def evKa (T : TL) : List Operand → Option (List AV)
 | [] => some []
 | x :: r => match evK T x, evKa T r with | some v, some l => some (v :: l) | _, _ => none
theorem evKa_args (T : TL) : ∀ l : List Operand, evKa T l = evArgs (look T) l
 | [] => rfl
 | x :: r => by simp only [evKa, evArgs, evK_evT, evKa_args T r]; cases evT (look T) x <;> cases evArgs (look T) r <;> rfl
def orE (a b : Option (Option AV × HL)) : Option (Option AV × HL) := match a with | some r => some r | none => b
def op0 : Op → Option Operand
 | .move x => some x
 | .assign x => some x
 | _ => none
def opX : Op → Option (Operand × Nat)
 | .extract x i => some (x, i)
 | _ => none
def op1 (P : Program) (h : Nat → Option AB) (nid : Nat) : Op → Option (Operand × (AV → Option (Option AV × HL)))
 | .box ty x => some (x, fun v => o2 (plBox ty nid v))
 | .load ty x => some (x, fun v => orE (o1 (plLoad P h ty v)) (o2 (plLoadO P h nid ty v)))
 | .nilCheck x => some (x, fun v => o1 (plNil v))
 | .unOp op _ x => some (x, fun v => o1 (plUn op v))
 | .convert src dst x => some (x, fun v => o1 (plConv P src dst v))
 | .fieldAddr ty x f => some (x, fun v => o1 (plFieldAddr P ty f v))
 | .field ty x f => some (x, fun v => o1 (plField P ty f v))
 | .call ⟨.builtin .len, ⟨[x]⟩, ⟨[ty]⟩⟩ => some (x, fun v => orE (o1 (plLen P ty v)) (o1 (plLenM P h ty v)))
 | _ => none
def op2 (P : Program) (h : Nat → Option AB) (nid : Nat) : Op → Option (Operand × Operand × (AV → AV → Option (Option AV × HL)))
 | .store ty p x => some (p, x, fun v u => orE (o3 (plStore P h ty v u)) (o3 (plStoreO P h ty v u)))
 | .binOp op ty x y _ => some (x, y, fun v u => orE (o1 (plBin P op ty v u)) (o1 (plBinO P op ty v u)))
 | .indexAddr ty x i => some (x, i, fun v u => o1 (plIndexAddr P h ty v u))
 | .index ty x i => some (x, i, fun v u => o1 (plIndex P ty v u))
 | .makeSlice ty x c => some (x, c, fun v u => o2 (plMake P nid ty v u))
 | .lookup ty m k ok => some (m, k, fun v u => o2 (plLookup P h nid ty ok v u))
 | .call ⟨.builtin .append, ⟨[x, y]⟩, ⟨[ty, ty']⟩⟩ => some (x, y, fun v u => if ty = ty' then orE (o2 (plAppend P h ty v u)) (o2 (plAppendO P h nid ty v u)) else none)
 | .call ⟨.builtin .delete, ⟨[x, y]⟩, ⟨[ty, _]⟩⟩ => some (x, y, fun v u => match plDelete P h ty v u with | some ws => some (some (.tup []), ws) | none => none)
 | .call ⟨.builtin .max, ⟨[x, y]⟩, ⟨[_, _]⟩⟩ => some (x, y, fun v u => o1 (plMax .max v u))
 | .call ⟨.builtin .min, ⟨[x, y]⟩, ⟨[_, _]⟩⟩ => some (x, y, fun v u => o1 (plMax .min v u))
 | _ => none
def opL (P : Program) (nid : Nat) : Op → Option (List (Nat × Operand) × (List (Nat × AV) → Option (Option AV × HL)))
 | .build ty parts => some (parts.toList, fun ps => o1 (plBuild P ty ps))
 | .buildSlice ty len parts => some (parts.toList, fun ps => o2 (plSlice P ty len nid ps))
 | _ => none
section
variable {P : Program} {t : Nat → Option AV} {h : Nat → Option AB} {nid : Nat} {o : Op}
theorem op0_pl {x : Operand} {v : AV} (ho : op0 o = some x) (hx : evT t x = some v) : pl P t h nid o = some (some v, []) := by
 cases o <;> simp only [op0, Option.some.injEq, reduceCtorEq] at ho <;> subst ho <;> simp only [pl, pl0, hx, o1]
theorem opX_pl {x : Operand} {i : Nat} {l : List AV} {v : AV} (ho : opX o = some (x, i)) (hx : evT t x = some (.tup l)) (hl : l[i]? = some v) : pl P t h nid o = some (some v, []) := by
 cases o <;> simp only [opX, Option.some.injEq, Prod.mk.injEq, reduceCtorEq] at ho
 obtain ⟨rfl, rfl⟩ := ho
 simp only [pl, pl0, hx, o1, plExtract, hl]
theorem op1_pl {x : Operand} {F : AV → Option (Option AV × HL)} {v : AV} {r : Option AV × HL} (ho : op1 P h nid o = some (x, F)) (hx : evT t x = some v) (hF : F v = some r) : pl P t h nid o = some r := by
 unfold op1 at ho
 split at ho <;> simp only [Option.some.injEq, Prod.mk.injEq, reduceCtorEq] at ho <;> obtain ⟨rfl, rfl⟩ := ho <;> simp only at hF
 all_goals first
  | (simp only [pl, pl0, hx, hF]; done)
  | (simp only [pl, pl0, plO, hx]; exact hF)
  | (simp only [pl, pl0, plO, plBuiltin, plBuiltinO, hx]; exact hF)
theorem op2_pl {x y : Operand} {F : AV → AV → Option (Option AV × HL)} {v u : AV} {r : Option AV × HL} (ho : op2 P h nid o = some (x, y, F)) (hx : evT t x = some v) (hy : evT t y = some u) (hF : F v u = some r) : pl P t h nid o = some r := by
  unfold op2 at ho
  split at ho <;> simp only [Option.some.injEq, Prod.mk.injEq, reduceCtorEq] at ho <;> obtain ⟨rfl, rfl, rfl⟩ := ho <;> simp only at hF
  all_goals first
    | (simp only [pl, pl0, hx, hy, hF]; done)
    | (simp only [pl, pl0, plO, hx, hy]; exact hF)
    | (simp only [pl, pl0, plO, plBuiltin, plBuiltinO, hx, hy, plMax, o1, hF]; done)
    | (split at hF
       · rename_i e; subst e; simp only [pl, pl0, plO, plBuiltin, plBuiltinO, hx, hy, if_true]; exact hF
       · cases hF)
    | (simp only [pl, pl0, plO, plBuiltin, plBuiltinO, hx, hy]; rw [hF])
    | (simp only [pl, pl0, plO, plBuiltin, plBuiltinO, hx, hy]; rw [show plMax Builtin.delete v u = none from by unfold plMax; split <;> rfl]; simp only [o1]; exact hF)
theorem opL_pl {l : List (Nat × Operand)} {F : List (Nat × AV) → Option (Option AV × HL)} {ps : List (Nat × AV)} {r : Option AV × HL} (ho : opL P nid o = some (l, F)) (hx : evParts t l = some ps) (hF : F ps = some r) : pl P t h nid o = some r := by
 unfold opL at ho
 split at ho <;> simp only [Option.some.injEq, Prod.mk.injEq, reduceCtorEq] at ho <;> obtain ⟨rfl, rfl⟩ := ho <;> simp only at hF <;> simp only [pl, pl0, hx, hF]
end
theorem puts_nil {H ws : HL} (h : ws = []) : puts H ws = H := by subst h; rfl
theorem filter_none {T : TL} {d : Nat} (h : look T d = none) : T.filter (fun p => !(p.1 == d)) = T := by
 induction T with
 | nil => rfl
 | cons p r ih =>
  unfold look at h
  split at h
  ·cases h
  ·rename_i hp
   rw [List.filter_cons, if_pos (by simpa using hp), ih h]
section
variable {P : Program} {nx i d : Nat} {ops rest : List Oper} {o : Oper} {T T' : TL} {H H' : HL} {cs : List Chk}
section
variable {K : TL → HL → Prop}
theorem RunS.mv {x : Operand} {v : AV} (ho : op0 o.op = some x) (hg : gOf ops.toArray (look T) o = some true) (hx : evK T x = some v) (hd : o.dst = some d) (hf : look H (nx + i) = none) (h : RunS P nx ops (i + 1) rest ((d, v) :: T) H K) : RunS P nx ops i (o :: rest) T H K :=
 RunS.val hd hg (op0_pl ho ((evK_evT T _).symm.trans hx)) hf h
theorem RunS.xt {x : Operand} {j : Nat} {l : List AV} {v : AV} (ho : opX o.op = some (x, j)) (hg : gOf ops.toArray (look T) o = some true) (hx : evK T x = some (.tup l)) (hl : l[j]? = some v) (hd : o.dst = some d) (hf : look H (nx + i) = none) (h : RunS P nx ops (i + 1) rest ((d, v) :: T) H K) : RunS P nx ops i (o :: rest) T H K :=
 RunS.val hd hg (opX_pl ho ((evK_evT T _).symm.trans hx) hl) hf h
theorem RunS.cl (hg : gOf ops.toArray (look T) o = some true) {fid : FuncId} {cargs : List AV} {res : AV} {args : List Operand} {tys : Array TypeId} (ho : o.op = .call ⟨.value (.func fid), args.toArray, tys⟩)
  (hx : evKa T args = some cargs) (hc : ACall P fid cargs [] res []) (hd : o.dst = some d) (hl : cargs.all (·.lt 0) = true) (hr : res.lt 0 = true) (h : RunS P nx ops (i + 1) rest ((d, res) :: T) H K) : RunS P nx ops i (o :: rest) T H K :=
 RunS.callQ hg ho ((evKa_args T _).symm.trans hx) hc hd hl hr h
theorem RunS.sk (hg : gOf ops.toArray (look T) o = some false) (hd : o.dst = some d) (hl : look T d = none) (h : RunS P nx ops (i + 1) rest T H K) : RunS P nx ops i (o :: rest) T H K :=
 RunS.skip hg (T' := T) (by rw [hd]; simp only [setT]; exact filter_none hl) h
end
section
variable {K : TL → HL → List Chk → Prop}
theorem RunD.mv {x : Operand} {v : AV} (ho : op0 o.op = some x) (hg : gOf ops.toArray (look T) o = some true) (hx : evK T x = some v) (hd : o.dst = some d) (hf : look H (nx + i) = none) (h : RunD P nx ops (i + 1) rest ((d, v) :: T) H (cs ++ [⟨some d, [], gRd ops.toArray o ++ rdT o.op, rdB (look T) o.op, [nx + i]⟩]) K) : RunD P nx ops i (o :: rest) T H cs K :=
 RunD.val hd hg (op0_pl ho ((evK_evT T _).symm.trans hx)) hf h
theorem RunD.xt {x : Operand} {j : Nat} {l : List AV} {v : AV} (ho : opX o.op = some (x, j)) (hg : gOf ops.toArray (look T) o = some true) (hx : evK T x = some (.tup l)) (hl : l[j]? = some v) (hd : o.dst = some d) (hf : look H (nx + i) = none) (h : RunD P nx ops (i + 1) rest ((d, v) :: T) H (cs ++ [⟨some d, [], gRd ops.toArray o ++ rdT o.op, rdB (look T) o.op, [nx + i]⟩]) K) : RunD P nx ops i (o :: rest) T H cs K :=
 RunD.val hd hg (opX_pl ho ((evK_evT T _).symm.trans hx) hl) hf h
theorem RunD.cl (hg : gOf ops.toArray (look T) o = some true) {fid : FuncId} {cargs : List AV} {res : AV} {args : List Operand} {tys : Array TypeId} (ho : o.op = .call ⟨.value (.func fid), args.toArray, tys⟩)
  (hx : evKa T args = some cargs) (hc : ACall P fid cargs [] res []) (hd : o.dst = some d) (hl : cargs.all (·.lt 0) = true) (hr : res.lt 0 = true) (h : RunD P nx ops (i + 1) rest ((d, res) :: T) H (cs ++ [⟨some d, [], gRd ops.toArray o ++ rdT o.op, [], []⟩]) K) : RunD P nx ops i (o :: rest) T H cs K :=
 RunD.callQ hg ho ((evKa_args T _).symm.trans hx) hc hd hl hr h
theorem RunD.sk (hg : gOf ops.toArray (look T) o = some false) (hd : o.dst = some d) (hl : look T d = none) (h : RunD P nx ops (i + 1) rest T H (cs ++ [⟨some d, [], gRd ops.toArray o, [], []⟩]) K) : RunD P nx ops i (o :: rest) T H cs K :=
 RunD.skip hg (T' := T) (by rw [hd]; simp only [setT]; exact filter_none hl) (by rw [hd]; exact h)
end
end
def opV (P : Program) (h : Nat → Option AB) (nid : Nat) (o : Op) : Option (List Operand × (List AV → Option (Option AV × HL))) :=
 match op1 P h nid o with
 | some q => some ([q.1], fun l => match l with | [v] => q.2 v | _ => none)
 | none => match op2 P h nid o with
  | some q => some ([q.1, q.2.1], fun l => match l with | [v, u] => q.2.2 v u | _ => none)
  | none => match opL P nid o with
   | some q => some (q.1.map (·.2), fun vs => q.2 ((q.1.map (·.1)).zip vs))
   | none => none
theorem evArgs_parts {T : Nat → Option AV} : ∀ {l : List (Nat × Operand)} {vs : List AV}, evArgs T (l.map (·.2)) = some vs → evParts T l = some ((l.map (·.1)).zip vs)
 | [], vs, h => by simp only [List.map_nil, evArgs, Option.some.injEq] at h; subst h; rfl
 | (j, x) :: r, vs, h => by
  simp only [List.map_cons, evArgs] at h
  split at h
  ·rename_i v l hv hl
   simp only [Option.some.injEq] at h; subst h
   simp only [evParts, hv, evArgs_parts hl, List.map_cons, List.zip_cons_cons]
  ·cases h
theorem opV_pl {P : Program} {t : Nat → Option AV} {h : Nat → Option AB} {nid : Nat} {o : Op} {xs : List Operand} {F : List AV → Option (Option AV × HL)} {vs : List AV} {r : Option AV × HL} (ho : opV P h nid o = some (xs, F)) (hx : evArgs t xs = some vs) (hF : F vs = some r) : pl P t h nid o = some r := by
 unfold opV at ho
 split at ho
 ·rename_i q hq
  simp only [Option.some.injEq, Prod.mk.injEq] at ho
  obtain ⟨rfl, rfl⟩ := ho
  simp only [evArgs] at hx
  split at hx
  ·rename_i v l hv hl
   simp only [Option.some.injEq] at hl hx; subst hl; subst hx
   exact op1_pl (x := q.1) (F := q.2) hq hv hF
  ·cases hx
 ·split at ho
  ·rename_i q hq
   simp only [Option.some.injEq, Prod.mk.injEq] at ho
   obtain ⟨rfl, rfl⟩ := ho
   simp only [evArgs] at hx
   split at hx
   ·rename_i v l hv hl
    split at hl
    ·rename_i u l' hu hl'
     simp only [Option.some.injEq] at hl' hl hx; subst hl'; subst hl; subst hx
     exact op2_pl (x := q.1) (y := q.2.1) (F := q.2.2) hq hv hu hF
    ·cases hl
   ·cases hx
  ·split at ho
   ·rename_i q hq
    simp only [Option.some.injEq, Prod.mk.injEq] at ho
    obtain ⟨rfl, rfl⟩ := ho
    exact opL_pl (l := q.1) (F := q.2) hq (evArgs_parts hx) hF
   ·cases ho
theorem setT_some (T : TL) (d : Nat) (v : AV) : setT T (some d) (some v) = (d, v) :: T := rfl
theorem setT_none (T : TL) (x : Option AV) : setT T none x = T := rfl
section
variable {P : Program} {nx i d : Nat} {ops rest : List Oper} {o : Oper} {T T' : TL} {H H' : HL} {cs : List Chk}
theorem RunS.v {K : TL → HL → Prop} {xs : List Operand} {F : List AV → Option (Option AV × HL)} {vs : List AV} {y : Option AV} {ws : HL} (ho : opV P (look H) (nx + i) o.op = some (xs, F)) (hg : gOf ops.toArray (look T) o = some true) (hx : evKa T xs = some vs) (hF : F vs = some (y, ws)) (hf : look H (nx + i) = none)
  (hs : setT T o.dst y = T' ∧ puts H ws = H') (h : RunS P nx ops (i + 1) rest T' H' K) : RunS P nx ops i (o :: rest) T H K :=
 RunS.any hg (opV_pl ho ((evKa_args T _).symm.trans hx) hF) hf hs h
theorem RunD.v {K : TL → HL → List Chk → Prop} {xs : List Operand} {F : List AV → Option (Option AV × HL)} {vs : List AV} {y : Option AV} {ws : HL} (ho : opV P (look H) (nx + i) o.op = some (xs, F)) (hg : gOf ops.toArray (look T) o = some true) (hx : evKa T xs = some vs) (hF : F vs = some (y, ws)) (hf : look H (nx + i) = none)
  (hs : setT T o.dst y = T' ∧ puts H ws = H') (h : RunD P nx ops (i + 1) rest T' H' (cs ++ [⟨o.dst, ws.map (·.1), gRd ops.toArray o ++ rdT o.op, rdB (look T) o.op, [nx + i]⟩]) K) : RunD P nx ops i (o :: rest) T H cs K :=
 RunD.any hg (opV_pl ho ((evKa_args T _).symm.trans hx) hF) hf hs h
end
end Go.Abs
set_option linter.unusedVariables false
set_option linter.unusedSimpArgs false
namespace Go.Abs
open Go.RowKit
theorem smEval : type_of% (And.intro (And.intro (And.intro (And.intro (And.intro (And.intro (And.intro (And.intro @orE.eq_1 @orE.eq_2) (And.intro @pl.eq_1 @pl0.eq_1)) (And.intro (And.intro @pl0.eq_2 @pl0.eq_3) (And.intro @pl0.eq_4 @pl0.eq_5))) (And.intro (And.intro (And.intro @pl0.eq_6 @pl0.eq_7) (And.intro @pl0.eq_8 @pl0.eq_9)) (And.intro (And.intro @pl0.eq_10 @pl0.eq_11) (And.intro @pl0.eq_12 (And.intro @pl0.eq_13 @pl0.eq_14))))) (And.intro (And.intro (And.intro (And.intro @pl0.eq_15 @pl0.eq_16) (And.intro @pl0.eq_17 @pl0.eq_18)) (And.intro (And.intro @pl0.eq_19 @pl0.eq_20) (And.intro @pl0.eq_21 (And.intro @plO.eq_1 @plO.eq_2)))) (And.intro (And.intro (And.intro @plO.eq_3 @plO.eq_4) (And.intro @plO.eq_5 @plO.eq_6)) (And.intro (And.intro @plO.eq_7 @plO.eq_8) (And.intro @plO.eq_9 (And.intro @plO.eq_10 @plO.eq_11)))))) (And.intro (And.intro (And.intro (And.intro (And.intro @plO.eq_12 @plO.eq_13) (And.intro @plBuiltinO.eq_1 @plBuiltinO.eq_2)) (And.intro (And.intro @plBuiltinO.eq_3 @plBuiltinO.eq_4) (And.intro @plLoadO.eq_1 @plStoreO.eq_1))) (And.intro (And.intro (And.intro @plPlace.eq_1 @plPlace.eq_2) (And.intro @plPlace.eq_3 @OC.with.eq_1)) (And.intro (And.intro @OC.with.eq_2 @OC.with.eq_3) (And.intro @OC.ref.eq_1 (And.intro @OC.ref.eq_2 @OC.ref.eq_3))))) (And.intro (And.intro (And.intro (And.intro @OC.ref.eq_4 @OC.pl.eq_1) (And.intro @OC.pl.eq_2 @plainL.eq_1)) (And.intro (And.intro @plainL.eq_2 @plAppendO.eq_def) (And.intro @srcCells.eq_1 (And.intro @srcCells.eq_2 @plMake.eq_1)))) (And.intro (And.intro (And.intro @plMake.eq_2 @plSub.eq_1) (And.intro @plSub.eq_2 @plSub.eq_3)) (And.intro (And.intro @plSub.eq_4 @evO.eq_1) (And.intro @evO.eq_2 (And.intro @bnd.eq_1 @bnd.eq_2))))))) (And.intro (And.intro (And.intro (And.intro (And.intro (And.intro @plLookup.eq_1 @keyV.eq_1) (And.intro @keyV.eq_2 @keyV.eq_3)) (And.intro (And.intro @allVl.eq_1 @allVl.eq_2) (And.intro @allVl.eq_3 @okRes.eq_1))) (And.intro (And.intro (And.intro @plMakeMap.eq_1 @plUpdate.eq_1) (And.intro @plDelete.eq_1 @plLenM.eq_1)) (And.intro (And.intro @plLenM.eq_2 @plBinO.eq_1) (And.intro @plBinO.eq_2 (And.intro @plBinO.eq_3 @plBinO.eq_4))))) (And.intro (And.intro (And.intro (And.intro @plBinO.eq_5 @plBinO.eq_6) (And.intro @plBinO.eq_7 @plBinO.eq_8)) (And.intro (And.intro @plBinO.eq_9 @plBinO.eq_10) (And.intro @eqOp.eq_1 (And.intro @eqOp.eq_2 @eqOp.eq_3)))) (And.intro (And.intro (And.intro @shOp.eq_1 @shOp.eq_2) (And.intro @shOp.eq_3 @intOp2.eq_1)) (And.intro (And.intro @intOp2.eq_2 @intOp2.eq_3) (And.intro @intOp2.eq_4 (And.intro @intOp2.eq_5 @intOp2.eq_6)))))) (And.intro (And.intro (And.intro (And.intro (And.intro @hasK.eq_1 @hasK.eq_2) (And.intro @hasK.eq_3 @hasB.eq_1)) (And.intro (And.intro @hasB.eq_2 @hasB.eq_3) (And.intro @hasB.eq_4 @hasBs.eq_1))) (And.intro (And.intro (And.intro @hasBs.eq_2 @hasBs.eq_3) (And.intro @keq.eq_1 @keq.eq_2)) (And.intro (And.intro @keqB.eq_1 @keqB.eq_2) (And.intro @keqB.eq_3 (And.intro @keqB.eq_4 @keqBs.eq_1))))) (And.intro (And.intro (And.intro (And.intro @keqBs.eq_2 @keqBs.eq_3) (And.intro @mapIx.eq_1 @mapIx.eq_2)) (And.intro (And.intro @o1.eq_1 @o1.eq_2) (And.intro @o2.eq_1 (And.intro @o2.eq_2 @o3.eq_1)))) (And.intro (And.intro (And.intro @o3.eq_2 @plBuiltin.eq_1) (And.intro @plBuiltin.eq_2 @plBuiltin.eq_3)) (And.intro (And.intro @plBuiltin.eq_4 @evT.eq_1) (And.intro @evT.eq_2 (And.intro @evT.eq_3 @evT.eq_4)))))))) (And.intro (And.intro (And.intro (And.intro (And.intro (And.intro (And.intro @cv.eq_1 @cv.eq_2) (And.intro @cv.eq_3 @cv.eq_4)) (And.intro (And.intro @okV.eq_1 @okV.eq_2) (And.intro @okV.eq_3 @okV.eq_4))) (And.intro (And.intro (And.intro @evParts.eq_1 @evParts.eq_2) (And.intro @evCaps.eq_1 @evCaps.eq_2)) (And.intro (And.intro @plLoad.eq_1 @plStore.eq_1) (And.intro @plAlloc.eq_1 (And.intro @plBox.eq_1 @plBuild.eq_1))))) (And.intro (And.intro (And.intro (And.intro @plSlice.eq_1 @plFieldAddr.eq_1) (And.intro @plField.eq_def @plIndexAddr.eq_def)) (And.intro (And.intro @plIndex.eq_1 @plIndex.eq_2) (And.intro @plBin.eq_def (And.intro @abin.eq_1 @abin.eq_2)))) (And.intro (And.intro (And.intro @abin.eq_3 @abin.eq_4) (And.intro @abin.eq_5 @abin.eq_6)) (And.intro (And.intro @abin.eq_7 @abin.eq_8) (And.intro @abin.eq_9 (And.intro @abin.eq_10 @abin.eq_11)))))) (And.intro (And.intro (And.intro (And.intro (And.intro @abin.eq_12 @abin.eq_13) (And.intro @abin.eq_14 @abin.eq_15)) (And.intro (And.intro @abin.eq_16 @abin.eq_17) (And.intro @abin.eq_18 @plUn.eq_1))) (And.intro (And.intro (And.intro @plUn.eq_2 @plUn.eq_3) (And.intro @plUn.eq_4 @plUn.eq_5)) (And.intro (And.intro @plConv.eq_1 @plConv.eq_2) (And.intro @plConv.eq_3 (And.intro @plNil.eq_1 @plNil.eq_2))))) (And.intro (And.intro (And.intro (And.intro @plNil.eq_3 @plNil.eq_4) (And.intro @plExtract.eq_1 @plExtract.eq_2)) (And.intro (And.intro @plLen.eq_1 @plLen.eq_2) (And.intro @plLen.eq_3 (And.intro @plLen.eq_4 @plLen.eq_5)))) (And.intro (And.intro (And.intro @plMax.eq_1 @plMax.eq_2) (And.intro @plMax.eq_3 @plMax.eq_4)) (And.intro (And.intro @plAppend.eq_def @elemsOf.eq_1) (And.intro @elemsOf.eq_2 (And.intro @elemsOf.eq_3 @elemsOf.eq_4))))))) (And.intro (And.intro (And.intro (And.intro (And.intro (And.intro @readAt.eq_1 @readAt.eq_2) (And.intro @readAt.eq_3 @readAt.eq_4)) (And.intro (And.intro @ldv.eq_1 @cellsV.eq_1) (And.intro @cellsV.eq_2 @cellsV.eq_3))) (And.intro (And.intro (And.intro @toF.eq_1 @toF.eq_2) (And.intro @allF.eq_1 @allF.eq_2)) (And.intro (And.intro @splice.eq_1 @afill.eq_1) (And.intro @afill.eq_2 (And.intro @zeros.eq_1 @chunk.eq_1))))) (And.intro (And.intro (And.intro (And.intro @chunk.eq_2 @TK.agg.eq_1) (And.intro @TK.agg.eq_2 @TK.agg.eq_3)) (And.intro (And.intro @Go.maxLen.eq_1 @List.zip_cons_cons.{0, 0}) (And.intro @List.zip_nil_left.{0, 0} (And.intro @List.zip_nil_right.{0, 0} @look_cons)))) (And.intro (And.intro (And.intro @look_nil @Bool.false_eq_true) (And.intro @true_and @and_true)) (And.intro (And.intro @and_self @List.length_cons.{0}) (And.intro @List.length_nil.{0} (And.intro @List.length_map.{0, 0} @List.length_append.{0})))))) (And.intro (And.intro (And.intro (And.intro (And.intro @List.map_cons.{0, 0} @List.map_nil.{0, 0}) (And.intro @List.take_succ_cons.{0} @List.take_zero.{0})) (And.intro (And.intro @List.drop_succ_cons.{0} @List.drop_zero.{0}) (And.intro @List.nil_append.{0} (And.intro @List.cons_append.{0} @List.append_nil.{0})))) (And.intro (And.intro (And.intro @List.getElem?_cons_zero.{0} @List.getElem?_cons_succ.{0}) (And.intro @List.getElem?_map.{0, 0} @List.set_cons_zero.{0})) (And.intro (And.intro @List.set_cons_succ.{0} @Option.map_some.{0, 0}) (And.intro @beq_self_eq_true.{0} (And.intro @List.all_cons.{0} @List.all_nil.{0}))))) (And.intro (And.intro (And.intro (And.intro @Int.toNat_zero @Int.toNat_natCast) (And.intro @Int.natCast_nonneg @Nat.zero_add)) (And.intro (And.intro @Nat.le_refl @Nat.lt_irrefl) (And.intro @gt_iff_lt.{0} (And.intro @decide_true @decide_false)))) (And.intro (And.intro (And.intro @Bool.not_true @Bool.not_false) (And.intro @List.range_succ @List.range_zero)) (And.intro (And.intro @List.getD_cons_zero.{0} @List.getD_cons_succ.{0}) (And.intro @Nat.zero_le (And.intro @Nat.succ_ne_self @Nat.zero_mod))))))))) :=
 (And.intro (And.intro (And.intro (And.intro (And.intro (And.intro (And.intro (And.intro @orE.eq_1 @orE.eq_2) (And.intro @pl.eq_1 @pl0.eq_1)) (And.intro (And.intro @pl0.eq_2 @pl0.eq_3) (And.intro @pl0.eq_4 @pl0.eq_5))) (And.intro (And.intro (And.intro @pl0.eq_6 @pl0.eq_7) (And.intro @pl0.eq_8 @pl0.eq_9)) (And.intro (And.intro @pl0.eq_10 @pl0.eq_11) (And.intro @pl0.eq_12 (And.intro @pl0.eq_13 @pl0.eq_14))))) (And.intro (And.intro (And.intro (And.intro @pl0.eq_15 @pl0.eq_16) (And.intro @pl0.eq_17 @pl0.eq_18)) (And.intro (And.intro @pl0.eq_19 @pl0.eq_20) (And.intro @pl0.eq_21 (And.intro @plO.eq_1 @plO.eq_2)))) (And.intro (And.intro (And.intro @plO.eq_3 @plO.eq_4) (And.intro @plO.eq_5 @plO.eq_6)) (And.intro (And.intro @plO.eq_7 @plO.eq_8) (And.intro @plO.eq_9 (And.intro @plO.eq_10 @plO.eq_11)))))) (And.intro (And.intro (And.intro (And.intro (And.intro @plO.eq_12 @plO.eq_13) (And.intro @plBuiltinO.eq_1 @plBuiltinO.eq_2)) (And.intro (And.intro @plBuiltinO.eq_3 @plBuiltinO.eq_4) (And.intro @plLoadO.eq_1 @plStoreO.eq_1))) (And.intro (And.intro (And.intro @plPlace.eq_1 @plPlace.eq_2) (And.intro @plPlace.eq_3 @OC.with.eq_1)) (And.intro (And.intro @OC.with.eq_2 @OC.with.eq_3) (And.intro @OC.ref.eq_1 (And.intro @OC.ref.eq_2 @OC.ref.eq_3))))) (And.intro (And.intro (And.intro (And.intro @OC.ref.eq_4 @OC.pl.eq_1) (And.intro @OC.pl.eq_2 @plainL.eq_1)) (And.intro (And.intro @plainL.eq_2 @plAppendO.eq_def) (And.intro @srcCells.eq_1 (And.intro @srcCells.eq_2 @plMake.eq_1)))) (And.intro (And.intro (And.intro @plMake.eq_2 @plSub.eq_1) (And.intro @plSub.eq_2 @plSub.eq_3)) (And.intro (And.intro @plSub.eq_4 @evO.eq_1) (And.intro @evO.eq_2 (And.intro @bnd.eq_1 @bnd.eq_2))))))) (And.intro (And.intro (And.intro (And.intro (And.intro (And.intro @plLookup.eq_1 @keyV.eq_1) (And.intro @keyV.eq_2 @keyV.eq_3)) (And.intro (And.intro @allVl.eq_1 @allVl.eq_2) (And.intro @allVl.eq_3 @okRes.eq_1))) (And.intro (And.intro (And.intro @plMakeMap.eq_1 @plUpdate.eq_1) (And.intro @plDelete.eq_1 @plLenM.eq_1)) (And.intro (And.intro @plLenM.eq_2 @plBinO.eq_1) (And.intro @plBinO.eq_2 (And.intro @plBinO.eq_3 @plBinO.eq_4))))) (And.intro (And.intro (And.intro (And.intro @plBinO.eq_5 @plBinO.eq_6) (And.intro @plBinO.eq_7 @plBinO.eq_8)) (And.intro (And.intro @plBinO.eq_9 @plBinO.eq_10) (And.intro @eqOp.eq_1 (And.intro @eqOp.eq_2 @eqOp.eq_3)))) (And.intro (And.intro (And.intro @shOp.eq_1 @shOp.eq_2) (And.intro @shOp.eq_3 @intOp2.eq_1)) (And.intro (And.intro @intOp2.eq_2 @intOp2.eq_3) (And.intro @intOp2.eq_4 (And.intro @intOp2.eq_5 @intOp2.eq_6)))))) (And.intro (And.intro (And.intro (And.intro (And.intro @hasK.eq_1 @hasK.eq_2) (And.intro @hasK.eq_3 @hasB.eq_1)) (And.intro (And.intro @hasB.eq_2 @hasB.eq_3) (And.intro @hasB.eq_4 @hasBs.eq_1))) (And.intro (And.intro (And.intro @hasBs.eq_2 @hasBs.eq_3) (And.intro @keq.eq_1 @keq.eq_2)) (And.intro (And.intro @keqB.eq_1 @keqB.eq_2) (And.intro @keqB.eq_3 (And.intro @keqB.eq_4 @keqBs.eq_1))))) (And.intro (And.intro (And.intro (And.intro @keqBs.eq_2 @keqBs.eq_3) (And.intro @mapIx.eq_1 @mapIx.eq_2)) (And.intro (And.intro @o1.eq_1 @o1.eq_2) (And.intro @o2.eq_1 (And.intro @o2.eq_2 @o3.eq_1)))) (And.intro (And.intro (And.intro @o3.eq_2 @plBuiltin.eq_1) (And.intro @plBuiltin.eq_2 @plBuiltin.eq_3)) (And.intro (And.intro @plBuiltin.eq_4 @evT.eq_1) (And.intro @evT.eq_2 (And.intro @evT.eq_3 @evT.eq_4)))))))) (And.intro (And.intro (And.intro (And.intro (And.intro (And.intro (And.intro @cv.eq_1 @cv.eq_2) (And.intro @cv.eq_3 @cv.eq_4)) (And.intro (And.intro @okV.eq_1 @okV.eq_2) (And.intro @okV.eq_3 @okV.eq_4))) (And.intro (And.intro (And.intro @evParts.eq_1 @evParts.eq_2) (And.intro @evCaps.eq_1 @evCaps.eq_2)) (And.intro (And.intro @plLoad.eq_1 @plStore.eq_1) (And.intro @plAlloc.eq_1 (And.intro @plBox.eq_1 @plBuild.eq_1))))) (And.intro (And.intro (And.intro (And.intro @plSlice.eq_1 @plFieldAddr.eq_1) (And.intro @plField.eq_def @plIndexAddr.eq_def)) (And.intro (And.intro @plIndex.eq_1 @plIndex.eq_2) (And.intro @plBin.eq_def (And.intro @abin.eq_1 @abin.eq_2)))) (And.intro (And.intro (And.intro @abin.eq_3 @abin.eq_4) (And.intro @abin.eq_5 @abin.eq_6)) (And.intro (And.intro @abin.eq_7 @abin.eq_8) (And.intro @abin.eq_9 (And.intro @abin.eq_10 @abin.eq_11)))))) (And.intro (And.intro (And.intro (And.intro (And.intro @abin.eq_12 @abin.eq_13) (And.intro @abin.eq_14 @abin.eq_15)) (And.intro (And.intro @abin.eq_16 @abin.eq_17) (And.intro @abin.eq_18 @plUn.eq_1))) (And.intro (And.intro (And.intro @plUn.eq_2 @plUn.eq_3) (And.intro @plUn.eq_4 @plUn.eq_5)) (And.intro (And.intro @plConv.eq_1 @plConv.eq_2) (And.intro @plConv.eq_3 (And.intro @plNil.eq_1 @plNil.eq_2))))) (And.intro (And.intro (And.intro (And.intro @plNil.eq_3 @plNil.eq_4) (And.intro @plExtract.eq_1 @plExtract.eq_2)) (And.intro (And.intro @plLen.eq_1 @plLen.eq_2) (And.intro @plLen.eq_3 (And.intro @plLen.eq_4 @plLen.eq_5)))) (And.intro (And.intro (And.intro @plMax.eq_1 @plMax.eq_2) (And.intro @plMax.eq_3 @plMax.eq_4)) (And.intro (And.intro @plAppend.eq_def @elemsOf.eq_1) (And.intro @elemsOf.eq_2 (And.intro @elemsOf.eq_3 @elemsOf.eq_4))))))) (And.intro (And.intro (And.intro (And.intro (And.intro (And.intro @readAt.eq_1 @readAt.eq_2) (And.intro @readAt.eq_3 @readAt.eq_4)) (And.intro (And.intro @ldv.eq_1 @cellsV.eq_1) (And.intro @cellsV.eq_2 @cellsV.eq_3))) (And.intro (And.intro (And.intro @toF.eq_1 @toF.eq_2) (And.intro @allF.eq_1 @allF.eq_2)) (And.intro (And.intro @splice.eq_1 @afill.eq_1) (And.intro @afill.eq_2 (And.intro @zeros.eq_1 @chunk.eq_1))))) (And.intro (And.intro (And.intro (And.intro @chunk.eq_2 @TK.agg.eq_1) (And.intro @TK.agg.eq_2 @TK.agg.eq_3)) (And.intro (And.intro @Go.maxLen.eq_1 @List.zip_cons_cons.{0, 0}) (And.intro @List.zip_nil_left.{0, 0} (And.intro @List.zip_nil_right.{0, 0} @look_cons)))) (And.intro (And.intro (And.intro @look_nil @Bool.false_eq_true) (And.intro @true_and @and_true)) (And.intro (And.intro @and_self @List.length_cons.{0}) (And.intro @List.length_nil.{0} (And.intro @List.length_map.{0, 0} @List.length_append.{0})))))) (And.intro (And.intro (And.intro (And.intro (And.intro @List.map_cons.{0, 0} @List.map_nil.{0, 0}) (And.intro @List.take_succ_cons.{0} @List.take_zero.{0})) (And.intro (And.intro @List.drop_succ_cons.{0} @List.drop_zero.{0}) (And.intro @List.nil_append.{0} (And.intro @List.cons_append.{0} @List.append_nil.{0})))) (And.intro (And.intro (And.intro @List.getElem?_cons_zero.{0} @List.getElem?_cons_succ.{0}) (And.intro @List.getElem?_map.{0, 0} @List.set_cons_zero.{0})) (And.intro (And.intro @List.set_cons_succ.{0} @Option.map_some.{0, 0}) (And.intro @beq_self_eq_true.{0} (And.intro @List.all_cons.{0} @List.all_nil.{0}))))) (And.intro (And.intro (And.intro (And.intro @Int.toNat_zero @Int.toNat_natCast) (And.intro @Int.natCast_nonneg @Nat.zero_add)) (And.intro (And.intro @Nat.le_refl @Nat.lt_irrefl) (And.intro @gt_iff_lt.{0} (And.intro @decide_true @decide_false)))) (And.intro (And.intro (And.intro @Bool.not_true @Bool.not_false) (And.intro @List.range_succ @List.range_zero)) (And.intro (And.intro @List.getD_cons_zero.{0} @List.getD_cons_succ.{0}) (And.intro @Nat.zero_le (And.intro @Nat.succ_ne_self @Nat.zero_mod)))))))))
theorem smPut : type_of% (And.intro (And.intro (And.intro (And.intro (And.intro @put.eq_1 (And.intro @put.eq_2 @puts.eq_1)) (And.intro (And.intro @puts.eq_2 @setT.eq_1) (And.intro @setT.eq_2 @setT.eq_3))) (And.intro (And.intro @OC.ren.eq_1 (And.intro @OC.ren.eq_2 @OC.ren.eq_3)) (And.intro (And.intro @OC.ren.eq_4 @OC.rens.eq_1) (And.intro @OC.rens.eq_2 @OC.put.eq_1)))) (And.intro (And.intro (And.intro @OC.put.eq_2 (And.intro @OC.put.eq_3 @OC.put.eq_4)) (And.intro (And.intro @OC.cells.eq_1 @OC.cells.eq_2) (And.intro @OC.cells.eq_3 @OC.cells.eq_4))) (And.intro (And.intro (And.intro @OC.ref.eq_1 @OC.ref.eq_2) (And.intro @OC.ref.eq_3 @OC.ref.eq_4)) (And.intro (And.intro @OC.pl.eq_1 @OC.pl.eq_2) (And.intro @AB.ren.eq_1 @AB.ren.eq_2))))) (And.intro (And.intro (And.intro (And.intro @AB.ren.eq_3 (And.intro @AB.ren.eq_4 @AC.rens.eq_1)) (And.intro (And.intro @AC.rens.eq_2 @AC.ren.eq_1) (And.intro @AC.ren.eq_2 @AC.ren.eq_3))) (And.intro (And.intro @AC.ren.eq_4 (And.intro @AC.ren.eq_5 @AC.ren.eq_6)) (And.intro (And.intro @AC.ren.eq_7 @AV.ren.eq_1) (And.intro @AV.ren.eq_2 @AV.ren.eq_3)))) (And.intro (And.intro (And.intro @AV.rens.eq_1 (And.intro @AV.rens.eq_2 @nm.eq_1)) (And.intro (And.intro @List.filter_cons.{0} @List.filter_nil.{0}) (And.intro @Bool.false_eq_true @Bool.not_true))) (And.intro (And.intro (And.intro @Bool.not_false @List.zip_cons_cons.{0, 0}) (And.intro @List.zip_nil_left.{0, 0} @List.zip_nil_right.{0, 0})) (And.intro (And.intro @List.map_cons.{0, 0} @List.map_nil.{0, 0}) (And.intro @List.getD_cons_zero.{0} @List.getD_cons_succ.{0})))))) :=
 (And.intro (And.intro (And.intro (And.intro (And.intro @put.eq_1 (And.intro @put.eq_2 @puts.eq_1)) (And.intro (And.intro @puts.eq_2 @setT.eq_1) (And.intro @setT.eq_2 @setT.eq_3))) (And.intro (And.intro @OC.ren.eq_1 (And.intro @OC.ren.eq_2 @OC.ren.eq_3)) (And.intro (And.intro @OC.ren.eq_4 @OC.rens.eq_1) (And.intro @OC.rens.eq_2 @OC.put.eq_1)))) (And.intro (And.intro (And.intro @OC.put.eq_2 (And.intro @OC.put.eq_3 @OC.put.eq_4)) (And.intro (And.intro @OC.cells.eq_1 @OC.cells.eq_2) (And.intro @OC.cells.eq_3 @OC.cells.eq_4))) (And.intro (And.intro (And.intro @OC.ref.eq_1 @OC.ref.eq_2) (And.intro @OC.ref.eq_3 @OC.ref.eq_4)) (And.intro (And.intro @OC.pl.eq_1 @OC.pl.eq_2) (And.intro @AB.ren.eq_1 @AB.ren.eq_2))))) (And.intro (And.intro (And.intro (And.intro @AB.ren.eq_3 (And.intro @AB.ren.eq_4 @AC.rens.eq_1)) (And.intro (And.intro @AC.rens.eq_2 @AC.ren.eq_1) (And.intro @AC.ren.eq_2 @AC.ren.eq_3))) (And.intro (And.intro @AC.ren.eq_4 (And.intro @AC.ren.eq_5 @AC.ren.eq_6)) (And.intro (And.intro @AC.ren.eq_7 @AV.ren.eq_1) (And.intro @AV.ren.eq_2 @AV.ren.eq_3)))) (And.intro (And.intro (And.intro @AV.rens.eq_1 (And.intro @AV.rens.eq_2 @nm.eq_1)) (And.intro (And.intro @List.filter_cons.{0} @List.filter_nil.{0}) (And.intro @Bool.false_eq_true @Bool.not_true))) (And.intro (And.intro (And.intro @Bool.not_false @List.zip_cons_cons.{0, 0}) (And.intro @List.zip_nil_left.{0, 0} @List.zip_nil_right.{0, 0})) (And.intro (And.intro @List.map_cons.{0, 0} @List.map_nil.{0, 0}) (And.intro @List.getD_cons_zero.{0} @List.getD_cons_succ.{0}))))))
theorem smKeep : type_of% (And.intro (And.intro (And.intro (And.intro (And.intro @OC.okL.eq_1 (And.intro @OC.okL.eq_2 @OC.okL.eq_3)) (And.intro (And.intro @OC.okL.eq_4 @OC.okLs.eq_1) (And.intro @OC.okLs.eq_2 @AC.okL.eq_1))) (And.intro (And.intro (And.intro @AC.okL.eq_2 @AC.okL.eq_3) (And.intro @AC.okL.eq_4 @AC.okL.eq_5)) (And.intro (And.intro @AC.okL.eq_6 @AC.okL.eq_7) (And.intro @AC.okLs.eq_1 @AC.okLs.eq_2)))) (And.intro (And.intro (And.intro @keepT.eq_1 (And.intro @keepT.eq_2 @keepH.eq_1)) (And.intro (And.intro @keepH.eq_2 @AV.frz.eq_1) (And.intro @AV.frz.eq_2 @AV.frz.eq_3))) (And.intro (And.intro (And.intro @AV.frzs.eq_1 @AV.frzs.eq_2) (And.intro @AC.frz.eq_1 @AC.frz.eq_2)) (And.intro (And.intro @AC.frz.eq_3 @AC.frz.eq_4) (And.intro @AC.frz.eq_5 @AC.frz.eq_6))))) (And.intro (And.intro (And.intro (And.intro @AC.frz.eq_7 (And.intro @AC.frzs.eq_1 @AC.frzs.eq_2)) (And.intro (And.intro @AB.frz.eq_1 @AB.frz.eq_2) (And.intro @AB.frz.eq_3 @AB.frz.eq_4))) (And.intro (And.intro (And.intro @lives.eq_1 @look_cons) (And.intro @look_nil @List.any_cons.{0})) (And.intro (And.intro @List.any_nil.{0} @Bool.false_eq_true) (And.intro @and_true @true_and)))) (And.intro (And.intro (And.intro @and_self (And.intro @Option.some.injEq.{0} @decide_false)) (And.intro (And.intro @decide_true @Bool.or_false) (And.intro @Bool.or_true @Bool.false_or))) (And.intro (And.intro (And.intro @Bool.true_or @beq_self_eq_true.{0}) (And.intro @List.contains_nil.{0} @List.contains_cons.{0})) (And.intro (And.intro @List.length_map.{0, 0} @List.length_cons.{0}) (And.intro @List.length_nil.{0} @List.length_append.{0})))))) :=
 (And.intro (And.intro (And.intro (And.intro (And.intro @OC.okL.eq_1 (And.intro @OC.okL.eq_2 @OC.okL.eq_3)) (And.intro (And.intro @OC.okL.eq_4 @OC.okLs.eq_1) (And.intro @OC.okLs.eq_2 @AC.okL.eq_1))) (And.intro (And.intro (And.intro @AC.okL.eq_2 @AC.okL.eq_3) (And.intro @AC.okL.eq_4 @AC.okL.eq_5)) (And.intro (And.intro @AC.okL.eq_6 @AC.okL.eq_7) (And.intro @AC.okLs.eq_1 @AC.okLs.eq_2)))) (And.intro (And.intro (And.intro @keepT.eq_1 (And.intro @keepT.eq_2 @keepH.eq_1)) (And.intro (And.intro @keepH.eq_2 @AV.frz.eq_1) (And.intro @AV.frz.eq_2 @AV.frz.eq_3))) (And.intro (And.intro (And.intro @AV.frzs.eq_1 @AV.frzs.eq_2) (And.intro @AC.frz.eq_1 @AC.frz.eq_2)) (And.intro (And.intro @AC.frz.eq_3 @AC.frz.eq_4) (And.intro @AC.frz.eq_5 @AC.frz.eq_6))))) (And.intro (And.intro (And.intro (And.intro @AC.frz.eq_7 (And.intro @AC.frzs.eq_1 @AC.frzs.eq_2)) (And.intro (And.intro @AB.frz.eq_1 @AB.frz.eq_2) (And.intro @AB.frz.eq_3 @AB.frz.eq_4))) (And.intro (And.intro (And.intro @lives.eq_1 @look_cons) (And.intro @look_nil @List.any_cons.{0})) (And.intro (And.intro @List.any_nil.{0} @Bool.false_eq_true) (And.intro @and_true @true_and)))) (And.intro (And.intro (And.intro @and_self (And.intro @Option.some.injEq.{0} @decide_false)) (And.intro (And.intro @decide_true @Bool.or_false) (And.intro @Bool.or_true @Bool.false_or))) (And.intro (And.intro (And.intro @Bool.true_or @beq_self_eq_true.{0}) (And.intro @List.contains_nil.{0} @List.contains_cons.{0})) (And.intro (And.intro @List.length_map.{0, 0} @List.length_cons.{0}) (And.intro @List.length_nil.{0} @List.length_append.{0}))))))
theorem smArg : type_of% (And.intro (And.intro (And.intro (And.intro @evArgs.eq_1 @evArgs.eq_2) (And.intro @evT.eq_1 @evT.eq_2)) (And.intro (And.intro @evT.eq_3 @evT.eq_4) (And.intro @cv.eq_1 @cv.eq_2))) (And.intro (And.intro (And.intro @cv.eq_3 @cv.eq_4) (And.intro @okV.eq_1 @okV.eq_2)) (And.intro (And.intro @okV.eq_3 @okV.eq_4) (And.intro @look_cons @Bool.false_eq_true)))) :=
 (And.intro (And.intro (And.intro (And.intro @evArgs.eq_1 @evArgs.eq_2) (And.intro @evT.eq_1 @evT.eq_2)) (And.intro (And.intro @evT.eq_3 @evT.eq_4) (And.intro @cv.eq_1 @cv.eq_2))) (And.intro (And.intro (And.intro @cv.eq_3 @cv.eq_4) (And.intro @okV.eq_1 @okV.eq_2)) (And.intro (And.intro @okV.eq_3 @okV.eq_4) (And.intro @look_cons @Bool.false_eq_true))))
theorem smLen : type_of% (And.intro (And.intro (And.intro @kSeq.eq_1 @kSeq.eq_2) (And.intro @kBlock.eq_1 @kBlock.eq_2)) (And.intro (And.intro @kFin.eq_1 @kFin.eq_2) (And.intro @kFin.eq_3 (And.intro @List.length_cons.{0} @List.length_nil.{0})))) :=
 (And.intro (And.intro (And.intro @kSeq.eq_1 @kSeq.eq_2) (And.intro @kBlock.eq_1 @kBlock.eq_2)) (And.intro (And.intro @kFin.eq_1 @kFin.eq_2) (And.intro @kFin.eq_3 (And.intro @List.length_cons.{0} @List.length_nil.{0}))))
end Go.Abs
set_option linter.unusedVariables false
set_option linter.unusedSimpArgs false
namespace Go.Proofs.Ytfhgknmkpegpbaa
open Go Go.Abs Go.Proofs
abbrev intsF (xs : List Int) : FC := .fz 1 (xs.map fun x => [.v (.int .i64 x)])
set_option maxRecDepth 100000 in
theorem in_ok (xs : List Int) (x : Int) (hl : xs.length ≤ 1000000) : ACall Try.prog 154 [.one (.f (intsF xs)), .val (.int .i64 x)] [] (.val (.bool (decide (x ∈ xs)))) [] := by
  refine acall_of Try.func154 (by decide) rfl Try.results154 (by rw [Try.ntmps154]; simp) (by simp) ?_
  rw [Try.ntmps154]
  simp only [enumL, List.length_nil, List.length_cons, Nat.reduceAdd]
  repeat (first | refine W.seq ?_ | refine W.block ?_)
  refine W.regionK (by decide) fun N hN => ?_
  repeat (first
    | refine RunS.any (by rfl) (by simp only [smEval, Nat.reduceAdd, Nat.reduceMul, Nat.reduceSub, Nat.reduceBEq, Nat.reduceEqDiff, Nat.reduceLeDiff, Nat.reduceLT, Nat.reduceMod, reduceIte, Int.reduceLE, Int.reduceLT, Int.reduceToNat, Nat.reducePow, ty3, ty4, ty9, ty22, ty25, ty28, ty39]; try rfl) (by rfl) (by simp only [smPut, Nat.reduceBEq, reduceIte]; exact ⟨rfl, rfl⟩) ?_
    | refine RunS.skip (by rfl) (by simp only [smPut, Nat.reduceBEq, reduceIte]; try rfl) ?_)
  refine RunS.nil (hN _ _ _ ?_)
  clear hN N
  simp only [smLen, Nat.reduceAdd, Nat.reduceMul, reduceIte, Nat.reduceEqDiff]
  repeat (first | refine W.seq ?_ | refine W.block ?_)
  refine W.regionK (by decide) fun N hN => ?_
  repeat (first
    | refine RunS.any (by rfl) (by simp only [smEval, Nat.reduceAdd, Nat.reduceMul, Nat.reduceSub, Nat.reduceBEq, Nat.reduceEqDiff, Nat.reduceLeDiff, Nat.reduceLT, Nat.reduceMod, reduceIte, Int.reduceLE, Int.reduceLT, Int.reduceToNat, Nat.reducePow, ty3, ty4, ty9, ty22, ty25, ty28, ty39]; try rfl) (by rfl) (by simp only [smPut, Nat.reduceBEq, reduceIte]; exact ⟨rfl, rfl⟩) ?_
    | refine RunS.skip (by rfl) (by simp only [smPut, Nat.reduceBEq, reduceIte]; try rfl) ?_)
  refine RunS.nil (hN _ _ _ ?_)
  clear hN N
  simp only [smLen, Nat.reduceAdd, Nat.reduceMul, reduceIte, Nat.reduceEqDiff]
  repeat (first | refine W.seq ?_ | refine W.block ?_)
  refine W.loop ?_
  refine WL.ind (σ := Nat) (nx := 8) (fun j => j ≤ xs.length ∧ x ∉ xs.take j) (fun j => xs.length - j) (fun j => [(5, .val (.int .i64 j)), (0, .one (.f (intsF xs))), (1, .val (.int .i64 x))]) (fun _ => []) 0 ⟨by omega, by simp⟩ ?_ ?_
  · refine Wk.keep [] (by rfl) ?_ ?_ <;> simp only [smKeep, Nat.reduceBEq, Nat.reduceLT, reduceIte]
    trivial
  intro j ⟨hj, hn⟩
  repeat (first | refine W.seq ?_ | refine W.block ?_)
  refine W.regionK (by decide) fun N hN => ?_
  repeat (first
    | refine RunS.any (by rfl) (by simp only [smEval, Nat.reduceAdd, Nat.reduceMul, Nat.reduceSub, Nat.reduceBEq, Nat.reduceEqDiff, Nat.reduceLeDiff, Nat.reduceLT, Nat.reduceMod, reduceIte, Int.reduceLE, Int.reduceLT, Int.reduceToNat, Nat.reducePow, ty3, ty4, ty9, ty22, ty25, ty28, ty39]; try rfl) (by rfl) (by simp only [smPut, Nat.reduceBEq, reduceIte]; exact ⟨rfl, rfl⟩) ?_
    | refine RunS.skip (by rfl) (by simp only [smPut, Nat.reduceBEq, reduceIte]; try rfl) ?_)
  refine RunS.nil (hN _ _ _ ?_)
  clear hN N
  simp only [smLen, Nat.reduceAdd, Nat.reduceMul, reduceIte, Nat.reduceEqDiff]
  refine W.condD (by rfl) (fun hlt => ?_) (fun hge => ?_)
  · first | refine W.exit ?_ | refine W.ret ?_ | refine W.skip ?_
    try simp only [smLen, reduceIte, Nat.reduceEqDiff]
    obtain ⟨y, hy⟩ : ∃ y, xs[j]? = some y := ⟨_, List.getElem?_eq_getElem (by omega)⟩
    have hts : xs.take (j + 1) = xs.take j ++ [y] := by rw [List.take_add_one, hy]; rfl
    repeat (first | refine W.seq ?_ | refine W.block ?_)
    refine W.regionK (by decide) fun N hN => ?_
    repeat (first
      | refine RunS.any (by rfl) (by simp only [smEval, Nat.reduceAdd, Nat.reduceMul, Nat.reduceSub, Nat.reduceBEq, Nat.reduceEqDiff, Nat.reduceLeDiff, Nat.reduceLT, Nat.reduceMod, reduceIte, Int.reduceLE, Int.reduceLT, Int.reduceToNat, Nat.reducePow, ty3, ty4, ty9, ty22, ty25, ty28, ty39, hy]; try rfl) (by rfl) (by simp only [smPut, Nat.reduceBEq, reduceIte]; exact ⟨rfl, rfl⟩) ?_
      | refine RunS.skip (by rfl) (by simp only [smPut, Nat.reduceBEq, reduceIte]; try rfl) ?_)
    refine RunS.nil (hN _ _ _ ?_)
    clear hN N
    simp only [smLen, Nat.reduceAdd, Nat.reduceMul, reduceIte, Nat.reduceEqDiff]
    refine W.condD (by rfl) (fun he => ?_) (fun he => ?_)
    · repeat (first | refine W.seq ?_ | refine W.block ?_)
      refine W.regionK (by decide) fun N hN => ?_
      repeat (first
        | refine RunS.any (by rfl) (by simp only [smEval, Nat.reduceAdd, Nat.reduceMul, Nat.reduceSub, Nat.reduceBEq, Nat.reduceEqDiff, Nat.reduceLeDiff, Nat.reduceLT, Nat.reduceMod, reduceIte, Int.reduceLE, Int.reduceLT, Int.reduceToNat, Nat.reducePow, ty3, ty4, ty9, ty22, ty25, ty28, ty39]; try rfl) (by rfl) (by simp only [smPut, Nat.reduceBEq, reduceIte]; exact ⟨rfl, rfl⟩) ?_
        | refine RunS.skip (by rfl) (by simp only [smPut, Nat.reduceBEq, reduceIte]; try rfl) ?_)
      refine RunS.nil (hN _ _ _ ?_)
      clear hN N
      simp only [smLen, Nat.reduceAdd, Nat.reduceMul, reduceIte, Nat.reduceEqDiff]
      first | refine W.exit ?_ | refine W.ret ?_ | refine W.skip ?_
      try simp only [smLen, reduceIte, Nat.reduceEqDiff]
      refine Fin.pure Wk.refl (xs := ?_) ?_ ?_ ?_
      rotate_left
      · simp only [smEval, Nat.reduceAdd, Nat.reduceMul, Nat.reduceSub, Nat.reduceBEq, Nat.reduceEqDiff, Nat.reduceLeDiff, Nat.reduceLT, Nat.reduceMod, reduceIte, Int.reduceLE, Int.reduceLT, Int.reduceToNat, Nat.reducePow, ty3, ty4, ty9, ty22, ty25, ty28, ty39, resA]; try rfl
      · have := List.mem_of_getElem? hy; simp [outA, ← he, this]
      · rfl
    · first | refine W.exit ?_ | refine W.ret ?_ | refine W.skip ?_
      try simp only [smLen, reduceIte, Nat.reduceEqDiff]
      have hw : IntKind.i64.wrap ((j : Int) + 1) = ((j + 1 : Nat) : Int) := wrap_i64 (by omega) (by omega)
      repeat (first | refine W.seq ?_ | refine W.block ?_)
      refine W.regionK (by decide) fun N hN => ?_
      repeat (first
        | refine RunS.any (by rfl) (by simp only [smEval, Nat.reduceAdd, Nat.reduceMul, Nat.reduceSub, Nat.reduceBEq, Nat.reduceEqDiff, Nat.reduceLeDiff, Nat.reduceLT, Nat.reduceMod, reduceIte, Int.reduceLE, Int.reduceLT, Int.reduceToNat, Nat.reducePow, ty3, ty4, ty9, ty22, ty25, ty28, ty39, hw]; try rfl) (by rfl) (by simp only [smPut, Nat.reduceBEq, reduceIte]; exact ⟨rfl, rfl⟩) ?_
        | refine RunS.skip (by rfl) (by simp only [smPut, Nat.reduceBEq, reduceIte]; try rfl) ?_)
      refine RunS.nil (hN _ _ _ ?_)
      clear hN N
      simp only [smLen, Nat.reduceAdd, Nat.reduceMul, reduceIte, Nat.reduceEqDiff]
      refine ⟨j + 1, ⟨by omega, by rw [hts]; simp; exact ⟨hn, fun e => he e.symm⟩⟩, by omega, ?_⟩
      refine Wk.keep [] (by rfl) ?_ ?_ <;> simp only [smKeep, Nat.reduceBEq, Nat.reduceLT, reduceIte]
  · first | refine W.exit ?_ | refine W.ret ?_ | refine W.skip ?_
    try simp only [smLen, reduceIte, Nat.reduceEqDiff]
    repeat (first | refine W.seq ?_ | refine W.block ?_)
    refine W.regionK (by decide) fun N hN => ?_
    repeat (first
      | refine RunS.any (by rfl) (by simp only [smEval, Nat.reduceAdd, Nat.reduceMul, Nat.reduceSub, Nat.reduceBEq, Nat.reduceEqDiff, Nat.reduceLeDiff, Nat.reduceLT, Nat.reduceMod, reduceIte, Int.reduceLE, Int.reduceLT, Int.reduceToNat, Nat.reducePow, ty3, ty4, ty9, ty22, ty25, ty28, ty39]; try rfl) (by rfl) (by simp only [smPut, Nat.reduceBEq, reduceIte]; exact ⟨rfl, rfl⟩) ?_
      | refine RunS.skip (by rfl) (by simp only [smPut, Nat.reduceBEq, reduceIte]; try rfl) ?_)
    refine RunS.nil (hN _ _ _ ?_)
    clear hN N
    simp only [smLen, Nat.reduceAdd, Nat.reduceMul, reduceIte, Nat.reduceEqDiff]
    first | refine W.exit ?_ | refine W.ret ?_ | refine W.skip ?_
    try simp only [smLen, reduceIte, Nat.reduceEqDiff]
    have : x ∉ xs := by have h2 : j = xs.length := by omega
                        rw [h2, List.take_length] at hn; exact hn
    refine Fin.pure Wk.refl (xs := ?_) ?_ ?_ ?_
    rotate_left
    · simp only [smEval, Nat.reduceAdd, Nat.reduceMul, Nat.reduceSub, Nat.reduceBEq, Nat.reduceEqDiff, Nat.reduceLeDiff, Nat.reduceLT, Nat.reduceMod, reduceIte, Int.reduceLE, Int.reduceLT, Int.reduceToNat, Nat.reducePow, ty3, ty4, ty9, ty22, ty25, ty28, ty39, resA]; try rfl
    · simp [outA, this]
    · rfl
end Go.Proofs.Ytfhgknmkpegpbaa
set_option linter.unusedVariables false
set_option linter.unusedSimpArgs false
namespace Go.Proofs.Ytfhgknmkpegpbaa
open Go.RowKit
mutual
def Tm.sub (σ : Int → Tm) : Tm → Tm
 | .mk k n s l => if k = 1 then σ n else .mk k n s (Tm.subs σ l)
def Tm.subs (σ : Int → Tm) : List Tm → List Tm
 | [] => []
 | t :: ts => Tm.sub σ t :: Tm.subs σ ts
end
theorem Tm.subs_map (σ : Int → Tm) : ∀ l : List Tm, Tm.subs σ l = l.map (Tm.sub σ)
 | [] => by rw [Tm.subs]; rfl
 | x :: l => by rw [Tm.subs, Tm.subs_map σ l]; rfl
theorem sub_var (σ : Int → Tm) {t : Tm} (h : t.k = 1) : t.sub σ = σ t.n := by
 cases t with | mk k n s l => have h' : k = 1 := h; rw [Tm.sub, if_pos h']; rfl
theorem sub_node (σ : Int → Tm) {t : Tm} (h : t.k ≠ 1) : t.sub σ = .mk t.k t.n t.s (t.l.map (Tm.sub σ)) := by
 cases t with | mk k n s l => have h' : ¬ k = 1 := h; rw [Tm.sub, if_neg h', Tm.subs_map]; rfl
theorem sub_va (σ : Int → Tm) (n : Int) : (Tm.va n).sub σ = σ n := sub_var σ rfl
theorem nodeB_congr {t u : Tm} (h1 : t.k = u.k) (h2 : t.n = u.n) (h3 : t.s = u.s) (h4 : t.l.length = u.l.length) : nodeB t = nodeB u := by
 unfold nodeB bareB; rw [h1, h2, h3, h4]
theorem okB_parts {t : Tm} (h : t.okB = true) : nodeB t = true ∧ ∀ x ∈ t.l, x.okB = true := by
 rw [Tm.okB_eq, Bool.and_eq_true] at h; exact ⟨h.1, fun x hx => Tm.okBs_mem h.2 hx⟩
theorem okB_of {t : Tm} (h : nodeB t = true) (h2 : ∀ x ∈ t.l, x.okB = true) : t.okB = true := by
 rw [Tm.okB_eq, Bool.and_eq_true]; exact ⟨h, okBs_iff.2 h2⟩
theorem okB_va {t : Tm} (h : t.okB = true) (hk : t.k = 1) : t = Tm.va t.n := by
 have h1 := (okB_parts h).1
 unfold nodeB bareB at h1
 rw [if_pos hk] at h1
 simp only [Bool.and_eq_true, Bool.or_eq_true, decide_eq_true_eq, Bool.false_or, beq_iff_eq] at h1
 obtain ⟨⟨⟨⟨_, h2⟩, h3⟩, _⟩, _⟩ := h1
 have h2 : t.s.toList = [] := by simpa using h2
 have h3 : t.l = [] := by simpa using h3
 have h4 : t.s = ⟨#[]⟩ := bytes_ext (by rw [h2]; exact empty_toList.symm)
 rw [← t.eta, hk, h4, h3]; rfl
def Tm.has (t : Tm) (n : Int) : Prop := ∃ y ∈ t.pre, y.k = 1 ∧ y.n = n
theorem mem_pres {y : Tm} : ∀ {l : List Tm}, y ∈ Tm.pres l ↔ ∃ x ∈ l, y ∈ x.pre
 | [] => by simp [Tm.pres]
 | x :: l => by rw [Tm.pres, List.mem_append, mem_pres]; simp
theorem has_va {m n : Int} : (Tm.va m).has n ↔ n = m := by
 unfold Tm.has Tm.va
 rw [Tm.pre_eq]
 simp [Tm.pres, Tm.l, Tm.k, Tm.n, eq_comm]
theorem has_node {t : Tm} (hk : t.k ≠ 1) {n : Int} : t.has n ↔ ∃ x ∈ t.l, x.has n := by
 unfold Tm.has
 rw [Tm.pre_eq]
 constructor
 ·rintro ⟨y, hy, h1, h2⟩
  rcases List.mem_cons.1 hy with rfl | hy
  ·exact absurd h1 hk
  ·obtain ⟨x, hx, hy⟩ := mem_pres.1 hy; exact ⟨x, hx, y, hy, h1, h2⟩
 ·rintro ⟨x, hx, y, hy, h⟩
  exact ⟨y, List.mem_cons_of_mem _ (mem_pres.2 ⟨x, hx, hy⟩), h⟩
theorem has_iff {t : Tm} {n : Int} : n ∈ varsL [t] ↔ t.has n := by
 unfold varsL
 constructor
 ·intro h
  rcases varsFrom_mem h with h | ⟨y, hy, h1, h2⟩
  ·simp at h
  ·exact ⟨y, by simpa [Tm.pres] using hy, h1, h2⟩
 ·rintro ⟨y, hy, h1, rfl⟩
  exact varsFrom_has (by simpa [Tm.pres] using hy) h1
theorem hasL_iff {l : List Tm} {n : Int} : n ∈ varsL l ↔ ∃ t ∈ l, t.has n := by
 unfold varsL
 constructor
 ·intro h
  rcases varsFrom_mem h with h | ⟨y, hy, h1, h2⟩
  ·simp at h
  ·obtain ⟨x, hx, hy⟩ := mem_pres.1 hy; exact ⟨x, hx, y, hy, h1, h2⟩
 ·rintro ⟨t, ht, y, hy, h1, rfl⟩
  exact varsFrom_has (mem_pres.2 ⟨t, ht, hy⟩) h1
theorem has_bd {t : Tm} (h : t.okB = true) {n : Int} (hn : t.has n) : 0 ≤ n ∧ n < 100000 := by
 obtain ⟨y, hy, hk, rfl⟩ := hn
 exact var_bd (okB_pre t h y hy) hk
theorem Tm.okInd {p : Tm → Prop} (hv : ∀ n : Int, 0 ≤ n → n < 100000 → p (Tm.va n)) (hn : ∀ t : Tm, t.k ≠ 1 → nodeB t = true → (∀ x ∈ t.l, x.okB = true ∧ p x) → p t) (t : Tm) : t.okB = true → p t := by
 induction t using Tm.ind with
 | h t ih =>
  intro h
  by_cases hk : t.k = 1
  ·have := var_bd h hk
   rw [okB_va h hk]; exact hv _ this.1 this.2
  ·exact hn t hk (okB_parts h).1 fun x hx => ⟨(okB_parts h).2 x hx, ih x hx ((okB_parts h).2 x hx)⟩
theorem sub_congr {σ τ : Int → Tm} (t : Tm) : t.okB = true → (t.sub σ = t.sub τ ↔ ∀ n, t.has n → σ n = τ n) := by
 refine Tm.okInd (p := fun t => (t.sub σ = t.sub τ ↔ ∀ n, t.has n → σ n = τ n)) (fun n _ _ => ?_) (fun t hk _ ih => ?_) t
 ·rw [sub_va, sub_va]
  exact ⟨fun h m hm => by rw [has_va.1 hm]; exact h, fun h => h n (has_va.2 rfl)⟩
 ·rw [sub_node σ hk, sub_node τ hk]
  constructor
  ·intro h n hn
   obtain ⟨x, hx, hxn⟩ := (has_node hk).1 hn
   injection h with _ _ _ h
   exact (ih x hx).2.1 (List.map_inj_left.1 h x hx) n hxn
  ·intro h
   rw [List.map_inj_left.2 fun x hx => (ih x hx).2.2 fun n hn => h n ((has_node hk).2 ⟨x, hx, hn⟩)]
theorem sub_ok {σ : Int → Tm} (t : Tm) : t.okB = true → ((t.sub σ).okB = true ↔ ∀ n, t.has n → (σ n).okB = true) := by
 refine Tm.okInd (p := fun t => ((t.sub σ).okB = true ↔ ∀ n, t.has n → (σ n).okB = true)) (fun n _ _ => ?_) (fun t hk hn ih => ?_) t
 ·rw [sub_va]
  exact ⟨fun h m hm => by rw [has_va.1 hm]; exact h, fun h => h n (has_va.2 rfl)⟩
 ·rw [sub_node σ hk]
  constructor
  ·intro h n hn
   obtain ⟨x, hx, hxn⟩ := (has_node hk).1 hn
   exact (ih x hx).2.1 ((okB_parts h).2 _ (List.mem_map.2 ⟨x, hx, rfl⟩)) n hxn
  ·intro h
   refine okB_of ?_ fun y hy => ?_
   ·exact (nodeB_congr (t := Tm.mk t.k t.n t.s (t.l.map (Tm.sub σ))) (u := t) rfl rfl rfl (by show (t.l.map _).length = _; rw [List.length_map])).trans hn
   ·obtain ⟨x, hx, rfl⟩ := List.mem_map.1 hy
    exact (ih x hx).2.2 fun n hn => h n ((has_node hk).2 ⟨x, hx, hn⟩)
theorem sizes_map_le {f g : Tm → Tm} : ∀ {l : List Tm}, (∀ x ∈ l, (f x).size = (g x).size) → Tm.sizes (l.map f) = Tm.sizes (l.map g)
 | [], _ => rfl
 | x :: l, h => by
  rw [List.map_cons, List.map_cons, Tm.sizes, Tm.sizes, h x (List.mem_cons_self ..), sizes_map_le fun y hy => h y (List.mem_cons_of_mem _ hy)]
theorem depths_map_eq {f g : Tm → Tm} : ∀ {l : List Tm}, (∀ x ∈ l, (f x).depth = (g x).depth) → Tm.depths (l.map f) = Tm.depths (l.map g)
 | [], _ => rfl
 | x :: l, h => by
  rw [List.map_cons, List.map_cons, Tm.depths, Tm.depths, h x (List.mem_cons_self ..), depths_map_eq fun y hy => h y (List.mem_cons_of_mem _ hy)]
theorem sub_ren {σ : Int → Tm} (t : Tm) : t.okB = true → (∀ n, t.has n → (σ n).k = 1 ∧ (σ n).l = []) → (t.sub σ).size = t.size ∧ (t.sub σ).depth = t.depth := by
 refine Tm.okInd (p := fun t => (∀ n, t.has n → (σ n).k = 1 ∧ (σ n).l = []) → (t.sub σ).size = t.size ∧ (t.sub σ).depth = t.depth) (fun n _ _ h => ?_) (fun t hk hn ih h => ?_) t
 ·have := (h n (has_va.2 rfl)).2
  rw [sub_va, Tm.size_eq, Tm.depth_eq, this]; exact ⟨rfl, rfl⟩
 ·have ih' := fun x hx => (ih x hx).2 fun n hn => h n ((has_node hk).2 ⟨x, hx, hn⟩)
  rw [sub_node σ hk, Tm.size, Tm.depth]
  rw [t.size_eq, t.depth_eq]
  have h1 := sizes_map_le (f := Tm.sub σ) (g := id) (l := t.l) fun x hx => (ih' x hx).1
  have h2 := depths_map_eq (f := Tm.sub σ) (g := id) (l := t.l) fun x hx => (ih' x hx).2
  rw [List.map_id] at h1 h2
  rw [h1, h2]; exact ⟨rfl, rfl⟩
def sgF (F : Int → Option Tm) : Int → Tm := fun n => (F n).getD (Tm.va n)
theorem rep_sub (F : Int → Option Tm) (N : Nat) : (∀ (t : Tm) (L : Int), t.size ≤ N → t.okB = true → (((t.sub (sgF F)).size : Int) ≤ L → t.rep F L = (t.sub (sgF F), L - (t.sub (sgF F)).size)) ∧ (L < ((t.sub (sgF F)).size : Int) → (t.rep F L).2 < 0)) ∧
  (∀ (l : List Tm) (L : Int), Tm.sizes l ≤ N → Tm.okBs l = true → ((Tm.sizes (l.map (Tm.sub (sgF F))) : Int) ≤ L → Tm.reps F l L = (l.map (Tm.sub (sgF F)), L - Tm.sizes (l.map (Tm.sub (sgF F))))) ∧ (L < (Tm.sizes (l.map (Tm.sub (sgF F))) : Int) → (Tm.reps F l L).2 < 0)) := by
 induction N with
 | zero =>
  refine ⟨fun t L h => by have := t.size_pos; omega, fun l L h => ?_⟩
  cases l with
  | nil => intro _; rw [Tm.reps_nil]; exact ⟨fun h => by simp [Tm.sizes], fun h => by simp [Tm.sizes] at h ⊢; omega⟩
  | cons a l => rw [Tm.sizes] at h; have := a.size_pos; omega
 | succ n ih =>
  have h1 : ∀ (t : Tm) (L : Int), t.size ≤ n + 1 → t.okB = true → (((t.sub (sgF F)).size : Int) ≤ L → t.rep F L = (t.sub (sgF F), L - (t.sub (sgF F)).size)) ∧ (L < ((t.sub (sgF F)).size : Int) → (t.rep F L).2 < 0) := fun t L h ho => by
   by_cases hk : t.k = 1
   ·cases hf : F t.n with
    | some x =>
     rw [Tm.rep_hit F t L hk hf, sub_var _ hk, sgF, hf]
     exact ⟨fun _ => rfl, fun h => by simp at h ⊢; omega⟩
    | none =>
     rw [Tm.rep_def F t L (fun x _ e => by rw [hf] at e; cases e), sub_var _ hk, sgF, hf]
     have := okB_va ho hk
     rw [this]
     show (_ → (Tm.mk 1 t.n _ (Tm.reps F [] (L - 1)).1, (Tm.reps F [] (L - 1)).2) = _) ∧ _
     rw [Tm.reps_nil]
     have hs : (Tm.va t.n).size = 1 := rfl
     simp only [Option.getD_none, va_n, hs]
     exact ⟨fun _ => rfl, fun h => by rw [show (Tm.va t.n).l = [] from rfl, Tm.reps_nil]; simp at h ⊢; omega⟩
   ·rw [Tm.rep_def F t L (fun x e => absurd e hk), sub_node _ hk]
    rw [t.size_eq] at h
    rw [Tm.okB_eq, Bool.and_eq_true] at ho
    have h2 := ih.2 t.l (L - 1) (by omega) ho.2
    rw [Tm.size]
    constructor
    ·intro h3
     rw [h2.1 (by omega)]
     simp only [Prod.mk.injEq, true_and]
     omega
    ·intro h3
     exact h2.2 (by omega)
  refine ⟨h1, fun l => ?_⟩
  induction l with
  | nil => intro L h _; rw [Tm.reps_nil]; exact ⟨fun h => by simp [Tm.sizes], fun h => by simp [Tm.sizes] at h ⊢; omega⟩
  | cons a l ihl =>
   intro L h ho
   rw [Tm.sizes] at h
   rw [Tm.okBs, Bool.and_eq_true] at ho
   rw [List.map_cons, Tm.sizes, Tm.reps_cons]
   have h2 := h1 a L (by omega) ho.1
   have h5 := (a.sub (sgF F)).size_pos
   constructor
   ·intro h3
    rw [if_neg (by omega), h2.1 (by omega)]
    have h4 := (ihl (L - (a.sub (sgF F)).size) (by omega) ho.2).1 (by omega)
    simp only
    rw [h4]
    simp only [Prod.mk.injEq, true_and]
    omega
   ·intro h3
    by_cases hL : L < 0
    ·rw [if_pos hL]; exact hL
    ·rw [if_neg hL]
     simp only
     by_cases h6 : ((a.sub (sgF F)).size : Int) ≤ L
     ·rw [h2.1 h6]
      exact (ihl (L - (a.sub (sgF F)).size) (by omega) ho.2).2 (by omega)
     ·have h7 := h2.2 (by omega)
      rw [Tm.reps_neg F l h7]
      exact h7
theorem repT_eq (F : Int → Option Tm) {t : Tm} (h : t.okB = true) : repT F t = if isB (t.sub (sgF F)) = true then some (t.sub (sgF F)) else none := by
 have h1 := (rep_sub F t.size).1 t 4000 (Nat.le_refl _) h
 unfold repT
 by_cases hs : (t.sub (sgF F)).size ≤ 4000
 ·rw [h1.1 (by omega)]
  rw [if_neg (by simp only; omega)]
 ·rw [if_pos (h1.2 (by omega)), if_neg fun e => hs (isB_iff.1 e).2.1]
theorem sub_isB_ren {σ : Int → Tm} {t : Tm} (h : isB t = true) (hr : ∀ n, t.has n → ∃ m : Int, 0 ≤ m ∧ m < 100000 ∧ σ n = Tm.va m) : isB (t.sub σ) = true := by
 obtain ⟨h1, h2, h3⟩ := isB_iff.1 h
 obtain ⟨h4, h5⟩ := sub_ren (σ := σ) t h1 fun n hn => by obtain ⟨m, _, _, e⟩ := hr n hn; rw [e]; exact ⟨rfl, rfl⟩
 exact isB_iff.2 ⟨(sub_ok t h1).2 fun n hn => by obtain ⟨m, h0, h1, e⟩ := hr n hn; rw [e]; exact va_ok h0 h1, by omega, by omega⟩
theorem normT_eq {val : Int → Int} {t : Tm} (h : isB t = true) (hv : ∀ n, t.has n → 0 ≤ val n ∧ val n < 100000) : normT val t = t.sub (fun n => Tm.va (val n)) := by
 unfold normT
 have hs : sgF (nowF val) = fun n => Tm.va (val n) := rfl
 rw [repT_eq _ (isB_iff.1 h).1, hs, if_pos (sub_isB_ren h fun n hn => ⟨val n, (hv n hn).1, (hv n hn).2, rfl⟩)]; rfl
end Go.Proofs.Ytfhgknmkpegpbaa
set_option linter.unusedVariables false
set_option linter.unusedSimpArgs false
namespace Go.Proofs.Ytfhgknmkpegpbaa
open Go.RowKit
def ixL (l : List Tm) : Int → Int := nowOf (varsL l) (varsL l).length
theorem ixL_of {l : List Tm} {n : Int} (h : n ∈ varsL l) : ixL l n = ((varsL l).idxOf n : Int) := by
 unfold ixL nowOf
 rw [List.take_length, if_pos h]
theorem varsL_len (l : List Tm) : (varsL l).length ≤ Tm.sizes l := by
 have h1 := varsFrom_len [] (Tm.pres l)
 rw [Tm.pres_len] at h1
 have h3 : (varsL l).length = (varsFrom [] (Tm.pres l)).length := rfl
 simp at h1; omega
theorem ixL_bd {l : List Tm} (hs : Tm.sizes l ≤ 4000) {n : Int} (h : n ∈ varsL l) : 0 ≤ ixL l n ∧ ixL l n < 100000 := by
 rw [ixL_of h]
 have := List.idxOf_lt_length_of_mem h
 have := varsL_len l
 omega
theorem normR_eq {l : List Tm} (h : allB l = true) : normR l = l.map (Tm.sub fun n => Tm.va (ixL l n)) := by
 obtain ⟨h1, h2, h3⟩ := allB_iff.1 h
 unfold normR
 refine List.map_inj_left.2 fun t ht => ?_
 have ho := Tm.okBs_mem h1 ht
 refine normT_eq (isB_iff.2 ⟨ho, by have := Tm.size_mem ht; omega, by have := Tm.depth_mem ht; omega⟩) fun n hn => ?_
 exact ixL_bd h2 (hasL_iff.2 ⟨t, ht, hn⟩)
noncomputable def vntB (x y : Tm) : Bool := sameB (normT (ixL [x]) x) (normT (ixL [y]) y)
theorem norm_one {x : Tm} (h : isB x = true) : normT (ixL [x]) x = x.sub (fun n => Tm.va (ixL [x] n)) := by
 have h2 := isB_iff.1 h
 exact normT_eq h fun n hn => ixL_bd (by simp [Tm.sizes]; omega) (hasL_iff.2 ⟨x, by simp, hn⟩)
end Go.Proofs.Ytfhgknmkpegpbaa
set_option linter.unusedVariables false
set_option linter.unusedSimpArgs false
namespace Go.Proofs.Ytfhgknmkpegpbaa
open Go.RowKit
set_option maxRecDepth 100000 in
set_option maxHeartbeats 4000000 in
theorem refFree_calls (t : Tm) (P : Nat → Prop) (w : World) (v : Value) (hv : TmV P w v t) : Calls Try.prog 45 #[v] w (RetB w (freeB t)) := by
 obtain ⟨A, c, rfl, hs, hc⟩ := hv
 have hlc := hc.len.1
 have hlm := hc.len.2.1
 have hB0 : Below w.heap.size w (w.alloc (.cells #[.int .i64 t.k, .int .i64 t.n, .string t.s, .slice A t.l.length c] 25)) := (Below.refl _ _).alloc (Nat.le_refl _) _
 have HB0 := Lib.hid hB0; clear hB0 hc
 by_cases h1 : t.k = 0
 case neg =>
  have Hr := Lib.hid (show freeB t = false from by unfold freeB; rw [if_neg (fun h => h1 h.1)])
  have d1 : (t.k == 0) = false := by simpa using h1
  go_enter Try.func45, Try.ntmps45
  go_wp2
  go_ret
  exact ⟨by rw [Hr.out]; rfl, HB0.out⟩
 have d1 : (t.k == 0) = true := by simpa using h1
 have H1 := Lib.hid h1; clear h1
 by_cases h2 : t.n = 0
 case neg =>
  have Hr := Lib.hid (show freeB t = false from by unfold freeB; rw [if_neg (fun h => h2 h.2.1)])
  have d2 : (t.n == 0) = false := by simpa using h2
  go_enter Try.func45, Try.ntmps45
  go_wp2
  go_ret
  exact ⟨by rw [Hr.out]; rfl, HB0.out⟩
 have d2 : (t.n == 0) = true := by simpa using h2
 have H2 := Lib.hid h2; clear h2
 by_cases h3 : t.s.toList = []
 case neg =>
  have Hr := Lib.hid (show freeB t = false from by unfold freeB; rw [if_neg (fun h => h3 h.2.2.1)])
  go_enter Try.func45, Try.ntmps45
  go_wp2
  go_ret
  exact ⟨by rw [Hr.out]; rfl, HB0.out⟩
 by_cases h4 : t.l = []
 case neg =>
  have Hr := Lib.hid (show freeB t = false from by unfold freeB; rw [if_neg (fun h => h4 h.2.2.2)])
  have h5 : t.l.length ≠ 0 := by intro e; exact h4 (List.length_eq_zero_iff.1 e)
  have d4 : ((t.l.length : Int) == 0) = false := by simpa using h4
  go_enter Try.func45, Try.ntmps45
  go_wp2
  go_ret
  exact ⟨by rw [Hr.out]; rfl, HB0.out⟩
 have Hr := Lib.hid (show freeB t = true from by unfold freeB; rw [if_pos ⟨H1.out, H2.out, h3, h4⟩])
 have d4 : ((t.l.length : Int) == 0) = true := by rw [h4]; rfl
 clear h4
 go_enter Try.func45, Try.ntmps45
 go_wp2
 go_ret
 exact ⟨by rw [Hr.out]; rfl, HB0.out⟩
abbrev TV := List Tm × Option Addr × Nat
def encT (e : TV) : List Value := [.slice e.2.1 e.1.length e.2.2]
def RowsT (w : World) (A : Option Addr) (es : List TV) : Prop := Rd w A (es.flatMap encT) ∧ ∀ e ∈ es, TmC (fun _ => True) w e.2.1 e.2.2 e.1
theorem RowsT.below {w w' : World} {A : Option Addr} {B : Nat} {es : List TV} (h : RowsT w A es) (hb : Below B w w') (hB : w.heap.size ≤ B) : RowsT w' A es :=
 ⟨h.1.below hb hB, fun e he => (h.2 e he).stay hb hB⟩
end Go.Proofs.Ytfhgknmkpegpbaa
set_option linter.unusedVariables false
set_option linter.unusedSimpArgs false
namespace Go.Proofs.Ytfhgknmkpegpbaa
open Go.RowKit
set_option maxRecDepth 100000 in
set_option maxHeartbeats 4000000 in
theorem variant_calls (t u : Tm) (P Q : Nat → Prop) (w : World) (v v2 : Value) (hv : TmV P w v t) (hv2 : TmV Q w v2 u) :
  Calls Try.prog 31 #[v, v2] w (RetA w (.tuple #[.bool (if allIs [t, u] = true then vntB t u else false), .int .i64 (errT (allIs [t, u]))])) := by
 obtain ⟨A, c, rfl, hs, hc⟩ := hv
 obtain ⟨B, d, rfl, hs', hd⟩ := hv2
 obtain ⟨W1, hW1⟩ : ∃ W1, W1 = ((w.alloc (.cells #[.int .i64 t.k, .int .i64 t.n, .string t.s, .slice A t.l.length c] 25)).alloc (.cells #[.int .i64 u.k, .int .i64 u.n, .string u.s, .slice B u.l.length d] 25)).alloc (.cells #[.int .i64 t.k, .int .i64 t.n, .string t.s, .slice A t.l.length c, .int .i64 u.k, .int .i64 u.n, .string u.s, .slice B u.l.length d] 25) := ⟨_, rfl⟩
 have hB1 : Below w.heap.size w W1 := by rw [hW1]; exact (((Below.refl _ _).alloc (Nat.le_refl _) _).alloc (by simp) _).alloc (by simp; omega) _
 have hX : Blk W1 w.heap.size 25 #[.int .i64 t.k, .int .i64 t.n, .string t.s, .slice A t.l.length c] := by rw [hW1]; exact ((Blk.new w 25 _).alloc _).alloc _
 have hY : Blk W1 (w.heap.size + 1) 25 #[.int .i64 u.k, .int .i64 u.n, .string u.s, .slice B u.l.length d] := by
  rw [hW1]
  have := Blk.new (w.alloc (.cells #[.int .i64 t.k, .int .i64 t.n, .string t.s, .slice A t.l.length c] 25)) 25 #[.int .i64 u.k, .int .i64 u.n, .string u.s, .slice B u.l.length d]
  rw [show (w.alloc (.cells #[.int .i64 t.k, .int .i64 t.n, .string t.s, .slice A t.l.length c] 25)).heap.size = w.heap.size + 1 from by simp] at this
  exact this.alloc _
 have hZ : Blk W1 (w.heap.size + 1 + 1) 25 #[.int .i64 t.k, .int .i64 t.n, .string t.s, .slice A t.l.length c, .int .i64 u.k, .int .i64 u.n, .string u.s, .slice B u.l.length d] := by
  rw [hW1]
  have := Blk.new ((w.alloc (.cells #[.int .i64 t.k, .int .i64 t.n, .string t.s, .slice A t.l.length c] 25)).alloc (.cells #[.int .i64 u.k, .int .i64 u.n, .string u.s, .slice B u.l.length d] 25)) 25 #[.int .i64 t.k, .int .i64 t.n, .string t.s, .slice A t.l.length c, .int .i64 u.k, .int .i64 u.n, .string u.s, .slice B u.l.length d]
  rw [show ((w.alloc (.cells #[.int .i64 t.k, .int .i64 t.n, .string t.s, .slice A t.l.length c] 25)).alloc (.cells #[.int .i64 u.k, .int .i64 u.n, .string u.s, .slice B u.l.length d] 25)).heap.size = w.heap.size + 1 + 1 from by simp] at this
  exact this
 have hc1 := (hc.inside.belowP hB1 (fun g h => h.2)).mono (Q := fun g => g < w.heap.size) (fun g h => h.2)
 have hd1 := (hd.inside.belowP hB1 (fun g h => h.2)).mono (Q := fun g => g < w.heap.size) (fun g h => h.2)
 have hcall := checked_calls [t, u] _ _ 2 W1 (TmC.lit (P := fun g => g < w.heap.size ∨ g = w.heap.size + 1 + 1) [(t, A, c), (u, B, d)] (by simp; exact ⟨⟨hs, hc1.mono (fun g h => Or.inl h)⟩, hs', hd1.mono (fun g h => Or.inl h)⟩) hZ (Or.inr rfl) (by simp))
 obtain ⟨b, hb⟩ : ∃ b, b = allIs [t, u] := ⟨_, rfl⟩
 rw [← hb] at hcall ⊢
 obtain ⟨R, hR⟩ : ∃ R, R = if b = true then vntB t u else false := ⟨_, rfl⟩
 rw [← hR]
 have HR := Lib.hid hR; clear hR
 have Hb := Lib.hid hb; clear hb
 have Hcall := Lib.hid hcall; clear hcall hZ
 have Hc := Lib.hid hc1; clear hc hc1
 have Hd := Lib.hid hd1; clear hd hd1
 have HX := Lib.hid hX; clear hX
 have HY := Lib.hid hY; clear hY
 have HB1 := Lib.hid hB1; clear hB1
 have HW := Lib.hid hW1; clear hW1
 go_enter Try.func31, Try.ntmps31
 go_wp2_with fail
 rw [← HW.out]
 refine Hcall.out.mono ?_
 rintro e w1 ⟨rfl, hb1⟩
 have hsz := HB1.out.size
 have lx := HX.out.lt
 have ly := HY.out.lt
 have hX1 := HX.out.below hb1 lx
 have hY1 := HY.out.below hb1 ly
 obtain ⟨⟨a0, a1, a2, a3⟩, -⟩ := hX1.four
 have HX1 := Lib.hid hX1; clear hX1
 have HY1 := Lib.hid hY1; clear hY1
 have HB2 := Lib.hid (HB1.out.trans (hb1.mono hsz))
 have Hc1 := Lib.hid (Hc.out.stay hb1 (Nat.le_refl _))
 have Hd1 := Lib.hid (Hd.out.stay hb1 (Nat.le_refl _))
 clear hb1 lx ly
 cases b
 ·have he : (errT false != 0) = true := rfl
  have hr : R = false := by have := HR.out; simpa using this
  subst hr
  go_wp2
  exact bodyPost_ret (v := .tuple #[.bool false, .int .i64 (errT false)]) (by simp [results, Try.results31, go_sem]) rfl (R := RetA w _) ⟨rfl, HB2.out⟩
 have he : (errT true != 0) = false := rfl
 have hr : R = vntB t u := by have := HR.out; simpa using this
 have Hr := Lib.hid hr; clear hr HR
 have Hok := Lib.hid (show allB [t] = true from by rw [allB_one]; have := Hb.out; simp [allIs] at this; exact this.1)
 have Hou := Lib.hid (show allB [u] = true from by rw [allB_one]; have := Hb.out; simp [allIs] at this; exact this.2)
 have hbb : Below w1.heap.size w1 (w1.alloc (.cells #[.int .i64 t.k, .int .i64 t.n, .string t.s, .slice A t.l.length c] 25)) := (Below.refl _ _).alloc (Nat.le_refl _) _
 have hcall := normal_calls [t] (fun g => g < w.heap.size ∨ g = w1.heap.size) _ 1 (w1.alloc (.cells #[.int .i64 t.k, .int .i64 t.n, .string t.s, .slice A t.l.length c] 25)) (TmC.lit [(t, A, c)] (by simp; exact ⟨hs, (Hc1.out.stay hbb (Nat.le_refl _)).mono (fun g h => Or.inl h)⟩) (Blk.new _ _ _) (Or.inr rfl) (by simp))
 rw [Hok.out, if_pos rfl, if_pos rfl] at hcall
 obtain ⟨x, hx⟩ : ∃ x, x = normT (ixL [t]) t := ⟨_, rfl⟩
 rw [show normR [t] = [x] from by rw [hx]; rfl] at hcall
 have Hx := Lib.hid hx; clear hx
 obtain ⟨xs, hxs⟩ : ∃ xs, xs = varsL [t] := ⟨_, rfl⟩
 rw [← hxs] at hcall; clear hxs
 have Hcall2 := Lib.hid hcall; clear hcall Hcall
 have HBB := Lib.hid hbb; clear hbb
 go_wp2_with fail
 refine Hcall2.out.mono ?_
 rintro e w2 ⟨A1, c1, v1, rfl, hc2, -, -, hb2⟩
 have hb12 := HBB.out.trans (hb2.mono HBB.out.size)
 have hY2 := HY1.out.below hb12 HY1.out.lt
 obtain ⟨⟨b0, b1, b2, b3⟩, -⟩ := hY2.four
 have ly2 := hY2.lt
 have Hd2 := Lib.hid (Hd1.out.stay hb12 (Nat.le_refl _))
 have HB3 := Lib.hid (HB2.out.trans (hb12.mono HB2.out.size))
 have Hc2 := Lib.hid (hc2.mono (Q := fun _ => True) (fun _ _ => trivial))
 clear hc2 hb2 hb12 hY2 a0 a1 a2 a3 HBB Hcall2 hsz
 have hbb : Below w2.heap.size w2 (w2.alloc (.cells #[.int .i64 u.k, .int .i64 u.n, .string u.s, .slice B u.l.length d] 25)) := (Below.refl _ _).alloc (Nat.le_refl _) _
 have hcall := normal_calls [u] (fun g => g < w.heap.size ∨ g = w2.heap.size) _ 1 (w2.alloc (.cells #[.int .i64 u.k, .int .i64 u.n, .string u.s, .slice B u.l.length d] 25)) (TmC.lit [(u, B, d)] (by simp; exact ⟨hs', (Hd2.out.stay hbb (Nat.le_refl _)).mono (fun g h => Or.inl h)⟩) (Blk.new _ _ _) (Or.inr rfl) (by simp))
 rw [Hou.out, if_pos rfl, if_pos rfl] at hcall
 obtain ⟨y, hy⟩ : ∃ y, y = normT (ixL [u]) u := ⟨_, rfl⟩
 rw [show normR [u] = [y] from by rw [hy]; rfl] at hcall
 have Hy := Lib.hid hy; clear hy
 obtain ⟨ys, hys⟩ : ∃ ys, ys = varsL [u] := ⟨_, rfl⟩
 rw [← hys] at hcall; clear hys
 have Hcall3 := Lib.hid hcall; clear hcall
 have HBB := Lib.hid hbb; clear hbb
 have hl1 : ([x] : List Tm).length = 1 := rfl
 have hl2 : ([y] : List Tm).length = 1 := rfl
 rw [hl1]
 go_wp2_with fail
 refine Hcall3.out.mono ?_
 rintro e w3 ⟨A2, c2, v2, rfl, hd3, -, -, hb3⟩
 have hb23 := HBB.out.trans (hb3.mono HBB.out.size)
 have hc3 := Hc2.out.stay hb23 (Nat.le_refl _)
 have HB4 := Lib.hid (HB3.out.trans (hb23.mono HB3.out.size))
 have hd3' := hd3.mono (Q := fun _ => True) (fun _ _ => trivial)
 clear hb3 hb23 hd3 b0 b1 b2 b3 HBB Hcall3 ly2
 rw [hl2]
 obtain ⟨g, off, Ai, ci, rfl, -, ⟨e0, e1, e2, e3⟩, hxs, hxc⟩ := hc3.at_ (i := 0) rfl
 obtain ⟨g', off', Bi, di, rfl, -, ⟨f0, f1, f2, f3⟩, hys, hyc⟩ := hd3'.at_ (i := 0) rfl
 simp only [Nat.zero_mul, Nat.add_zero] at e0 e1 e2 e3 f0 f1 f2 f3
 obtain ⟨r, hr⟩ : ∃ r, r = sameB x y := ⟨_, rfl⟩
 have hrr : r = R := by rw [hr, Hr.out, Hx.out, Hy.out]; rfl
 have hcall := same_calls x (fun _ => True) (fun _ => True) w3.drew _ _ y ⟨Ai, ci, rfl, hxs, hxc.kept (fun _ _ _ => rfl)⟩ ⟨Bi, di, rfl, hys, hyc.kept (fun _ _ _ => rfl)⟩
 rw [← hr, hrr] at hcall
 have Hcall := Lib.hid hcall; clear hcall hxc hyc hc3 hd3' hr hrr
 have hk0 : (0 : Int) < (1 : Int) := by omega
 go_wp2_with fail
 go_region_held3 (fun W => W.cell? ⟨g, off, none⟩ = some (.int .i64 x.k) ∧ W.cell? ⟨g, off + 1, none⟩ = some (.int .i64 x.n) ∧ W.cell? ⟨g, off + 2, none⟩ = some (.string x.s) ∧ W.cell? ⟨g, off + 3, none⟩ = some (.slice Ai x.l.length ci) ∧ W.cell? ⟨g', off', none⟩ = some (.int .i64 y.k) ∧ W.cell? ⟨g', off' + 1, none⟩ = some (.int .i64 y.n) ∧ W.cell? ⟨g', off' + 2, none⟩ = some (.string y.s) ∧ W.cell? ⟨g', off' + 3, none⟩ = some (.slice Bi y.l.length di))
  (first
   | exact ⟨e0, e1, e2, e3, f0, f1, f2, f3⟩
   | (go_split_ands; refine ⟨?_, ?_, ?_, ?_, ?_, ?_, ?_, ?_⟩ <;> exact keep_cell hb (by assumption)))
  ((go_at_call 24; refine Hcall.out.mono ?_; rintro e w4 ⟨rfl, hb⟩))
 have HB5 := Lib.hid (HB4.out.trans ((Below.refl _ w3).drew.trans (hb.mono HB4.out.size))); clear hb
 go_wp2
 exact bodyPost_ret (v := .tuple #[.bool R, .int .i64 0]) (by simp [results, Try.results31, go_sem]) rfl (R := RetA w _) ⟨rfl, HB5.out⟩
end Go.Proofs.Ytfhgknmkpegpbaa
set_option linter.unusedVariables false
set_option linter.unusedSimpArgs false
namespace Go.Proofs.Ytfhgknmkpegpbaa
open Go.RowKit Go.Shelf
attribute [local go_sem] Oper.semAt_some
abbrev EBk (n₀ : Nat) (w0 : World) := {x : Nat × EV // x.2.1.s.size ≤ 9223372036854775807 ∧ TmC (· < n₀) w0 x.2.2.1 x.2.2.2 x.2.1.l}
def EBk.tm {n₀ : Nat} {w0 : World} (x : EBk n₀ w0) : Tm := x.1.2.1
def EBk.encs {n₀ : Nat} {w0 : World} (x : EBk n₀ w0) : Array Value := #[.int .i64 x.1.1, .agg #[.int .i64 x.1.2.1.k, .int .i64 x.1.2.1.n, .string x.1.2.1.s, .slice x.1.2.2.1 x.1.2.1.l.length x.1.2.2.2]]
def KpL (n₀ : Nat) (W W' : World) : Prop := Below n₀ W W' ∧ ∀ g v, Blk W g 22 #[v] → Blk W' g 22 #[v]
theorem KpL.trans {n₀ : Nat} {A B C : World} (h : KpL n₀ A B) (k : KpL n₀ B C) : KpL n₀ A C := ⟨h.1.trans k.1, fun g cs hb => k.2 g cs (h.2 g cs hb)⟩
theorem KpL.refl (n₀ : Nat) (W : World) : KpL n₀ W W := ⟨Below.refl _ _, fun _ _ h => h⟩
end Go.Proofs.Ytfhgknmkpegpbaa
set_option linter.unusedVariables false
set_option linter.unusedSimpArgs false
namespace Go.Proofs.Ytfhgknmkpegpbaa
open Go.RowKit
def lenOf : Value → Nat | .slice _ n _ => n | _ => 0
end Go.Proofs.Ytfhgknmkpegpbaa
set_option linter.unusedVariables false
set_option linter.unusedSimpArgs false
namespace Go.Proofs.Ytfhgknmkpegpbaa
open Go.RowKit Go.Shelf
attribute [local go_sem] Oper.semAt_some
theorem cells_of_cell {w : World} {a : Addr} {v : Value} (h : w.cell? a = some v) : ∃ o : Obj, w.heap[a.block]? = some o ∧ o.isCells = true := by
 obtain ⟨b, o, s⟩ := a
 unfold World.cell? at h
 cases hh : w.heap[b]? with
 | none => rw [hh] at h; cases h
 | some o =>
  rw [hh] at h
  refine ⟨o, rfl, ?_⟩
  cases o <;> first | rfl | (cases s <;> simp at h)
theorem TmC.keptCells {P : Nat → Prop} {w w' : World} {A : Option Addr} {c : Nat} {l : List Tm} (h : TmC P w A c l) (hk : ∀ (g : Nat) (o : Obj), w.heap[g]? = some o → o.isCells = true → w'.heap[g]? = some o) : TmC P w' A c l := by
 induction h with
 | mk es he hl hc hn hP hr hs hrec ih =>
  refine .mk es he hl hc hn hP (fun hne => ?_) hs ih
  obtain ⟨g, off, hA, hcell⟩ := hr hne
  refine ⟨g, off, hA, fun j v hj => ?_⟩
  have h1 := hcell j v hj
  obtain ⟨o, h2, h3⟩ := cells_of_cell h1
  rw [cell_of_heap ((hk g o h2 h3).trans h2.symm)]; exact h1
theorem put_cells {X : World} {D : Nat} {o1 o' : Obj} (hD : X.heap[D]? = some o1) (h1 : o1.isCells = false) : ∀ (g : Nat) (o : Obj), X.heap[g]? = some o → o.isCells = true → (X.putObj D o').heap[g]? = some o := fun g o h hc =>
 (World.putObj_heap_other (fun e => by subst e; rw [h] at hD; injection hD with hD; subst hD; rw [hc] at h1; cases h1)).trans h
def LEnd (w : World) (r : Option Tm) (er : Int) (W : World) : Prop :=
 ∃ A c, Blk W (w.heap.size + 1) 25 #[.int .i64 (r.getD Tm.zero).k, .int .i64 (r.getD Tm.zero).n, .string (r.getD Tm.zero).s, .slice A (r.getD Tm.zero).l.length c] ∧ (r.getD Tm.zero).s.size ≤ 9223372036854775807 ∧ TmC (w.heap.size ≤ ·) W A c (r.getD Tm.zero).l ∧ Below w.heap.size w W
theorem LEnd.put {w W : World} {r : Option Tm} {er : Int} {D : Nat} (h : LEnd w r er W) (hD : w.heap.size + 2 ≤ D) (hk : W.heap[D]? = some (.deferred (some []))) : LEnd w r er (W.putObj D (.deferred none)) := by
 obtain ⟨A, c, h1, h2, h3, h4⟩ := h
 exact ⟨A, c, put_cells hk rfl _ _ h1 rfl, h2, h3.keptCells (put_cells hk rfl), h4.trans (Below.putObj_ (Nat.le_refl _) _ _ (.deferred none) _ (by omega))⟩
theorem LEnd.res {w W : World} {r : Option Tm} {er : Int} (h : LEnd w r er W) {fn : Func} (hf : fn.results = #[.cell 4 25, .tmp 5]) {tmps : Array Value} (h4 : tmps.getD 4 undef = .pointer (some ⟨w.heap.size + 1, 0, none⟩)) (h5 : tmps.getD 5 undef = .int .i64 (if r.isSome then 0 else er)) : ∃ v, (results fn tmps).run Try.prog W = .ok v W ∧ RetME w r er (.returned v) W := by
 obtain ⟨A, c, h1, h2, h3, h6⟩ := h
 obtain ⟨⟨b0, b1, b2, b3⟩, -⟩ := h1.four
 have h4' : tmps[4]?.getD undef = .pointer (some ⟨w.heap.size + 1, 0, none⟩) := by simpa using h4
 have h5' : tmps[5]?.getD undef = .int .i64 (if r.isSome then 0 else er) := by simpa using h5
 exact ⟨.tuple #[.agg #[.int .i64 (r.getD Tm.zero).k, .int .i64 (r.getD Tm.zero).n, .string (r.getD Tm.zero).s, .slice A (r.getD Tm.zero).l.length c], .int .i64 (if r.isSome then 0 else er)], by simp [results, hf, go_sem, h4', h5', b0, b1, b2, b3], A, c, rfl, h2, h3, h6⟩
end Go.Proofs.Ytfhgknmkpegpbaa
set_option linter.unusedVariables false
set_option linter.unusedSimpArgs false
namespace Go.Proofs.Ytfhgknmkpegpbaa
open Go.RowKit
theorem RowsT.lit {w : World} {es : List TV} {T : TypeId} (h : ∀ e ∈ es, TmC (fun _ => True) w e.2.1 e.2.2 e.1) : RowsT (w.alloc (.cells (es.flatMap encT).toArray T)) (some ⟨w.heap.size, 0, none⟩) es :=
 ⟨fun _ => ⟨w.heap.size, 0, rfl, fun j v hj => by rw [Nat.zero_add, (Blk.new w T _).cell j]; simpa using hj⟩, fun e he => (h e he).stay ((Below.refl _ _).alloc (Nat.le_refl _) _) (Nat.le_refl _)⟩
end Go.Proofs.Ytfhgknmkpegpbaa
set_option linter.unusedVariables false
namespace Go.Proofs.Ytfhgknmkpegpbaa
open Go.RowKit
theorem Below.next {a b c : World} (h : Below a.heap.size a b) (h2 : Below b.heap.size b c) : Below a.heap.size a c := h.trans (h2.mono h.size)
def SW (w0 : World) (cs : List (Addr × Value)) (W : World) : Prop := Hid (Below w0.heap.size w0 W) ∧ ∀ p ∈ cs, W.cell? p.1 = some p.2
theorem SW.below {w0 : World} {cs : List (Addr × Value)} {W W2 : World} (h : SW w0 cs W) (hb : Below W.heap.size W W2) : SW w0 cs W2 :=
 ⟨Lib.hid (Below.next h.1.out hb), fun p hp => keep_cell hb (h.2 p hp)⟩
theorem SW.start {w0 : World} {cs : List (Addr × Value)} (h : ∀ p ∈ cs, w0.cell? p.1 = some p.2) : SW w0 cs w0.drew :=
 ⟨Lib.hid (Below.refl _ _).drew, fun p hp => keep_cell (Below.refl _ _).drew (h p hp)⟩
theorem SW.at {w0 : World} {cs : List (Addr × Value)} {W : World} {a : Addr} {v : Value} (h : SW w0 cs W) (i : Nat) (hi : cs[i]? = some (a, v)) : W.cell? a = some v := h.2 (a, v) (List.mem_of_getElem? hi)
end Go.Proofs.Ytfhgknmkpegpbaa
set_option linter.unusedVariables false
set_option linter.unusedSimpArgs false
namespace Go.Proofs.Ytfhgknmkpegpbaa
open Go.RowKit
theorem SubC.fin {P : Nat → Prop} {w : World} {g : Nat} {sub : List Tm} (h : SubC P w g sub) (hP : P g) (hl : sub.length ≤ 9223372036854775807) : TmC P w (some ⟨g, 0, none⟩) sub.length sub := by
 obtain ⟨es, rfl, h2, h3⟩ := h
 rw [List.length_map] at hl ⊢
 exact TmC.lit es h3 h2 hP hl
theorem SubC.mono {P Q : Nat → Prop} {w : World} {g : Nat} {sub : List Tm} (h : SubC P w g sub) (hPQ : ∀ j, P j → Q j) : SubC Q w g sub := by
 obtain ⟨es, h1, h2, h3⟩ := h
 exact ⟨es, h1, h2, fun e he => ⟨(h3 e he).1, (h3 e he).2.mono hPQ⟩⟩
section
variable {P : Program} {ops : Array Oper} {Q : Exit → Act → World → Prop} {md : Region.Mode} {S : World → Prop}
end
end Go.Proofs.Ytfhgknmkpegpbaa
set_option linter.unusedVariables false
set_option linter.unusedSimpArgs false
namespace Go.Proofs.Ytfhgknmkpegpbaa
open Go.RowKit Go.Shelf
attribute [local go_sem] Oper.semAt_some
def RetTf (w : World) (r : Tm) (er : Int) (e : Ending) (w' : World) : Prop :=
 ∃ A c, e = .returned (.tuple #[.agg #[.int .i64 r.k, .int .i64 r.n, .string r.s, .slice A r.l.length c], .int .i64 er]) ∧ r.s.size ≤ 9223372036854775807 ∧ TmC (w.heap.size ≤ ·) w' A c r.l ∧ Below w.heap.size w w'
def SEnd (w : World) (r : Tm) (er : Int) (W : World) : Prop :=
 ∃ A c, Blk W (w.heap.size + 1 + 1) 25 #[.int .i64 r.k, .int .i64 r.n, .string r.s, .slice A r.l.length c] ∧ Blk W (w.heap.size + 1 + 1 + 1) 28 #[.int .i64 er] ∧ r.s.size ≤ 9223372036854775807 ∧ TmC (w.heap.size ≤ ·) W A c r.l ∧ Below w.heap.size w W
theorem SEnd.put {w W : World} {r : Tm} {er : Int} {D : Nat} (h : SEnd w r er W) (hD : w.heap.size + 2 ≤ D) (hk : W.heap[D]? = some (.deferred (some []))) : SEnd w r er (W.putObj D (.deferred none)) := by
 obtain ⟨A, c, h1, h5, h2, h3, h4⟩ := h
 exact ⟨A, c, put_cells hk rfl _ _ h1 rfl, put_cells hk rfl _ _ h5 rfl, h2, h3.keptCells (put_cells hk rfl), h4.trans (Below.putObj_ (Nat.le_refl _) _ _ (.deferred none) _ (by omega))⟩
theorem SEnd.res {w W : World} {r : Tm} {er : Int} (h : SEnd w r er W) {fn : Func} (hf : fn.results = #[.cell 4 25, .cell 5 28]) {tmps : Array Value} (h4 : tmps.getD 4 undef = .pointer (some ⟨w.heap.size + 1 + 1, 0, none⟩)) (h5 : tmps.getD 5 undef = .pointer (some ⟨w.heap.size + 1 + 1 + 1, 0, none⟩)) : ∃ v, (results fn tmps).run Try.prog W = .ok v W ∧ RetTf w r er (.returned v) W := by
 obtain ⟨A, c, h1, h7, h2, h3, h6⟩ := h
 obtain ⟨⟨b0, b1, b2, b3⟩, -⟩ := h1.four
 obtain ⟨e0, -⟩ := h7.one
 have h4' : tmps[4]?.getD undef = .pointer (some ⟨w.heap.size + 1 + 1, 0, none⟩) := by simpa using h4
 have h5' : tmps[5]?.getD undef = .pointer (some ⟨w.heap.size + 1 + 1 + 1, 0, none⟩) := by simpa using h5
 refine ⟨.tuple #[.agg #[.int .i64 r.k, .int .i64 r.n, .string r.s, .slice A r.l.length c], .int .i64 er], ?_, A, c, rfl, h2, h3, h6⟩
 simp [results, hf, h4', h5', go_sem, b0, b1, b2, b3, e0]
end Go.Proofs.Ytfhgknmkpegpbaa
set_option linter.unusedVariables false
set_option linter.unusedSimpArgs false
namespace Go.Proofs.Ytfhgknmkpegpbaa
open Go Go.Abs Go.Proofs Go.RowKit
abbrev ri (xs : List Int) : List (List FC) := xs.map fun x => [.v (.int .i64 x)]
theorem inRow (xs : List Int) (x : Int) (n : Nat) (hn : n = xs.length) (hl : xs.length ≤ 1000000) : ACall Try.prog 154 [.one (.row 0 n), vI x] [.row 3 1 (ri xs)] (vB (decide (x ∈ xs))) [.row 3 1 (ri xs)] :=
 ACall.rows (in_ok xs x hl) (by subst hn; simp only [enumL, AV.frzs, AV.frz, AC.frz, look_cons, List.length_cons, List.length_nil, List.length_map, List.range_succ, List.range_zero, List.nil_append, List.contains_cons, beq_self_eq_true, Bool.true_or, reduceIte])
theorem varsFrom_nil (xs : List Int) : varsFrom xs [] = xs := rfl
theorem _root_.Go.Proofs.Ytfhgknmkpegpbaa.Tm.pres_nil : Tm.pres [] = [] := by rw [Tm.pres]
theorem _root_.Go.Proofs.Ytfhgknmkpegpbaa.Tm.pres_one (x : Tm) : Tm.pres [x] = x.pre := by rw [Tm.pres, Tm.pres]; simp
theorem varsFrom_cons (xs : List Int) (a : Tm) (b : List Tm) : varsFrom xs (a :: b) = varsFrom (varsAcc xs a) b := rfl
set_option maxRecDepth 100000 in
set_option maxHeartbeats 4000000 in
theorem variables_ok (t : Tm) : ∀ xs : List Int, xs.length + t.size ≤ 1000000 → ACall Try.prog 146 [tA t, .one (.row 0 xs.length)] [.row 3 1 (ri xs)] (.one (.row 0 (varsFrom xs t.pre).length)) [.row 3 1 (ri (varsFrom xs t.pre))] := by
 induction t using Tm.ind with
 | h t ih =>
 intro xs hsz
 have htp := t.size_pos
 obtain ⟨ys, hy⟩ : ∃ ys, ys = varsAcc xs t := ⟨_, rfl⟩
 rw [Tm.pre_eq, varsFrom_cons, ← hy]
 refine acall_of Try.func146 (by decide) rfl Try.results146 (by rw [Try.ntmps146]; simp) (by simp) ?_
 rw [Try.ntmps146]
 simp only [enumL, List.length_nil, List.length_cons, Nat.reduceAdd]
 repeat (first | refine W.seq ?_ | refine W.block ?_)
 refine W.regionK (by decide) fun N hN => ?_
 repeat (first
  | refine RunS.any (by rfl) (by simp only [smEval, Nat.reduceAdd, Nat.reduceMul, Nat.reduceSub, Nat.reduceBEq, Nat.reduceEqDiff, Nat.reduceLeDiff, Nat.reduceLT, Nat.reduceMod, reduceIte, Int.reduceLE, Int.reduceLT, Int.reduceToNat, Nat.reducePow, ty3, ty4, ty9, ty22, ty25, ty28, ty39, ty122]; try rfl) (by rfl) (by simp only [smPut, Nat.reduceBEq, reduceIte]; exact ⟨rfl, rfl⟩) ?_
  | refine RunS.skip (by rfl) (by simp only [smPut, Nat.reduceBEq, reduceIte]; try rfl) ?_)
 refine RunS.nil (hN _ _ _ ?_)
 clear hN N
 simp only [smLen, Nat.reduceAdd, Nat.reduceMul, reduceIte, Nat.reduceEqDiff]
 refine W.mid (fun T H nx => Wk 36 1 T H nx [(1, .one (.row 0 ys.length)), (2, .one (.ptr 1 0))] [(0, .row 3 1 (ri ys)), (1, .box 25 (cA t))] 200) ?_ ?_
 ·unfold varsAcc at hy
  by_cases hk : t.k = 1
  ·have dk : decide (t.k = 1) = true := by simpa using hk
   have hin := inRow xs t.n xs.length rfl (by omega)
   repeat (first
    | refine RunS.any (by rfl) (by simp only [smEval, Nat.reduceAdd, Nat.reduceMul, Nat.reduceSub, Nat.reduceBEq, Nat.reduceEqDiff, Nat.reduceLeDiff, Nat.reduceLT, Nat.reduceMod, reduceIte, Int.reduceLE, Int.reduceLT, Int.reduceToNat, Nat.reducePow, ty3, ty4, ty9, ty22, ty25, ty28, ty39, ty122, dk]; try rfl) (by rfl) (by simp only [smPut, Nat.reduceBEq, reduceIte]; exact ⟨rfl, rfl⟩) ?_
    | refine RunS.skip (by rfl) (by simp only [smPut, Nat.reduceBEq, reduceIte]; try rfl) ?_
    | refine W.seq ?_ | refine W.block ?_ | refine W.regionK (by decide) fun N hN => ?_
    | (refine RunS.nil (hN _ _ _ ?_); clear hN N; simp only [smLen, Nat.reduceAdd, Nat.reduceMul, reduceIte, Nat.reduceEqDiff])
    | ((first | refine W.exit ?_ | refine W.ret ?_ | refine W.skip ?_); try simp only [smLen, reduceIte, Nat.reduceEqDiff])
    | refine W.condF (by rfl) ?_ | refine W.condT (by rfl) ?_)
   refine RunS.callH rfl (by rfl) (hin) [0] rfl rfl (by simp only [smArg, Nat.reduceBEq, reduceIte]; try rfl) (by simp only [smPut, Nat.reduceBEq, reduceIte, List.append_nil]; try rfl) (by rfl) (by simp only [enumL, List.forall_mem_cons, List.not_mem_nil, false_implies, implies_true, and_true, look_cons, look_nil, smPut, Nat.reduceBEq, reduceIte, Nat.reduceAdd]; try trivial) (by simp only [smPut, Nat.reduceBEq, reduceIte]; try rfl) (by simp only [smPut, Nat.reduceBEq, reduceIte]; try rfl) ?_
   by_cases hm : t.n ∈ xs
   ·rw [if_neg (fun h => h.2 hm)] at hy
    have dm : decide (t.n ∈ xs) = true := by simpa using hm
    repeat (first
     | refine RunS.any (by rfl) (by simp only [smEval, Nat.reduceAdd, Nat.reduceMul, Nat.reduceSub, Nat.reduceBEq, Nat.reduceEqDiff, Nat.reduceLeDiff, Nat.reduceLT, Nat.reduceMod, reduceIte, Int.reduceLE, Int.reduceLT, Int.reduceToNat, Nat.reducePow, ty3, ty4, ty9, ty22, ty25, ty28, ty39, ty122, dm]; try rfl) (by rfl) (by simp only [smPut, Nat.reduceBEq, reduceIte]; exact ⟨rfl, rfl⟩) ?_
     | refine RunS.skip (by rfl) (by simp only [smPut, Nat.reduceBEq, reduceIte]; try rfl) ?_
     | refine W.seq ?_ | refine W.block ?_ | refine W.regionK (by decide) fun N hN => ?_
     | (refine RunS.nil (hN _ _ _ ?_); clear hN N; simp only [smLen, Nat.reduceAdd, Nat.reduceMul, reduceIte, Nat.reduceEqDiff])
     | ((first | refine W.exit ?_ | refine W.ret ?_ | refine W.skip ?_); try simp only [smLen, reduceIte, Nat.reduceEqDiff])
     | refine W.condF (by rfl) ?_ | refine W.condT (by rfl) ?_)
    subst hy
    refine Wk.keep [] (by rfl) ?_ ?_ <;> simp only [smKeep, Nat.reduceBEq, Nat.reduceLT, reduceIte]
   ·rw [if_pos ⟨hk, hm⟩] at hy
    have dm : decide (t.n ∈ xs) = false := by simpa using hm
    have hb1 : xs.length + 1 ≤ 9223372036854775807 := by omega
    have hb2 : (xs.length + 1) * 8 ≤ 140737488355328 := by omega
    repeat (first
     | refine RunS.any (by rfl) (by simp only [smEval, Nat.reduceAdd, Nat.reduceMul, Nat.reduceSub, Nat.reduceBEq, Nat.reduceEqDiff, Nat.reduceLeDiff, Nat.reduceLT, Nat.reduceMod, reduceIte, Int.reduceLE, Int.reduceLT, Int.reduceToNat, Nat.reducePow, ty3, ty4, ty9, ty22, ty25, ty28, ty39, ty122, dm, hb1, hb2]; try rfl) (by rfl) (by simp only [smPut, Nat.reduceBEq, reduceIte]; exact ⟨rfl, rfl⟩) ?_
     | refine RunS.skip (by rfl) (by simp only [smPut, Nat.reduceBEq, reduceIte]; try rfl) ?_
     | refine W.seq ?_ | refine W.block ?_ | refine W.regionK (by decide) fun N hN => ?_
     | (refine RunS.nil (hN _ _ _ ?_); clear hN N; simp only [smLen, Nat.reduceAdd, Nat.reduceMul, reduceIte, Nat.reduceEqDiff])
     | ((first | refine W.exit ?_ | refine W.ret ?_ | refine W.skip ?_); try simp only [smLen, reduceIte, Nat.reduceEqDiff])
     | refine W.condF (by rfl) ?_ | refine W.condT (by rfl) ?_)
    subst hy
    refine Wk.keep [] (by rfl) ?_ ?_ <;> simp only [smKeep, Nat.reduceBEq, Nat.reduceLT, reduceIte, List.map_append, List.map_cons, List.map_nil]
  ·have dk : decide (t.k = 1) = false := by simpa using hk
   rw [if_neg (fun h => hk h.1)] at hy
   repeat (first
    | refine RunS.any (by rfl) (by simp only [smEval, Nat.reduceAdd, Nat.reduceMul, Nat.reduceSub, Nat.reduceBEq, Nat.reduceEqDiff, Nat.reduceLeDiff, Nat.reduceLT, Nat.reduceMod, reduceIte, Int.reduceLE, Int.reduceLT, Int.reduceToNat, Nat.reducePow, ty3, ty4, ty9, ty22, ty25, ty28, ty39, ty122, dk]; try rfl) (by rfl) (by simp only [smPut, Nat.reduceBEq, reduceIte]; exact ⟨rfl, rfl⟩) ?_
    | refine RunS.skip (by rfl) (by simp only [smPut, Nat.reduceBEq, reduceIte]; try rfl) ?_
    | refine W.seq ?_ | refine W.block ?_ | refine W.regionK (by decide) fun N hN => ?_
    | (refine RunS.nil (hN _ _ _ ?_); clear hN N; simp only [smLen, Nat.reduceAdd, Nat.reduceMul, reduceIte, Nat.reduceEqDiff])
    | ((first | refine W.exit ?_ | refine W.ret ?_ | refine W.skip ?_); try simp only [smLen, reduceIte, Nat.reduceEqDiff])
    | refine W.condF (by rfl) ?_ | refine W.condT (by rfl) ?_)
   subst hy
   refine Wk.keep [] (by rfl) ?_ ?_ <;> simp only [smKeep, Nat.reduceBEq, Nat.reduceLT, reduceIte]
 intro T H nx hw'
 refine W.to ?_ hw'
 clear hw' T H nx
 have hyl : ys.length ≤ xs.length + 1 := by
  rw [hy]; unfold varsAcc; split <;> simp
 have hse := t.size_eq
 clear hy
 repeat (first | refine W.seq ?_ | refine W.block ?_)
 refine W.regionK (by decide) fun N hN => ?_
 repeat (first
  | refine RunS.any (by rfl) (by simp only [smEval, Nat.reduceAdd, Nat.reduceMul, Nat.reduceSub, Nat.reduceBEq, Nat.reduceEqDiff, Nat.reduceLeDiff, Nat.reduceLT, Nat.reduceMod, reduceIte, Int.reduceLE, Int.reduceLT, Int.reduceToNat, Nat.reducePow, ty3, ty4, ty9, ty22, ty25, ty28, ty39, ty122]; try rfl) (by rfl) (by simp only [smPut, Nat.reduceBEq, reduceIte]; exact ⟨rfl, rfl⟩) ?_
  | refine RunS.skip (by rfl) (by simp only [smPut, Nat.reduceBEq, reduceIte]; try rfl) ?_)
 refine RunS.nil (hN _ _ _ ?_)
 clear hN N
 simp only [smLen, Nat.reduceAdd, Nat.reduceMul, reduceIte, Nat.reduceEqDiff]
 repeat (first | refine W.seq ?_ | refine W.block ?_)
 refine W.loop ?_
 refine WL.ind (σ := Nat) (nx := 208) (fun j => j ≤ t.l.length) (fun j => t.l.length - j) (fun j => [(1, .one (.row 0 (varsFrom ys (Tm.pres (t.l.take j))).length)), (2, .one (.ptr 1 0)), (5, vI j)])
  (fun j => [(0, .row 3 1 (ri (varsFrom ys (Tm.pres (t.l.take j))))), (1, .box 25 (cA t))]) 0 (Nat.zero_le _) ?_ ?_
 ·refine Wk.keep [] (by rfl) ?_ ?_ <;> simp only [smKeep, Nat.reduceBEq, Nat.reduceLT, reduceIte, List.take_zero, Tm.pres_nil, varsFrom_nil]
  all_goals trivial
 intro j hj
 obtain ⟨zs, hz⟩ : ∃ zs, zs = varsFrom ys (Tm.pres (t.l.take j)) := ⟨_, rfl⟩
 have hzl : zs.length ≤ ys.length + Tm.sizes (t.l.take j) := by rw [hz, ← Tm.pres_len]; exact varsFrom_len _ _
 have hjz : j ≤ 1000000 := by have := len_le_sizes t.l; omega
 rw [← hz]
 repeat (first
  | refine RunS.any (by rfl) (by simp only [smEval, Nat.reduceAdd, Nat.reduceMul, Nat.reduceSub, Nat.reduceBEq, Nat.reduceEqDiff, Nat.reduceLeDiff, Nat.reduceLT, Nat.reduceMod, reduceIte, Int.reduceLE, Int.reduceLT, Int.reduceToNat, Nat.reducePow, ty3, ty4, ty9, ty22, ty25, ty28, ty39, ty122]; try rfl) (by rfl) (by simp only [smPut, Nat.reduceBEq, reduceIte]; exact ⟨rfl, rfl⟩) ?_
  | refine RunS.skip (by rfl) (by simp only [smPut, Nat.reduceBEq, reduceIte]; try rfl) ?_
  | refine W.seq ?_ | refine W.block ?_ | refine W.regionK (by decide) fun N hN => ?_
  | (refine RunS.nil (hN _ _ _ ?_); clear hN N; simp only [smLen, Nat.reduceAdd, Nat.reduceMul, reduceIte, Nat.reduceEqDiff])
  | ((first | refine W.exit ?_ | refine W.ret ?_ | refine W.skip ?_); try simp only [smLen, reduceIte, Nat.reduceEqDiff])
  | refine W.condF (by rfl) ?_ | refine W.condT (by rfl) ?_)
 refine W.condD (by rfl) (fun hlt => ?_) (fun hge => ?_)
 ·obtain ⟨x, hx⟩ : ∃ x, t.l[j]? = some x := ⟨_, List.getElem?_eq_getElem (by omega)⟩
  have hxm := List.mem_of_getElem? hx
  have htk : t.l.take (j + 1) = t.l.take j ++ [x] := take_snoc hx
  have hsx : Tm.sizes (t.l.take j) + x.size ≤ Tm.sizes t.l := by
   rw [← Tm.sizes_take hx]; exact Tm.sizes_le_take _ _
  have hcall := ih x hxm zs (by omega)
  have hw1 : IntKind.i64.wrap ((j : Int) + 1) = ((j + 1 : Nat) : Int) := wrap_i64 (by omega) (by omega)
  repeat (first
   | refine RunS.any (by rfl) (by simp only [smEval, Nat.reduceAdd, Nat.reduceMul, Nat.reduceSub, Nat.reduceBEq, Nat.reduceEqDiff, Nat.reduceLeDiff, Nat.reduceLT, Nat.reduceMod, reduceIte, Int.reduceLE, Int.reduceLT, Int.reduceToNat, Nat.reducePow, ty3, ty4, ty9, ty22, ty25, ty28, ty39, ty122, hx, treeC_eq]; try rfl) (by rfl) (by simp only [smPut, Nat.reduceBEq, reduceIte]; exact ⟨rfl, rfl⟩) ?_
   | refine RunS.skip (by rfl) (by simp only [smPut, Nat.reduceBEq, reduceIte]; try rfl) ?_
   | refine W.seq ?_ | refine W.block ?_ | refine W.regionK (by decide) fun N hN => ?_
   | (refine RunS.nil (hN _ _ _ ?_); clear hN N; simp only [smLen, Nat.reduceAdd, Nat.reduceMul, reduceIte, Nat.reduceEqDiff])
   | ((first | refine W.exit ?_ | refine W.ret ?_ | refine W.skip ?_); try simp only [smLen, reduceIte, Nat.reduceEqDiff])
   | refine W.condF (by rfl) ?_ | refine W.condT (by rfl) ?_)
  refine RunS.callH rfl (by rfl) (hcall) [0] rfl rfl (by simp only [smArg, Nat.reduceBEq, reduceIte]; try rfl) (by simp only [smPut, Nat.reduceBEq, reduceIte, List.append_nil]; try rfl) (by rfl) (by simp only [enumL, List.forall_mem_cons, List.not_mem_nil, false_implies, implies_true, and_true, look_cons, look_nil, smPut, Nat.reduceBEq, reduceIte, Nat.reduceAdd]; try trivial) (by simp only [smPut, Nat.reduceBEq, reduceIte]; try rfl) (by simp only [smPut, Nat.reduceBEq, reduceIte]; try rfl) ?_
  repeat (first
   | refine RunS.any (by rfl) (by simp only [smEval, Nat.reduceAdd, Nat.reduceMul, Nat.reduceSub, Nat.reduceBEq, Nat.reduceEqDiff, Nat.reduceLeDiff, Nat.reduceLT, Nat.reduceMod, reduceIte, Int.reduceLE, Int.reduceLT, Int.reduceToNat, Nat.reducePow, ty3, ty4, ty9, ty22, ty25, ty28, ty39, ty122, hw1]; try rfl) (by rfl) (by simp only [smPut, Nat.reduceBEq, reduceIte]; exact ⟨rfl, rfl⟩) ?_
   | refine RunS.skip (by rfl) (by simp only [smPut, Nat.reduceBEq, reduceIte]; try rfl) ?_
   | refine W.seq ?_ | refine W.block ?_ | refine W.regionK (by decide) fun N hN => ?_
   | (refine RunS.nil (hN _ _ _ ?_); clear hN N; simp only [smLen, Nat.reduceAdd, Nat.reduceMul, reduceIte, Nat.reduceEqDiff])
   | ((first | refine W.exit ?_ | refine W.ret ?_ | refine W.skip ?_); try simp only [smLen, reduceIte, Nat.reduceEqDiff])
   | refine W.condF (by rfl) ?_ | refine W.condT (by rfl) ?_)
  refine ⟨j + 1, by omega, by omega, ?_⟩
  rw [htk, Tm.pres_append, varsFrom_append, ← hz, Tm.pres_one]
  refine Wk.keep [] (by rfl) ?_ ?_ <;> simp only [smKeep, Nat.reduceBEq, Nat.reduceLT, reduceIte]
 ·have hje : j = t.l.length := by omega
  rw [hje, List.take_length] at hz
  rw [← hz]
  repeat (first
   | refine RunS.any (by rfl) (by simp only [smEval, Nat.reduceAdd, Nat.reduceMul, Nat.reduceSub, Nat.reduceBEq, Nat.reduceEqDiff, Nat.reduceLeDiff, Nat.reduceLT, Nat.reduceMod, reduceIte, Int.reduceLE, Int.reduceLT, Int.reduceToNat, Nat.reducePow, ty3, ty4, ty9, ty22, ty25, ty28, ty39, ty122]; try rfl) (by rfl) (by simp only [smPut, Nat.reduceBEq, reduceIte]; exact ⟨rfl, rfl⟩) ?_
   | refine RunS.skip (by rfl) (by simp only [smPut, Nat.reduceBEq, reduceIte]; try rfl) ?_
   | refine W.seq ?_ | refine W.block ?_ | refine W.regionK (by decide) fun N hN => ?_
   | (refine RunS.nil (hN _ _ _ ?_); clear hN N; simp only [smLen, Nat.reduceAdd, Nat.reduceMul, reduceIte, Nat.reduceEqDiff])
   | ((first | refine W.exit ?_ | refine W.ret ?_ | refine W.skip ?_); try simp only [smLen, reduceIte, Nat.reduceEqDiff])
   | refine W.condF (by rfl) ?_ | refine W.condT (by rfl) ?_)
  refine Fin.keep (T' := [(4, .one (.row 0 zs.length))]) (H' := [(0, .row 3 1 (ri zs))]) (nx' := 200) ?_ [0] (xs := ?_) ?_ ?_ ?_ ?_
  ·refine Wk.keep [] (by rfl) ?_ ?_ <;> simp only [smKeep, Nat.reduceBEq, Nat.reduceLT, reduceIte]
  rotate_left
  ·simp only [smEval, Nat.reduceAdd, Nat.reduceMul, Nat.reduceSub, Nat.reduceBEq, Nat.reduceEqDiff, Nat.reduceLeDiff, Nat.reduceLT, Nat.reduceMod, reduceIte, Int.reduceLE, Int.reduceLT, Int.reduceToNat, Nat.reducePow, ty3, ty4, ty9, ty22, ty25, ty28, ty39, ty122, resA]; try rfl
  ·simp only [outA, smPut, Nat.reduceBEq, reduceIte]
  ·kernel_rfl
  ·simp only [enumL, List.forall_mem_cons, List.not_mem_nil, false_implies, implies_true, and_true, look_cons, look_nil, smPut, Nat.reduceBEq, reduceIte, Nat.reduceAdd, List.map_append, List.length_append, List.length_cons, List.length_nil]; try trivial
set_option maxRecDepth 100000 in
set_option maxHeartbeats 4000000 in
theorem varsOf_ok (l : List Tm) (hsz : Tm.sizes l ≤ 900000) : ACall Try.prog 128 [tsA l] [] (.one (.f (intsF (varsL l)))) [] := by
 refine acall_of Try.func128 (by decide) rfl Try.results128 (by rw [Try.ntmps128]; simp) (by simp) ?_
 rw [Try.ntmps128]
 simp only [enumL, List.length_nil, List.length_cons, Nat.reduceAdd]
 repeat (first | refine W.seq ?_ | refine W.block ?_)
 refine W.regionK (by decide) fun N hN => ?_
 repeat (first
  | refine RunS.any (by rfl) (by simp only [smEval, Nat.reduceAdd, Nat.reduceMul, Nat.reduceSub, Nat.reduceBEq, Nat.reduceEqDiff, Nat.reduceLeDiff, Nat.reduceLT, Nat.reduceMod, reduceIte, Int.reduceLE, Int.reduceLT, Int.reduceToNat, Nat.reducePow, ty3, ty4, ty9, ty22, ty25, ty28, ty39, ty122]; try rfl) (by rfl) (by simp only [smPut, Nat.reduceBEq, reduceIte]; exact ⟨rfl, rfl⟩) ?_
  | refine RunS.skip (by rfl) (by simp only [smPut, Nat.reduceBEq, reduceIte]; try rfl) ?_)
 refine RunS.nil (hN _ _ _ ?_)
 clear hN N
 simp only [smLen, Nat.reduceAdd, Nat.reduceMul, reduceIte, Nat.reduceEqDiff]
 repeat (first | refine W.seq ?_ | refine W.block ?_)
 refine W.regionK (by decide) fun N hN => ?_
 repeat (first
  | refine RunS.any (by rfl) (by simp only [smEval, Nat.reduceAdd, Nat.reduceMul, Nat.reduceSub, Nat.reduceBEq, Nat.reduceEqDiff, Nat.reduceLeDiff, Nat.reduceLT, Nat.reduceMod, reduceIte, Int.reduceLE, Int.reduceLT, Int.reduceToNat, Nat.reducePow, ty3, ty4, ty9, ty22, ty25, ty28, ty39, ty122]; try rfl) (by rfl) (by simp only [smPut, Nat.reduceBEq, reduceIte]; exact ⟨rfl, rfl⟩) ?_
  | refine RunS.skip (by rfl) (by simp only [smPut, Nat.reduceBEq, reduceIte]; try rfl) ?_)
 refine RunS.nil (hN _ _ _ ?_)
 clear hN N
 simp only [smLen, Nat.reduceAdd, Nat.reduceMul, reduceIte, Nat.reduceEqDiff]
 repeat (first | refine W.seq ?_ | refine W.block ?_)
 refine W.regionK (by decide) fun N hN => ?_
 repeat (first
  | refine RunS.any (by rfl) (by simp only [smEval, Nat.reduceAdd, Nat.reduceMul, Nat.reduceSub, Nat.reduceBEq, Nat.reduceEqDiff, Nat.reduceLeDiff, Nat.reduceLT, Nat.reduceMod, reduceIte, Int.reduceLE, Int.reduceLT, Int.reduceToNat, Nat.reducePow, ty3, ty4, ty9, ty22, ty25, ty28, ty39, ty122]; try rfl) (by rfl) (by simp only [smPut, Nat.reduceBEq, reduceIte]; exact ⟨rfl, rfl⟩) ?_
  | refine RunS.skip (by rfl) (by simp only [smPut, Nat.reduceBEq, reduceIte]; try rfl) ?_)
 refine RunS.nil (hN _ _ _ ?_)
 clear hN N
 simp only [smLen, Nat.reduceAdd, Nat.reduceMul, reduceIte, Nat.reduceEqDiff]
 repeat (first | refine W.seq ?_ | refine W.block ?_)
 refine W.loop ?_
 refine WL.wk (Wk.nilT 3 3 1 rfl rfl) ?_
 refine WL.ind (σ := Nat) (nx := 20) (fun j => j ≤ l.length) (fun j => l.length - j) (fun j => [(0, tsA l), (3, .one (.row 12 (varsFrom [] (Tm.pres (l.take j))).length)), (4, vI j)])
  (fun j => [(12, .row 3 1 (ri (varsFrom [] (Tm.pres (l.take j)))))]) 0 (Nat.zero_le _) ?_ ?_
 ·refine Wk.keep [] (by rfl) ?_ ?_ <;> simp only [smKeep, Nat.reduceBEq, Nat.reduceLT, reduceIte, List.take_zero, Tm.pres_nil, varsFrom_nil]
  all_goals trivial
 intro j hj
 obtain ⟨zs, hz⟩ : ∃ zs, zs = varsFrom [] (Tm.pres (l.take j)) := ⟨_, rfl⟩
 have hzl : zs.length ≤ 0 + Tm.sizes (l.take j) := by rw [hz, ← Tm.pres_len]; exact varsFrom_len _ _
 have hjz : j ≤ 1000000 := by have := len_le_sizes l; omega
 rw [← hz]
 repeat (first
  | refine RunS.any (by rfl) (by simp only [smEval, Nat.reduceAdd, Nat.reduceMul, Nat.reduceSub, Nat.reduceBEq, Nat.reduceEqDiff, Nat.reduceLeDiff, Nat.reduceLT, Nat.reduceMod, reduceIte, Int.reduceLE, Int.reduceLT, Int.reduceToNat, Nat.reducePow, ty3, ty4, ty9, ty22, ty25, ty28, ty39, ty122]; try rfl) (by rfl) (by simp only [smPut, Nat.reduceBEq, reduceIte]; exact ⟨rfl, rfl⟩) ?_
  | refine RunS.skip (by rfl) (by simp only [smPut, Nat.reduceBEq, reduceIte]; try rfl) ?_
  | refine W.seq ?_ | refine W.block ?_ | refine W.regionK (by decide) fun N hN => ?_
  | (refine RunS.nil (hN _ _ _ ?_); clear hN N; simp only [smLen, Nat.reduceAdd, Nat.reduceMul, reduceIte, Nat.reduceEqDiff])
  | ((first | refine W.exit ?_ | refine W.ret ?_ | refine W.skip ?_); try simp only [smLen, reduceIte, Nat.reduceEqDiff])
  | refine W.condF (by rfl) ?_ | refine W.condT (by rfl) ?_)
 refine W.condD (by rfl) (fun hlt => ?_) (fun hge => ?_)
 ·obtain ⟨x, hx⟩ : ∃ x, l[j]? = some x := ⟨_, List.getElem?_eq_getElem (by omega)⟩
  have htk : l.take (j + 1) = l.take j ++ [x] := take_snoc hx
  have hsx : Tm.sizes (l.take j) + x.size ≤ Tm.sizes l := by
   rw [← Tm.sizes_take hx]; exact Tm.sizes_le_take _ _
  have hcall := variables_ok x zs (by omega)
  have hw1 : IntKind.i64.wrap ((j : Int) + 1) = ((j + 1 : Nat) : Int) := wrap_i64 (by omega) (by omega)
  repeat (first
   | refine RunS.any (by rfl) (by simp only [smEval, Nat.reduceAdd, Nat.reduceMul, Nat.reduceSub, Nat.reduceBEq, Nat.reduceEqDiff, Nat.reduceLeDiff, Nat.reduceLT, Nat.reduceMod, reduceIte, Int.reduceLE, Int.reduceLT, Int.reduceToNat, Nat.reducePow, ty3, ty4, ty9, ty22, ty25, ty28, ty39, ty122, hx, treeC_eq]; try rfl) (by rfl) (by simp only [smPut, Nat.reduceBEq, reduceIte]; exact ⟨rfl, rfl⟩) ?_
   | refine RunS.skip (by rfl) (by simp only [smPut, Nat.reduceBEq, reduceIte]; try rfl) ?_
   | refine W.seq ?_ | refine W.block ?_ | refine W.regionK (by decide) fun N hN => ?_
   | (refine RunS.nil (hN _ _ _ ?_); clear hN N; simp only [smLen, Nat.reduceAdd, Nat.reduceMul, reduceIte, Nat.reduceEqDiff])
   | ((first | refine W.exit ?_ | refine W.ret ?_ | refine W.skip ?_); try simp only [smLen, reduceIte, Nat.reduceEqDiff])
   | refine W.condF (by rfl) ?_ | refine W.condT (by rfl) ?_)
  refine RunS.callH rfl (by rfl) (hcall) [12] rfl rfl (by simp only [smArg, Nat.reduceBEq, reduceIte]; try rfl) (by simp only [smPut, Nat.reduceBEq, reduceIte, List.append_nil]; try rfl) (by rfl) (by simp only [enumL, List.forall_mem_cons, List.not_mem_nil, false_implies, implies_true, and_true, look_cons, look_nil, smPut, Nat.reduceBEq, reduceIte, Nat.reduceAdd]; try trivial) (by simp only [smPut, Nat.reduceBEq, reduceIte]; try rfl) (by simp only [smPut, Nat.reduceBEq, reduceIte]; try rfl) ?_
  repeat (first
   | refine RunS.any (by rfl) (by simp only [smEval, Nat.reduceAdd, Nat.reduceMul, Nat.reduceSub, Nat.reduceBEq, Nat.reduceEqDiff, Nat.reduceLeDiff, Nat.reduceLT, Nat.reduceMod, reduceIte, Int.reduceLE, Int.reduceLT, Int.reduceToNat, Nat.reducePow, ty3, ty4, ty9, ty22, ty25, ty28, ty39, ty122, hw1]; try rfl) (by rfl) (by simp only [smPut, Nat.reduceBEq, reduceIte]; exact ⟨rfl, rfl⟩) ?_
   | refine RunS.skip (by rfl) (by simp only [smPut, Nat.reduceBEq, reduceIte]; try rfl) ?_
   | refine W.seq ?_ | refine W.block ?_ | refine W.regionK (by decide) fun N hN => ?_
   | (refine RunS.nil (hN _ _ _ ?_); clear hN N; simp only [smLen, Nat.reduceAdd, Nat.reduceMul, reduceIte, Nat.reduceEqDiff])
   | ((first | refine W.exit ?_ | refine W.ret ?_ | refine W.skip ?_); try simp only [smLen, reduceIte, Nat.reduceEqDiff])
   | refine W.condF (by rfl) ?_ | refine W.condT (by rfl) ?_)
  refine ⟨j + 1, by omega, by omega, ?_⟩
  rw [htk, Tm.pres_append, varsFrom_append, ← hz, Tm.pres_one]
  refine Wk.keep [] (by rfl) ?_ ?_ <;> simp only [smKeep, Nat.reduceBEq, Nat.reduceLT, reduceIte]
 ·have hje : j = l.length := by omega
  rw [hje, List.take_length] at hz
  have hv : varsL l = zs := hz.symm
  rw [hv]
  repeat (first
   | refine RunS.any (by rfl) (by simp only [smEval, Nat.reduceAdd, Nat.reduceMul, Nat.reduceSub, Nat.reduceBEq, Nat.reduceEqDiff, Nat.reduceLeDiff, Nat.reduceLT, Nat.reduceMod, reduceIte, Int.reduceLE, Int.reduceLT, Int.reduceToNat, Nat.reducePow, ty3, ty4, ty9, ty22, ty25, ty28, ty39, ty122]; try rfl) (by rfl) (by simp only [smPut, Nat.reduceBEq, reduceIte]; exact ⟨rfl, rfl⟩) ?_
   | refine RunS.skip (by rfl) (by simp only [smPut, Nat.reduceBEq, reduceIte]; try rfl) ?_
   | refine W.seq ?_ | refine W.block ?_ | refine W.regionK (by decide) fun N hN => ?_
   | (refine RunS.nil (hN _ _ _ ?_); clear hN N; simp only [smLen, Nat.reduceAdd, Nat.reduceMul, reduceIte, Nat.reduceEqDiff])
   | ((first | refine W.exit ?_ | refine W.ret ?_ | refine W.skip ?_); try simp only [smLen, reduceIte, Nat.reduceEqDiff])
   | refine W.condF (by rfl) ?_ | refine W.condT (by rfl) ?_)
  refine Fin.pureS (T' := [(2, .one (.f (intsF zs)))]) (H' := []) (nx' := 12) ?_ (xs := ?_) ?_ rfl ?_ ?_
  ·refine Wk.keep [12] (by rfl) ?_ ?_ <;> simp only [smKeep, Nat.reduceBEq, Nat.reduceLT, reduceIte]
  rotate_left
  ·simp only [smEval, Nat.reduceAdd, Nat.reduceMul, Nat.reduceSub, Nat.reduceBEq, Nat.reduceEqDiff, Nat.reduceLeDiff, Nat.reduceLT, Nat.reduceMod, reduceIte, Int.reduceLE, Int.reduceLT, Int.reduceToNat, Nat.reducePow, ty3, ty4, ty9, ty22, ty25, ty28, ty39, ty122, resA]; try rfl
  ·rfl
  ·exact Sub.refl _
def ixI (xs : List Int) (n : Int) : Int := if n ∈ xs then (xs.idxOf n : Int) else -1
theorem idxOf_at {xs : List Int} {n : Int} {j : Nat} (h : xs[j]? = some n) (hn : n ∉ xs.take j) : xs.idxOf n = j := by
 have hlt := (List.getElem?_eq_some_iff.1 h).1
 have e : xs = xs.take j ++ n :: xs.drop (j + 1) := by
  have := (List.getElem?_eq_some_iff.1 h).2
  rw [← this, ← List.drop_eq_getElem_cons hlt, List.take_append_drop]
 rw [e, List.idxOf_append, if_neg hn]
 simp; omega
set_option maxRecDepth 100000 in
theorem index_ok (xs : List Int) (n : Int) (hl : xs.length ≤ 1000000) : ACall Try.prog 147 [.one (.f (intsF xs)), vI n] [] (vI (ixI xs n)) [] := by
  refine acall_of Try.func147 (by decide) rfl Try.results147 (by rw [Try.ntmps147]; simp) (by simp) ?_
  rw [Try.ntmps147]
  simp only [enumL, List.length_nil, List.length_cons, Nat.reduceAdd]
  repeat (first | refine W.seq ?_ | refine W.block ?_)
  refine W.regionK (by decide) fun N hN => ?_
  repeat (first
    | refine RunS.any (by rfl) (by simp only [smEval, Nat.reduceAdd, Nat.reduceMul, Nat.reduceSub, Nat.reduceBEq, Nat.reduceEqDiff, Nat.reduceLeDiff, Nat.reduceLT, Nat.reduceMod, reduceIte, Int.reduceLE, Int.reduceLT, Int.reduceToNat, Nat.reducePow, ty3, ty4, ty9, ty22, ty25, ty28, ty39, ty122]; try rfl) (by rfl) (by simp only [smPut, Nat.reduceBEq, reduceIte]; exact ⟨rfl, rfl⟩) ?_
    | refine RunS.skip (by rfl) (by simp only [smPut, Nat.reduceBEq, reduceIte]; try rfl) ?_)
  refine RunS.nil (hN _ _ _ ?_)
  clear hN N
  simp only [smLen, Nat.reduceAdd, Nat.reduceMul, reduceIte, Nat.reduceEqDiff]
  repeat (first | refine W.seq ?_ | refine W.block ?_)
  refine W.regionK (by decide) fun N hN => ?_
  repeat (first
    | refine RunS.any (by rfl) (by simp only [smEval, Nat.reduceAdd, Nat.reduceMul, Nat.reduceSub, Nat.reduceBEq, Nat.reduceEqDiff, Nat.reduceLeDiff, Nat.reduceLT, Nat.reduceMod, reduceIte, Int.reduceLE, Int.reduceLT, Int.reduceToNat, Nat.reducePow, ty3, ty4, ty9, ty22, ty25, ty28, ty39, ty122]; try rfl) (by rfl) (by simp only [smPut, Nat.reduceBEq, reduceIte]; exact ⟨rfl, rfl⟩) ?_
    | refine RunS.skip (by rfl) (by simp only [smPut, Nat.reduceBEq, reduceIte]; try rfl) ?_)
  refine RunS.nil (hN _ _ _ ?_)
  clear hN N
  simp only [smLen, Nat.reduceAdd, Nat.reduceMul, reduceIte, Nat.reduceEqDiff]
  repeat (first | refine W.seq ?_ | refine W.block ?_)
  refine W.loop ?_
  refine WL.ind (σ := Nat) (nx := 8) (fun j => j ≤ xs.length ∧ n ∉ xs.take j) (fun j => xs.length - j) (fun j => [(5, vI j), (0, .one (.f (intsF xs))), (1, vI n)]) (fun _ => []) 0 ⟨by omega, by simp⟩ ?_ ?_
  · refine Wk.keep [] (by rfl) ?_ ?_ <;> simp only [smKeep, Nat.reduceBEq, Nat.reduceLT, reduceIte]
    trivial
  intro j ⟨hj, hn⟩
  repeat (first
    | refine RunS.any (by rfl) (by simp only [smEval, Nat.reduceAdd, Nat.reduceMul, Nat.reduceSub, Nat.reduceBEq, Nat.reduceEqDiff, Nat.reduceLeDiff, Nat.reduceLT, Nat.reduceMod, reduceIte, Int.reduceLE, Int.reduceLT, Int.reduceToNat, Nat.reducePow, ty3, ty4, ty9, ty22, ty25, ty28, ty39, ty122]; try rfl) (by rfl) (by simp only [smPut, Nat.reduceBEq, reduceIte]; exact ⟨rfl, rfl⟩) ?_
    | refine RunS.skip (by rfl) (by simp only [smPut, Nat.reduceBEq, reduceIte]; try rfl) ?_
    | refine W.seq ?_ | refine W.block ?_ | refine W.regionK (by decide) fun N hN => ?_
    | (refine RunS.nil (hN _ _ _ ?_); clear hN N; simp only [smLen, Nat.reduceAdd, Nat.reduceMul, reduceIte, Nat.reduceEqDiff])
    | ((first | refine W.exit ?_ | refine W.ret ?_ | refine W.skip ?_); try simp only [smLen, reduceIte, Nat.reduceEqDiff])
    | refine W.condF (by rfl) ?_ | refine W.condT (by rfl) ?_)
  refine W.condD (by rfl) (fun hlt => ?_) (fun hge => ?_)
  · obtain ⟨y, hy⟩ : ∃ y, xs[j]? = some y := ⟨_, List.getElem?_eq_getElem (by omega)⟩
    have hts : xs.take (j + 1) = xs.take j ++ [y] := by rw [List.take_add_one, hy]; rfl
    have hw : IntKind.i64.wrap ((j : Int) + 1) = ((j + 1 : Nat) : Int) := wrap_i64 (by omega) (by omega)
    repeat (first
      | refine RunS.any (by rfl) (by simp only [smEval, Nat.reduceAdd, Nat.reduceMul, Nat.reduceSub, Nat.reduceBEq, Nat.reduceEqDiff, Nat.reduceLeDiff, Nat.reduceLT, Nat.reduceMod, reduceIte, Int.reduceLE, Int.reduceLT, Int.reduceToNat, Nat.reducePow, ty3, ty4, ty9, ty22, ty25, ty28, ty39, ty122, hy, hw]; try rfl) (by rfl) (by simp only [smPut, Nat.reduceBEq, reduceIte]; exact ⟨rfl, rfl⟩) ?_
      | refine RunS.skip (by rfl) (by simp only [smPut, Nat.reduceBEq, reduceIte]; try rfl) ?_
      | refine W.seq ?_ | refine W.block ?_ | refine W.regionK (by decide) fun N hN => ?_
      | (refine RunS.nil (hN _ _ _ ?_); clear hN N; simp only [smLen, Nat.reduceAdd, Nat.reduceMul, reduceIte, Nat.reduceEqDiff])
      | ((first | refine W.exit ?_ | refine W.ret ?_ | refine W.skip ?_); try simp only [smLen, reduceIte, Nat.reduceEqDiff])
      | refine W.condF (by rfl) ?_ | refine W.condT (by rfl) ?_)
    refine W.condD (by rfl) (fun he => ?_) (fun he => ?_)
    · subst he
      have hi : ixI xs y = (j : Int) := by unfold ixI; rw [if_pos (List.mem_of_getElem? hy), idxOf_at hy hn]
      rw [hi]
      repeat (first
        | refine RunS.any (by rfl) (by simp only [smEval, Nat.reduceAdd, Nat.reduceMul, Nat.reduceSub, Nat.reduceBEq, Nat.reduceEqDiff, Nat.reduceLeDiff, Nat.reduceLT, Nat.reduceMod, reduceIte, Int.reduceLE, Int.reduceLT, Int.reduceToNat, Nat.reducePow, ty3, ty4, ty9, ty22, ty25, ty28, ty39, ty122]; try rfl) (by rfl) (by simp only [smPut, Nat.reduceBEq, reduceIte]; exact ⟨rfl, rfl⟩) ?_
        | refine RunS.skip (by rfl) (by simp only [smPut, Nat.reduceBEq, reduceIte]; try rfl) ?_
        | refine W.seq ?_ | refine W.block ?_ | refine W.regionK (by decide) fun N hN => ?_
        | (refine RunS.nil (hN _ _ _ ?_); clear hN N; simp only [smLen, Nat.reduceAdd, Nat.reduceMul, reduceIte, Nat.reduceEqDiff])
        | ((first | refine W.exit ?_ | refine W.ret ?_ | refine W.skip ?_); try simp only [smLen, reduceIte, Nat.reduceEqDiff])
        | refine W.condF (by rfl) ?_ | refine W.condT (by rfl) ?_)
      refine Fin.pureS Wk.refl (xs := ?_) ?_ rfl ?_ ?_
      rotate_left
      · simp only [smEval, Nat.reduceAdd, Nat.reduceMul, Nat.reduceSub, Nat.reduceBEq, Nat.reduceEqDiff, Nat.reduceLeDiff, Nat.reduceLT, Nat.reduceMod, reduceIte, Int.reduceLE, Int.reduceLT, Int.reduceToNat, Nat.reducePow, ty3, ty4, ty9, ty22, ty25, ty28, ty39, ty122, resA]; try rfl
      · rfl
      · exact Sub.refl _
    · repeat (first
        | refine RunS.any (by rfl) (by simp only [smEval, Nat.reduceAdd, Nat.reduceMul, Nat.reduceSub, Nat.reduceBEq, Nat.reduceEqDiff, Nat.reduceLeDiff, Nat.reduceLT, Nat.reduceMod, reduceIte, Int.reduceLE, Int.reduceLT, Int.reduceToNat, Nat.reducePow, ty3, ty4, ty9, ty22, ty25, ty28, ty39, ty122, hw]; try rfl) (by rfl) (by simp only [smPut, Nat.reduceBEq, reduceIte]; exact ⟨rfl, rfl⟩) ?_
        | refine RunS.skip (by rfl) (by simp only [smPut, Nat.reduceBEq, reduceIte]; try rfl) ?_
        | refine W.seq ?_ | refine W.block ?_ | refine W.regionK (by decide) fun N hN => ?_
        | (refine RunS.nil (hN _ _ _ ?_); clear hN N; simp only [smLen, Nat.reduceAdd, Nat.reduceMul, reduceIte, Nat.reduceEqDiff])
        | ((first | refine W.exit ?_ | refine W.ret ?_ | refine W.skip ?_); try simp only [smLen, reduceIte, Nat.reduceEqDiff])
        | refine W.condF (by rfl) ?_ | refine W.condT (by rfl) ?_)
      refine ⟨j + 1, ⟨by omega, by rw [hts]; simp; exact ⟨hn, fun e => he e.symm⟩⟩, by omega, ?_⟩
      refine Wk.keep [] (by rfl) ?_ ?_ <;> simp only [smKeep, Nat.reduceBEq, Nat.reduceLT, reduceIte]
  · have hni : n ∉ xs := by have h2 : j = xs.length := by omega
                            rw [h2, List.take_length] at hn; exact hn
    have hi : ixI xs n = -1 := by unfold ixI; rw [if_neg hni]
    rw [hi]
    repeat (first
      | refine RunS.any (by rfl) (by simp only [smEval, Nat.reduceAdd, Nat.reduceMul, Nat.reduceSub, Nat.reduceBEq, Nat.reduceEqDiff, Nat.reduceLeDiff, Nat.reduceLT, Nat.reduceMod, reduceIte, Int.reduceLE, Int.reduceLT, Int.reduceToNat, Nat.reducePow, ty3, ty4, ty9, ty22, ty25, ty28, ty39, ty122]; try rfl) (by rfl) (by simp only [smPut, Nat.reduceBEq, reduceIte]; exact ⟨rfl, rfl⟩) ?_
      | refine RunS.skip (by rfl) (by simp only [smPut, Nat.reduceBEq, reduceIte]; try rfl) ?_
      | refine W.seq ?_ | refine W.block ?_ | refine W.regionK (by decide) fun N hN => ?_
      | (refine RunS.nil (hN _ _ _ ?_); clear hN N; simp only [smLen, Nat.reduceAdd, Nat.reduceMul, reduceIte, Nat.reduceEqDiff])
      | ((first | refine W.exit ?_ | refine W.ret ?_ | refine W.skip ?_); try simp only [smLen, reduceIte, Nat.reduceEqDiff])
      | refine W.condF (by rfl) ?_ | refine W.condT (by rfl) ?_)
    refine Fin.pureS Wk.refl (xs := ?_) ?_ rfl ?_ ?_
    rotate_left
    · simp only [smEval, Nat.reduceAdd, Nat.reduceMul, Nat.reduceSub, Nat.reduceBEq, Nat.reduceEqDiff, Nat.reduceLeDiff, Nat.reduceLT, Nat.reduceMod, reduceIte, Int.reduceLE, Int.reduceLT, Int.reduceToNat, Nat.reducePow, ty3, ty4, ty9, ty22, ty25, ty28, ty39, ty122, resA]; try rfl
    · rfl
    · exact Sub.refl _
end Go.Proofs.Ytfhgknmkpegpbaa
