/- Layer 1, part 9 of the base: the walks and plain facts named in NOTES.md as G19, U3, T14, A1. -/
import Derived.Test.YtfhgknmkpegpbaaM8
import Derived.Test.YtfhgknmkpegpbaaM3
import Derived.Test.YtfhgknmkpegpbaaM2
import Derived.Test.YtfhgknmkpegpbaaM6

/- A pure model of Go code, 19: a region, step by step. -/
set_option linter.unusedVariables false
set_option linter.unusedSimpArgs false
namespace Go.Abs
open Go.RowKit

section
variable {P : Program} {nx i d : Nat} {ops rest : List Oper} {o : Oper} {T : TL} {H H' : HL} {cs : List Chk}
theorem runO_pl {K : Option AV → HL → Chk → Prop} (hg : gOf ops.toArray (look T) o = some true) {x : Option AV} {ws : HL} (hp : pl P (look T) (look H) (nx + i) o.op = some (x, ws)) (hf : look H (nx + i) = none)
    (h : K x ws ⟨o.dst, ws.map (·.1), gRd ops.toArray o ++ rdT o.op, rdB (look T) o.op, [nx + i]⟩) : RunO P nx ops i o T H K := by
  unfold RunO
  rw [hg]
  simp only
  split
  · rename_i f args tys ho
    rw [ho] at hp; cases hp
  · rw [hp]; exact ⟨hf, h⟩
theorem runO_skip {K : Option AV → HL → Chk → Prop} (hg : gOf ops.toArray (look T) o = some false) (h : K none [] ⟨o.dst, [], gRd ops.toArray o, [], []⟩) : RunO P nx ops i o T H K := by
  unfold RunO; rw [hg]; exact h
theorem runO_call {K : Option AV → HL → Chk → Prop} (hg : gOf ops.toArray (look T) o = some true) {f : Operand} {args : List Operand} {tys : Array TypeId} (ho : o.op = .call ⟨.value f, args.toArray, tys⟩) {fid : FuncId} {caps : List AC} {xs cargs : List AV} {hs hs' : List AB} {res : AV} {ids : List Nat}
    (hc : ACall P fid cargs hs res hs') (hf : evT (look T) f = some (.one (.fn (.func fid) caps))) (hx : evArgs (look T) args = some xs) (ha : xs ++ caps.map AV.one = cargs.map (·.ren (nm ids)))
    (hk : (cargs.all (·.lt hs.length) && hs.all (fun x => match x with | .box _ l => AC.lts hs.length l | _ => true) && decide ids.Nodup && decide (ids.length = hs'.length) && (ids.drop hs.length).all (fun b => decide (nx ≤ b) && (look H b).isNone)) = true)
    (hh : ∀ p ∈ enumL 0 hs, look H (nm ids p.1) = some (p.2.ren (nm ids))) (h : K (some (res.ren (nm ids))) (ids.zip (hs'.map (·.ren (nm ids)))) ⟨o.dst, (ids.zip (hs'.map (·.ren (nm ids)))).map (·.1), gRd ops.toArray o ++ rdT o.op, ids.take hs.length, ids.drop hs.length⟩) : RunO P nx ops i o T H K := by
  simp only [Bool.and_eq_true, List.all_eq_true, decide_eq_true_eq, Option.isNone_iff_eq_none] at hk
  obtain ⟨⟨⟨⟨k1, k2⟩, k3⟩, k4⟩, k5⟩ := hk
  unfold RunO
  rw [hg]
  simp only [ho]
  refine ⟨fid, caps, xs, cargs, hs, hs', res, ids, hf, hx, hc, k3, k4, ha, k1, fun ty l hm => k2 _ hm, fun j x hj => ?_, fun b hb => ⟨(k5 b hb).2, (k5 b hb).1⟩, by rw [ho] at h; exact h⟩
  have : (j, x) ∈ enumL 0 hs := look_mem (by rw [look_enum]; simpa using hj)
  exact hh (j, x) this

section S
variable {K : TL → HL → Prop}
theorem RunS.nil (h : K T H) : RunS P nx ops i [] T H K := h
theorem RunS.val {v : AV} (hd : o.dst = some d) (hg : gOf ops.toArray (look T) o = some true) (hp : pl P (look T) (look H) (nx + i) o.op = some (some v, [])) (hf : look H (nx + i) = none) (h : RunS P nx ops (i + 1) rest ((d, v) :: T) H K) : RunS P nx ops i (o :: rest) T H K :=
  runO_pl hg hp hf (by rw [hd]; exact h)
theorem RunS.new {v : AV} {b : Nat} {x : AB} (hd : o.dst = some d) (hg : gOf ops.toArray (look T) o = some true) (hp : pl P (look T) (look H) (nx + i) o.op = some (some v, [(b, x)])) (hf : look H (nx + i) = none) (hH : put H b x = H') (h : RunS P nx ops (i + 1) rest ((d, v) :: T) H' K) : RunS P nx ops i (o :: rest) T H K :=
  runO_pl hg hp hf (by rw [hd]; subst hH; exact h)
theorem RunS.put {b : Nat} {x : AB} (hd : o.dst = none) (hg : gOf ops.toArray (look T) o = some true) (hp : pl P (look T) (look H) (nx + i) o.op = some (none, [(b, x)])) (hf : look H (nx + i) = none) (hH : put H b x = H') (h : RunS P nx ops (i + 1) rest T H' K) : RunS P nx ops i (o :: rest) T H K :=
  runO_pl hg hp hf (by rw [hd]; subst hH; exact h)
theorem RunS.skip {T' : TL} (hg : gOf ops.toArray (look T) o = some false) (hT : setT T o.dst none = T') (h : RunS P nx ops (i + 1) rest T' H K) : RunS P nx ops i (o :: rest) T H K :=
  runO_skip hg (by subst hT; exact h)
theorem RunS.callP (hd : o.dst = some d) (hg : gOf ops.toArray (look T) o = some true) {fid : FuncId} {cargs : List AV} {res : AV} (hc : ACall P fid cargs [] res []) {args : List Operand} {tys : Array TypeId} (ho : o.op = .call ⟨.value (.func fid), args.toArray, tys⟩)
    (hx : evArgs (look T) args = some cargs) (hl : cargs.all (·.lt 0) = true) (hr : res.lt 0 = true) (h : RunS P nx ops (i + 1) rest ((d, res) :: T) H K) : RunS P nx ops i (o :: rest) T H K :=
  runO_call (ids := []) hg ho hc rfl hx (by
    have : ∀ l : List AV, l.all (·.lt 0) = true → l.map (·.ren (nm [])) = l := fun l => by
      induction l with
      | nil => intro _; rfl
      | cons x r ih => intro h; simp only [List.all_cons, Bool.and_eq_true] at h; simp [AV.ren_pure _ x h.1, ih h.2]
    rw [this cargs hl]; simp) (by simpa using hl) (fun p hp => by simp [enumL] at hp) (by rw [hd, AV.ren_pure _ _ hr]; exact h)
theorem RunS.callH (hd : o.dst = some d) (hg : gOf ops.toArray (look T) o = some true) {fid : FuncId} {cargs : List AV} {hs hs' : List AB} {res res' : AV} (hc : ACall P fid cargs hs res hs') (ids : List Nat) {f : Operand} {args : List Operand} {tys : Array TypeId} (ho : o.op = .call ⟨.value f, args.toArray, tys⟩)
    {caps : List AC} {xs : List AV} (hf : evT (look T) f = some (.one (.fn (.func fid) caps))) (hx : evArgs (look T) args = some xs) (ha : xs ++ caps.map AV.one = cargs.map (·.ren (nm ids)))
    (hk : (cargs.all (·.lt hs.length) && hs.all (fun x => match x with | .box _ l => AC.lts hs.length l | _ => true) && decide ids.Nodup && decide (ids.length = hs'.length) && (ids.drop hs.length).all (fun b => decide (nx ≤ b) && (look H b).isNone)) = true)
    (hh : ∀ p ∈ enumL 0 hs, look H (nm ids p.1) = some (p.2.ren (nm ids))) (hr : res.ren (nm ids) = res') (hH : puts H (ids.zip (hs'.map (·.ren (nm ids)))) = H') (h : RunS P nx ops (i + 1) rest ((d, res') :: T) H' K) : RunS P nx ops i (o :: rest) T H K :=
  runO_call hg ho hc hf hx ha hk hh (by rw [hd, hr]; subst hH; exact h)
end S
section D
variable {K : TL → HL → List Chk → Prop}
theorem RunD.nil (h : K T H cs) : RunD P nx ops i [] T H cs K := h
theorem RunD.val {v : AV} (hd : o.dst = some d) (hg : gOf ops.toArray (look T) o = some true) (hp : pl P (look T) (look H) (nx + i) o.op = some (some v, [])) (hf : look H (nx + i) = none) (h : RunD P nx ops (i + 1) rest ((d, v) :: T) H (cs ++ [⟨some d, [], gRd ops.toArray o ++ rdT o.op, rdB (look T) o.op, [nx + i]⟩]) K) : RunD P nx ops i (o :: rest) T H cs K :=
  runO_pl hg hp hf (by rw [hd]; exact h)
theorem RunD.new {v : AV} {b : Nat} {x : AB} (hd : o.dst = some d) (hg : gOf ops.toArray (look T) o = some true) (hp : pl P (look T) (look H) (nx + i) o.op = some (some v, [(b, x)])) (hf : look H (nx + i) = none) (hH : put H b x = H') (h : RunD P nx ops (i + 1) rest ((d, v) :: T) H' (cs ++ [⟨some d, [b], gRd ops.toArray o ++ rdT o.op, rdB (look T) o.op, [nx + i]⟩]) K) : RunD P nx ops i (o :: rest) T H cs K :=
  runO_pl hg hp hf (by rw [hd]; subst hH; exact h)
theorem RunD.put {b : Nat} {x : AB} (hd : o.dst = none) (hg : gOf ops.toArray (look T) o = some true) (hp : pl P (look T) (look H) (nx + i) o.op = some (none, [(b, x)])) (hf : look H (nx + i) = none) (hH : put H b x = H') (h : RunD P nx ops (i + 1) rest T H' (cs ++ [⟨none, [b], gRd ops.toArray o ++ rdT o.op, rdB (look T) o.op, [nx + i]⟩]) K) : RunD P nx ops i (o :: rest) T H cs K :=
  runO_pl hg hp hf (by rw [hd]; subst hH; exact h)
theorem RunD.skip {T' : TL} (hg : gOf ops.toArray (look T) o = some false) (hT : setT T o.dst none = T') (h : RunD P nx ops (i + 1) rest T' H (cs ++ [⟨o.dst, [], gRd ops.toArray o, [], []⟩]) K) : RunD P nx ops i (o :: rest) T H cs K :=
  runO_skip hg (by subst hT; exact h)
theorem RunD.callP (hd : o.dst = some d) (hg : gOf ops.toArray (look T) o = some true) {fid : FuncId} {cargs : List AV} {res : AV} (hc : ACall P fid cargs [] res []) {args : List Operand} {tys : Array TypeId} (ho : o.op = .call ⟨.value (.func fid), args.toArray, tys⟩)
    (hx : evArgs (look T) args = some cargs) (hl : cargs.all (·.lt 0) = true) (hr : res.lt 0 = true) (h : RunD P nx ops (i + 1) rest ((d, res) :: T) H (cs ++ [⟨some d, [], gRd ops.toArray o ++ rdT o.op, [], []⟩]) K) : RunD P nx ops i (o :: rest) T H cs K :=
  runO_call (ids := []) hg ho hc rfl hx (by
    have : ∀ l : List AV, l.all (·.lt 0) = true → l.map (·.ren (nm [])) = l := fun l => by
      induction l with
      | nil => intro _; rfl
      | cons x r ih => intro h; simp only [List.all_cons, Bool.and_eq_true] at h; simp [AV.ren_pure _ x h.1, ih h.2]
    rw [this cargs hl]; simp) (by simpa using hl) (fun p hp => by simp [enumL] at hp) (by rw [hd, AV.ren_pure _ _ hr]; exact h)
theorem RunD.callH (hd : o.dst = some d) (hg : gOf ops.toArray (look T) o = some true) {fid : FuncId} {cargs : List AV} {hs hs' : List AB} {res res' : AV} (hc : ACall P fid cargs hs res hs') (ids : List Nat) {f : Operand} {args : List Operand} {tys : Array TypeId} (ho : o.op = .call ⟨.value f, args.toArray, tys⟩)
    {caps : List AC} {xs : List AV} (hf : evT (look T) f = some (.one (.fn (.func fid) caps))) (hx : evArgs (look T) args = some xs) (ha : xs ++ caps.map AV.one = cargs.map (·.ren (nm ids)))
    (hk : (cargs.all (·.lt hs.length) && hs.all (fun x => match x with | .box _ l => AC.lts hs.length l | _ => true) && decide ids.Nodup && decide (ids.length = hs'.length) && (ids.drop hs.length).all (fun b => decide (nx ≤ b) && (look H b).isNone)) = true)
    (hh : ∀ p ∈ enumL 0 hs, look H (nm ids p.1) = some (p.2.ren (nm ids))) (hr : res.ren (nm ids) = res') (hH : puts H (ids.zip (hs'.map (·.ren (nm ids)))) = H') (h : RunD P nx ops (i + 1) rest ((d, res') :: T) H' (cs ++ [⟨some d, (ids.zip (hs'.map (·.ren (nm ids)))).map (·.1), gRd ops.toArray o ++ rdT o.op, ids.take hs.length, ids.drop hs.length⟩]) K) : RunD P nx ops i (o :: rest) T H cs K :=
  runO_call hg ho hc hf hx ha hk hh (by rw [hd, hr]; subst hH; exact h)
end D
end
end Go.Abs
namespace Go.Abs
open Go.RowKit
section
variable {P : Program} {nt k nx nx' : Nat} {T T' : TL} {H H' : HL}
/-- A function's end where blocks of others were written. -/
theorem Fin.keep {rs : List ResultVar} {res : AV} {hs' : List AB} (hw : Wk nt k T H nx T' H' nx') (out : List Nat) {xs : List AV} (hx : resA P T' H' rs = some xs) (ho : outA xs = res.ren (nm out))
    (hb : (res.lt hs'.length && decide out.Nodup && decide (out.length = hs'.length) && (List.range k).all (fun j => nm out j == j) && hs'.all (fun x => match x with | .box _ l => AC.lts hs'.length l | _ => true)) = true)
    (hh : ∀ p ∈ enumL 0 hs', look H' (nm out p.1) = some (p.2.ren (nm out))) : Fin P nt k rs res hs' T H nx := by
  simp only [Bool.and_eq_true, List.all_eq_true, decide_eq_true_eq, beq_iff_eq, List.mem_range] at hb
  obtain ⟨⟨⟨⟨h1, h2⟩, h3⟩, h4⟩, h5⟩ := hb
  refine ⟨T', H', nx', out, xs, res, hw, hx, ho, h1, Sub.refl _, h2, h3, h4, fun j x hj => ⟨?_, fun ty l e => ?_⟩⟩
  · have : (j, x) ∈ enumL 0 hs' := look_mem (by rw [look_enum]; simpa using hj)
    exact hh (j, x) this
  · subst e; exact h5 _ (List.mem_of_getElem? hj)
theorem ACall.sub {f : FuncId} {args args' : List AV} {hs hs' : List AB} {r r' : AV} (h : ACall P f args hs r hs') (ha : ∀ w E vs, All2 (Rv w E) args' vs → All2 (Rv w E) args vs) (hr : Sub r r') : ACall P f args' hs r' hs' :=
  ⟨h.1, h.2.1, fun E w vs hvs h1 h2 h3 h4 h5 => (h.2.2 E w vs (ha w E _ hvs) h1 h2 h3 h4 h5).mono fun e w' ⟨v, E', he, hv, hu⟩ => ⟨v, E', he, hr _ _ _ hv, hu⟩⟩
end
end Go.Abs

/- Layer 1 by the pure model, 3: trees as cells; what was walked before is said in the words of the model. -/
set_option linter.unusedVariables false
set_option linter.unusedSimpArgs false
namespace Go.Proofs.Ytfhgknmkpegpbaa
open Go Go.Abs Go.Proofs Go.RowKit
mutual
/-- A tree as cells. -/
def treeC : Tm → List FC
  | .mk k n s l => [.v (.int .i64 k), .v (.int .i64 n), .v (.string s), .fz 4 (treesC l)]
def treesC : List Tm → List (List FC)
  | [] => []
  | t :: r => treeC t :: treesC r
end
theorem treesC_map (l : List Tm) : treesC l = l.map treeC := by
  induction l with
  | nil => rfl
  | cons t r ih => simp [treesC, ih]
theorem treeC_eq (t : Tm) : treeC t = [.v (.int .i64 t.k), .v (.int .i64 t.n), .v (.string t.s), .fz 4 (t.l.map treeC)] := by
  cases t with | mk k n s l => simp only [treeC, treesC_map]; rfl
theorem treeC_len (t : Tm) : (treeC t).length = 4 := by rw [treeC_eq]; rfl
/-- A row of trees. -/
abbrev tsF (l : List Tm) : FC := .fz 4 (l.map treeC)
abbrev tsA (l : List Tm) : AV := .one (.f (tsF l))
/-- A tree in a slot. -/
abbrev tA (t : Tm) : AV := .agg [.f (.v (.int .i64 t.k)), .f (.v (.int .i64 t.n)), .f (.v (.string t.s)), .f (tsF t.l)]
theorem TmC.toRf {P : Nat → Prop} {w : World} {A : Option Addr} {c : Nat} {l : List Tm} (h : TmC P w A c l) : Rf w P (tsF l) (.slice A l.length c) := by
  induction h with
  | @mk A c l es he hl hc hn hP hr hs hrec ih =>
    subst he
    have hlen : ((es.map (fun e => e.1)).map treeC).length = (es.map (fun e => e.1)).length := by simp
    rw [← hlen]
    by_cases hne : es = []
    · subst hne
      exact .fz 4 [] A c 0 0 (fun _ _ => undef) (by simp) hc hn (fun h => absurd rfl h) (by simp) (by simp) (by simp)
    · obtain ⟨g, off, hA, hcell⟩ := Rows.at 4 (fun _ => rfl) (by omega) hr hne
      obtain ⟨g', off', hA', hPg⟩ := hP (by simpa using hne)
      rw [hA] at hA'; injection hA' with hA'; injection hA' with hg ho _; subst hg ho
      have hget : ∀ (i : Nat) (e : List FC), ((es.map (fun e => e.1)).map treeC)[i]? = some e → ∃ x, es[i]? = some x ∧ e = treeC x.1 := fun i e hi => by
        rw [List.map_map, List.getElem?_map] at hi
        obtain ⟨x, hx, rfl⟩ := Option.map_eq_some_iff.1 hi
        exact ⟨x, hx, rfl⟩
      refine .fz 4 _ A c g off (fun i j => ((es[i]?).map fun e => (encE e).getD j undef).getD undef) (by simpa using hl) hc hn (fun _ => ⟨hA, hPg⟩) (fun i e hi => ?_) (fun i e j c' hi hj => ?_) (fun i e j c' hi hj => ?_)
      · obtain ⟨x, -, rfl⟩ := hget i e hi; exact treeC_len _
      · obtain ⟨x, hx, rfl⟩ := hget i e hi
        have hjl : j < 4 := by have := (List.getElem?_eq_some_iff.1 hj).1; rwa [treeC_len] at this
        have h1 : (encE x)[j]? = some ((encE x).getD j undef) := by
          rw [List.getD_eq_getElem?_getD, List.getElem?_eq_getElem (show j < (encE x).length from hjl)]; rfl
        have := hcell i x j _ hx h1
        rw [hx, Nat.add_assoc]; exact this
      · obtain ⟨x, hx, rfl⟩ := hget i e hi
        have hxm := List.mem_of_getElem? hx
        rw [hx]
        rw [treeC_eq] at hj
        have h2 := hs x hxm
        have h3 := ih x hxm
        match j, hj with
        | 0, hj => simp at hj; subst hj; exact .v _ rfl
        | 1, hj => simp at hj; subst hj; exact .v _ rfl
        | 2, hj => simp at hj; subst hj; exact .v _ (decide_eq_true (by unfold maxLen; omega))
        | 3, hj => simp at hj; subst hj; exact h3
        | j + 4, hj => simp at hj
theorem _root_.Go.Abs.Rf.val {w : World} {F : Nat → Prop} {x v : Value} (h : Rf w F (.v x) v) : v = x := by cases h; rfl
theorem _root_.Go.Abs.Rf.str {w : World} {F : Nat → Prop} {s : ByteArray} {v : Value} (h : Rf w F (.v (.string s)) v) : v = .string s ∧ s.size ≤ 9223372036854775807 := by
  cases h with | v _ h => exact ⟨rfl, by have := of_decide_eq_true h; unfold maxLen at this; omega⟩
theorem _root_.Go.Abs.Rf.toTmC {F : Nat → Prop} {w : World} : ∀ (n : Nat) (l : List Tm), Tm.sizes l ≤ n → ∀ v, Rf w F (tsF l) v → ∃ A c, v = .slice A l.length c ∧ TmC F w A c l := by
  intro n
  induction n with
  | zero =>
    intro l hl v h
    have : l = [] := by cases l with | nil => rfl | cons t r => rw [Tm.sizes] at hl; have := t.size_pos; omega
    subst this
    cases h with | fz sz l A cap g off vals h1 h2 h3 h4 h5 h6 h7 => exact ⟨A, cap, rfl, TmC.nil _ _ (by simpa [maxLen] using h2) h3⟩
  | succ n ih =>
    intro l hl v h
    generalize hq : tsF l = q at h
    cases h with
    | v => cases hq
    | fz sz l' A cap g off vals h1 h2 h3 h4 h5 h6 h7 =>
      have hq' : l' = l.map treeC := by injection hq with _ hq; exact hq.symm
      have hq4 : sz = 4 := by injection hq with hq _; exact hq.symm
      subst hq' hq4
      have hll : (l.map treeC).length = l.length := by simp
      refine ⟨A, cap, by rw [hll], ?_⟩
      have hel : ∀ (i : Nat) (t : Tm), l[i]? = some t → vals i 0 = .int .i64 t.k ∧ vals i 1 = .int .i64 t.n ∧ vals i 2 = .string t.s ∧ t.s.size ≤ 9223372036854775807 ∧ ∃ A c, vals i 3 = .slice A t.l.length c ∧ TmC F w A c t.l := fun i t hi => by
        have hi' : (l.map treeC)[i]? = some (treeC t) := by rw [List.getElem?_map, hi]; rfl
        have g := h7 i (treeC t)
        have g0 := g 0 (.v (.int .i64 t.k)) hi' (by rw [treeC_eq]; rfl)
        have g1 := g 1 (.v (.int .i64 t.n)) hi' (by rw [treeC_eq]; rfl)
        have g2 := g 2 (.v (.string t.s)) hi' (by rw [treeC_eq]; rfl)
        have g3 := g 3 (tsF t.l) hi' (by rw [treeC_eq]; rfl)
        have hm := List.mem_of_getElem? hi
        have h8 := Tm.size_mem hm
        have h9 := t.size_eq
        obtain ⟨q1, q2⟩ := Rf.str g2
        refine ⟨Rf.val g0, Rf.val g1, q1, q2, ih t.l (by omega) _ g3⟩
      classical
      let es : List EV := (List.range l.length).map fun i => ((l.getD i Tm.zero), match vals i 3 with | .slice A _ c => (A, c) | _ => (none, 0))
      have hes : ∀ (i : Nat) (t : Tm), l[i]? = some t → ∃ A c, es[i]? = some (t, A, c) ∧ vals i 3 = .slice A t.l.length c ∧ TmC F w A c t.l := fun i t hi => by
        have hil := (List.getElem?_eq_some_iff.1 hi).1
        obtain ⟨-, -, -, -, A, c, e, ht⟩ := hel i t hi
        exact ⟨A, c, by simp [es, hil, e, List.getD_eq_getElem?_getD]; exact (List.getElem?_eq_some_iff.1 hi).2, e, ht⟩
      have hel2 : es.length = l.length := by simp [es]
      have hmem : ∀ e ∈ es, ∃ i, l[i]? = some e.1 ∧ es[i]? = some e := fun e he => by
        obtain ⟨i, hi, rfl⟩ := List.mem_iff_getElem.1 he
        have hil : i < l.length := by omega
        obtain ⟨A, c, e1, -⟩ := hes i _ (List.getElem?_eq_getElem hil)
        have e2 := List.getElem?_eq_getElem hi
        rw [e1] at e2
        injection e2 with e2
        exact ⟨i, by rw [← e2]; exact List.getElem?_eq_getElem hil, List.getElem?_eq_getElem hi⟩
      refine .mk es ?_ (by rw [← hll]; exact h1) (by simpa [maxLen] using h2) h3 (fun hne => ?_) (fun hne => ?_) (fun e he => ?_) (fun e he => ?_)
      · apply List.ext_getElem?
        intro i
        rw [List.getElem?_map]
        cases hi : l[i]? with
        | none => rw [List.getElem?_eq_none (by rw [hel2]; exact List.getElem?_eq_none_iff.1 hi)]; rfl
        | some t => obtain ⟨A, c, e1, -⟩ := hes i t hi; rw [e1]; rfl
      · obtain ⟨q1, q2⟩ := h4 (by intro e; exact hne (List.map_eq_nil_iff.1 e))
        exact ⟨g, off, q1, q2⟩
      · have hne2 : l ≠ [] := fun e => by subst e; simp [es] at hne
        obtain ⟨q1, q2⟩ := h4 (by intro e; exact hne2 (List.map_eq_nil_iff.1 e))
        refine ⟨g, off, q1, fun j v hj => ?_⟩
        have hjl : j < es.length * 4 := by have := (List.getElem?_eq_some_iff.1 hj).1; rwa [flatMap_len encE 4 (fun _ => rfl)] at this
        have hi : j / 4 < es.length := by omega
        have hil : j / 4 < l.length := by omega
        obtain ⟨A', c', e1, e2, -⟩ := hes (j / 4) _ (List.getElem?_eq_getElem hil)
        have hf := flatMap_get encE 4 (fun _ => rfl) es (j / 4) (j % 4) _ e1 (by omega)
        rw [show j / 4 * 4 + j % 4 = j by omega, hj] at hf
        obtain ⟨v0, v1, v2, -⟩ := hel (j / 4) _ (List.getElem?_eq_getElem hil)
        have hi' : (l.map treeC)[j / 4]? = some (treeC l[j / 4]) := by simp [hil]
        have hjm : j % 4 < 4 := Nat.mod_lt _ (by omega)
        have hc := h6 (j / 4) (treeC l[j / 4]) (j % 4) _ hi' (List.getElem?_eq_getElem (by rw [treeC_len]; exact hjm))
        rw [show off + j / 4 * 4 + j % 4 = off + j by omega] at hc
        rw [hc, hf]
        have h4 : j % 4 = 0 ∨ j % 4 = 1 ∨ j % 4 = 2 ∨ j % 4 = 3 := by omega
        rcases h4 with e | e | e | e <;> rw [e]
        · rw [v0]; rfl
        · rw [v1]; rfl
        · rw [v2]; rfl
        · rw [e2]; rfl
      · obtain ⟨i, h8, -⟩ := hmem e he
        exact (hel i _ h8).2.2.2.1
      · obtain ⟨i, h8, h9⟩ := hmem e he
        obtain ⟨A', c', e1, -, ht⟩ := hes i _ h8
        rw [h9] at e1
        injection e1 with e1
        rw [e1]; exact ht
theorem _root_.Go.Abs.Rv.toTmC {w : World} {E : En} {l : List Tm} {v : Value} (h : Rv w E (tsA l) v) : ∃ A c, v = .slice A l.length c ∧ TmC E.F w A c l := by
  cases h with | one h => cases h with | f h => exact Rf.toTmC _ l (Nat.le_refl _) v h
theorem _root_.Go.Abs.Rv.toTmV {w : World} {E : En} {t : Tm} {v : Value} (h : Rv w E (tA t) v) : TmV E.F w v t := by
  obtain ⟨vs, rfl, hall⟩ := Rv.agg_inv h
  obtain ⟨v0, e0, c0⟩ := hall.2 0 _ rfl
  obtain ⟨v1, e1, c1⟩ := hall.2 1 _ rfl
  obtain ⟨v2, e2, c2⟩ := hall.2 2 _ rfl
  obtain ⟨v3, e3, c3⟩ := hall.2 3 _ rfl
  have hl : vs.toList.length = 4 := hall.1
  have g0 := (Rv.one c0).val_inv
  have g1 := (Rv.one c1).val_inv
  obtain ⟨g2, hs⟩ := Rf.str (by cases c2 with | f h => exact h)
  obtain ⟨A, c, g3, ht⟩ := Rv.toTmC (.one c3)
  refine ⟨A, c, ?_, hs, ht⟩
  congr 1
  apply Array.toList_inj.1
  apply List.ext_getElem?
  intro j
  match j with
  | 0 => rw [e0, g0]; rfl
  | 1 => rw [e1, g1]; rfl
  | 2 => rw [e2, g2]; rfl
  | 3 => rw [e3, g3]; rfl
  | j + 4 => rw [List.getElem?_eq_none (by omega)]; rfl
theorem TmC.toRv {P : Nat → Prop} {w : World} {E : En} {A : Option Addr} {c : Nat} {l : List Tm} (h : TmC P w A c l) (hP : ∀ g, P g → E.F g) : Rv w E (tsA l) (.slice A l.length c) :=
  .one (.f ((TmC.toRf h).mono hP (Agree.refl _ _)))
theorem TmC.toRvT {P : Nat → Prop} {w : World} {E : En} {A : Option Addr} {c : Nat} {t : Tm} (hs : t.s.size ≤ 9223372036854775807) (h : TmC P w A c t.l) (hP : ∀ g, P g → E.F g) : Rv w E (tA t) (.agg #[.int .i64 t.k, .int .i64 t.n, .string t.s, .slice A t.l.length c]) := by
  refine Rv.ofAll2 (All2.cons (.f (.v _ rfl)) (All2.cons (.f (.v _ rfl)) (All2.cons (.f (.v _ ?_)) (All2.cons (.f ((TmC.toRf h).mono hP (Agree.refl _ _))) (All2.nil _)))))
  exact decide_eq_true (by unfold maxLen; omega)
end Go.Proofs.Ytfhgknmkpegpbaa

set_option linter.unusedVariables false
set_option linter.unusedSimpArgs false
namespace Go.Proofs.Ytfhgknmkpegpbaa
open Go.RowKit

set_option maxRecDepth 100000 in
set_option maxHeartbeats 4000000 in
theorem refNodes_calls (t : Tm) : ∀ (P : Nat → Prop) (w : World) (v : Value), TmV P w v t → Calls Try.prog 122 #[v] w (RetB w t.okB) := by
  induction t using Tm.ind with
  | h t ih =>
    intro P w v hv
    obtain ⟨A, c, rfl, hs, hc⟩ := hv
    have Ih := Lib.hid ih; clear ih
    obtain ⟨W0, hW0⟩ : ∃ W0, W0 = w.alloc (.cells #[.int .i64 t.k, .int .i64 t.n, .string t.s, .slice A t.l.length c] 25) := ⟨_, rfl⟩
    have hB0 : Below w.heap.size w W0 := by rw [hW0]; exact (Below.refl _ _).alloc (Nat.le_refl _) _
    have hX0 : Blk W0 w.heap.size 25 #[.int .i64 t.k, .int .i64 t.n, .string t.s, .slice A t.l.length c] := by rw [hW0]; exact Blk.new _ _ _
    have lx0 := hX0.lt
    have hlc := hc.len.1
    have hlm := hc.len.2.1
    have Hc := Lib.hid (hc.stay hB0 (Nat.le_refl _)); clear hc
    have HX0 := Lib.hid hX0; clear hX0
    have HB0 := Lib.hid hB0; clear hB0
    have HW := Lib.hid hW0; clear hW0
    have hsp := t.okB_eq
    obtain ⟨r, hr⟩ : ∃ r, r = nodeB t := ⟨_, rfl⟩
    have hcall := refNode_calls t P W0 _ ⟨A, c, rfl, hs, Hc.out⟩
    rw [← hr] at hcall hsp
    have Hcall := Lib.hid hcall; clear hcall
    have Hsp := Lib.hid hsp; clear hsp hr
    go_enter Try.func122, Try.ntmps122
    go_wp2_with fail
    rw [← HW.out]
    refine Hcall.out.mono ?_
    rintro e w1 ⟨rfl, hb⟩
    have HB1 := Lib.hid hb; clear hb
    cases r
    · have Hr := Lib.hid (show t.okB = false from by rw [Hsp.out]; rfl)
      go_wp2
      go_ret
      exact ⟨by rw [Hr.out]; rfl, HB0.out.trans (HB1.out.mono HB0.out.size)⟩
    have Hok := Lib.hid (show t.okB = Tm.okBs t.l from by rw [Hsp.out]; rfl)
    go_wp2
    go_loopw [3] (fun i wr => ∃ k : Nat, k ≤ t.l.length ∧ i = .int .i64 k ∧ Tm.okBs (t.l.take k) = true ∧ Below W0.heap.size W0 wr) (fun i _ => t.l.length - (intOf i).toNat)
    case atStart => exact ⟨0, Nat.zero_le _, rfl, by simp [Tm.okBs], HB1.out⟩
    case round =>
      obtain ⟨k, hk, rfl, hal, hB⟩ := hrel
      obtain ⟨⟨b0, b1, b2, b3⟩, -⟩ := (HX0.out.below hB lx0).four
      have HB := Lib.hid hB; clear hB
      have Hal := Lib.hid hal; clear hal
      by_cases hlt : k < t.l.length
      · obtain ⟨x, hx⟩ : ∃ x, t.l[k]? = some x := ⟨_, List.getElem?_eq_getElem hlt⟩
        obtain ⟨g, off, Ai, ci, rfl, -, ⟨e0, e1, e2, e3⟩, hxs, hxc⟩ := (Hc.out.stay HB.out (Nat.le_refl _)).at_ hx
        have hxm := List.mem_of_getElem? hx
        have Hxo := Lib.hid (Tm.okBs_take hx)
        obtain ⟨b, hb'⟩ : ∃ b, b = x.okB := ⟨_, rfl⟩
        have hcall := Ih.out x hxm P wr _ ⟨Ai, ci, rfl, hxs, hxc⟩
        rw [← hb'] at hcall
        have Hcall2 := Lib.hid hcall; clear hcall hxc hx
        have Hb := Lib.hid hb'; clear hb'
        go_wp2_with fail
        refine Hcall2.out.mono ?_
        rintro e w2 ⟨rfl, hb⟩
        have HB2 := Lib.hid (HB.out.trans (hb.mono HB.out.size)); clear hb
        cases b
        · have Hr := Lib.hid (show t.okB = false from by
            rw [Hok.out, ← Bool.not_eq_true]
            intro h
            have := Tm.okBs_mem h hxm
            rw [← Hb.out] at this
            exact absurd this (by simp))
          go_wp2
          go_ret
          exact ⟨by rw [Hr.out]; rfl, HB0.out.trans (HB2.out.mono HB0.out.size)⟩
        · go_wp2
          go_roundw
          case rel => exact ⟨k + 1, by omega, by go_num, by rw [Hxo.out, Hal.out, ← Hb.out]; rfl, HB2.out⟩
          case measure => simp [intOf]; omega
      · have hke : k = t.l.length := by omega
        subst hke
        have Hr := Lib.hid (show t.okB = true from by have := Hal.out; rw [List.take_length] at this; rw [Hok.out, this])
        go_wp2
        go_ret
        exact ⟨by rw [Hr.out]; rfl, HB0.out.trans (HB.out.mono HB0.out.size)⟩

set_option maxRecDepth 100000 in
set_option maxHeartbeats 4000000 in
theorem refIs_calls (t : Tm) (P : Nat → Prop) (w : World) (v : Value) (hv : TmV P w v t) (hsz : t.size ≤ 1000000) : Calls Try.prog 79 #[v] w (RetB w (isB t)) := by
  obtain ⟨A, c, rfl, hs, hc⟩ := hv
  obtain ⟨W0, hW0⟩ : ∃ W0, W0 = w.alloc (.cells #[.int .i64 t.k, .int .i64 t.n, .string t.s, .slice A t.l.length c] 25) := ⟨_, rfl⟩
  have hB0 : Below w.heap.size w W0 := by rw [hW0]; exact (Below.refl _ _).alloc (Nat.le_refl _) _
  have hX0 : Blk W0 w.heap.size 25 #[.int .i64 t.k, .int .i64 t.n, .string t.s, .slice A t.l.length c] := by rw [hW0]; exact Blk.new _ _ _
  have lx0 := hX0.lt
  have hlc := hc.len.1
  have hlm := hc.len.2.1
  have Hc := Lib.hid (hc.stay hB0 (Nat.le_refl _)); clear hc
  have HX0 := Lib.hid hX0; clear hX0
  have HB0 := Lib.hid hB0; clear hB0
  have HW := Lib.hid hW0; clear hW0
  have hdep := t.depth_le
  go_enter Try.func79, Try.ntmps79
  go_wp2_with fail
  rw [← HW.out]
  refine (refSize_calls t P W0 _ ⟨A, c, rfl, hs, Hc.out⟩ hsz).mono ?_
  rintro e w1 ⟨rfl, hb⟩
  obtain ⟨⟨b0, b1, b2, b3⟩, -⟩ := (HX0.out.below hb lx0).four
  have hbw := HB0.out.trans (hb.mono HB0.out.size)
  have HB1 := Lib.hid hb; clear hb
  have HBw := Lib.hid hbw; clear hbw
  by_cases h1 : t.size ≤ 4000
  case neg =>
    have Hr := Lib.hid (show isB t = false from by rw [isB, decide_eq_false h1]; simp)
    have d1 : decide (t.size ≤ 4000) = false := decide_eq_false h1
    have d1' : decide ((t.size : Int) ≤ 4000) = false := decide_eq_false (by omega)
    go_wp2
    go_ret
    exact ⟨by rw [Hr.out]; rfl, HBw.out⟩
  have d1 : decide (t.size ≤ 4000) = true := decide_eq_true h1
  have d1' : decide ((t.size : Int) ≤ 4000) = true := decide_eq_true (by omega)
  by_cases h2 : t.depth ≤ 600
  case neg =>
    have Hr := Lib.hid (show isB t = false from by rw [isB, decide_eq_false h2]; simp)
    have d2 : decide (t.depth ≤ 600) = false := decide_eq_false h2
    have d2' : decide ((t.depth : Int) ≤ 600) = false := decide_eq_false (by omega)
    go_wp2
    go_ret
    exact ⟨by rw [Hr.out]; rfl, HBw.out⟩
  have d2 : decide (t.depth ≤ 600) = true := decide_eq_true h2
  have d2' : decide ((t.depth : Int) ≤ 600) = true := decide_eq_true (by omega)
  have Hr := Lib.hid (show isB t = t.okB from by rw [isB, d1, d2]; simp)
  go_wp2_with fail
  refine (refNodes_calls t P w1 _ ⟨A, c, rfl, hs, Hc.out.stay HB1.out (Nat.le_refl _)⟩).mono ?_
  rintro e w2 ⟨rfl, hb⟩
  have HB2 := Lib.hid (HBw.out.trans (hb.mono HBw.out.size)); clear hb
  go_wp2
  go_ret
  exact ⟨by rw [Hr.out]; rfl, HB2.out⟩

set_option maxRecDepth 100000 in
set_option maxHeartbeats 4000000 in
theorem refCheck_calls (t : Tm) (P : Nat → Prop) (w : World) (v : Value) (hv : TmV P w v t) (hsz : t.size ≤ 1000000) : Calls Try.prog 23 #[v] w (RetN w (errT (isB t))) := by
  obtain ⟨A, c, rfl, hs, hc⟩ := hv
  obtain ⟨W0, hW0⟩ : ∃ W0, W0 = w.alloc (.cells #[.int .i64 t.k, .int .i64 t.n, .string t.s, .slice A t.l.length c] 25) := ⟨_, rfl⟩
  have hB0 : Below w.heap.size w W0 := by rw [hW0]; exact (Below.refl _ _).alloc (Nat.le_refl _) _
  have hX0 : Blk W0 w.heap.size 25 #[.int .i64 t.k, .int .i64 t.n, .string t.s, .slice A t.l.length c] := by rw [hW0]; exact Blk.new _ _ _
  have lx0 := hX0.lt
  have hlc := hc.len.1
  have hlm := hc.len.2.1
  have Hc := Lib.hid (hc.stay hB0 (Nat.le_refl _)); clear hc
  have HX0 := Lib.hid hX0; clear hX0
  have HB0 := Lib.hid hB0; clear hB0
  have HW := Lib.hid hW0; clear hW0
  obtain ⟨r, hr⟩ : ∃ r, r = isB t := ⟨_, rfl⟩
  have hcall := refIs_calls t P W0 _ ⟨A, c, rfl, hs, Hc.out⟩ hsz
  rw [← hr] at hcall ⊢
  have Hcall := Lib.hid hcall; clear hcall hr
  go_enter Try.func23, Try.ntmps23
  go_wp2_with fail
  rw [← HW.out]
  refine Hcall.out.mono ?_
  rintro e w1 ⟨rfl, hb⟩
  have HBw := Lib.hid (HB0.out.trans (hb.mono HB0.out.size)); clear hb
  cases r
  · go_wp2
    go_ret
    exact ⟨rfl, HBw.out⟩
  · go_wp2
    go_ret
    exact ⟨rfl, HBw.out⟩
theorem allIs_iff {l : List Tm} : allIs l = true ↔ ∀ x ∈ l, isB x = true := by rw [allIs, List.all_eq_true]
theorem okBs_iff : ∀ {l : List Tm}, Tm.okBs l = true ↔ ∀ x ∈ l, x.okB = true
  | [] => by simp [Tm.okBs]
  | x :: xs => by rw [Tm.okBs, Bool.and_eq_true, okBs_iff]; simp
theorem depths_iff : ∀ {l : List Tm} {n : Nat}, Tm.depths l ≤ n ↔ ∀ x ∈ l, x.depth ≤ n
  | [], n => by simp [Tm.depths]
  | x :: xs, n => by rw [Tm.depths, Nat.max_le, depths_iff]; simp
theorem together_iff (l : List Tm) : allB l = (allIs l && decide (Tm.sizes l ≤ 4000)) := by
  rw [Bool.eq_iff_iff, allB_iff, Bool.and_eq_true, allIs_iff, decide_eq_true_eq, okBs_iff, depths_iff]
  constructor
  · rintro ⟨h1, h2, h3⟩
    exact ⟨fun x hx => isB_iff.2 ⟨h1 x hx, by have := Tm.size_mem hx; omega, h3 x hx⟩, h2⟩
  · rintro ⟨h1, h2⟩
    exact ⟨fun x hx => (isB_iff.1 (h1 x hx)).1, h2, fun x hx => (isB_iff.1 (h1 x hx)).2.2⟩

set_option maxRecDepth 100000 in
set_option maxHeartbeats 4000000 in
theorem refTogether_calls (l : List Tm) (P : Nat → Prop) (A : Option Addr) (c : Nat) (w : World) (hc : TmC P w A c l) (hsz : Tm.sizes l ≤ 1000000) : Calls Try.prog 46 #[.slice A l.length c] w (RetB w (allB l)) := by
  have hlm := hc.len.2.1
  have hlc := hc.len.1
  have Hc := Lib.hid hc; clear hc
  have Htg := Lib.hid (together_iff l)
  go_enter Try.func46, Try.ntmps46
  go_wp2
  go_loopw [3, 4] (fun n i wr => ∃ k : Nat, k ≤ l.length ∧ i = .int .i64 k ∧ n = .int .i64 (Tm.sizes (l.take k) : Nat) ∧ (l.take k).all isB = true ∧ Below w.heap.size w wr) (fun _ i _ => l.length - (intOf i).toNat)
  case atStart => exact ⟨0, Nat.zero_le _, rfl, by simp [Tm.sizes], by simp, Below.refl _ _⟩
  case round =>
    obtain ⟨k, hk, rfl, rfl, hal, hB⟩ := hrel
    have HB := Lib.hid hB; clear hB
    have Hal := Lib.hid hal; clear hal
    obtain ⟨sz, hsz'⟩ : ∃ sz, sz = Tm.sizes (l.take k) := ⟨_, rfl⟩
    have hszb : sz ≤ 1000000 := by have := Tm.sizes_le_take l k; omega
    rw [← hsz']
    have Hsz' := Lib.hid hsz'; clear hsz'
    by_cases hlt : k < l.length
    · obtain ⟨x, hx⟩ : ∃ x, l[k]? = some x := ⟨_, List.getElem?_eq_getElem hlt⟩
      obtain ⟨g, off, Ai, ci, rfl, -, ⟨e0, e1, e2, e3⟩, hxs, hxc⟩ := (Hc.out.stay HB.out (Nat.le_refl _)).at_ hx
      have hxm := List.mem_of_getElem? hx
      have Hts := Lib.hid (take_snoc hx)
      have Hxz := Lib.hid (Tm.sizes_take hx)
      have hxsz : x.size ≤ 1000000 := by have := Tm.size_mem hxm; omega
      have hxsum : sz + x.size ≤ 1000000 := by have := Tm.sizes_le_take l (k + 1); have := Hsz'.out; have := Hxz.out; omega
      obtain ⟨b, hb'⟩ : ∃ b, b = isB x := ⟨_, rfl⟩
      have hcall := refIs_calls x P wr _ ⟨Ai, ci, rfl, hxs, hxc⟩ hxsz
      rw [← hb'] at hcall
      have Hcall := Lib.hid hcall; clear hcall hx
      have Hxc := Lib.hid hxc; clear hxc
      have Hb := Lib.hid hb'; clear hb'
      have Hcells := Lib.hid (And.intro e0 (And.intro e1 (And.intro e2 e3)))
      go_wp2_with fail
      refine Hcall.out.mono ?_
      rintro e w2 ⟨rfl, hb⟩
      have HB2 := Lib.hid (HB.out.trans (hb.mono HB.out.size))
      have HB12 := Lib.hid hb
      replace e0 := keep_cell hb e0
      replace e1 := keep_cell hb e1
      replace e2 := keep_cell hb e2
      replace e3 := keep_cell hb e3
      clear hb
      cases b
      · have Hr := Lib.hid (show allB l = false from by
          rw [Htg.out]
          have : allIs l = false := by rw [allIs, List.all_eq_false]; exact ⟨x, hxm, by rw [← Hb.out]; simp⟩
          rw [this]; rfl)
        go_wp2
        go_ret
        exact ⟨by rw [Hr.out]; rfl, HB2.out⟩
      · have hdl := x.depth_le
        go_wp2_with fail
        refine (refSize_calls x P w2 _ ⟨Ai, ci, rfl, hxs, Hxc.out.stay HB12.out (Nat.le_refl _)⟩ hxsz).mono ?_
        rintro e w3 ⟨rfl, hb⟩
        have HB3 := Lib.hid (HB2.out.trans (hb.mono HB2.out.size)); clear hb e0 e1 e2 e3
        go_wp2
        go_roundw
        case rel => exact ⟨k + 1, by omega, by go_num, by rw [Hxz.out, ← Hsz'.out]; go_num, by rw [Hts.out, List.all_append, Hal.out]; simp [← Hb.out], HB3.out⟩
        case measure => simp [intOf]; omega
    · have hke : k = l.length := by omega
      subst hke
      have Hr := Lib.hid (show allB l = decide (sz ≤ 4000) from by
        have h1 := Hal.out
        have h2 := Hsz'.out
        rw [List.take_length] at h1 h2
        rw [Htg.out, show allIs l = true from h1, h2]; rfl)
      by_cases hd : sz ≤ 4000
      · have d1 : decide (sz ≤ 4000) = true := decide_eq_true hd
        have d1' : decide ((sz : Int) ≤ 4000) = true := decide_eq_true (by omega)
        go_wp2
        go_ret
        exact ⟨by rw [Hr.out, d1]; rfl, HB.out⟩
      · have d1 : decide (sz ≤ 4000) = false := decide_eq_false hd
        have d1' : decide ((sz : Int) ≤ 4000) = false := decide_eq_false (by omega)
        go_wp2
        go_ret
        exact ⟨by rw [Hr.out, d1]; rfl, HB.out⟩

set_option maxRecDepth 100000 in
set_option maxHeartbeats 4000000 in
theorem refCheckAll_calls (l : List Tm) (P : Nat → Prop) (A : Option Addr) (c : Nat) (w : World) (hc : TmC P w A c l) (hsz : Tm.sizes l ≤ 1000000) : Calls Try.prog 19 #[.slice A l.length c] w (RetN w (errT (allB l))) := by
  obtain ⟨r, hr⟩ : ∃ r, r = allB l := ⟨_, rfl⟩
  have hcall := refTogether_calls l P A c w hc hsz
  rw [← hr] at hcall ⊢
  have Hcall := Lib.hid hcall; clear hcall hr hc
  go_enter Try.func19, Try.ntmps19
  go_wp2_with fail
  refine Hcall.out.mono ?_
  rintro e w1 ⟨rfl, hb⟩
  have HBw := Lib.hid hb; clear hb
  cases r
  · go_wp2
    go_ret
    exact ⟨rfl, HBw.out⟩
  · go_wp2
    go_ret
    exact ⟨rfl, HBw.out⟩
end Go.Proofs.Ytfhgknmkpegpbaa

/- Steps in a region whose order is drawn: one operation that may be taken first, one that comes up alone, and several that make memory in whatever order. -/
set_option linter.unusedVariables false
set_option linter.unusedSimpArgs false
namespace Go.Proofs.Ytfhgknmkpegpbaa
open Go.RowKit

section
variable {P : Program} {ops : Array Oper} {Q : Exit → Act → World → Prop} {md : Region.Mode} {S : World → Prop}
theorem takeH {i d : Nat} {fuel : Nat} {listed : Array Bool} {a : Act} {w : World} (v : Value) (hd : (ops[i]?).map Oper.dst = some (some d)) (hs : Region.noSelect ops = true) (hf : Region.free md ops listed i = true) (hr : (Region.ready md ops listed).contains i = true)
    (hQ : ∀ c a d w, Q (.panic c) (a.put d v) w → Q (.panic c) a w) (hy : ∀ o, ops[i]? = some o → YieldsIf P ops S o v a) (hS : S w)
    (h : wpAnyH P md ops Q S fuel (listed.setIfInBounds i true) (a.put (some d) v) w) : wpAnyH P md ops Q S (fuel + 1) listed a w := by
  cases ho : ops[i]? with
  | none => rw [ho] at hd; cases hd
  | some o =>
    rw [ho] at hd
    injection hd with hd
    refine wpAnyH_take ho hs hf hr (fun c a w hq => hQ c a o.dst w hq) (hy o ho) hS ?_
    rw [show o.dst = some d from hd]
    exact h
theorem stepH {i : Nat} {fuel : Nat} {listed : Array Bool} {a : Act} {w : World} (hr : Region.ready md ops listed = [i]) (hi : (ops[i]?).isSome = true)
    (h : ∀ o, ops[i]? = some o → ∀ K' : Act → World → Prop, Shut (∀ a w, S w → (S w → wpAnyH P md ops Q S fuel (listed.setIfInBounds i true) a w) → K' a w) → if Region.wanted o (yielded ops a.tmps) = true then Oper.wp P o a w K' Q else K' (a.put o.dst undef) w) :
    wpAnyH P md ops Q S (fuel + 1) listed a w := by
  cases ho : ops[i]? with
  | none => rw [ho] at hi; cases hi
  | some o => exact wpAnyH_ready hr (by simp) (AllReadyH.cons ho (h o ho) AllReadyH.nil)
/-- Several operations that make memory, in whatever order. -/
theorem allocsH (idx : List Nat) (L : (Nat → Bool) → Array Bool) (A : (Nat → Value) → Act) (F : Nat → Value → World → Prop) (fuel : Nat)
    (hLc : ∀ d d' : Nat → Bool, (∀ i ∈ idx, d i = d' i) → L d = L d')
    (hready : ∀ d : Nat → Bool, (∃ i ∈ idx, d i = false) → Region.ready md ops (L d) = idx.filter (fun i => !d i))
    (hset : ∀ (d : Nat → Bool) (i : Nat), i ∈ idx → (L d).setIfInBounds i true = L (fun j => if j = i then true else d j))
    (hstep : ∀ i ∈ idx, ∀ (vals : Nat → Value) (w : World) (K : Act → World → Prop), S w → (∀ x w', S w' → Below w.heap.size w w' → F i x w' → K (A (fun j => if j = i then x else vals j)) w') → wpOp P ops Q i K (A vals) w)
    (hF : ∀ i x (w w' : World), F i x w → Below w.heap.size w w' → F i x w')
    (hfin : ∀ vals w, S w → (∀ i ∈ idx, F i (vals i) w) → wpAnyH P md ops Q S fuel (L (fun _ => true)) (A vals) w) :
    ∀ (n : Nat) (d : Nat → Bool) (vals : Nat → Value) (w : World), (idx.filter (fun i => !d i)).length = n → idx.Nodup → S w → (∀ i ∈ idx, d i = true → F i (vals i) w) → wpAnyH P md ops Q S (fuel + n) (L d) (A vals) w := by
  intro n
  induction n with
  | zero =>
    intro d vals w hn hnd hS hd
    have hall : ∀ i ∈ idx, d i = true := fun i hi => by
      cases hdi : d i with
      | true => rfl
      | false =>
        have : i ∈ idx.filter (fun i => !d i) := List.mem_filter.2 ⟨hi, by rw [hdi]; rfl⟩
        rw [List.length_eq_zero_iff.1 hn] at this
        cases this
    rw [hLc d (fun _ => true) hall]
    exact hfin vals w hS (fun i hi => hd i hi (hall i hi))
  | succ n ih =>
    intro d vals w hn hnd hS hd
    have hex : ∃ i ∈ idx, d i = false := by
      cases hl : idx.filter (fun i => !d i) with
      | nil => rw [hl] at hn; cases hn
      | cons i l =>
        have : i ∈ idx.filter (fun i => !d i) := by rw [hl]; exact List.mem_cons_self ..
        have h2 := List.mem_filter.1 this
        exact ⟨i, h2.1, by simpa using h2.2⟩
    refine wpAnyH_all (hready d hex) (fun e => by rw [e] at hn; cases hn) fun i hi => ?_
    have h2 := List.mem_filter.1 hi
    have hdi : d i = false := by simpa using h2.2
    refine hstep i h2.1 vals w _ hS fun x w' hS' hb hFx => ⟨hS', ?_⟩
    rw [hset d i h2.1]
    refine ih _ _ w' ?_ hnd hS' fun j hj hdj => ?_
    · have h3 : idx.filter (fun j => !(if j = i then true else d j)) = (idx.filter (fun j => !d j)).erase i := by
        rw [List.Nodup.erase_eq_filter (hnd.filter _), List.filter_filter]
        apply List.filter_congr
        intro j hj
        by_cases e : j = i
        · subst e; simp
        · simp [e]
      rw [h3, List.length_erase_of_mem hi, hn]; rfl
    · by_cases e : j = i
      · subst e; rw [if_pos rfl]; exact hFx
      · rw [if_neg e]; rw [if_neg e] at hdj; exact hF j _ w w' (hd j hj hdj) hb
end
end Go.Proofs.Ytfhgknmkpegpbaa
