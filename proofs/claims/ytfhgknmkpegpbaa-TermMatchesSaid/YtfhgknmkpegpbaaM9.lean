/- Part 9 of the base: the walks and plain facts that the statement rests on. -/
import Derived.Test.YtfhgknmkpegpbaaM8
import Derived.Test.YtfhgknmkpegpbaaProg
import Derived.Test.YtfhgknmkpegpbaaM1
import Derived.Test.YtfhgknmkpegpbaaM3
import Derived.Test.YtfhgknmkpegpbaaM2
import Derived.Test.YtfhgknmkpegpbaaM6

set_option linter.unusedVariables false
set_option linter.unusedSimpArgs false
namespace Go.Abs
open Go.RowKit
section generic
variable {α : Type} (app : Nat → (Nat → Option α) → Nat → Option α)
def ap (S : Nat → Bool) : Nat → (Nat → Option α) → Nat → Option α
 | 0, f => f
 | n + 1, f => if S n then app n (ap S n f) else ap S n f
variable (wr : Nat → Nat → Prop) (h1 : ∀ i f l, ¬ wr i l → app i f l = f l) (h2 : ∀ i f g l, wr i l → app i f l = app i g l)
include h1 in
theorem ap_none {S : Nat → Bool} {n l : Nat} {f : Nat → Option α} (h : ∀ j, j < n → S j = true → ¬ wr j l) : ap app S n f l = f l := by
 induction n with
 | zero => rfl
 | succ n ih =>
  simp only [ap]
  split
  ·rename_i hs; rw [h1 _ _ _ (h n (by omega) hs)]; exact ih fun j hj => h j (by omega)
  ·exact ih fun j hj => h j (by omega)
include h1 h2 in
theorem ap_agree {S S' : Nat → Bool} {n l : Nat} {f : Nat → Option α} (h : ∀ j, j < n → wr j l → S j = S' j) : ap app S n f l = ap app S' n f l := by
 induction n with
 | zero => rfl
 | succ n ih =>
  have ih := ih fun j hj => h j (by omega)
  simp only [ap]
  by_cases hw : wr n l
  ·rw [h n (by omega) hw]
   split
   ·exact h2 _ _ _ _ hw
   ·exact ih
  ·have e1 : (if S n = true then app n (ap app S n f) else ap app S n f) l = ap app S n f l := by split; exact h1 _ _ _ hw; rfl
   have e2 : (if S' n = true then app n (ap app S' n f) else ap app S' n f) l = ap app S' n f l := by split; exact h1 _ _ _ hw; rfl
   rw [e1, e2]; exact ih
include h1 h2 in
theorem ap_add {S : Nat → Bool} {n i l : Nat} {f : Nat → Option α} (hi : i < n) (h : ∀ j, i < j → j < n → S j = true → wr j l → ¬ wr i l) :
  ap app (fun j => j == i || S j) n f l = app i (ap app S n f) l := by
 by_cases hw : wr i l
 ·have key : ∀ m, i < m → m ≤ n → ∀ g, ap app (fun j => j == i || S j) m f l = app i g l := by
   intro m
   induction m with
   | zero => intro hm; omega
   | succ m ih =>
    intro hm hmn g
    simp only [ap]
    by_cases e : m = i
    ·subst e; rw [if_pos (by simp)]; exact h2 _ _ _ _ hw
    ·have hb : (m == i || S m) = S m := by simp [e]
     have hlt : i < m := by omega
     split
     ·rename_i hs0
      have hs : S m = true := hb ▸ hs0
      rw [h1 _ _ _ fun hwm => h m hlt (by omega) hs hwm hw]
      exact ih hlt (by omega) g
     ·exact ih hlt (by omega) g
  exact key n hi (Nat.le_refl _) _
 ·rw [h1 _ _ _ hw]
  refine ap_agree app wr h1 h2 fun j hj hwj => ?_
  by_cases e : j = i
  ·subst e; exact absurd hwj hw
  ·simp [e]
theorem ap_lt {n i : Nat} {f : Nat → Option α} (hi : i ≤ n) : ap app (fun j => decide (j < i)) n f = ap app (fun _ => true) i f := by
  induction n with
  | zero => have : i = 0 := by omega
            subst this; rfl
  | succ n ih =>
    by_cases e : i = n + 1
    · subst e
      have : ∀ m, m ≤ n + 1 → ap app (fun j => decide (j < n + 1)) m f = ap app (fun _ => true) m f := by
        intro m
        induction m with
        | zero => intro _; rfl
        | succ m ih2 => intro hm; simp only [ap]; rw [ih2 (by omega)]; rw [if_pos (by simp; omega)]; simp
      exact this _ (Nat.le_refl _)
    · simp only [ap]
      rw [if_neg (by simp; omega)]
      exact ih (by omega)
include h1 h2 in
theorem ap_pre {S : Nat → Bool} {n i l : Nat} {f : Nat → Option α} (hi : i ≤ n) (h : ∀ j, j < n → wr j l → S j = decide (j < i)) : ap app S n f l = ap app (fun _ => true) i f l := by
 rw [ap_agree app wr h1 h2 h, ap_lt app hi]
end generic
structure Chk where
 wt : Option Nat
 wb : List Nat
 rt : List Nat
 rb : List Nat
 fr : List Nat
def Rec.chk (r : Rec) : Chk := ⟨r.dst, r.ws.map (·.1), r.rt, r.rb, r.fr⟩
def clash (a b : Chk) : Bool :=
 (match a.wt with | some d => b.rt.contains d || b.wt == some d | none => false) || a.wb.any fun x => b.rb.contains x || b.wb.contains x
def preOf (acc : List (List Nat)) (o : Oper) : List Nat := o.after.toList.flatMap fun e => if Region.binds .any e then e.on :: acc.getD e.on [] else []
def preL : List Oper → List (List Nat) → List (List Nat)
 | [], acc => acc
 | o :: r, acc => preL r (acc ++ [preOf acc o])
def edgesOk : Nat → List Oper → Bool
 | _, [] => true
 | i, o :: r => o.after.toList.all (fun e => !Region.binds .any e || decide (e.on < i)) && edgesOk (i + 1) r
def okOrder (ops : List Oper) (cs : List Chk) : Bool :=
 let pre := preL ops []
 let d : Chk := ⟨none, [], [], [], []⟩
 edgesOk 0 ops && (List.range ops.length).all fun i => (List.range ops.length).all fun j => i == j || ((cs.getD i d).fr.all fun b => !(cs.getD j d).wb.contains b) &&
  (!decide (j < i) || !(clash (cs.getD j d) (cs.getD i d) || clash (cs.getD i d) (cs.getD j d)) || (pre.getD i []).contains j)
theorem edgesOk_spec : ∀ {k : Nat} {l : List Oper}, edgesOk k l = true → ∀ {i : Nat} {o : Oper}, l[i]? = some o → ∀ e ∈ o.after, Region.binds .any e = true → e.on < k + i
 | k, [], h, i, o, hi, e, he, hb => by simp at hi
 | k, p :: r, h, i, o, hi, e, he, hb => by
  simp only [edgesOk, Bool.and_eq_true, List.all_eq_true] at h
  cases i with
  | zero =>
   simp at hi; subst hi
   have := h.1 e (by simpa using he)
   simp [hb] at this
   omega
  | succ i =>
   have := edgesOk_spec h.2 (by simpa using hi) e he hb
   omega
theorem preL_spec {S : Nat → Bool} {all : List Oper} (hcl : ∀ i o, all[i]? = some o → S i = true → ∀ e ∈ o.after, Region.binds .any e = true → S e.on = true) :
  ∀ (l : List Oper) (acc : List (List Nat)), (∀ j o, l[j]? = some o → all[acc.length + j]? = some o) → (∀ k j, j ∈ acc.getD k [] → S k = true → S j = true) → ∀ k j, j ∈ (preL l acc).getD k [] → S k = true → S j = true
 | [], acc, hl, ha, k, j, hj, hk => ha k j hj hk
 | o :: r, acc, hl, ha, k, j, hj, hk => by
  refine preL_spec hcl r (acc ++ [preOf acc o]) (fun j o hj => ?_) (fun k j hj hk => ?_) k j hj hk
  ·have := hl (j + 1) o (by simpa using hj)
   rw [List.length_append, List.length_singleton, ← this]; congr 1; omega
  ·rcases Nat.lt_trichotomy k acc.length with hlt | heq | hgt
   ·rw [List.getD_eq_getElem?_getD, List.getElem?_append_left hlt, ← List.getD_eq_getElem?_getD] at hj
    exact ha k j hj hk
   ·subst heq
    rw [List.getD_eq_getElem?_getD, List.getElem?_append_right (Nat.le_refl _)] at hj
    simp at hj
    unfold preOf at hj
    obtain ⟨e, he, hje⟩ := List.mem_flatMap.1 hj
    split at hje
    ·rename_i hb
     have hS := hcl acc.length o (by have := hl 0 o rfl; simpa using this) hk e (by simpa using he) hb
     rcases List.mem_cons.1 hje with rfl | hje
     ·exact hS
     ·exact ha e.on j hje hS
    ·simp at hje
   ·rw [List.getD_eq_getElem?_getD, List.getElem?_append_right (by omega)] at hj
    have : [preOf acc o][k - acc.length]? = none := by simp; omega
    rw [this] at hj; simp at hj
def cnt (listed : Array Bool) : Nat → Nat
 | 0 => 0
 | n + 1 => cnt listed n + (if listed.getD n true then 0 else 1)
theorem cnt_set {listed : Array Bool} {i : Nat} (h : listed.getD i true = false) : ∀ n, (i < n → cnt (listed.setIfInBounds i true) n + 1 = cnt listed n) ∧ (n ≤ i → cnt (listed.setIfInBounds i true) n = cnt listed n)
 | 0 => ⟨fun h => by omega, fun _ => rfl⟩
 | n + 1 => by
  have ih := cnt_set h n
  have hil : i < listed.size := by
   rcases Nat.lt_or_ge i listed.size with h2 | h2
   ·exact h2
   ·simp [Array.getD, Nat.not_lt.2 h2] at h
  refine ⟨fun hn => ?_, fun hn => ?_⟩
  ·simp only [cnt]
   by_cases e : i = n
   ·subst e
    rw [ih.2 (Nat.le_refl _), h]
    simp [hil]
   ·have := ih.1 (by omega)
    rw [getD_set_ne true e]; omega
  ·simp only [cnt]
   rw [ih.2 (by omega), getD_set_ne true (by omega)]
theorem cnt_zero {listed : Array Bool} : ∀ {n : Nat}, cnt listed n = 0 → ∀ i, i < n → listed.getD i true = true
 | 0, h, i, hi => by omega
 | n + 1, h, i, hi => by
  simp only [cnt] at h
  by_cases e : i = n
  ·subst e
   cases hb : listed.getD i true
   ·rw [hb] at h; simp at h
   ·rfl
  ·exact cnt_zero (n := n) (by omega) i (by omega)
theorem cnt_le (listed : Array Bool) : ∀ n, cnt listed n ≤ n
 | 0 => Nat.le_refl _
 | n + 1 => by simp only [cnt]; have := cnt_le listed n; split <;> omega
section
variable {P : Program} {nt nx : Nat} {ops : List Oper} {Q : Exit → Act → World → Prop} {rec : Nat → Rec} {t : Nat → Option AV} {h : Nat → Option AB} {fr : Fr}
theorem appT_out {r : Rec} {f : Nat → Option AV} {l : Nat} (h : ¬ r.dst = some l) : r.appT f l = f l := if_neg h
theorem appT_in {r : Rec} {f g : Nat → Option AV} {l : Nat} (h : r.dst = some l) : r.appT f l = r.appT g l := by simp only [Rec.appT, if_pos h]
theorem ups_out {α : Type} : ∀ {ws : List (Nat × α)} {f : Nat → Option α} {l : Nat}, l ∉ ws.map (·.1) → ups f ws l = f l
 | [], f, l, h => rfl
 | p :: r, f, l, h => by
  simp only [List.map_cons, List.mem_cons, not_or] at h
  simp only [ups]
  rw [ups_out h.2, up_out _ _ (fun e => h.1 e.symm)]
theorem ups_in {α : Type} : ∀ {ws : List (Nat × α)} {f g : Nat → Option α} {l : Nat}, l ∈ ws.map (·.1) → ups f ws l = ups g ws l
 | [], f, g, l, h => by simp at h
 | p :: r, f, g, l, h => by
  simp only [ups]
  by_cases hr : l ∈ r.map (·.1)
  ·exact ups_in hr
  ·simp only [List.map_cons, List.mem_cons] at h
   rw [ups_out hr, ups_out hr, h.resolve_right hr, up_at, up_at]
def TS (rec : Nat → Rec) (S : Nat → Bool) (n : Nat) (t : Nat → Option AV) := ap (fun i => (rec i).appT) S n t
def HS (rec : Nat → Rec) (S : Nat → Bool) (n : Nat) (h : Nat → Option AB) := ap (fun i => (rec i).appH) S n h
def wT (rec : Nat → Rec) (i l : Nat) : Prop := (rec i).dst = some l
def wH (rec : Nat → Rec) (i l : Nat) : Prop := l ∈ (rec i).ws.map (·.1)
theorem draw_wp (hn : fr.nt = nt) (hg : ∀ i o, ops[i]? = some o → Good P nt nx ops.toArray o (rec i) (TS rec (fun _ => true) i t) (HS rec (fun _ => true) i h)) (hnx : ∀ i, ∀ b ∈ (rec i).fr, h b = none ∧ nx ≤ b)
  (hok : okOrder ops ((List.range ops.length).map fun i => (rec i).chk) = true)
  (hQ : ∀ E' a' w', R fr E' (TS rec (fun _ => true) ops.length t) (HS rec (fun _ => true) ops.length h) nx a' w' → Q .normal a' w') :
  ∀ (fuel : Nat) (listed : Array Bool) (E : En) (a : Act) (w : World), listed.size = ops.length → cnt listed ops.length ≤ fuel → (∀ i o, ops[i]? = some o → listed.getD i false = true → ∀ e ∈ o.after, Region.binds .any e = true → listed.getD e.on false = true) →
   R fr E (TS rec (fun i => listed.getD i false) ops.length t) (HS rec (fun i => listed.getD i false) ops.length h) nx a w → wpAny P .any ops.toArray Q fuel listed a w := by
 -- what the check says
 unfold okOrder at hok
 simp only [Bool.and_eq_true, List.all_eq_true, List.mem_range, Bool.or_eq_true, beq_iff_eq, Bool.not_eq_true', decide_eq_false_iff_not] at hok
 obtain ⟨hed, hpair⟩ := hok
 have hchk : ∀ i, i < ops.length → ((List.range ops.length).map fun i => (rec i).chk).getD i ⟨none, [], [], [], []⟩ = (rec i).chk := fun i hi => by simp [List.getD_eq_getElem?_getD, hi]
 have hfr : ∀ i j, i < ops.length → j < ops.length → i ≠ j → ∀ b ∈ (rec i).fr, ¬ wH rec j b := fun i j hi hj hne b hb hw => by
  have := ((hpair i hi j hj).resolve_left hne).1 
  rw [hchk i hi, hchk j hj] at this
  have := this b hb
  simp [Rec.chk] at this
  obtain ⟨p, hp, rfl⟩ := List.mem_map.1 hw
  exact this p.2 hp
 have hord : ∀ i j, i < ops.length → j < i → (clash (rec j).chk (rec i).chk = true ∨ clash (rec i).chk (rec j).chk = true) → j ∈ (preL ops []).getD i [] := fun i j hi hj hc => by
  have := ((hpair i hi j (by omega)).resolve_left (by omega)).2
  rw [hchk i hi, hchk j (by omega)] at this
  rcases this with (h1 | h1) | h1
  ·exact absurd hj h1
  ·rcases hc with hc | hc <;> rw [hc] at h1 <;> simp at h1
  ·simpa using h1
 have cT : ∀ i j l, wT rec i l → (l ∈ (rec j).rt ∨ wT rec j l) → clash (rec i).chk (rec j).chk = true := fun i j l hw hr => by
  unfold wT at hw hr
  simp only [clash, Rec.chk, hw, Bool.or_eq_true, List.contains_eq_mem, decide_eq_true_eq, beq_iff_eq]
  exact .inl hr
 have cH : ∀ i j l, wH rec i l → (l ∈ (rec j).rb ∨ wH rec j l) → clash (rec i).chk (rec j).chk = true := fun i j l hw hr => by
  unfold wH at hw hr
  simp only [clash, Rec.chk, Bool.or_eq_true, List.any_eq_true, List.contains_eq_mem, decide_eq_true_eq]
  exact .inr ⟨l, hw, hr⟩
 have outT : ∀ i f l, ¬ wT rec i l → (rec i).appT f l = f l := fun i f l hw => appT_out hw
 have inT : ∀ i f g l, wT rec i l → (rec i).appT f l = (rec i).appT g l := fun i f g l hw => appT_in hw
 have outH : ∀ i f l, ¬ wH rec i l → (rec i).appH f l = f l := fun i f l hw => ups_out hw
 have inH : ∀ i f g l, wH rec i l → (rec i).appH f l = (rec i).appH g l := fun i f g l hw => ups_in hw
 intro fuel
 induction fuel with
 | zero =>
  intro listed E a w hsz hc hcl r
  have hall : ∀ i, i < ops.length → listed.getD i true = true := cnt_zero (by omega)
  have hrd : Region.ready .any ops.toArray listed = [] := by
   refine List.eq_nil_iff_forall_not_mem.2 fun i hi => ?_
   obtain ⟨h1, o, ho, -⟩ := mem_ready.1 hi
   have hil : i < ops.length := by have := (Array.getElem?_eq_some_iff.1 ho).1; simpa using this
   rw [hall i hil] at h1; cases h1
  have hS : ∀ j, j < ops.length → listed.getD j false = true := fun j hj => by
   have := hall j hj
   simp only [Array.getD_eq_getD_getElem?] at this ⊢
   rw [Array.getElem?_eq_getElem (by omega)] at this ⊢
   simpa using this
  refine ⟨hrd, hQ E a w ?_⟩
  have e1 : TS rec (fun i => listed.getD i false) ops.length t = TS rec (fun _ => true) ops.length t := funext fun l => ap_agree _ (wT rec) outT inT fun j hj _ => hS j hj
  have e2 : HS rec (fun i => listed.getD i false) ops.length h = HS rec (fun _ => true) ops.length h := funext fun l => ap_agree _ (wH rec) outH inH fun j hj _ => hS j hj
  rw [← e1, ← e2]; exact r
 | succ fuel ih =>
  intro listed E a w hsz hc hcl r
  have hgd : ∀ j, j < ops.length → listed.getD j true = listed.getD j false := fun j hj => by
   simp only [Array.getD_eq_getD_getElem?]
   rw [Array.getElem?_eq_getElem (by omega)]; rfl
  refine ⟨fun hrd => ?_, fun i hi => ?_⟩
  ·have hS : ∀ j, j < ops.length → listed.getD j false = true := by
    intro j
    induction j using Nat.strongRecOn with
    | _ j ihj =>
     intro hj
     cases hb : listed.getD j false
     ·exfalso
      have : j ∈ Region.ready .any ops.toArray listed := mem_ready.2 ⟨by rw [hgd j hj]; exact hb, ops[j], by simp [hj], fun e he hbd => ihj e.on (by have := edgesOk_spec hed (List.getElem?_eq_getElem hj) e he hbd; omega) (by have := edgesOk_spec hed (List.getElem?_eq_getElem hj) e he hbd; omega)⟩
      rw [hrd] at this; simp at this
     ·rfl
   have e1 : TS rec (fun i => listed.getD i false) ops.length t = TS rec (fun _ => true) ops.length t := funext fun l => ap_agree _ (wT rec) outT inT fun j hj _ => hS j hj
   have e2 : HS rec (fun i => listed.getD i false) ops.length h = HS rec (fun _ => true) ops.length h := funext fun l => ap_agree _ (wH rec) outH inH fun j hj _ => hS j hj
   rw [e1, e2] at r
   exact hQ E a w r
  ·obtain ⟨hun, o, ho, hpre⟩ := mem_ready.1 hi
   have ho' : ops[i]? = some o := by simpa using ho
   have hil : i < ops.length := (List.getElem?_eq_some_iff.1 ho').1
   have huf : listed.getD i false = false := by rw [← hgd i hil]; exact hun
   -- the set with i
   have hset : ∀ j, (listed.setIfInBounds i true).getD j false = (j == i || listed.getD j false) := fun j => by
    by_cases e : j = i
    ·subst e; simp [hsz, hil]
    ·rw [getD_set_ne false (fun h => e h.symm)]; simp [e]
   have hcl2 : ∀ k o, ops[k]? = some o → (k == i || listed.getD k false) = true → ∀ e ∈ o.after, Region.binds .any e = true → (e.on == i || listed.getD e.on false) = true := fun k o' hk hs e he hb => by
    by_cases ek : k = i
    ·subst ek
     have : o' = o := by rw [ho'] at hk; injection hk with hk; exact hk.symm
     subst this
     rw [hpre e he hb]; simp
    ·rw [hcl k o' hk (by simpa [ek] using hs) e he hb]; simp
   have hbef : ∀ j, j < i → (clash (rec j).chk (rec i).chk = true ∨ clash (rec i).chk (rec j).chk = true) → listed.getD j false = true := fun j hj hcc => by
    have := preL_spec (S := fun k => (k == i || listed.getD k false)) (all := ops) hcl2 ops [] (fun j o hj => by simpa using hj) (fun k j hj => by simp at hj) i j (hord i j hil hj hcc) (by simp)
    have hne : j ≠ i := by omega
    simpa [hne] using this
   have haft : ∀ j, i < j → j < ops.length → (clash (rec i).chk (rec j).chk = true ∨ clash (rec j).chk (rec i).chk = true) → listed.getD j false = false := fun j hj hjl hcc => by
    cases hb : listed.getD j false
    ·rfl
    ·exfalso
     have := preL_spec (S := fun k => listed.getD k false) (all := ops) hcl ops [] (fun j o hj => by simpa using hj) (fun k j hj => by simp at hj) j i (hord j i hjl hj hcc) hb
     rw [huf] at this; cases this
   have hgood := hg i o ho'
   refine wpOp_step ho fun K' hK' => hgood.step (t' := TS rec (fun i => listed.getD i false) ops.length t) (h' := HS rec (fun i => listed.getD i false) ops.length h) (fun l hl => ?_) (fun b hb => ?_) (fun b hb => ?_) hn r K' Q fun E' a' w' r' => hK' _ _ ?_
   ·refine ap_pre _ (wT rec) outT inT (by omega) fun j hj hw => ?_
    rcases Nat.lt_trichotomy j i with h1 | h1 | h1
    ·rw [hbef j h1 (.inl (cT j i l hw (.inl hl)))]; simp [h1]
    ·subst h1; rw [huf]; simp
    ·rw [haft j h1 hj (.inr (cT j i l hw (.inl hl)))]; simp; omega
   ·refine ap_pre _ (wH rec) outH inH (by omega) fun j hj hw => ?_
    rcases Nat.lt_trichotomy j i with h1 | h1 | h1
    ·rw [hbef j h1 (.inl (cH j i b hw (.inl hb)))]; simp [h1]
    ·subst h1; rw [huf]; simp
    ·rw [haft j h1 hj (.inr (cH j i b hw (.inl hb)))]; simp; omega
   ·refine ⟨?_, (hnx i b hb).2⟩
    have := ap_none (fun i => (rec i).appH) (wH rec) outH (S := fun i => listed.getD i false) (n := ops.length) (l := b) (f := h) (fun j hj hs => by
     by_cases e : i = j
     ·subst e; rw [huf] at hs; cases hs
     ·exact hfr i j hil hj e b hb)
    unfold HS; rw [this]; exact (hnx i b hb).1
   ·have hfun : (fun k => (listed.setIfInBounds i true).getD k false) = fun k => (k == i || listed.getD k false) := funext hset
    refine ih (listed.setIfInBounds i true) E' a' w' (by simp [hsz]) (by have := (cnt_set hun ops.length).1 hil; omega) (fun k o' hk hs e he hb => by rw [hset] at hs ⊢; exact hcl2 k o' hk hs e he hb) ?_
    rw [hfun]
    have e1 : TS rec (fun k => (k == i || listed.getD k false)) ops.length t = (rec i).appT (TS rec (fun i => listed.getD i false) ops.length t) := funext fun l => ap_add _ (wT rec) outT inT hil fun j hj hjl hs hw hwi => by
     rw [haft j hj hjl (.inl (cT i j l hwi (.inr hw)))] at hs; cases hs
    have e2 : HS rec (fun k => (k == i || listed.getD k false)) ops.length h = (rec i).appH (HS rec (fun i => listed.getD i false) ops.length h) := funext fun l => ap_add _ (wH rec) outH inH hil fun j hj hjl hs hw hwi => by
     rw [haft j hj hjl (.inl (cH i j l hwi (.inr hw)))] at hs; cases hs
    rw [e1, e2]; exact r'
end
end Go.Abs
set_option linter.unusedVariables false
set_option linter.unusedSimpArgs false
namespace Go.Abs
open Go.RowKit
abbrev TL := List (Nat × AV)
abbrev HL := List (Nat × AB)
def setT (T : TL) : Option Nat → Option AV → TL
 | none, _ => T
 | some d, some v => (d, v) :: T
 | some d, none => T.filter (fun p => !(p.1 == d))
def puts (H : HL) : HL → HL
 | [] => H
 | p :: r => puts (put H p.1 p.2) r
theorem look_filter (T : TL) (d i : Nat) : look (T.filter (fun p => !(p.1 == d))) i = if d = i then none else look T i := by
 induction T with
 | nil => simp [look]
 | cons p r ih =>
  by_cases hp : p.1 = d
  ·rw [List.filter_cons_of_neg (by simp [hp]), ih]
   simp only [look, hp, beq_iff_eq]
   split <;> rfl
  ·rw [List.filter_cons_of_pos (by simp [hp])]
   simp only [look, ih, beq_iff_eq]
   split
   ·rename_i h; rw [if_neg (by omega)]
   ·rfl
theorem look_setT (T : TL) (r : Rec) : look (setT T r.dst r.val) = r.appT (look T) := by
 funext i
 unfold Rec.appT
 cases hd : r.dst with
 | none => simp [setT]
 | some d =>
  cases hv : r.val with
  | none => simp only [setT, look_filter, Option.some.injEq]
  | some v => simp only [setT, look_cons, beq_iff_eq, Option.some.injEq]
theorem look_puts : ∀ (ws : HL) (H : HL), look (puts H ws) = ups (look H) ws
 | [], H => rfl
 | p :: r, H => by
  simp only [puts, ups]
  rw [look_puts r]
  congr 1
  funext b
  rw [look_put]; rfl
def dstOk (nt : Nat) (o : Oper) : Bool := match o.dst with | some d => decide (d < nt) | none => true
def CallK (P : Program) (nx : Nat) (T : TL) (H : HL) (f : Operand) (args : List Operand) (K : AV → HL → List Nat → List Nat → Prop) : Prop :=
 ∃ (fid : FuncId) (caps : List AC) (xs cargs : List AV) (hs hs' : List AB) (res : AV) (ids : List Nat), evT (look T) f = some (.one (.fn (.func fid) caps)) ∧ evArgs (look T) args = some xs ∧ ACall P fid cargs hs res hs' ∧ ids.Nodup ∧ ids.length = hs'.length ∧
  xs ++ caps.map AV.one = cargs.map (·.ren (nm ids)) ∧ (∀ x ∈ cargs, x.lt hs.length = true) ∧ (∀ x ∈ hs, x.ltP hs.length) ∧ (∀ j x, hs[j]? = some x → look H (nm ids j) = some (x.ren (nm ids))) ∧
  (∀ b ∈ ids.drop hs.length, look H b = none ∧ nx ≤ b) ∧ K (res.ren (nm ids)) (ids.zip (hs'.map (·.ren (nm ids)))) (ids.take hs.length) (ids.drop hs.length)
def RunO (P : Program) (nx : Nat) (ops : List Oper) (i : Nat) (o : Oper) (T : TL) (H : HL) (K : Option AV → HL → Chk → Prop) : Prop :=
 match gOf ops.toArray (look T) o with
 | some false => K none [] ⟨o.dst, [], gRd ops.toArray o, [], []⟩
 | some true => match o.op with
  | .call ⟨.value f, args, tys⟩ => CallK P nx T H f args.toList fun res ws rb fr => K (some res) ws ⟨o.dst, ws.map (·.1), gRd ops.toArray o ++ rdT o.op, rb, fr⟩
  | op => match pl P (look T) (look H) (nx + i) op with
   | some p => look H (nx + i) = none ∧ K p.1 p.2 ⟨o.dst, p.2.map (·.1), gRd ops.toArray o ++ rdT o.op, rdB (look T) o.op, [nx + i]⟩
   | none => False
 | none => False
def RunS (P : Program) (nx : Nat) (ops : List Oper) : Nat → List Oper → TL → HL → (TL → HL → Prop) → Prop
 | _, [], T, H, K => K T H
 | i, o :: rest, T, H, K => RunO P nx ops i o T H fun x ws _ => RunS P nx ops (i + 1) rest (setT T o.dst x) (puts H ws) K
def RunD (P : Program) (nx : Nat) (ops : List Oper) : Nat → List Oper → TL → HL → List Chk → (TL → HL → List Chk → Prop) → Prop
 | _, [], T, H, cs, K => K T H cs
 | i, o :: rest, T, H, cs, K => RunO P nx ops i o T H fun x ws c => RunD P nx ops (i + 1) rest (setT T o.dst x) (puts H ws) (cs ++ [c]) K
section
variable {P : Program} {nt k nx : Nat}
theorem runO_good {ops : List Oper} {i : Nat} {o : Oper} {T : TL} {H : HL} {K : Option AV → HL → Chk → Prop} (hd : dstOk nt o = true) (h : RunO P nx ops i o T H K) :
  ∃ rc : Rec, Good P nt nx ops.toArray o rc (look T) (look H) ∧ (∀ b ∈ rc.fr, look H b = none ∧ nx ≤ b) ∧ rc.dst = o.dst ∧ K rc.val rc.ws rc.chk := by
 have hd' : ∀ d, o.dst = some d → d < nt := fun d e => by unfold dstOk at hd; rw [e] at hd; simpa using hd
 unfold RunO at h
 split at h
 ·rename_i hg
  exact ⟨_, good_skip hd' hg, fun b hb => by simp at hb, rfl, h⟩
 ·rename_i hg
  split at h
  ·rename_i f args tys ho
   obtain ⟨fid, caps, xs, cargs, hs, hs', res, ids, h1, h2, h3, h4, h5, h6, h7, h8, h9, h10, h11⟩ := h
   refine ⟨_, good_call ho hd' hg h1 h2 h3 h4 h5 h6 h7 h8 h9, h10, rfl, ?_⟩
   simpa [Rec.chk] using h11
  ·split at h
   ·rename_i p hp
    exact ⟨_, good_op hd' hg hp, fun b hb => by simp at hb; subst hb; exact ⟨h.1, Nat.le_add_right _ _⟩, rfl, h.2⟩
   ·cases h
 ·cases h
theorem runS_wp {ops : List Oper} {Q : Exit → Act → World → Prop} {fr : Fr} (hn : fr.nt = nt) : ∀ {rest : List Oper} {i : Nat} {T : TL} {H : HL} {K : TL → HL → Prop}, (rest.all (dstOk nt) = true) → RunS P nx ops i rest T H K →
  (∀ E a w T' H', R fr E (look T') (look H') nx a w → K T' H' → Q .normal a w) → ∀ E a w, R fr E (look T) (look H) nx a w → wpList P ops.toArray Q rest a w
 | [], i, T, H, K, hd, h, hQ, E, a, w, r => hQ E a w T H r h
 | o :: rest, i, T, H, K, hd, h, hQ, E, a, w, r => by
  simp only [List.all_cons, Bool.and_eq_true] at hd
  obtain ⟨rc, h1, h2, h3, h4⟩ := runO_good hd.1 h
  refine wpList_step fun K' hK' => h1.step (fun _ _ => rfl) (fun _ _ => rfl) h2 hn r K' Q fun E' a' w' r' => hK' _ _ ?_
  refine runS_wp hn hd.2 h4 hQ E' a' w' ?_
  rw [← h3, look_setT, look_puts]
  exact r'
def foldT (rs : List Rec) (t : Nat → Option AV) : Nat → Option AV := rs.foldl (fun t r => r.appT t) t
def foldH (rs : List Rec) (h : Nat → Option AB) : Nat → Option AB := rs.foldl (fun h r => r.appH h) h
theorem runD_recs {ops : List Oper} : ∀ {rest : List Oper} {i : Nat} {T : TL} {H : HL} {cs : List Chk} {K : TL → HL → List Chk → Prop}, (rest.all (dstOk nt) = true) → RunD P nx ops i rest T H cs K →
  ∃ rs : List Rec, rs.length = rest.length ∧ (∀ (j : Nat) (o : Oper), rest[j]? = some o → ∃ rc, rs[j]? = some rc ∧ Good P nt nx ops.toArray o rc (foldT (rs.take j) (look T)) (foldH (rs.take j) (look H)) ∧ ∀ b ∈ rc.fr, nx ≤ b) ∧
   ∃ T' H', look T' = foldT rs (look T) ∧ look H' = foldH rs (look H) ∧ K T' H' (cs ++ rs.map Rec.chk)
 | [], i, T, H, cs, K, hd, h => ⟨[], rfl, fun j o hj => by simp at hj, T, H, rfl, rfl, by simpa [RunD] using h⟩
 | o :: rest, i, T, H, cs, K, hd, h => by
  simp only [List.all_cons, Bool.and_eq_true] at hd
  obtain ⟨rc, h1, h2, h3, h4⟩ := runO_good hd.1 h
  obtain ⟨rs, k1, k2, T', H', k3, k4, k5⟩ := runD_recs hd.2 h4
  rw [← h3, look_setT] at k2 k3
  rw [look_puts] at k2 k4
  refine ⟨rc :: rs, by simp [k1], fun j o' hj => ?_, T', H', k3, k4, by simpa using k5⟩
  cases j with
  | zero =>
   simp at hj; subst hj
   exact ⟨rc, rfl, h1, fun b hb => (h2 b hb).2⟩
  | succ j => exact k2 j o' (by simpa using hj)
theorem fold_TS (rs : List Rec) (d : Rec) (t : Nat → Option AV) : ∀ n, n ≤ rs.length → TS (fun i => rs.getD i d) (fun _ => true) n t = foldT (rs.take n) t
 | 0, _ => rfl
 | n + 1, hn => by
  have ih := fold_TS rs d t n (by omega)
  unfold TS at ih ⊢
  simp only [ap, if_true, ih]
  rw [List.take_add_one, List.getElem?_eq_getElem (by omega)]
  simp only [foldT, List.foldl_append, Option.toList_some, List.foldl_cons, List.foldl_nil]
  rw [List.getD_eq_getElem?_getD, List.getElem?_eq_getElem (by omega)]; rfl
theorem fold_HS (rs : List Rec) (d : Rec) (t : Nat → Option AB) : ∀ n, n ≤ rs.length → HS (fun i => rs.getD i d) (fun _ => true) n t = foldH (rs.take n) t
 | 0, _ => rfl
 | n + 1, hn => by
  have ih := fold_HS rs d t n (by omega)
  unfold HS at ih ⊢
  simp only [ap, if_true, ih]
  rw [List.take_add_one, List.getElem?_eq_getElem (by omega)]
  simp only [foldH, List.foldl_append, Option.toList_some, List.foldl_cons, List.foldl_nil]
  rw [List.getD_eq_getElem?_getD, List.getElem?_eq_getElem (by omega)]; rfl
theorem runD_wp {ops : List Oper} {Q : Exit → Act → World → Prop} {fr : Fr} (hn : fr.nt = nt) {T : TL} {H : HL} {K : TL → HL → Prop} (hd : ops.all (dstOk nt) = true) (hH : H.all (fun p => decide (p.1 < nx)) = true)
  (h : RunD P nx ops 0 ops T H [] fun T' H' cs => okOrder ops cs = true ∧ K T' H') (hQ : ∀ E a w T' H', R fr E (look T') (look H') nx a w → K T' H' → Q .normal a w) {E : En} {a : Act} {w : World} (r : R fr E (look T) (look H) nx a w) :
  wpAny P .any ops.toArray Q ops.length (Array.replicate ops.length false) a w := by
 obtain ⟨rs, h1, h2, T', H', h3, h4, h5, h6⟩ := runD_recs hd h
 let d : Rec := ⟨none, none, [], [], [], []⟩
 have hfr0 : ∀ b, nx ≤ b → look H b = none := fun b hb => by
  clear h h2 h4 h5 r
  induction H with
  | nil => rfl
  | cons p l ih =>
   simp only [List.all_cons, Bool.and_eq_true, decide_eq_true_eq] at hH
   rw [look, if_neg (by simp; omega)]
   exact ih hH.2
 have hlen : ops.length = rs.length := h1.symm
 have hchk : (List.range ops.length).map (fun i => (rs.getD i d).chk) = rs.map Rec.chk := by
  apply List.ext_getElem?
  intro j
  by_cases hj : j < ops.length
  ·simp [hj, List.getD_eq_getElem?_getD, List.getElem?_eq_getElem (show j < rs.length by omega)]
  ·simp [hj, List.getElem?_eq_none (show rs.length ≤ j by omega)]
 refine draw_wp (nx := nx) (nt := nt) (rec := fun i => rs.getD i d) (t := look T) (h := look H) hn (fun i o ho => ?_) (fun i b hb => ?_) (by rw [hchk]; simpa using h5) (fun E' a' w' r' => ?_) ops.length _ E a w (by simp) (cnt_le _ _) (fun i o ho hs => ?_) ?_
 ·obtain ⟨rc, k1, k2, -⟩ := h2 i o ho
  have hil := (List.getElem?_eq_some_iff.1 k1).1
  have e : rs.getD i d = rc := by rw [List.getD_eq_getElem?_getD, k1]; rfl
  show Good P nt nx ops.toArray o (rs.getD i d) _ _
  rw [e, fold_TS rs d _ i (by omega), fold_HS rs d _ i (by omega)]
  exact k2
 ·rcases Nat.lt_or_ge i rs.length with hlt | hge
  ·obtain ⟨rc, k1, -, k3⟩ := h2 i _ (List.getElem?_eq_getElem (l := ops) (i := i) (by omega))
   have e : rs.getD i d = rc := by rw [List.getD_eq_getElem?_getD, k1]; rfl
   rw [e] at hb
   exact ⟨hfr0 b (k3 b hb), k3 b hb⟩
  ·have e : rs.getD i d = d := by rw [List.getD_eq_getElem?_getD, List.getElem?_eq_none hge]; rfl
   rw [e] at hb; simp [d] at hb
 ·refine hQ E' a' w' T' H' ?_ h6
  rw [fold_TS rs d _ _ (by omega), fold_HS rs d _ _ (by omega), hlen, List.take_length] at r'
  rw [h3, h4]; exact r'
 ·exfalso
  have hil := (List.getElem?_eq_some_iff.1 ho).1
  simp [Array.getD, hil] at hs
 ·have e1 : TS (fun i => rs.getD i d) (fun i => (Array.replicate ops.length false).getD i false) ops.length (look T) = look T := by
   funext l
   refine ap_none _ (wT fun i => rs.getD i d) (fun i f l hw => appT_out hw) fun j hj hs => ?_
   simp [Array.getD] at hs
  have e2 : HS (fun i => rs.getD i d) (fun i => (Array.replicate ops.length false).getD i false) ops.length (look H) = look H := by
   funext l
   refine ap_none _ (wH fun i => rs.getD i d) (fun i f l hw => ups_out hw) fun j hj hs => ?_
   simp [Array.getD] at hs
  rw [e1, e2]; exact r
def W (P : Program) (nt k : Nat) (c : Code) (K : Exit → TL → HL → Nat → Prop) (T : TL) (H : HL) (nx : Nat) : Prop :=
 ∀ (fr : Fr) (E : En) (a : Act) (w : World), fr.nt = nt → fr.k = k → R fr E (look T) (look H) nx a w → c.wp P (fun e a' w' => ∃ T' H' nx' E', R fr E' (look T') (look H') nx' a' w' ∧ K e T' H' nx') a w
def WL (P : Program) (nt k : Nat) (c : Code) (K : Exit → TL → HL → Nat → Prop) (T : TL) (H : HL) (nx : Nat) : Prop :=
 ∀ (fr : Fr) (E : En) (a : Act) (w : World), fr.nt = nt → fr.k = k → R fr E (look T) (look H) nx a w → ∀ (b : Frame) (k' : List Item) (cs : List Frame),
  ∃ e a' w', (∃ T' H' nx' E', R fr E' (look T') (look H') nx' a' w' ∧ K e T' H' nx') ∧ Arrives P (lone (b.at a (.code c :: .inLoop c :: k')) cs w) b k' cs e a' w'
def kSeq (K : Exit → TL → HL → Nat → Prop) (N : TL → HL → Nat → Prop) : Exit → TL → HL → Nat → Prop
 | .normal, T, H, nx => N T H nx
 | e, T, H, nx => K e T H nx
def kBlock (id : Nat) (K : Exit → TL → HL → Nat → Prop) : Exit → TL → HL → Nat → Prop
 | .exit i, T, H, nx => if i = id then K .normal T H nx else K (.exit i) T H nx
 | e, T, H, nx => K e T H nx
section
variable {K : Exit → TL → HL → Nat → Prop} {T : TL} {H : HL}
theorem W.skip (h : K .normal T H nx) : W P nt k .skip K T H nx := fun fr E a w hn hk r => wp_skip ⟨T, H, nx, E, r, h⟩
theorem W.exit {id : Nat} (h : K (.exit id) T H nx) : W P nt k (.exit id) K T H nx := fun fr E a w hn hk r => wp_exit ⟨T, H, nx, E, r, h⟩
theorem W.ret (h : K .ret T H nx) : W P nt k .ret K T H nx := fun fr E a w hn hk r => wp_ret ⟨T, H, nx, E, r, h⟩
theorem W.seq {x y : Code} (h : W P nt k x (kSeq K (W P nt k y K)) T H nx) : W P nt k (.seq x y) K T H nx := fun fr E a w hn hk r =>
 wp_seq (wp_mono (h fr E a w hn hk r) fun e a' w' ⟨T', H', nx', E', r', hK⟩ => by
  cases e with
  | normal => exact hK fr E' a' w' hn hk r'
  | _ => exact ⟨T', H', nx', E', r', hK⟩)
theorem W.block {id : Nat} {x : Code} (h : W P nt k x (kBlock id K) T H nx) : W P nt k (.block id x) K T H nx := fun fr E a w hn hk r =>
 wp_block (wp_mono (h fr E a w hn hk r) fun e a' w' ⟨T', H', nx', E', r', hK⟩ => by
  cases e with
  | exit i =>
   simp only [kBlock] at hK
   simp only [Exit.inBlock]
   split
   ·rename_i e; rw [if_pos e] at hK; exact ⟨T', H', nx', E', r', hK⟩
   ·rename_i e; rw [if_neg e] at hK; exact ⟨T', H', nx', E', r', hK⟩
  | _ => exact ⟨T', H', nx', E', r', hK⟩)
theorem W.cond {c : Operand} {x y : Code} {b : Bool} (hc : evT (look T) c = some (.one (.f (.v (.bool b))))) (hx : b = true → W P nt k x K T H nx) (hy : b = false → W P nt k y K T H nx) : W P nt k (.cond c x y) K T H nx := fun fr E a w hn hk r =>
 wp_cond_split (ev_sound r hc).val_inv (fun e => hx e fr E a w hn hk r) (fun e => hy e fr E a w hn hk r)
theorem W.loop {c : Code} (h : WL P nt k c K T H nx) : W P nt k (.loop c) K T H nx := fun fr E a w hn hk r b k' cs => by
 obtain ⟨e, a', w', hq, harr⟩ := h fr E a w hn hk r b k' cs
 exact ⟨e, a', w', hq, .of_steps (.one step_loop) harr⟩
theorem WL.step {c : Code} (h : W P nt k c (kSeq K (WL P nt k c K)) T H nx) : WL P nt k c K T H nx := fun fr E a w hn hk r b k' cs => by
 obtain ⟨e, a₁, w₁, ⟨T', H', nx', E', r', hK⟩, harr⟩ := h fr E a w hn hk r b (.inLoop c :: k') cs
 cases e with
 | normal =>
  obtain ⟨e₂, a₂, w₂, hq₂, harr₂⟩ := hK fr E' a₁ w₁ hn hk r' b k' cs
  exact ⟨e₂, a₂, w₂, hq₂, .of_steps (Steps.trans harr (.one step_inLoop)) harr₂⟩
 | exit id => exact ⟨_, a₁, w₁, ⟨T', H', nx', E', r', hK⟩, .pass (x := .inLoop c) rfl (fun _ _ => .inl (by simp)) harr⟩
 | goto l => exact ⟨_, a₁, w₁, ⟨T', H', nx', E', r', hK⟩, .pass (x := .inLoop c) rfl (fun _ _ => .inl (by simp)) harr⟩
 | ret => exact ⟨_, a₁, w₁, ⟨T', H', nx', E', r', hK⟩, .pass (x := .inLoop c) rfl (fun _ _ => .inl (by simp)) harr⟩
 | panic ch => exact ⟨_, a₁, w₁, ⟨T', H', nx', E', r', hK⟩, .pass (x := .inLoop c) rfl (fun _ _ => .inl (by simp)) harr⟩
 | outgrown => exact ⟨_, a₁, w₁, ⟨T', H', nx', E', r', hK⟩, .pass (x := .inLoop c) rfl (fun _ _ => .inl (by simp)) harr⟩
theorem R.bump {fr : Fr} {E : En} {t : Nat → Option AV} {h : Nat → Option AB} {a : Act} {w : World} (r : R fr E t h nx a w) {nx' : Nat} (hn : nx ≤ nx') : R fr E t h nx' a w :=
 ⟨r.defers, r.size, r.tmps, r.blk, r.sep, r.own, fun b n hb => r.fresh b n (Nat.le_trans hn hb), r.os, r.tape, r.output, r.grow, r.kept, r.hF, r.hF2, r.old, r.oldk⟩
theorem W.region {id : Nat} {ops : List Oper} (hd : ops.all (dstOk nt) = true) (h : RunS P nx ops 0 ops T H fun T' H' => K .normal T' H' (nx + 4 * ops.length)) : W P nt k (.region id ops.toArray false) K T H nx := fun fr E a w hn hk r =>
 wp_region_list (by
  refine runS_wp hn hd h (fun E a w T' H' r' hK => ?_) E a w r
  exact ⟨T', H', _, E, r'.bump (Nat.le_add_right _ _), hK⟩)
theorem W.regionD (hm : P.follows .mixedOrders = true) {id : Nat} {ops : List Oper} (hd : ops.all (dstOk nt) = true) (hH : H.all (fun p => decide (p.1 < nx)) = true)
  (h : RunD P nx ops 0 ops T H [] fun T' H' cs => okOrder ops cs = true ∧ K .normal T' H' (nx + 4 * ops.length)) : W P nt k (.region id ops.toArray true) K T H nx := fun fr E a w hn hk r =>
 wp_region_any hm (by
  have := runD_wp (Q := fun e a' w' => ∃ T' H' nx' E', R fr E' (look T') (look H') nx' a' w' ∧ K e T' H' nx') hn hd hH h (fun E a w T' H' r' hK => ⟨T', H', _, E, r'.bump (Nat.le_add_right _ _), hK⟩) (r.drew (w.drawn + 1))
  simpa using this)
theorem W.regionK {id : Nat} {ops : List Oper} (hd : ops.all (dstOk nt) = true) (h : ∀ N : TL → HL → Nat → Prop, (∀ T' H' nx', K .normal T' H' nx' → N T' H' nx') → RunS P nx ops 0 ops T H fun T' H' => N T' H' (nx + 4 * ops.length)) :
  W P nt k (.region id ops.toArray false) K T H nx := W.region hd (h _ fun _ _ _ h => h)
theorem W.regionDK (hm : P.follows .mixedOrders = true) {id : Nat} {ops : List Oper} (hd : ops.all (dstOk nt) = true) (hH : H.all (fun p => decide (p.1 < nx)) = true)
  (h : ∀ N : TL → HL → Nat → Prop, (∀ T' H' nx', K .normal T' H' nx' → N T' H' nx') → RunD P nx ops 0 ops T H [] fun T' H' cs => okOrder ops cs = true ∧ N T' H' (nx + 4 * ops.length)) :
  W P nt k (.region id ops.toArray true) K T H nx := W.regionD hm hd hH (h _ fun _ _ _ h => h)
theorem W.condT {c : Operand} {x y : Code} (hc : evT (look T) c = some (.one (.f (.v (.bool true))))) (hx : W P nt k x K T H nx) : W P nt k (.cond c x y) K T H nx := W.cond hc (fun _ => hx) (fun h => by cases h)
theorem W.condF {c : Operand} {x y : Code} (hc : evT (look T) c = some (.one (.f (.v (.bool false))))) (hy : W P nt k y K T H nx) : W P nt k (.cond c x y) K T H nx := W.cond hc (fun h => by cases h) (fun _ => hy)
theorem W.condD {c : Operand} {x y : Code} {p : Prop} {i : Decidable p} (hc : evT (look T) c = some (.one (.f (.v (.bool (@decide p i)))))) (hx : p → W P nt k x K T H nx) (hy : ¬ p → W P nt k y K T H nx) : W P nt k (.cond c x y) K T H nx :=
 W.cond hc (fun h => hx (of_decide_eq_true h)) (fun h => hy (of_decide_eq_false h))
end
end
end Go.Abs
set_option linter.unusedVariables false
set_option linter.unusedSimpArgs false
namespace Go.Abs
open Go.RowKit
def Wk (nt k : Nat) (T : TL) (H : HL) (nx : Nat) (T' : TL) (H' : HL) (nx' : Nat) : Prop :=
 ∀ (fr : Fr) (E : En) (a : Act) (w : World), fr.nt = nt → fr.k = k → R fr E (look T) (look H) nx a w → ∃ E', R fr E' (look T') (look H') nx' a w
section
variable {P : Program} {nt k nx nx' nx'' : Nat} {T T' T'' : TL} {H H' H'' : HL} {K : Exit → TL → HL → Nat → Prop} {c : Code}
theorem Wk.refl : Wk nt k T H nx T H nx := fun fr E a w _ _ r => ⟨E, r⟩
theorem Wk.trans (h : Wk nt k T H nx T' H' nx') (h' : Wk nt k T' H' nx' T'' H'' nx'') : Wk nt k T H nx T'' H'' nx'' := fun fr E a w hn hk r =>
 let ⟨E', r'⟩ := h fr E a w hn hk r; h' fr E' a w hn hk r'
theorem W.wk (h : Wk nt k T H nx T' H' nx') (h' : W P nt k c K T' H' nx') : W P nt k c K T H nx := fun fr E a w hn hk r =>
 let ⟨E', r'⟩ := h fr E a w hn hk r; h' fr E' a w hn hk r'
theorem WL.wk (h : Wk nt k T H nx T' H' nx') (h' : WL P nt k c K T' H' nx') : WL P nt k c K T H nx := fun fr E a w hn hk r =>
 let ⟨E', r'⟩ := h fr E a w hn hk r; h' fr E' a w hn hk r'
mutual
def AC.frz (H : HL) (fz : List Nat) (live : Nat → Bool) : AC → Option AC
 | .f c => some (.f c)
 | .fp l => some (.fp l)
 | .ptr b o => if live b then some (.ptr b o) else none
 | .row b n => if fz.contains b then (match look H b with | some (.row _ sz l) => if l.length = n then some (.f (.fz sz l)) else none | _ => none) else if live b then some (.row b n) else none
 | .ep b n sz i o => if live b then some (.ep b n sz i o) else none
 | .fn q caps => match AC.frzs H fz live caps with | some l => some (.fn q l) | none => none
 | .mp b => if live b then some (.mp b) else none
def AC.frzs (H : HL) (fz : List Nat) (live : Nat → Bool) : List AC → Option (List AC)
 | [] => some []
 | c :: r => match c.frz H fz live, AC.frzs H fz live r with | some x, some l => some (x :: l) | _, _ => none
end
mutual
def AV.frz (H : HL) (fz : List Nat) (live : Nat → Bool) : AV → Option AV
 | .one c => match c.frz H fz live with | some x => some (.one x) | none => none
 | .agg l => match AC.frzs H fz live l with | some x => some (.agg x) | none => none
 | .tup l => match AV.frzs H fz live l with | some x => some (.tup x) | none => none
def AV.frzs (H : HL) (fz : List Nat) (live : Nat → Bool) : List AV → Option (List AV)
 | [] => some []
 | c :: r => match c.frz H fz live, AV.frzs H fz live r with | some x, some l => some (x :: l) | _, _ => none
end
mutual
def AC.okL (live : Nat → Bool) : AC → Bool
 | .f _ => true
 | .ptr b _ => live b
 | .row b _ => live b
 | .ep b _ _ _ _ => live b
 | .fp _ => true
 | .fn _ caps => AC.okLs live caps
 | .mp b => live b
def AC.okLs (live : Nat → Bool) : List AC → Bool
 | [] => true
 | c :: r => c.okL live && AC.okLs live r
end
mutual
def OC.okL (live : Nat → Bool) : OC → Bool
 | .c a => a.okL live
 | .box _ l => OC.okLs live l
 | .row _ _ _ l => OC.okLs live l
 | .map _ _ l => OC.okLs live l
def OC.okLs (live : Nat → Bool) : List OC → Bool
 | [] => true
 | x :: r => x.okL live && OC.okLs live r
end
def AB.frz (H : HL) (fz : List Nat) (live : Nat → Bool) : AB → Option AB
 | .box ty l => match AC.frzs H fz live l with | some x => some (.box ty x) | none => none
 | .row ty sz l => some (.row ty sz l)
 | .obj x => if x.okL live then some (.obj x) else none
 | .dead => some .dead
section
variable {w : World} {E E' : En} {live : Nat → Bool}
mutual
theorem Rc.okL (hF : ∀ g, E.F g → E'.F g) (hm : ∀ b n, live b = true → E'.m b n = E.m b n) : ∀ (c : AC) (v : Value), c.okL live = true → Rc w E c v → Rc w E' c v
 | .f c, v, hl, h => by cases h with | f h => exact .f (h.mono hF (Agree.refl _ _))
 | .fp l, v, hl, h => by cases h with | fp vals hF' hcell hr => exact .fp vals (fun h => hF _ (hF' h)) hcell (fun j c hj => (hr j c hj).mono hF (Agree.refl _ _))
 | .ptr b o, v, hl, h => by
  simp only [AC.okL] at hl
  cases h with | ptr h => exact .ptr (by rw [hm b 0 hl]; exact h)
 | .row b n, v, hl, h => by
  simp only [AC.okL] at hl
  cases h with | row h => exact .row (by rw [hm b n hl]; exact h)
 | .ep b n sz i o, v, hl, h => by
  simp only [AC.okL] at hl
  cases h with | ep h => exact .ep (by rw [hm b n hl]; exact h)
 | .mp b, v, hl, h => by
  simp only [AC.okL] at hl
  cases h with | mp h => exact .mp (by rw [hm b 0 hl]; exact h)
 | .fn q caps, v, hl, h => by
  simp only [AC.okL] at hl
  cases h with | fn vals hs hv hr => exact .fn vals hs hv (fun j c hj => Rcs.okL hF hm caps hl j c hj _ (hr j c hj))
theorem Rcs.okL (hF : ∀ g, E.F g → E'.F g) (hm : ∀ b n, live b = true → E'.m b n = E.m b n) : ∀ (l : List AC), AC.okLs live l = true → ∀ (j : Nat) (c : AC), l[j]? = some c → ∀ v, Rc w E c v → Rc w E' c v
 | [], hl, j, c, hj, v, h => by simp at hj
 | d :: r, hl, 0, c, hj, v, h => by
  simp only [AC.okLs, Bool.and_eq_true] at hl
  simp at hj; subst hj
  exact Rc.okL hF hm d v hl.1 h
 | d :: r, hl, j + 1, c, hj, v, h => by
  simp only [AC.okLs, Bool.and_eq_true] at hl
  exact Rcs.okL hF hm r hl.2 j c (by simpa using hj) v h
end
mutual
theorem Ro.okL (hF : ∀ g, E.F g → E'.F g) (hm : ∀ b n, live b = true → E'.m b n = E.m b n) : ∀ (x : OC) {u : Value} {G : Nat → Prop}, x.okL live = true → Ro w E x u G → Ro w E' x u G
 | .c a, u, G, hl, h => by
  simp only [OC.okL, Ro] at h hl ⊢
  exact ⟨Rc.okL hF hm a u hl h.1, h.2⟩
 | .box ty l, u, G, hl, h => by
  simp only [OC.okL, Ro] at h hl ⊢
  obtain ⟨g, vs, Gc, h1, h2, h3, h4⟩ := h
  exact ⟨g, vs, Gc, h1, h2, Ros.okL hF hm l hl h3, h4⟩
 | .row ty sz n l, u, G, hl, h => by
  simp only [OC.okL, Ro] at h hl ⊢
  rcases h with h | ⟨g, off, cap, cur, Gc, h1, h2, h3, h4, h5, h6, h7⟩
  ·exact .inl h
  ·exact .inr ⟨g, off, cap, cur, Gc, h1, h2, h3, h4, h5, Ros.okL hF hm l hl h6, h7⟩
 | .map kt ks l, u, G, hl, h => by
  simp only [OC.okL, Ro] at h hl ⊢
  obtain ⟨h0, g, es, clock, Gc, h1, h2, h3, h4, h5⟩ := h
  exact ⟨h0, g, es, clock, Gc, h1, h2, h3, Ros.okL hF hm l hl h4, h5⟩
theorem Ros.okL (hF : ∀ g, E.F g → E'.F g) (hm : ∀ b n, live b = true → E'.m b n = E.m b n) : ∀ (l : List OC) {vs : List Value} {G : Nat → Prop}, OC.okLs live l = true → Ros w E l vs G → Ros w E' l vs G
 | [], vs, G, hl, h => by simp only [Ros] at h ⊢; exact h
 | x :: r, vs, G, hl, h => by
  simp only [OC.okLs, Ros, Bool.and_eq_true] at h hl ⊢
  obtain ⟨u, us, G1, G2, h1, h2, h3, h4⟩ := h
  exact ⟨u, us, G1, G2, h1, Ro.okL hF hm x hl.1 h2, Ros.okL hF hm r hl.2 h3, h4⟩
end
end
section
variable {w : World} {E E' : En} {fz : List Nat} {live : Nat → Bool} {q : HL}
mutual
theorem Rc.frz (hb : ∀ b x, look q b = some x → Rb w E b x) (hF : ∀ g, E.F g → E'.F g) (hm : ∀ b n, live b = true → E'.m b n = E.m b n) (hz : ∀ b ∈ fz, ∀ x, look q b = some x → ∀ g, owns E b x g → E'.F g) :
  ∀ (c : AC) (v : Value) (d : AC), Rc w E c v → c.frz q fz live = some d → Rc w E' d v
 | .f c, v, d, h, e => by
  simp only [AC.frz, Option.some.injEq] at e; subst e
  cases h with | f h => exact .f (h.mono hF (Agree.refl _ _))
 | .fp l, v, d, h, e => by
  simp only [AC.frz, Option.some.injEq] at e; subst e
  cases h with | fp vals hF' hcell hr => exact .fp vals (fun h => hF _ (hF' h)) hcell (fun j c hj => (hr j c hj).mono hF (Agree.refl _ _))
 | .mp b, v, d, h, e => by
  simp only [AC.frz] at e
  split at e
  ·rename_i hl
   simp only [Option.some.injEq] at e; subst e
   cases h with | mp h => exact .mp (by rw [hm b 0 hl]; exact h)
  ·cases e
 | .ptr b o, v, d, h, e => by
  simp only [AC.frz] at e
  split at e
  ·rename_i hl
   simp only [Option.some.injEq] at e; subst e
   cases h with | ptr h => exact .ptr (by rw [hm b 0 hl]; exact h)
  ·cases e
 | .row b n, v, d, h, e => by
  simp only [AC.frz] at e
  split at e
  ·rename_i hfz
   split at e
   ·rename_i ty sz l hlb
    split at e
    ·rename_i hln
     simp only [Option.some.injEq] at e; subst e
     subst hln
     obtain ⟨v0, vals, h1, h2, h3, h4, h5⟩ := hb b _ hlb
     cases h with | @row _ _ c A h => ?_
     rw [h] at h1
     simp only [Option.some.injEq] at h1; subst h1
     have hzz := hz b (by simpa using hfz) _ hlb
     rcases h2.2 with ⟨p1, p2⟩ | ⟨g, cap, cur, p1, -, p2, p3, p4, p5, p6⟩
     ·simp only [Value.slice.injEq] at p1
      obtain ⟨rfl, -, rfl⟩ := p1
      have hnil : l = [] := List.length_eq_zero_iff.1 p2
      subst hnil
      exact .f (.fz sz [] none 0 0 0 (fun _ _ => undef) (Nat.le_refl _) (by simp [maxLen]) (fun _ => rfl) (fun h => absurd rfl h) (by simp) (by simp) (by simp))
     ·simp only [Value.slice.injEq, true_and] at p1
      obtain ⟨rfl, rfl⟩ := p1
      refine .f (.fz sz l (some ⟨g, 0, none⟩) c g 0 (fun i j => vals.getD (i * sz + j) undef) p3 p4 (by simp) (fun _ => ⟨rfl, hzz g ⟨_, _, h⟩⟩) h3 (fun i e j c' hi hj => ?_) (fun i e j c' hi hj => ?_))
      ·obtain ⟨u, q1, q2⟩ := h4 i e j c' hi hj
       have := cell_take p2 p6 q1
       rw [List.getD_eq_getElem?_getD, q1, Nat.zero_add]; exact this
      ·obtain ⟨u, q1, q2⟩ := h4 i e j c' hi hj
       rw [List.getD_eq_getElem?_getD, q1]; exact q2.mono hF (Agree.refl _ _)
    ·cases e
   ·cases e
  ·split at e
   ·rename_i hl
    simp only [Option.some.injEq] at e; subst e
    cases h with | row h => exact .row (by rw [hm b n hl]; exact h)
   ·cases e
 | .ep b n sz i o, v, d, h, e => by
  simp only [AC.frz] at e
  split at e
  ·rename_i hl
   simp only [Option.some.injEq] at e; subst e
   cases h with | ep h => exact .ep (by rw [hm b n hl]; exact h)
  ·cases e
 | .fn f' caps, v, d, h, e => by
  simp only [AC.frz] at e
  split at e
  ·rename_i l hl
   simp only [Option.some.injEq] at e; subst e
   cases h with | fn vals hs hv hr =>
    obtain ⟨h1, h2⟩ := Rcs.frz hb hF hm hz caps l hl
    refine .fn vals (by rw [h1]; exact hs) (fun j c hj => ?_) (fun j c hj => ?_)
    ·obtain ⟨c0, h3, -⟩ := h2 j c hj
     exact hv j c0 h3
    ·obtain ⟨c0, h3, h4⟩ := h2 j c hj
     exact h4 _ (hr j c0 h3)
  ·cases e
theorem Rcs.frz (hb : ∀ b x, look q b = some x → Rb w E b x) (hF : ∀ g, E.F g → E'.F g) (hm : ∀ b n, live b = true → E'.m b n = E.m b n) (hz : ∀ b ∈ fz, ∀ x, look q b = some x → ∀ g, owns E b x g → E'.F g) :
  ∀ (l l' : List AC), AC.frzs q fz live l = some l' → l'.length = l.length ∧ ∀ (j : Nat) (d : AC), l'[j]? = some d → ∃ c, l[j]? = some c ∧ ∀ v, Rc w E c v → Rc w E' d v
 | [], l', e => by simp only [AC.frzs, Option.some.injEq] at e; subst e; exact ⟨rfl, fun j d hj => by simp at hj⟩
 | c :: r, l', e => by
  simp only [AC.frzs] at e
  split at e
  ·rename_i x l2 hx hl2
   simp only [Option.some.injEq] at e; subst e
   obtain ⟨h1, h2⟩ := Rcs.frz hb hF hm hz r l2 hl2
   refine ⟨by simp [h1], fun j d hj => ?_⟩
   cases j with
   | zero => simp at hj; subst hj; exact ⟨c, rfl, fun v hv => Rc.frz hb hF hm hz c v x hv hx⟩
   | succ j => simpa using h2 j d (by simpa using hj)
  ·cases e
end
mutual
theorem Rv.frz (hb : ∀ b x, look q b = some x → Rb w E b x) (hF : ∀ g, E.F g → E'.F g) (hm : ∀ b n, live b = true → E'.m b n = E.m b n) (hz : ∀ b ∈ fz, ∀ x, look q b = some x → ∀ g, owns E b x g → E'.F g) :
  ∀ (c : AV) (v : Value) (d : AV), Rv w E c v → c.frz q fz live = some d → Rv w E' d v
 | .one c, v, d, h, e => by
  simp only [AV.frz] at e
  split at e
  ·rename_i x hx
   simp only [Option.some.injEq] at e; subst e
   cases h with | one h => exact .one (Rc.frz hb hF hm hz c v x h hx)
  ·cases e
 | .agg l, v, d, h, e => by
  simp only [AV.frz] at e
  split at e
  ·rename_i x hx
   simp only [Option.some.injEq] at e; subst e
   cases h with | agg hs hr =>
    obtain ⟨h1, h2⟩ := Rcs.frz hb hF hm hz l x hx
    refine .agg (by rw [h1]; exact hs) (fun j c hj => ?_)
    obtain ⟨c0, h3, h4⟩ := h2 j c hj
    obtain ⟨u, h5, h6⟩ := hr j c0 h3
    exact ⟨u, h5, h4 u h6⟩
  ·cases e
 | .tup l, v, d, h, e => by
  simp only [AV.frz] at e
  split at e
  ·rename_i x hx
   simp only [Option.some.injEq] at e; subst e
   cases h with | tup vals hs hv hr =>
    obtain ⟨h1, h2⟩ := Rvs.frz hb hF hm hz l x hx
    refine .tup vals (by rw [h1]; exact hs) (fun j c hj => ?_) (fun j c hj => ?_)
    ·obtain ⟨c0, h3, -⟩ := h2 j c hj
     exact hv j c0 h3
    ·obtain ⟨c0, h3, h4⟩ := h2 j c hj
     exact h4 _ (hr j c0 h3)
  ·cases e
theorem Rvs.frz (hb : ∀ b x, look q b = some x → Rb w E b x) (hF : ∀ g, E.F g → E'.F g) (hm : ∀ b n, live b = true → E'.m b n = E.m b n) (hz : ∀ b ∈ fz, ∀ x, look q b = some x → ∀ g, owns E b x g → E'.F g) :
  ∀ (l l' : List AV), AV.frzs q fz live l = some l' → l'.length = l.length ∧ ∀ (j : Nat) (d : AV), l'[j]? = some d → ∃ c, l[j]? = some c ∧ ∀ v, Rv w E c v → Rv w E' d v
 | [], l', e => by simp only [AV.frzs, Option.some.injEq] at e; subst e; exact ⟨rfl, fun j d hj => by simp at hj⟩
 | c :: r, l', e => by
  simp only [AV.frzs] at e
  split at e
  ·rename_i x l2 hx hl2
   simp only [Option.some.injEq] at e; subst e
   obtain ⟨h1, h2⟩ := Rvs.frz hb hF hm hz r l2 hl2
   refine ⟨by simp [h1], fun j d hj => ?_⟩
   cases j with
   | zero => simp at hj; subst hj; exact ⟨c, rfl, fun v hv => Rv.frz hb hF hm hz c v x hv hx⟩
   | succ j => simpa using h2 j d (by simpa using hj)
  ·cases e
end
end
theorem look_mem {α : Type} : ∀ {l : List (Nat × α)} {i : Nat} {x : α}, look l i = some x → (i, x) ∈ l
 | [], i, x, h => by cases h
 | p :: r, i, x, h => by
  unfold look at h
  split at h
  ·rename_i e
   simp only [beq_iff_eq] at e
   injection h with h; subst h; subst e; exact List.mem_cons_self
  ·exact List.mem_cons_of_mem _ (look_mem h)
def lives (k : Nat) (H' : HL) (b : Nat) : Bool := decide (b < k) || H'.any (fun p => p.1 == b)
theorem Wk.mk (fz : List Nat) (hT : ∀ p ∈ T', ∃ x, look T p.1 = some x ∧ x.frz H fz (lives k H') = some p.2) (hH : ∀ p ∈ H', ∃ x, look H p.1 = some x ∧ x.frz H fz (lives k H') = some p.2)
  (hfz : ∀ b ∈ fz, k ≤ b ∧ ∀ p ∈ H', p.1 ≠ b) (hk : k ≤ nx') (hnx : ∀ p ∈ H', p.1 < nx') : Wk nt k T H nx T' H' nx' := by
 intro fr E a w hn hkk r
 let E' : En := ⟨fun g => E.F g ∨ ∃ b ∈ fz, ∃ x, look H b = some x ∧ owns E b x g, fun b n => if lives k H' b then E.m b n else none, E.ft⟩
 have hF : ∀ g, E.F g → E'.F g := fun g h => .inl h
 have hm : ∀ b n, lives k H' b = true → E'.m b n = E.m b n := fun b n h => if_pos h
 have hz : ∀ b ∈ fz, ∀ x, look H b = some x → ∀ g, owns E b x g → E'.F g := fun b hb x hx g ho => .inr ⟨b, hb, x, hx, ho⟩
 have hlive : ∀ b x, look H' b = some x → lives k H' b = true := fun b x h => by
  unfold lives
  simp only [Bool.or_eq_true, List.any_eq_true]
  exact .inr ⟨_, look_mem h, by simp⟩
 have hold : ∀ b x, look H' b = some x → ∃ x0, look H b = some x0 ∧ x0.frz H fz (lives k H') = some x := fun b x h => hH _ (look_mem h)
 have hown : ∀ b x x0, look H' b = some x → x0.frz H fz (lives k H') = some x → ∀ g, owns E' b x g ↔ owns E b x0 g := fun b x x0 h e g => by
  have hl := hlive b x h
  cases x0 with
  | box ty l =>
   simp only [AB.frz] at e
   split at e
   ·simp only [Option.some.injEq] at e; subst e
    simp only [owns, hm b _ hl]
   ·cases e
  | row ty sz l =>
   simp only [AB.frz, Option.some.injEq] at e; subst e
   simp only [owns, hm b _ hl]
  | obj y =>
   simp only [AB.frz] at e
   split at e
   ·simp only [Option.some.injEq] at e; subst e; exact Iff.rfl
   ·cases e
  | dead => simp only [AB.frz, Option.some.injEq] at e; subst e; exact Iff.rfl
 refine ⟨E', r.defers, r.size, fun i x hi => ?_, fun b x hx => ?_, fun b b' x x' g hx hx' ho ho' => ?_, fun b x g hx ho => ?_, fun b n hb hx => ?_, r.os, r.tape, r.output, r.grow, r.kept, fun g hg => .inl (r.hF g hg), fun g hg => ?_, fun b n v hb => ?_, r.oldk⟩
 ·obtain ⟨x0, h1, h2⟩ := hT _ (look_mem hi)
  obtain ⟨v, h3, h4⟩ := r.tmps i x0 h1
  exact ⟨v, h3, Rv.frz r.blk hF hm hz x0 v x h4 h2⟩
 ·obtain ⟨x0, h1, h2⟩ := hold b x hx
  have hl := hlive b x hx
  have h3 := r.blk b x0 h1
  cases x0 with
  | box ty l =>
   simp only [AB.frz] at h2
   split at h2
   ·rename_i l' hl'
    simp only [Option.some.injEq] at h2; subst h2
    obtain ⟨g, vs, q1, q2, q3, q4⟩ := h3
    obtain ⟨h5, h6⟩ := Rcs.frz r.blk hF hm hz l l' hl'
    refine ⟨g, vs, by rw [hm b 0 hl]; exact q1, q2, by rw [h5]; exact q3, fun j c hj => ?_⟩
    obtain ⟨c0, h7, h8⟩ := h6 j c hj
    obtain ⟨u, h9, h10⟩ := q4 j c0 h7
    exact ⟨u, h9, h8 u h10⟩
   ·cases h2
  | obj y =>
   simp only [AB.frz] at h2
   split at h2
   ·rename_i hok
    simp only [Option.some.injEq] at h2; subst h2
    obtain ⟨u, q1, q2⟩ := h3
    exact ⟨u, by rw [hm b _ hl]; exact q1, Ro.okL hF hm y hok q2⟩
   ·cases h2
  | dead => simp only [AB.frz, Option.some.injEq] at h2; subst h2; exact trivial
  | row ty sz l =>
   simp only [AB.frz, Option.some.injEq] at h2; subst h2
   exact h3.elim fun v ⟨vals, q1, q2, q3, q4, q5⟩ => ⟨v, vals, by rw [hm b _ hl]; exact q1, q2, q3, fun i e j c hi hj => let ⟨u, q6, q7⟩ := q4 i e j c hi hj; ⟨u, q6, q7.mono hF (Agree.refl _ _)⟩, fun n hn => by rw [hm b n hl]; exact q5 n hn⟩
 ·obtain ⟨x0, h1, h2⟩ := hold b x hx
  obtain ⟨x0', h1', h2'⟩ := hold b' x' hx'
  exact r.sep b b' x0 x0' g h1 h1' ((hown b x x0 hx h2 g).1 ho) ((hown b' x' x0' hx' h2' g).1 ho')
 ·obtain ⟨x0, h1, h2⟩ := hold b x hx
  obtain ⟨q1, q2, q3⟩ := r.own b x0 g h1 ((hown b x x0 hx h2 g).1 ho)
  refine ⟨q1, fun hg => ?_, q3⟩
  rcases hg with hg | ⟨b', hb', x', hx', ho'⟩
  ·exact q2 hg
  ·have := r.sep b' b x' x0 g hx' h1 ho' ((hown b x x0 hx h2 g).1 ho)
   subst this
   exact (hfz b' hb').2 _ (look_mem hx) rfl
 ·show (if lives k H' b then E.m b n else none) = none
  rw [if_neg]
  unfold lives
  simp only [Bool.or_eq_true, decide_eq_true_eq, List.any_eq_true, beq_iff_eq, not_or, not_exists, not_and]
  exact ⟨by omega, fun p hp e => by have := hnx p hp; omega⟩
 ·rcases hg with hg | ⟨b, hb, x, hx, ho⟩
  ·exact r.hF2 g hg
  ·have := r.own b x g hx ho
   exact ⟨this.2.2, .inr this.1⟩
 ·have hbk := r.oldk b n v hb
  rw [hm b n (by unfold lives; simp; exact .inl (by omega))]
  exact r.old b n v hb
theorem Wk.nilT (i ty sz : Nat) (hi : look T i = some (.one (.f (.v (.slice none 0 0))))) (hH : look H nx = none) : Wk nt k T H nx ((i, .one (.row nx 0)) :: T) ((nx, .row ty sz []) :: H) (nx + 1) := by
 intro fr E a w hn hk r
 have hu := Upd.nilRow (h := look H) (w := w) ty sz (fun n => r.fresh nx n (Nat.le_refl _) hH) hH
 have r' := (r.upd hu).bump (Nat.le_succ nx)
 refine ⟨_, r'.defers, r'.size, fun j x hj => ?_, fun b x hb => ?_, fun b b' x x' g hb hb' => ?_, fun b x g hb => ?_, fun b n hb hx => ?_, r'.os, r'.tape, r'.output, r'.grow, r'.kept, r'.hF, r'.hF2, r'.old, r'.oldk⟩
 ·rw [look_cons] at hj
  split at hj
  ·rename_i e
   simp only [beq_iff_eq] at e
   subst e
   injection hj with hj; subst hj
   obtain ⟨v, h1, h2⟩ := r'.tmps i _ hi
   have := h2.val_inv
   subst this
   exact ⟨_, h1, .one (.row (En.set_at _ _ _ _))⟩
  ·exact r'.tmps j x hj
 ·refine r'.blk b x ?_
  rw [look_cons] at hb
  simpa [up] using hb
 ·exact r'.sep b b' x x' g (by rw [look_cons] at hb; simpa [up] using hb) (by rw [look_cons] at hb'; simpa [up] using hb')
 ·exact r'.own b x g (by rw [look_cons] at hb; simpa [up] using hb)
 ·refine r'.fresh b n hb ?_
  rw [look_cons] at hx
  simpa [up] using hx
end
def resA (P : Program) (T : TL) (H : HL) : List ResultVar → Option (List AV)
 | [] => some []
 | .tmp t :: r => match look T t, resA P T H r with | some x, some l => some (x :: l) | _, _ => none
 | .cell a ty :: r => match look T a with
  | some p => (match plLoad P (look H) ty p, resA P T H r with | some x, some l => some (x :: l) | _, _ => none)
  | none => none
def outA : List AV → AV
 | [x] => x
 | l => .tup l
section
variable {P : Program} {fr : Fr} {E : En} {nx : Nat} {a : Act} {w : World} {T : TL} {H : HL}
def resStep (tmps : Array Value) : ResultVar → Sem Value
 | .tmp t => pure (tmps.getD t undef)
 | .cell c ty => do loadVar ty (← asAddr (tmps.getD c undef))
theorem results_step (fn : Func) (tmps : Array Value) : results fn tmps = (do
  let vs ← fn.results.mapM (resStep tmps)
  pure (if h : vs.size = 1 then vs[0] else .tuple vs)) := rfl
theorem resA_sound (r : R fr E (look T) (look H) nx a w) : ∀ {l : List ResultVar} {xs : List AV}, resA P T H l = some xs →
  ∃ vs : List Value, (l.mapM (resStep a.tmps)).run P w = .ok vs w ∧ All2 (Rv w E) xs vs
 | [], xs, h => by simp only [resA, Option.some.injEq] at h; subst h; exact ⟨[], rfl, All2.nil _⟩
 | .tmp t :: l, xs, h => by
  simp only [resA] at h
  split at h
  ·rename_i x ys hx hl
   simp only [Option.some.injEq] at h; subst h
   obtain ⟨vs, h1, h2⟩ := resA_sound r hl
   obtain ⟨v, h3, h4⟩ := r.tmps t x hx
   refine ⟨v :: vs, ?_, All2.cons h4 h2⟩
   have h5 : (resStep a.tmps (.tmp t)).run P w = .ok v w := by simp [resStep, h3]
   rw [List.mapM_cons]
   simp only [Sem.run_bind, h5, Sem.run_pure, Result.andThen_ok, h1]
  ·cases h
 | .cell c ty :: l, xs, h => by
  simp only [resA] at h
  split at h
  ·rename_i p hp
   split at h
   ·rename_i x ys hx hl
    simp only [Option.some.injEq] at h; subst h
    obtain ⟨vs, h1, h2⟩ := resA_sound r hl
    unfold plLoad at hx
    split at hx
    ·rename_i ti q hti hq
     have hev := r.eval hp
     obtain ⟨g, base, cvals, h3, h4, h5⟩ := read_sound r hev (cells := q.1) (off := q.2) hq
     obtain ⟨v, h6, h7⟩ := ldv_sound hti h4 h5 hx
     refine ⟨v :: vs, ?_, All2.cons h7 h2⟩
     have h8 : a.tmps.getD c undef = .pointer (some ⟨g, base + q.2, none⟩) := h3
     have h9 : (resStep a.tmps (.cell c ty)).run P w = .ok v w := by
      simp only [resStep, h8, asAddr, Sem.run_bind, Sem.run_pure, Result.andThen_ok, h6]
     rw [List.mapM_cons]
     simp only [Sem.run_bind, h9, Sem.run_pure, Result.andThen_ok, h1]
    ·cases hx
   ·cases h
  ·cases h
theorem results_run {fn : Func} {rs : List ResultVar} (hr : fn.results = rs.toArray) (r : R fr E (look T) (look H) nx a w) {xs : List AV} (h : resA P T H rs = some xs) : ∃ v, (results fn a.tmps).run P w = .ok v w ∧ Rv w E (outA xs) v := by
 obtain ⟨vs, h1, h2⟩ := resA_sound (P := P) r h
 have hm : (fn.results.mapM (resStep a.tmps)).run P w = .ok vs.toArray w := by
  rw [hr, Array.mapM_eq_mapM_toList]
  simp [h1]
 have hres : (results fn a.tmps).run P w = .ok (if h : vs.toArray.size = 1 then vs.toArray[0] else .tuple vs.toArray) w := by
  rw [results_step]
  simp only [Sem.run_bind, hm, Result.andThen_ok, Sem.run_pure]
 have hlen := h2.1
 match xs, vs, hlen, h2, hres with
 | [x], [v], _, h2, hres =>
  refine ⟨v, by simpa using hres, ?_⟩
  obtain ⟨u, h3, h4⟩ := h2.2 0 x rfl
  simp at h3; subst h3; exact h4
 | [], [], _, h2, hres => exact ⟨.tuple #[], by simpa using hres, .tup (fun _ => undef) rfl (fun j c hj => by simp at hj) (fun j c hj => by simp at hj)⟩
 | x :: y :: xs, u :: v :: vs, hlen, h2, hres =>
  refine ⟨.tuple (u :: v :: vs).toArray, by simpa using hres, ?_⟩
  refine .tup (fun j => (u :: v :: vs).getD j undef) (by simpa using hlen) (fun j c hj => ?_) (fun j c hj => ?_)
  ·obtain ⟨z, h3, h4⟩ := h2.2 j c hj
   rw [List.getD_eq_getElem?_getD, h3]
   simpa using h3
  ·obtain ⟨z, h3, h4⟩ := h2.2 j c hj
   rw [List.getD_eq_getElem?_getD, h3]; exact h4
end
end Go.Abs
set_option linter.unusedVariables false
set_option linter.unusedSimpArgs false
namespace Go.Abs
open Go.RowKit
mutual
theorem AC.ren_pure (ρ : Nat → Nat) : ∀ c : AC, c.lt 0 = true → c.ren ρ = c
 | .f c, h => rfl
 | .ptr b o, h => by simp [AC.lt] at h
 | .row b n, h => by simp [AC.lt] at h
 | .ep b n sz i o, h => by simp [AC.lt] at h
 | .fp l, h => rfl
 | .fn q caps, h => by simp only [AC.lt] at h; simp only [AC.ren, AC.rens_pure ρ caps h]
 | .mp b, h => by simp [AC.lt] at h
theorem AC.rens_pure (ρ : Nat → Nat) : ∀ l : List AC, AC.lts 0 l = true → AC.rens ρ l = l
 | [], h => rfl
 | c :: r, h => by simp only [AC.lts, Bool.and_eq_true] at h; simp only [AC.rens, AC.ren_pure ρ c h.1, AC.rens_pure ρ r h.2]
end
mutual
theorem AV.ren_pure (ρ : Nat → Nat) : ∀ c : AV, c.lt 0 = true → c.ren ρ = c
 | .one c, h => by simp only [AV.lt] at h; simp only [AV.ren, AC.ren_pure ρ c h]
 | .agg l, h => by simp only [AV.lt] at h; simp only [AV.ren, AC.rens_pure ρ l h]
 | .tup l, h => by simp only [AV.lt] at h; simp only [AV.ren, AV.rens_pure ρ l h]
theorem AV.rens_pure (ρ : Nat → Nat) : ∀ l : List AV, AV.lts 0 l = true → AV.rens ρ l = l
 | [], h => rfl
 | c :: r, h => by simp only [AV.lts, Bool.and_eq_true] at h; simp only [AV.rens, AV.ren_pure ρ c h.1, AV.rens_pure ρ r h.2]
end
def enumL {α : Type} : Nat → List α → List (Nat × α)
 | _, [] => []
 | i, x :: r => (i, x) :: enumL (i + 1) r
theorem look_enum {α : Type} : ∀ (l : List α) (i j : Nat), look (enumL i l) j = if i ≤ j then l[j - i]? else none
 | [], i, j => by simp [enumL, look]
 | x :: r, i, j => by
  simp only [enumL, look_cons, look_enum r, beq_iff_eq]
  by_cases h : i = j
  ·subst h; simp
  ·rw [if_neg h]
   by_cases h2 : i + 1 ≤ j
   ·rw [if_pos h2, if_pos (by omega), show j - i = (j - (i + 1)) + 1 by omega, List.getElem?_cons_succ]
   ·rw [if_neg h2, if_neg (by omega)]
def Sub (x y : AV) : Prop := ∀ (w : World) (E : En) (v : Value), Rv w E x v → Rv w E y v
theorem Sub.refl (x : AV) : Sub x x := fun _ _ _ h => h
def Fin (P : Program) (nt k : Nat) (rs : List ResultVar) (res : AV) (hs' : List AB) (T : TL) (H : HL) (nx : Nat) : Prop :=
 ∃ T' H' nx' out xs y, Wk nt k T H nx T' H' nx' ∧ resA P T' H' rs = some xs ∧ outA xs = y.ren (nm out) ∧ y.lt hs'.length = true ∧ Sub y res ∧ out.Nodup ∧ out.length = hs'.length ∧ (∀ j, j < k → nm out j = j) ∧
  ∀ j x, hs'[j]? = some x → look H' (nm out j) = some (x.ren (nm out)) ∧ x.ltP hs'.length
def kFin (P : Program) (nt k : Nat) (rs : List ResultVar) (res : AV) (hs' : List AB) : Exit → TL → HL → Nat → Prop
 | .normal, T, H, nx => Fin P nt k rs res hs' T H nx
 | .ret, T, H, nx => Fin P nt k rs res hs' T H nx
 | _, _, _, _ => False
section
variable {P : Program} {nt : Nat}
theorem Fin.pure {rs : List ResultVar} {res : AV} {T T' : TL} {H H' : HL} {nx nx' : Nat} (hw : Wk nt 0 T H nx T' H' nx') {xs : List AV} (hx : resA P T' H' rs = some xs) (ho : outA xs = res) (hl : res.lt 0 = true) : Fin P nt 0 rs res [] T H nx :=
 ⟨T', H', nx', [], xs, res, hw, hx, by rw [AV.ren_pure _ _ hl]; exact ho, hl, Sub.refl _, List.nodup_nil, rfl, fun j hj => by omega, fun j x hj => by simp at hj⟩
theorem Fin.pureS {rs : List ResultVar} {res y : AV} {T T' : TL} {H H' : HL} {nx nx' : Nat} (hw : Wk nt 0 T H nx T' H' nx') {xs : List AV} (hx : resA P T' H' rs = some xs) (ho : outA xs = y) (hl : y.lt 0 = true) (hs : Sub y res) : Fin P nt 0 rs res [] T H nx :=
 ⟨T', H', nx', [], xs, y, hw, hx, by rw [AV.ren_pure _ _ hl]; exact ho, hl, hs, List.nodup_nil, rfl, fun j hj => by omega, fun j x hj => by simp at hj⟩
theorem acall_of {f : FuncId} {fn : Func} {c : Code} {rs : List ResultVar} {args : List AV} {hs hs' : List AB} {res : AV} (hf : P.funcs[f]? = some fn) (hname : (fn.name == "runtime.NumGoroutine") = false) (hb : fn.body = some c) (hr : fn.results = rs.toArray) (hnt : args.length ≤ fn.ntmps) (hle : hs.length ≤ hs'.length)
  (hK : W P fn.ntmps hs.length c (kFin P fn.ntmps hs.length rs res hs') (enumL 0 args) (enumL 0 hs) hs.length) : ACall P f args hs res hs' := by
 refine ⟨⟨fn, hf, hname, by rw [hb]; rfl⟩, hle, fun E w vs hvs hblk hsep hown hfresh hFF => ?_⟩
 let fr : Fr := ⟨w, E.F, fun g => ∃ b x, hs[b]? = some x ∧ owns E b x g, fn.ntmps, E.m, hs.length⟩
 have hsz : vs.size = args.length := by simpa using hvs.1
 have hlook : ∀ b, look (enumL 0 hs) b = hs[b]? := fun b => by rw [look_enum]; simp
 have r0 : R fr E (look (enumL 0 args)) (look (enumL 0 hs)) hs.length { tmps := vs ++ Array.replicate (fn.ntmps - vs.size) undef, defers := [] } w := by
  refine ⟨rfl, by simp; show vs.size + (fn.ntmps - vs.size) = fn.ntmps; omega, fun i x hi => ?_, fun b x hx => hblk b x (by rw [← hlook]; exact hx), fun b b' x x' g hx hx' => hsep b b' x x' g (by rw [← hlook]; exact hx) (by rw [← hlook]; exact hx'),
   fun b x g hx ho => ?_, fun b n hb _ => hfresh b n hb, rfl, rfl, rfl, Nat.le_refl _, fun _ _ _ => rfl, fun _ h => h, fun g hg => ⟨hFF g hg, .inl hg⟩, fun _ _ _ h => h, fun b n v hv => ?_⟩
  ·rw [look_enum] at hi
   simp at hi
   obtain ⟨u, h1, h2⟩ := hvs.2 i x hi
   have h3 : vs[i]? = some u := by simpa using h1
   exact ⟨u, by rw [Array.getElem?_append_left (Array.getElem?_eq_some_iff.1 h3).1]; exact h3, h2⟩
  ·rw [hlook] at hx
   exact ⟨.inr ⟨b, x, hx, ho⟩, hown b x g hx ho⟩
  ·show b < hs.length
   rcases Nat.lt_or_ge b hs.length with h | h
   ·exact h
   ·have hv2 : E.m b n = some v := hv
    rw [hfresh b n h] at hv2; cases hv2
 refine calls_of_wp hf hb (wp_mono (hK fr E _ w rfl rfl r0) fun e a' w' ⟨T1, H1, nx1, E1, r1, hk⟩ => ?_)
 have main : Fin P fn.ntmps hs.length rs res hs' T1 H1 nx1 → a'.defers = [] ∧ ∃ v, (results fn a'.tmps).run P w' = .ok v w' ∧ ∃ v' E', Ending.returned v = .returned v' ∧ Rv w' E' res v' ∧ Upd E (fun b => hs[b]?) w (List.range hs'.length) E' (fun b => hs'[b]?) w' := by
  rintro ⟨T2, H2, nx2, out, xs, y, hw, hx, ho, hl, hsub, hnd, hlen, hold, hnew⟩
  obtain ⟨E2, r2⟩ := hw fr E1 a' w' rfl rfl r1
  obtain ⟨v, h1, h2⟩ := results_run hr r2 hx
  refine ⟨r2.defers, v, h1, ?_⟩
  let E' : En := ⟨E2.F, fun b n => if b < hs'.length then E2.m (nm out b) n else none, fun b => if b < hs'.length then E2.ft (nm out b) else E.ft b⟩
  have hm : ∀ b n, b < hs'.length → E'.m b n = E2.m (nm out b) n := fun b n hb => if_pos hb
  have hff : ∀ b, b < hs'.length → E'.ft b = E2.ft (nm out b) := fun b hb => if_pos hb
  have hF : ∀ g, E2.F g → E'.F g := fun _ h => h
  have hinj : ∀ i j, i < hs'.length → j < hs'.length → nm out i = nm out j → i = j := fun i j hi hj e => by
   unfold nm at e
   rw [List.getD_eq_getElem?_getD, List.getD_eq_getElem?_getD, List.getElem?_eq_getElem (by omega), List.getElem?_eq_getElem (by omega)] at e
   simp only [Option.getD_some] at e
   exact (List.getElem?_inj (i := i) (j := j) (by omega) hnd).1 (by rw [List.getElem?_eq_getElem (by omega), List.getElem?_eq_getElem (by omega), e])
  have hlt : ∀ {b x}, hs'[b]? = some x → b < hs'.length := fun h => (List.getElem?_eq_some_iff.1 h).1
  have hown' : ∀ b x g, hs'[b]? = some x → (owns E2 (nm out b) (x.ren (nm out)) g ↔ owns E' b x g) := fun b x g hb => owns_ren (fun n => (hm b n (hlt hb)).symm) (hff b (hlt hb)).symm x g
  have holdm : ∀ b n u, E.m b n = some u → E'.m b n = some u := fun b n u hb => by
   have hbl : b < hs.length := by
    rcases Nat.lt_or_ge b hs.length with h | h
    ·exact h
    ·rw [hfresh b n h] at hb; cases hb
   rw [hm b n (by omega), hold b hbl]
   exact r2.old b n u hb
  refine ⟨v, E', rfl, hsub _ _ _ (Rv.back hF hm y v (by rw [← ho]; exact h2) hl), ⟨⟨fun g hg => r2.hF g hg, holdm⟩, fun g hg => ?_, r2.os, r2.tape, r2.output, r2.grow, fun g hg hkk => ?_, fun b hb => ?_, fun b n hb => ?_, fun b hb => if_neg (by simpa using hb), fun b hb x hx => ?_, fun b hb x g hx ho => ?_, fun b hb b' hb' x x' g hx hx' ho ho' => ?_, fun b hb => ?_⟩⟩
  ·obtain ⟨h3, h4⟩ := r2.hF2 g hg
   rcases h4 with h4 | h4 | ⟨b, x, hx, ho⟩
   ·exact .inl h4
   ·exact .inr (.inl ⟨h4, h3⟩)
   ·exact .inr (.inr ⟨h3, b, by have := (List.getElem?_eq_some_iff.1 hx).1; simp; omega, x, hx, ho⟩)
  ·refine r2.kept g hg ?_
   rintro ⟨b, x, hx, ho⟩
   exact hkk b (by have := (List.getElem?_eq_some_iff.1 hx).1; simp; omega) x hx ho
  ·simp at hb
   rw [List.getElem?_eq_none hb, List.getElem?_eq_none (by omega)]
  ·simp at hb
   show (if b < hs'.length then E2.m (nm out b) n else none) = E.m b n
   rw [if_neg (by omega), hfresh b n (by omega)]
  ·obtain ⟨h3, h4⟩ := hnew b x hx
   exact Rb.back hF (hlt hx) hm (hff b (hlt hx)) (r2.blk _ _ h3) h4
  ·obtain ⟨h3, h4⟩ := hnew b x hx
   obtain ⟨q1, q2, q3⟩ := r2.own _ _ g h3 ((hown' b x g hx).2 ho)
   refine ⟨?_, q2, q3⟩
   rcases q1 with q1 | ⟨b', x', hx', ho'⟩
   ·exact .inl q1
   ·exact .inr ⟨b', by have := (List.getElem?_eq_some_iff.1 hx').1; simp; omega, x', hx', ho'⟩
  ·exact hinj b b' (hlt hx) (hlt hx') (r2.sep _ _ _ _ g (hnew b x hx).1 (hnew b' x' hx').1 ((hown' b x g hx).2 ho) ((hown' b' x' g hx').2 ho'))
  ·simp at hb
   rw [List.getElem?_eq_getElem hb]; simp
 cases e with
 | normal => exact main hk
 | ret => exact main hk
 | _ => exact hk.elim
end
end Go.Abs
set_option linter.unusedVariables false
set_option linter.unusedSimpArgs false
namespace Go.Proofs.Ytfhgknmkpegpbaa
open Go.Abs Go.Proofs
theorem mixed : Try.prog.follows .mixedOrders = true := by kernel_rfl
theorem ty3 : tyOf Try.prog 3 = some ⟨.int .i64, 1, 8, [.int .i64 0]⟩ := by kernel_rfl
theorem ty4 : tyOf Try.prog 4 = some ⟨.bool, 1, 1, [.bool false]⟩ := by kernel_rfl
theorem ty9 : tyOf Try.prog 9 = some ⟨.string, 1, 16, [.string ⟨#[]⟩]⟩ := by kernel_rfl
theorem ty22 : tyOf Try.prog 22 = some ⟨.slice 25, 1, 24, [.slice none 0 0]⟩ := by kernel_rfl
theorem ty25 : tyOf Try.prog 25 = some ⟨.struct [(3, 0, 1), (3, 1, 1), (9, 2, 1), (22, 3, 1)], 4, 56, [.int .i64 0, .int .i64 0, .string ⟨#[]⟩, .slice none 0 0]⟩ := by kernel_rfl
theorem ty28 : tyOf Try.prog 28 = some ⟨.int .i64, 1, 8, [.int .i64 0]⟩ := by kernel_rfl
theorem ty39 : tyOf Try.prog 39 = some ⟨.slice 3, 1, 24, [.slice none 0 0]⟩ := by kernel_rfl
end Go.Proofs.Ytfhgknmkpegpbaa
set_option linter.unusedVariables false
set_option linter.unusedSimpArgs false
namespace Go.Abs
open Go.RowKit
def keepT (T : TL) (H : HL) (fz : List Nat) (live : Nat → Bool) : TL → Prop
 | [] => True
 | p :: r => (match look T p.1 with | some x => x.frz H fz live = some p.2 | none => False) ∧ keepT T H fz live r
def keepH (H : HL) (fz : List Nat) (live : Nat → Bool) : HL → Prop
 | [] => True
 | p :: r => (match look H p.1 with | some x => x.frz H fz live = some p.2 | none => False) ∧ keepH H fz live r
section
variable {P : Program} {nt k nx nx' n0 : Nat} {T T' : TL} {H H' : HL} {K : Exit → TL → HL → Nat → Prop} {c : Code}
theorem keepT_spec {fz : List Nat} {live : Nat → Bool} : ∀ {l : TL}, keepT T H fz live l → ∀ p ∈ l, ∃ x, look T p.1 = some x ∧ x.frz H fz live = some p.2
 | [], h, p, hp => by simp at hp
 | q :: r, h, p, hp => by
  rcases List.mem_cons.1 hp with rfl | hp
  ·have h1 := h.1
   split at h1
   ·rename_i x hx; exact ⟨x, hx, h1⟩
   ·exact h1.elim
  ·exact keepT_spec h.2 p hp
theorem keepH_spec {fz : List Nat} {live : Nat → Bool} : ∀ {l : HL}, keepH H fz live l → ∀ p ∈ l, ∃ x, look H p.1 = some x ∧ x.frz H fz live = some p.2
 | [], h, p, hp => by simp at hp
 | q :: r, h, p, hp => by
  rcases List.mem_cons.1 hp with rfl | hp
  ·have h1 := h.1
   split at h1
   ·rename_i x hx; exact ⟨x, hx, h1⟩
   ·exact h1.elim
  ·exact keepH_spec h.2 p hp
theorem Wk.keep (fz : List Nat) (hn : (decide (k ≤ nx') && H'.all (fun p => decide (p.1 < nx')) && fz.all fun b => decide (k ≤ b) && H'.all fun p => !(p.1 == b)) = true) (hT : keepT T H fz (lives k H') T') (hH : keepH H fz (lives k H') H') : Wk nt k T H nx T' H' nx' := by
 simp only [Bool.and_eq_true, decide_eq_true_eq, List.all_eq_true, Bool.not_eq_true', beq_eq_false_iff_ne] at hn
 exact Wk.mk fz (keepT_spec hT) (keepH_spec hH) hn.2 hn.1.1 hn.1.2
theorem WL.ind {σ : Type} (I : σ → Prop) (μ : σ → Nat) (S : σ → TL) (G : σ → HL) (s0 : σ) (hI : I s0) (hw : Wk nt k T H n0 (S s0) (G s0) nx)
  (round : ∀ s, I s → W P nt k c (kSeq K (fun T' H' nx' => ∃ s', I s' ∧ μ s' < μ s ∧ Wk nt k T' H' nx' (S s') (G s') nx)) (S s) (G s) nx) : WL P nt k c K T H n0 := by
 have key : ∀ n s, μ s ≤ n → I s → WL P nt k c K (S s) (G s) nx := by
  intro n
  induction n with
  | zero =>
   intro s hs hi
   refine WL.step fun fr E a w hn hk r => wp_mono (round s hi fr E a w hn hk r) fun e a' w' ⟨T', H', nx', E', r', hK⟩ => ?_
   cases e with
   | normal => obtain ⟨s', -, hlt, -⟩ := hK; omega
   | _ => exact ⟨T', H', nx', E', r', hK⟩
  | succ n ih =>
   intro s hs hi
   refine WL.step fun fr E a w hn hk r => wp_mono (round s hi fr E a w hn hk r) fun e a' w' ⟨T', H', nx', E', r', hK⟩ => ?_
   cases e with
   | normal =>
    obtain ⟨s', hi', hlt, hw'⟩ := hK
    exact ⟨T', H', nx', E', r', WL.wk hw' (ih s' (by omega) hi')⟩
   | _ => exact ⟨T', H', nx', E', r', hK⟩
 exact WL.wk hw (key _ s0 (Nat.le_refl _) hI)
theorem W.mid {x y : Code} (M : TL → HL → Nat → Prop) (h1 : W P nt k x (kSeq K M) T H nx) (h2 : ∀ T H nx, M T H nx → W P nt k y K T H nx) : W P nt k (.seq x y) K T H nx :=
 W.seq fun fr E a w hn hk r => wp_mono (h1 fr E a w hn hk r) fun e a' w' ⟨T', H', nx', E', r', hK⟩ => by
  cases e with
  | normal => exact ⟨T', H', nx', E', r', h2 T' H' nx' hK⟩
  | _ => exact ⟨T', H', nx', E', r', hK⟩
theorem W.to {T0 : TL} {H0 : HL} (h : W P nt k c K T0 H0 n0) {T1 : TL} {H1 : HL} {n1 : Nat} (hw : Wk nt k T1 H1 n1 T0 H0 n0) : W P nt k c K T1 H1 n1 := W.wk hw h
theorem Wk.nilB (b ty0 off ty sz : Nat) (l : List AC) (hb : look H b = some (.box ty0 l)) (hi : l[off]? = some (.f (.v (.slice none 0 0)))) (hH : look H nx = none) : Wk nt k T H nx T ((nx, .row ty sz []) :: put H b (.box ty0 (l.set off (.row nx 0)))) (nx + 1) := by
 intro fr E a w hn hk r
 have hu := Upd.nilRow (h := look H) (w := w) ty sz (fun n => r.fresh nx n (Nat.le_refl _) hH) hH
 have r' := (r.upd hu).bump (Nat.le_succ nx)
 have hne : nx ≠ b := fun e => by rw [e, hb] at hH; cases hH
 have hoff := (List.getElem?_eq_some_iff.1 hi).1
 have hlook : ∀ b', look ((nx, AB.row ty sz []) :: put H b (.box ty0 (l.set off (.row nx 0)))) b' = if b = b' then some (.box ty0 (l.set off (.row nx 0))) else up (look H) nx (.row ty sz []) b' := fun b' => by
  rw [look_cons, look_put]
  by_cases e : nx = b'
  ·subst e; simp [up, Ne.symm hne]
  ·by_cases e2 : b = b'
   ·subst e2; simp [e]
   ·simp [e, e2, up]
 have hb' : up (look H) nx (.row ty sz []) b = some (.box ty0 l) := by simp [up, hne, hb]
 have hx : ∀ b' x, look ((nx, AB.row ty sz []) :: put H b (.box ty0 (l.set off (.row nx 0)))) b' = some x → ∃ x0, up (look H) nx (.row ty sz []) b' = some x0 ∧ (b' ≠ b → x0 = x) ∧ ∀ E' g, owns E' b' x g ↔ owns E' b' x0 g := fun b' x hx => by
  rw [hlook] at hx
  split at hx
  ·rename_i e; subst e
   simp only [Option.some.injEq] at hx; subst hx
   exact ⟨_, hb', fun h => absurd rfl h, fun _ _ => Iff.rfl⟩
  ·exact ⟨x, hx, fun _ => rfl, fun _ _ => Iff.rfl⟩
 refine ⟨_, r'.defers, r'.size, r'.tmps, fun b' x h => ?_, fun b1 b2 x1 x2 g h1 h2 ho1 ho2 => ?_, fun b' x g h ho => ?_, fun b' n hb2 h => ?_, r'.os, r'.tape, r'.output, r'.grow, r'.kept, r'.hF, r'.hF2, r'.old, r'.oldk⟩
 ·rw [hlook] at h
  split at h
  ·rename_i e; subst e
   simp only [Option.some.injEq] at h; subst h
   obtain ⟨g, vs, q1, q2, q3, q4⟩ := r'.blk b _ hb'
   refine ⟨g, vs, q1, q2, by simpa using q3, fun j c hj => ?_⟩
   by_cases e : off = j
   ·subst e
    rw [List.getElem?_set_self hoff] at hj
    simp only [Option.some.injEq] at hj; subst hj
    obtain ⟨u, q5, q6⟩ := q4 off _ hi
    have : u = .slice none 0 0 := by cases q6 with | f q6 => cases q6 with | v => rfl
    subst this
    exact ⟨_, q5, .row (En.set_at _ _ _ _)⟩
   ·rw [List.getElem?_set_ne e] at hj; exact q4 j c hj
  ·exact r'.blk b' x h
 ·obtain ⟨y1, a1, -, a2⟩ := hx b1 x1 h1
  obtain ⟨y2, c1, -, c2⟩ := hx b2 x2 h2
  exact r'.sep b1 b2 y1 y2 g a1 c1 ((a2 _ g).1 ho1) ((c2 _ g).1 ho2)
 ·obtain ⟨y1, a1, -, a2⟩ := hx b' x h
  exact r'.own b' y1 g a1 ((a2 _ g).1 ho)
 ·refine r'.fresh b' n hb2 ?_
  rw [hlook] at h
  split at h
  ·cases h
  ·exact h
theorem wrap_i64 {x : Int} (h1 : -9223372036854775808 ≤ x) (h2 : x ≤ 9223372036854775807) : IntKind.i64.wrap x = x := by
 simp only [IntKind.wrap, IntKind.bits, IntKind.signed, Bool.true_and, decide_eq_true_eq, ge_iff_le]
 split <;> omega
end
end Go.Abs
set_option linter.unusedVariables false
set_option linter.unusedSimpArgs false
namespace Go.Abs
open Go.RowKit
section
variable {P : Program} {nx i d : Nat} {ops rest : List Oper} {o : Oper} {T : TL} {H H' : HL} {cs : List Chk}
theorem runO_pl {K : Option AV → HL → Chk → Prop} (hg : gOf ops.toArray (look T) o = some true) {x : Option AV} {ws : HL} (hp : pl P (look T) (look H) (nx + i) o.op = some (x, ws)) (hf : look H (nx + i) = none)
  (h : K x ws ⟨o.dst, ws.map (·.1), gRd ops.toArray o ++ rdT o.op, rdB (look T) o.op, [nx + i]⟩) : RunO P nx ops i o T H K := by
 unfold RunO
 rw [hg]
 simp only
 split
 ·rename_i f args tys ho
  rw [ho] at hp; cases hp
 ·rw [hp]; exact ⟨hf, h⟩
theorem runO_skip {K : Option AV → HL → Chk → Prop} (hg : gOf ops.toArray (look T) o = some false) (h : K none [] ⟨o.dst, [], gRd ops.toArray o, [], []⟩) : RunO P nx ops i o T H K := by
 unfold RunO; rw [hg]; exact h
theorem runO_call {K : Option AV → HL → Chk → Prop} (hg : gOf ops.toArray (look T) o = some true) {f : Operand} {args : List Operand} {tys : Array TypeId} (ho : o.op = .call ⟨.value f, args.toArray, tys⟩) {fid : FuncId} {caps : List AC} {xs cargs : List AV} {hs hs' : List AB} {res : AV} {ids : List Nat}
  (hc : ACall P fid cargs hs res hs') (hf : evT (look T) f = some (.one (.fn (.func fid) caps))) (hx : evArgs (look T) args = some xs) (ha : xs ++ caps.map AV.one = cargs.map (·.ren (nm ids)))
  (hk : (cargs.all (·.lt hs.length) && hs.all (fun x => match x with | .box _ l => AC.lts hs.length l | .obj _ => false | _ => true) && decide ids.Nodup && decide (ids.length = hs'.length) && (ids.drop hs.length).all (fun b => decide (nx ≤ b) && (look H b).isNone)) = true)
  (hh : ∀ p ∈ enumL 0 hs, look H (nm ids p.1) = some (p.2.ren (nm ids))) (h : K (some (res.ren (nm ids))) (ids.zip (hs'.map (·.ren (nm ids)))) ⟨o.dst, (ids.zip (hs'.map (·.ren (nm ids)))).map (·.1), gRd ops.toArray o ++ rdT o.op, ids.take hs.length, ids.drop hs.length⟩) : RunO P nx ops i o T H K := by
 simp only [Bool.and_eq_true, List.all_eq_true, decide_eq_true_eq, Option.isNone_iff_eq_none] at hk
 obtain ⟨⟨⟨⟨k1, k2⟩, k3⟩, k4⟩, k5⟩ := hk
 have k2' : ∀ x ∈ hs, x.ltP hs.length := fun x hm => by
  have := k2 x hm
  cases x <;> first | exact this | exact trivial | cases this
 unfold RunO
 rw [hg]
 simp only [ho]
 refine ⟨fid, caps, xs, cargs, hs, hs', res, ids, hf, hx, hc, k3, k4, ha, k1, k2', fun j x hj => ?_, fun b hb => ⟨(k5 b hb).2, (k5 b hb).1⟩, by rw [ho] at h; exact h⟩
 have : (j, x) ∈ enumL 0 hs := look_mem (by rw [look_enum]; simpa using hj)
 exact hh (j, x) this
section S
variable {K : TL → HL → Prop}
theorem RunS.nil (h : K T H) : RunS P nx ops i [] T H K := h
theorem RunS.val {v : AV} (hd : o.dst = some d) (hg : gOf ops.toArray (look T) o = some true) (hp : pl P (look T) (look H) (nx + i) o.op = some (some v, [])) (hf : look H (nx + i) = none) (h : RunS P nx ops (i + 1) rest ((d, v) :: T) H K) : RunS P nx ops i (o :: rest) T H K :=
 runO_pl hg hp hf (by rw [hd]; exact h)
theorem RunS.new {v : AV} {b : Nat} {x : AB} (hd : o.dst = some d) (hg : gOf ops.toArray (look T) o = some true) (hp : pl P (look T) (look H) (nx + i) o.op = some (some v, [(b, x)])) (hf : look H (nx + i) = none) (hH : put H b x = H') (h : RunS P nx ops (i + 1) rest ((d, v) :: T) H' K) : RunS P nx ops i (o :: rest) T H K :=
 runO_pl hg hp hf (by rw [hd]; subst hH; exact h)
theorem RunS.put {b : Nat} {x : AB} (hd : o.dst = none) (hg : gOf ops.toArray (look T) o = some true) (hp : pl P (look T) (look H) (nx + i) o.op = some (none, [(b, x)])) (hf : look H (nx + i) = none) (hH : put H b x = H') (h : RunS P nx ops (i + 1) rest T H' K) : RunS P nx ops i (o :: rest) T H K :=
 runO_pl hg hp hf (by rw [hd]; subst hH; exact h)
theorem RunS.skip {T' : TL} (hg : gOf ops.toArray (look T) o = some false) (hT : setT T o.dst none = T') (h : RunS P nx ops (i + 1) rest T' H K) : RunS P nx ops i (o :: rest) T H K :=
 runO_skip hg (by subst hT; exact h)
theorem RunS.callP (hd : o.dst = some d) (hg : gOf ops.toArray (look T) o = some true) {fid : FuncId} {cargs : List AV} {res : AV} (hc : ACall P fid cargs [] res []) {args : List Operand} {tys : Array TypeId} (ho : o.op = .call ⟨.value (.func fid), args.toArray, tys⟩)
  (hx : evArgs (look T) args = some cargs) (hl : cargs.all (·.lt 0) = true) (hr : res.lt 0 = true) (h : RunS P nx ops (i + 1) rest ((d, res) :: T) H K) : RunS P nx ops i (o :: rest) T H K :=
 runO_call (ids := []) hg ho hc rfl hx (by
  have : ∀ l : List AV, l.all (·.lt 0) = true → l.map (·.ren (nm [])) = l := fun l => by
   induction l with
   | nil => intro _; rfl
   | cons x r ih => intro h; simp only [List.all_cons, Bool.and_eq_true] at h; simp [AV.ren_pure _ x h.1, ih h.2]
  rw [this cargs hl]; simp) (by simpa using hl) (fun p hp => by simp [enumL] at hp) (by rw [hd, AV.ren_pure _ _ hr]; exact h)
theorem RunS.callH (hd : o.dst = some d) (hg : gOf ops.toArray (look T) o = some true) {fid : FuncId} {cargs : List AV} {hs hs' : List AB} {res res' : AV} (hc : ACall P fid cargs hs res hs') (ids : List Nat) {f : Operand} {args : List Operand} {tys : Array TypeId} (ho : o.op = .call ⟨.value f, args.toArray, tys⟩)
  {caps : List AC} {xs : List AV} (hf : evT (look T) f = some (.one (.fn (.func fid) caps))) (hx : evArgs (look T) args = some xs) (ha : xs ++ caps.map AV.one = cargs.map (·.ren (nm ids)))
  (hk : (cargs.all (·.lt hs.length) && hs.all (fun x => match x with | .box _ l => AC.lts hs.length l | .obj _ => false | _ => true) && decide ids.Nodup && decide (ids.length = hs'.length) && (ids.drop hs.length).all (fun b => decide (nx ≤ b) && (look H b).isNone)) = true)
  (hh : ∀ p ∈ enumL 0 hs, look H (nm ids p.1) = some (p.2.ren (nm ids))) (hr : res.ren (nm ids) = res') (hH : puts H (ids.zip (hs'.map (·.ren (nm ids)))) = H') (h : RunS P nx ops (i + 1) rest ((d, res') :: T) H' K) : RunS P nx ops i (o :: rest) T H K :=
 runO_call hg ho hc hf hx ha hk hh (by rw [hd, hr]; subst hH; exact h)
end S
section D
variable {K : TL → HL → List Chk → Prop}
theorem RunD.nil (h : K T H cs) : RunD P nx ops i [] T H cs K := h
theorem RunD.val {v : AV} (hd : o.dst = some d) (hg : gOf ops.toArray (look T) o = some true) (hp : pl P (look T) (look H) (nx + i) o.op = some (some v, [])) (hf : look H (nx + i) = none) (h : RunD P nx ops (i + 1) rest ((d, v) :: T) H (cs ++ [⟨some d, [], gRd ops.toArray o ++ rdT o.op, rdB (look T) o.op, [nx + i]⟩]) K) : RunD P nx ops i (o :: rest) T H cs K :=
 runO_pl hg hp hf (by rw [hd]; exact h)
theorem RunD.new {v : AV} {b : Nat} {x : AB} (hd : o.dst = some d) (hg : gOf ops.toArray (look T) o = some true) (hp : pl P (look T) (look H) (nx + i) o.op = some (some v, [(b, x)])) (hf : look H (nx + i) = none) (hH : put H b x = H') (h : RunD P nx ops (i + 1) rest ((d, v) :: T) H' (cs ++ [⟨some d, [b], gRd ops.toArray o ++ rdT o.op, rdB (look T) o.op, [nx + i]⟩]) K) : RunD P nx ops i (o :: rest) T H cs K :=
 runO_pl hg hp hf (by rw [hd]; subst hH; exact h)
theorem RunD.put {b : Nat} {x : AB} (hd : o.dst = none) (hg : gOf ops.toArray (look T) o = some true) (hp : pl P (look T) (look H) (nx + i) o.op = some (none, [(b, x)])) (hf : look H (nx + i) = none) (hH : put H b x = H') (h : RunD P nx ops (i + 1) rest T H' (cs ++ [⟨none, [b], gRd ops.toArray o ++ rdT o.op, rdB (look T) o.op, [nx + i]⟩]) K) : RunD P nx ops i (o :: rest) T H cs K :=
 runO_pl hg hp hf (by rw [hd]; subst hH; exact h)
theorem RunD.skip {T' : TL} (hg : gOf ops.toArray (look T) o = some false) (hT : setT T o.dst none = T') (h : RunD P nx ops (i + 1) rest T' H (cs ++ [⟨o.dst, [], gRd ops.toArray o, [], []⟩]) K) : RunD P nx ops i (o :: rest) T H cs K :=
 runO_skip hg (by subst hT; exact h)
theorem RunD.callP (hd : o.dst = some d) (hg : gOf ops.toArray (look T) o = some true) {fid : FuncId} {cargs : List AV} {res : AV} (hc : ACall P fid cargs [] res []) {args : List Operand} {tys : Array TypeId} (ho : o.op = .call ⟨.value (.func fid), args.toArray, tys⟩)
  (hx : evArgs (look T) args = some cargs) (hl : cargs.all (·.lt 0) = true) (hr : res.lt 0 = true) (h : RunD P nx ops (i + 1) rest ((d, res) :: T) H (cs ++ [⟨some d, [], gRd ops.toArray o ++ rdT o.op, [], []⟩]) K) : RunD P nx ops i (o :: rest) T H cs K :=
 runO_call (ids := []) hg ho hc rfl hx (by
  have : ∀ l : List AV, l.all (·.lt 0) = true → l.map (·.ren (nm [])) = l := fun l => by
   induction l with
   | nil => intro _; rfl
   | cons x r ih => intro h; simp only [List.all_cons, Bool.and_eq_true] at h; simp [AV.ren_pure _ x h.1, ih h.2]
  rw [this cargs hl]; simp) (by simpa using hl) (fun p hp => by simp [enumL] at hp) (by rw [hd, AV.ren_pure _ _ hr]; exact h)
theorem RunD.callH (hd : o.dst = some d) (hg : gOf ops.toArray (look T) o = some true) {fid : FuncId} {cargs : List AV} {hs hs' : List AB} {res res' : AV} (hc : ACall P fid cargs hs res hs') (ids : List Nat) {f : Operand} {args : List Operand} {tys : Array TypeId} (ho : o.op = .call ⟨.value f, args.toArray, tys⟩)
  {caps : List AC} {xs : List AV} (hf : evT (look T) f = some (.one (.fn (.func fid) caps))) (hx : evArgs (look T) args = some xs) (ha : xs ++ caps.map AV.one = cargs.map (·.ren (nm ids)))
  (hk : (cargs.all (·.lt hs.length) && hs.all (fun x => match x with | .box _ l => AC.lts hs.length l | .obj _ => false | _ => true) && decide ids.Nodup && decide (ids.length = hs'.length) && (ids.drop hs.length).all (fun b => decide (nx ≤ b) && (look H b).isNone)) = true)
  (hh : ∀ p ∈ enumL 0 hs, look H (nm ids p.1) = some (p.2.ren (nm ids))) (hr : res.ren (nm ids) = res') (hH : puts H (ids.zip (hs'.map (·.ren (nm ids)))) = H') (h : RunD P nx ops (i + 1) rest ((d, res') :: T) H' (cs ++ [⟨some d, (ids.zip (hs'.map (·.ren (nm ids)))).map (·.1), gRd ops.toArray o ++ rdT o.op, ids.take hs.length, ids.drop hs.length⟩]) K) : RunD P nx ops i (o :: rest) T H cs K :=
 runO_call hg ho hc hf hx ha hk hh (by rw [hd, hr]; subst hH; exact h)
end D
end
end Go.Abs
namespace Go.Abs
open Go.RowKit
section
variable {P : Program} {nt k nx nx' : Nat} {T T' : TL} {H H' : HL}
theorem Fin.keep {rs : List ResultVar} {res : AV} {hs' : List AB} (hw : Wk nt k T H nx T' H' nx') (out : List Nat) {xs : List AV} (hx : resA P T' H' rs = some xs) (ho : outA xs = res.ren (nm out))
  (hb : (res.lt hs'.length && decide out.Nodup && decide (out.length = hs'.length) && (List.range k).all (fun j => nm out j == j) && hs'.all (fun x => match x with | .box _ l => AC.lts hs'.length l | .obj _ => false | _ => true)) = true)
  (hh : ∀ p ∈ enumL 0 hs', look H' (nm out p.1) = some (p.2.ren (nm out))) : Fin P nt k rs res hs' T H nx := by
 simp only [Bool.and_eq_true, List.all_eq_true, decide_eq_true_eq, beq_iff_eq, List.mem_range] at hb
 obtain ⟨⟨⟨⟨h1, h2⟩, h3⟩, h4⟩, h5⟩ := hb
 refine ⟨T', H', nx', out, xs, res, hw, hx, ho, h1, Sub.refl _, h2, h3, h4, fun j x hj => ⟨?_, ?_⟩⟩
 ·have : (j, x) ∈ enumL 0 hs' := look_mem (by rw [look_enum]; simpa using hj)
  exact hh (j, x) this
 ·have hm := h5 _ (List.mem_of_getElem? hj)
  cases x <;> first | exact hm | exact trivial | cases hm
theorem ACall.sub {f : FuncId} {args args' : List AV} {hs hs' : List AB} {r r' : AV} (h : ACall P f args hs r hs') (ha : ∀ w E vs, All2 (Rv w E) args' vs → All2 (Rv w E) args vs) (hr : Sub r r') : ACall P f args' hs r' hs' :=
 ⟨h.1, h.2.1, fun E w vs hvs h1 h2 h3 h4 h5 => (h.2.2 E w vs (ha w E _ hvs) h1 h2 h3 h4 h5).mono fun e w' ⟨v, E', he, hv, hu⟩ => ⟨v, E', he, hr _ _ _ hv, hu⟩⟩
end
end Go.Abs
set_option linter.unusedVariables false
set_option linter.unusedSimpArgs false
namespace Go.Proofs.Ytfhgknmkpegpbaa
open Go Go.Abs Go.Proofs Go.RowKit
mutual
def treeC : Tm → List FC
 | .mk k n s l => [.v (.int .i64 k), .v (.int .i64 n), .v (.string s), .fz 4 (treesC l)]
def treesC : List Tm → List (List FC)
 | [] => []
 | t :: r => treeC t :: treesC r
end
theorem treesC_map (l : List Tm) : treesC l = l.map treeC := by
 induction l with
 | nil => rfl
 | cons t r ih => simp [treesC, ih]
theorem treeC_eq (t : Tm) : treeC t = [.v (.int .i64 t.k), .v (.int .i64 t.n), .v (.string t.s), .fz 4 (t.l.map treeC)] := by
 cases t with | mk k n s l => simp only [treeC, treesC_map]; rfl
theorem treeC_len (t : Tm) : (treeC t).length = 4 := by rw [treeC_eq]; rfl
abbrev tsF (l : List Tm) : FC := .fz 4 (l.map treeC)
abbrev tsA (l : List Tm) : AV := .one (.f (tsF l))
abbrev tA (t : Tm) : AV := .agg [.f (.v (.int .i64 t.k)), .f (.v (.int .i64 t.n)), .f (.v (.string t.s)), .f (tsF t.l)]
theorem TmC.toRf {P : Nat → Prop} {w : World} {A : Option Addr} {c : Nat} {l : List Tm} (h : TmC P w A c l) : Rf w P (tsF l) (.slice A l.length c) := by
 induction h with
 | @mk A c l es he hl hc hn hP hr hs hrec ih =>
  subst he
  have hlen : ((es.map (fun e => e.1)).map treeC).length = (es.map (fun e => e.1)).length := by simp
  rw [← hlen]
  by_cases hne : es = []
  ·subst hne
   exact .fz 4 [] A c 0 0 (fun _ _ => undef) (by simp) hc hn (fun h => absurd rfl h) (by simp) (by simp) (by simp)
  ·obtain ⟨g, off, hA, hcell⟩ := Rows.at 4 (fun _ => rfl) (by omega) hr hne
   obtain ⟨g', off', hA', hPg⟩ := hP (by simpa using hne)
   rw [hA] at hA'; injection hA' with hA'; injection hA' with hg ho _; subst hg ho
   have hget : ∀ (i : Nat) (e : List FC), ((es.map (fun e => e.1)).map treeC)[i]? = some e → ∃ x, es[i]? = some x ∧ e = treeC x.1 := fun i e hi => by
    rw [List.map_map, List.getElem?_map] at hi
    obtain ⟨x, hx, rfl⟩ := Option.map_eq_some_iff.1 hi
    exact ⟨x, hx, rfl⟩
   refine .fz 4 _ A c g off (fun i j => ((es[i]?).map fun e => (encE e).getD j undef).getD undef) (by simpa using hl) hc hn (fun _ => ⟨hA, hPg⟩) (fun i e hi => ?_) (fun i e j c' hi hj => ?_) (fun i e j c' hi hj => ?_)
   ·obtain ⟨x, -, rfl⟩ := hget i e hi; exact treeC_len _
   ·obtain ⟨x, hx, rfl⟩ := hget i e hi
    have hjl : j < 4 := by have := (List.getElem?_eq_some_iff.1 hj).1; rwa [treeC_len] at this
    have h1 : (encE x)[j]? = some ((encE x).getD j undef) := by
     rw [List.getD_eq_getElem?_getD, List.getElem?_eq_getElem (show j < (encE x).length from hjl)]; rfl
    have := hcell i x j _ hx h1
    rw [hx, Nat.add_assoc]; exact this
   ·obtain ⟨x, hx, rfl⟩ := hget i e hi
    have hxm := List.mem_of_getElem? hx
    rw [hx]
    rw [treeC_eq] at hj
    have h2 := hs x hxm
    have h3 := ih x hxm
    match j, hj with
    | 0, hj => simp at hj; subst hj; exact .v _ rfl
    | 1, hj => simp at hj; subst hj; exact .v _ rfl
    | 2, hj => simp at hj; subst hj; exact .v _ (decide_eq_true (by unfold maxLen; omega))
    | 3, hj => simp at hj; subst hj; exact h3
    | j + 4, hj => simp at hj
theorem _root_.Go.Abs.Rf.val {w : World} {F : Nat → Prop} {x v : Value} (h : Rf w F (.v x) v) : v = x := by cases h; rfl
theorem _root_.Go.Abs.Rf.str {w : World} {F : Nat → Prop} {s : ByteArray} {v : Value} (h : Rf w F (.v (.string s)) v) : v = .string s ∧ s.size ≤ 9223372036854775807 := by
 cases h with | v _ h => exact ⟨rfl, by have := of_decide_eq_true h; unfold maxLen at this; omega⟩
theorem _root_.Go.Abs.Rf.toTmC {F : Nat → Prop} {w : World} : ∀ (n : Nat) (l : List Tm), Tm.sizes l ≤ n → ∀ v, Rf w F (tsF l) v → ∃ A c, v = .slice A l.length c ∧ TmC F w A c l := by
 intro n
 induction n with
 | zero =>
  intro l hl v h
  have : l = [] := by cases l with | nil => rfl | cons t r => rw [Tm.sizes] at hl; have := t.size_pos; omega
  subst this
  cases h with | fz sz l A cap g off vals h1 h2 h3 h4 h5 h6 h7 => exact ⟨A, cap, rfl, TmC.nil _ _ (by simpa [maxLen] using h2) h3⟩
 | succ n ih =>
  intro l hl v h
  generalize hq : tsF l = q at h
  cases h with
  | v => cases hq
  | fz sz l' A cap g off vals h1 h2 h3 h4 h5 h6 h7 =>
   have hq' : l' = l.map treeC := by injection hq with _ hq; exact hq.symm
   have hq4 : sz = 4 := by injection hq with hq _; exact hq.symm
   subst hq' hq4
   have hll : (l.map treeC).length = l.length := by simp
   refine ⟨A, cap, by rw [hll], ?_⟩
   have hel : ∀ (i : Nat) (t : Tm), l[i]? = some t → vals i 0 = .int .i64 t.k ∧ vals i 1 = .int .i64 t.n ∧ vals i 2 = .string t.s ∧ t.s.size ≤ 9223372036854775807 ∧ ∃ A c, vals i 3 = .slice A t.l.length c ∧ TmC F w A c t.l := fun i t hi => by
    have hi' : (l.map treeC)[i]? = some (treeC t) := by rw [List.getElem?_map, hi]; rfl
    have g := h7 i (treeC t)
    have g0 := g 0 (.v (.int .i64 t.k)) hi' (by rw [treeC_eq]; rfl)
    have g1 := g 1 (.v (.int .i64 t.n)) hi' (by rw [treeC_eq]; rfl)
    have g2 := g 2 (.v (.string t.s)) hi' (by rw [treeC_eq]; rfl)
    have g3 := g 3 (tsF t.l) hi' (by rw [treeC_eq]; rfl)
    have hm := List.mem_of_getElem? hi
    have h8 := Tm.size_mem hm
    have h9 := t.size_eq
    obtain ⟨q1, q2⟩ := Rf.str g2
    refine ⟨Rf.val g0, Rf.val g1, q1, q2, ih t.l (by omega) _ g3⟩
   classical
   let es : List EV := (List.range l.length).map fun i => ((l.getD i Tm.zero), match vals i 3 with | .slice A _ c => (A, c) | _ => (none, 0))
   have hes : ∀ (i : Nat) (t : Tm), l[i]? = some t → ∃ A c, es[i]? = some (t, A, c) ∧ vals i 3 = .slice A t.l.length c ∧ TmC F w A c t.l := fun i t hi => by
    have hil := (List.getElem?_eq_some_iff.1 hi).1
    obtain ⟨-, -, -, -, A, c, e, ht⟩ := hel i t hi
    exact ⟨A, c, by simp [es, hil, e, List.getD_eq_getElem?_getD]; exact (List.getElem?_eq_some_iff.1 hi).2, e, ht⟩
   have hel2 : es.length = l.length := by simp [es]
   have hmem : ∀ e ∈ es, ∃ i, l[i]? = some e.1 ∧ es[i]? = some e := fun e he => by
    obtain ⟨i, hi, rfl⟩ := List.mem_iff_getElem.1 he
    have hil : i < l.length := by omega
    obtain ⟨A, c, e1, -⟩ := hes i _ (List.getElem?_eq_getElem hil)
    have e2 := List.getElem?_eq_getElem hi
    rw [e1] at e2
    injection e2 with e2
    exact ⟨i, by rw [← e2]; exact List.getElem?_eq_getElem hil, List.getElem?_eq_getElem hi⟩
   refine .mk es ?_ (by rw [← hll]; exact h1) (by simpa [maxLen] using h2) h3 (fun hne => ?_) (fun hne => ?_) (fun e he => ?_) (fun e he => ?_)
   ·apply List.ext_getElem?
    intro i
    rw [List.getElem?_map]
    cases hi : l[i]? with
    | none => rw [List.getElem?_eq_none (by rw [hel2]; exact List.getElem?_eq_none_iff.1 hi)]; rfl
    | some t => obtain ⟨A, c, e1, -⟩ := hes i t hi; rw [e1]; rfl
   ·obtain ⟨q1, q2⟩ := h4 (by intro e; exact hne (List.map_eq_nil_iff.1 e))
    exact ⟨g, off, q1, q2⟩
   ·have hne2 : l ≠ [] := fun e => by subst e; simp [es] at hne
    obtain ⟨q1, q2⟩ := h4 (by intro e; exact hne2 (List.map_eq_nil_iff.1 e))
    refine ⟨g, off, q1, fun j v hj => ?_⟩
    have hjl : j < es.length * 4 := by have := (List.getElem?_eq_some_iff.1 hj).1; rwa [flatMap_len encE 4 (fun _ => rfl)] at this
    have hi : j / 4 < es.length := by omega
    have hil : j / 4 < l.length := by omega
    obtain ⟨A', c', e1, e2, -⟩ := hes (j / 4) _ (List.getElem?_eq_getElem hil)
    have hf := flatMap_get encE 4 (fun _ => rfl) es (j / 4) (j % 4) _ e1 (by omega)
    rw [show j / 4 * 4 + j % 4 = j by omega, hj] at hf
    obtain ⟨v0, v1, v2, -⟩ := hel (j / 4) _ (List.getElem?_eq_getElem hil)
    have hi' : (l.map treeC)[j / 4]? = some (treeC l[j / 4]) := by simp [hil]
    have hjm : j % 4 < 4 := Nat.mod_lt _ (by omega)
    have hc := h6 (j / 4) (treeC l[j / 4]) (j % 4) _ hi' (List.getElem?_eq_getElem (by rw [treeC_len]; exact hjm))
    rw [show off + j / 4 * 4 + j % 4 = off + j by omega] at hc
    rw [hc, hf]
    have h4 : j % 4 = 0 ∨ j % 4 = 1 ∨ j % 4 = 2 ∨ j % 4 = 3 := by omega
    rcases h4 with e | e | e | e <;> rw [e]
    ·rw [v0]; rfl
    ·rw [v1]; rfl
    ·rw [v2]; rfl
    ·rw [e2]; rfl
   ·obtain ⟨i, h8, -⟩ := hmem e he
    exact (hel i _ h8).2.2.2.1
   ·obtain ⟨i, h8, h9⟩ := hmem e he
    obtain ⟨A', c', e1, -, ht⟩ := hes i _ h8
    rw [h9] at e1
    injection e1 with e1
    rw [e1]; exact ht
theorem _root_.Go.Abs.Rv.toTmC {w : World} {E : En} {l : List Tm} {v : Value} (h : Rv w E (tsA l) v) : ∃ A c, v = .slice A l.length c ∧ TmC E.F w A c l := by
 cases h with | one h => cases h with | f h => exact Rf.toTmC _ l (Nat.le_refl _) v h
theorem _root_.Go.Abs.Rv.toTmV {w : World} {E : En} {t : Tm} {v : Value} (h : Rv w E (tA t) v) : TmV E.F w v t := by
 obtain ⟨vs, rfl, hall⟩ := Rv.agg_inv h
 obtain ⟨v0, e0, c0⟩ := hall.2 0 _ rfl
 obtain ⟨v1, e1, c1⟩ := hall.2 1 _ rfl
 obtain ⟨v2, e2, c2⟩ := hall.2 2 _ rfl
 obtain ⟨v3, e3, c3⟩ := hall.2 3 _ rfl
 have hl : vs.toList.length = 4 := hall.1
 have g0 := (Rv.one c0).val_inv
 have g1 := (Rv.one c1).val_inv
 obtain ⟨g2, hs⟩ := Rf.str (by cases c2 with | f h => exact h)
 obtain ⟨A, c, g3, ht⟩ := Rv.toTmC (.one c3)
 refine ⟨A, c, ?_, hs, ht⟩
 congr 1
 apply Array.toList_inj.1
 apply List.ext_getElem?
 intro j
 match j with
 | 0 => rw [e0, g0]; rfl
 | 1 => rw [e1, g1]; rfl
 | 2 => rw [e2, g2]; rfl
 | 3 => rw [e3, g3]; rfl
 | j + 4 => rw [List.getElem?_eq_none (by omega)]; rfl
theorem TmC.toRv {P : Nat → Prop} {w : World} {E : En} {A : Option Addr} {c : Nat} {l : List Tm} (h : TmC P w A c l) (hP : ∀ g, P g → E.F g) : Rv w E (tsA l) (.slice A l.length c) :=
 .one (.f ((TmC.toRf h).mono hP (Agree.refl _ _)))
theorem TmC.toRvT {P : Nat → Prop} {w : World} {E : En} {A : Option Addr} {c : Nat} {t : Tm} (hs : t.s.size ≤ 9223372036854775807) (h : TmC P w A c t.l) (hP : ∀ g, P g → E.F g) : Rv w E (tA t) (.agg #[.int .i64 t.k, .int .i64 t.n, .string t.s, .slice A t.l.length c]) := by
 refine Rv.ofAll2 (All2.cons (.f (.v _ rfl)) (All2.cons (.f (.v _ rfl)) (All2.cons (.f (.v _ ?_)) (All2.cons (.f ((TmC.toRf h).mono hP (Agree.refl _ _))) (All2.nil _)))))
 exact decide_eq_true (by unfold maxLen; omega)
end Go.Proofs.Ytfhgknmkpegpbaa
set_option linter.unusedVariables false
set_option linter.unusedSimpArgs false
namespace Go.Proofs.Ytfhgknmkpegpbaa
open Go.RowKit
set_option maxRecDepth 100000 in
set_option maxHeartbeats 4000000 in
theorem refNodes_calls (t : Tm) : ∀ (P : Nat → Prop) (w : World) (v : Value), TmV P w v t → Calls Try.prog 122 #[v] w (RetB w t.okB) := by
 induction t using Tm.ind with
 | h t ih =>
  intro P w v hv
  obtain ⟨A, c, rfl, hs, hc⟩ := hv
  have Ih := Lib.hid ih; clear ih
  obtain ⟨W0, hW0⟩ : ∃ W0, W0 = w.alloc (.cells #[.int .i64 t.k, .int .i64 t.n, .string t.s, .slice A t.l.length c] 25) := ⟨_, rfl⟩
  have hB0 : Below w.heap.size w W0 := by rw [hW0]; exact (Below.refl _ _).alloc (Nat.le_refl _) _
  have hX0 : Blk W0 w.heap.size 25 #[.int .i64 t.k, .int .i64 t.n, .string t.s, .slice A t.l.length c] := by rw [hW0]; exact Blk.new _ _ _
  have lx0 := hX0.lt
  have hlc := hc.len.1
  have hlm := hc.len.2.1
  have Hc := Lib.hid (hc.stay hB0 (Nat.le_refl _)); clear hc
  have HX0 := Lib.hid hX0; clear hX0
  have HB0 := Lib.hid hB0; clear hB0
  have HW := Lib.hid hW0; clear hW0
  have hsp := t.okB_eq
  obtain ⟨r, hr⟩ : ∃ r, r = nodeB t := ⟨_, rfl⟩
  have hcall := refNode_calls t P W0 _ ⟨A, c, rfl, hs, Hc.out⟩
  rw [← hr] at hcall hsp
  have Hcall := Lib.hid hcall; clear hcall
  have Hsp := Lib.hid hsp; clear hsp hr
  go_enter Try.func122, Try.ntmps122
  go_wp2_with fail
  rw [← HW.out]
  refine Hcall.out.mono ?_
  rintro e w1 ⟨rfl, hb⟩
  have HB1 := Lib.hid hb; clear hb
  cases r
  ·have Hr := Lib.hid (show t.okB = false from by rw [Hsp.out]; rfl)
   go_wp2
   go_ret
   exact ⟨by rw [Hr.out]; rfl, HB0.out.trans (HB1.out.mono HB0.out.size)⟩
  have Hok := Lib.hid (show t.okB = Tm.okBs t.l from by rw [Hsp.out]; rfl)
  go_wp2
  go_loopw [3] (fun i wr => ∃ k : Nat, k ≤ t.l.length ∧ i = .int .i64 k ∧ Tm.okBs (t.l.take k) = true ∧ Below W0.heap.size W0 wr) (fun i _ => t.l.length - (intOf i).toNat)
  case atStart => exact ⟨0, Nat.zero_le _, rfl, by simp [Tm.okBs], HB1.out⟩
  case round =>
   obtain ⟨k, hk, rfl, hal, hB⟩ := hrel
   obtain ⟨⟨b0, b1, b2, b3⟩, -⟩ := (HX0.out.below hB lx0).four
   have HB := Lib.hid hB; clear hB
   have Hal := Lib.hid hal; clear hal
   by_cases hlt : k < t.l.length
   ·obtain ⟨x, hx⟩ : ∃ x, t.l[k]? = some x := ⟨_, List.getElem?_eq_getElem hlt⟩
    obtain ⟨g, off, Ai, ci, rfl, -, ⟨e0, e1, e2, e3⟩, hxs, hxc⟩ := (Hc.out.stay HB.out (Nat.le_refl _)).at_ hx
    have hxm := List.mem_of_getElem? hx
    have Hxo := Lib.hid (Tm.okBs_take hx)
    obtain ⟨b, hb'⟩ : ∃ b, b = x.okB := ⟨_, rfl⟩
    have hcall := Ih.out x hxm P wr _ ⟨Ai, ci, rfl, hxs, hxc⟩
    rw [← hb'] at hcall
    have Hcall2 := Lib.hid hcall; clear hcall hxc hx
    have Hb := Lib.hid hb'; clear hb'
    go_wp2_with fail
    refine Hcall2.out.mono ?_
    rintro e w2 ⟨rfl, hb⟩
    have HB2 := Lib.hid (HB.out.trans (hb.mono HB.out.size)); clear hb
    cases b
    ·have Hr := Lib.hid (show t.okB = false from by
      rw [Hok.out, ← Bool.not_eq_true]
      intro h
      have := Tm.okBs_mem h hxm
      rw [← Hb.out] at this
      exact absurd this (by simp))
     go_wp2
     go_ret
     exact ⟨by rw [Hr.out]; rfl, HB0.out.trans (HB2.out.mono HB0.out.size)⟩
    ·go_wp2
     go_roundw
     case rel => exact ⟨k + 1, by omega, by go_num, by rw [Hxo.out, Hal.out, ← Hb.out]; rfl, HB2.out⟩
     case measure => simp [intOf]; omega
   ·have hke : k = t.l.length := by omega
    subst hke
    have Hr := Lib.hid (show t.okB = true from by have := Hal.out; rw [List.take_length] at this; rw [Hok.out, this])
    go_wp2
    go_ret
    exact ⟨by rw [Hr.out]; rfl, HB0.out.trans (HB.out.mono HB0.out.size)⟩
set_option maxRecDepth 100000 in
set_option maxHeartbeats 4000000 in
theorem refIs_calls (t : Tm) (P : Nat → Prop) (w : World) (v : Value) (hv : TmV P w v t) (hsz : t.size ≤ 1000000) : Calls Try.prog 79 #[v] w (RetB w (isB t)) := by
 obtain ⟨A, c, rfl, hs, hc⟩ := hv
 obtain ⟨W0, hW0⟩ : ∃ W0, W0 = w.alloc (.cells #[.int .i64 t.k, .int .i64 t.n, .string t.s, .slice A t.l.length c] 25) := ⟨_, rfl⟩
 have hB0 : Below w.heap.size w W0 := by rw [hW0]; exact (Below.refl _ _).alloc (Nat.le_refl _) _
 have hX0 : Blk W0 w.heap.size 25 #[.int .i64 t.k, .int .i64 t.n, .string t.s, .slice A t.l.length c] := by rw [hW0]; exact Blk.new _ _ _
 have lx0 := hX0.lt
 have hlc := hc.len.1
 have hlm := hc.len.2.1
 have Hc := Lib.hid (hc.stay hB0 (Nat.le_refl _)); clear hc
 have HX0 := Lib.hid hX0; clear hX0
 have HB0 := Lib.hid hB0; clear hB0
 have HW := Lib.hid hW0; clear hW0
 have hdep := t.depth_le
 go_enter Try.func79, Try.ntmps79
 go_wp2_with fail
 rw [← HW.out]
 refine (refSize_calls t P W0 _ ⟨A, c, rfl, hs, Hc.out⟩ hsz).mono ?_
 rintro e w1 ⟨rfl, hb⟩
 obtain ⟨⟨b0, b1, b2, b3⟩, -⟩ := (HX0.out.below hb lx0).four
 have hbw := HB0.out.trans (hb.mono HB0.out.size)
 have HB1 := Lib.hid hb; clear hb
 have HBw := Lib.hid hbw; clear hbw
 by_cases h1 : t.size ≤ 4000
 case neg =>
  have Hr := Lib.hid (show isB t = false from by rw [isB, decide_eq_false h1]; simp)
  have d1 : decide (t.size ≤ 4000) = false := decide_eq_false h1
  have d1' : decide ((t.size : Int) ≤ 4000) = false := decide_eq_false (by omega)
  go_wp2
  go_ret
  exact ⟨by rw [Hr.out]; rfl, HBw.out⟩
 have d1 : decide (t.size ≤ 4000) = true := decide_eq_true h1
 have d1' : decide ((t.size : Int) ≤ 4000) = true := decide_eq_true (by omega)
 by_cases h2 : t.depth ≤ 600
 case neg =>
  have Hr := Lib.hid (show isB t = false from by rw [isB, decide_eq_false h2]; simp)
  have d2 : decide (t.depth ≤ 600) = false := decide_eq_false h2
  have d2' : decide ((t.depth : Int) ≤ 600) = false := decide_eq_false (by omega)
  go_wp2
  go_ret
  exact ⟨by rw [Hr.out]; rfl, HBw.out⟩
 have d2 : decide (t.depth ≤ 600) = true := decide_eq_true h2
 have d2' : decide ((t.depth : Int) ≤ 600) = true := decide_eq_true (by omega)
 have Hr := Lib.hid (show isB t = t.okB from by rw [isB, d1, d2]; simp)
 go_wp2_with fail
 refine (refNodes_calls t P w1 _ ⟨A, c, rfl, hs, Hc.out.stay HB1.out (Nat.le_refl _)⟩).mono ?_
 rintro e w2 ⟨rfl, hb⟩
 have HB2 := Lib.hid (HBw.out.trans (hb.mono HBw.out.size)); clear hb
 go_wp2
 go_ret
 exact ⟨by rw [Hr.out]; rfl, HB2.out⟩
set_option maxRecDepth 100000 in
set_option maxHeartbeats 4000000 in
theorem refCheck_calls (t : Tm) (P : Nat → Prop) (w : World) (v : Value) (hv : TmV P w v t) (hsz : t.size ≤ 1000000) : Calls Try.prog 23 #[v] w (RetN w (errT (isB t))) := by
 obtain ⟨A, c, rfl, hs, hc⟩ := hv
 obtain ⟨W0, hW0⟩ : ∃ W0, W0 = w.alloc (.cells #[.int .i64 t.k, .int .i64 t.n, .string t.s, .slice A t.l.length c] 25) := ⟨_, rfl⟩
 have hB0 : Below w.heap.size w W0 := by rw [hW0]; exact (Below.refl _ _).alloc (Nat.le_refl _) _
 have hX0 : Blk W0 w.heap.size 25 #[.int .i64 t.k, .int .i64 t.n, .string t.s, .slice A t.l.length c] := by rw [hW0]; exact Blk.new _ _ _
 have lx0 := hX0.lt
 have hlc := hc.len.1
 have hlm := hc.len.2.1
 have Hc := Lib.hid (hc.stay hB0 (Nat.le_refl _)); clear hc
 have HX0 := Lib.hid hX0; clear hX0
 have HB0 := Lib.hid hB0; clear hB0
 have HW := Lib.hid hW0; clear hW0
 obtain ⟨r, hr⟩ : ∃ r, r = isB t := ⟨_, rfl⟩
 have hcall := refIs_calls t P W0 _ ⟨A, c, rfl, hs, Hc.out⟩ hsz
 rw [← hr] at hcall ⊢
 have Hcall := Lib.hid hcall; clear hcall hr
 go_enter Try.func23, Try.ntmps23
 go_wp2_with fail
 rw [← HW.out]
 refine Hcall.out.mono ?_
 rintro e w1 ⟨rfl, hb⟩
 have HBw := Lib.hid (HB0.out.trans (hb.mono HB0.out.size)); clear hb
 cases r
 ·go_wp2
  go_ret
  exact ⟨rfl, HBw.out⟩
 ·go_wp2
  go_ret
  exact ⟨rfl, HBw.out⟩
theorem allIs_iff {l : List Tm} : allIs l = true ↔ ∀ x ∈ l, isB x = true := by rw [allIs, List.all_eq_true]
theorem okBs_iff : ∀ {l : List Tm}, Tm.okBs l = true ↔ ∀ x ∈ l, x.okB = true
 | [] => by simp [Tm.okBs]
 | x :: xs => by rw [Tm.okBs, Bool.and_eq_true, okBs_iff]; simp
theorem depths_iff : ∀ {l : List Tm} {n : Nat}, Tm.depths l ≤ n ↔ ∀ x ∈ l, x.depth ≤ n
 | [], n => by simp [Tm.depths]
 | x :: xs, n => by rw [Tm.depths, Nat.max_le, depths_iff]; simp
theorem together_iff (l : List Tm) : allB l = (allIs l && decide (Tm.sizes l ≤ 4000)) := by
 rw [Bool.eq_iff_iff, allB_iff, Bool.and_eq_true, allIs_iff, decide_eq_true_eq, okBs_iff, depths_iff]
 constructor
 ·rintro ⟨h1, h2, h3⟩
  exact ⟨fun x hx => isB_iff.2 ⟨h1 x hx, by have := Tm.size_mem hx; omega, h3 x hx⟩, h2⟩
 ·rintro ⟨h1, h2⟩
  exact ⟨fun x hx => (isB_iff.1 (h1 x hx)).1, h2, fun x hx => (isB_iff.1 (h1 x hx)).2.2⟩
set_option maxRecDepth 100000 in
set_option maxHeartbeats 4000000 in
theorem refTogether_calls (l : List Tm) (P : Nat → Prop) (A : Option Addr) (c : Nat) (w : World) (hc : TmC P w A c l) (hsz : Tm.sizes l ≤ 1000000) : Calls Try.prog 46 #[.slice A l.length c] w (RetB w (allB l)) := by
 have hlm := hc.len.2.1
 have hlc := hc.len.1
 have Hc := Lib.hid hc; clear hc
 have Htg := Lib.hid (together_iff l)
 go_enter Try.func46, Try.ntmps46
 go_wp2
 go_loopw [3, 4] (fun n i wr => ∃ k : Nat, k ≤ l.length ∧ i = .int .i64 k ∧ n = .int .i64 (Tm.sizes (l.take k) : Nat) ∧ (l.take k).all isB = true ∧ Below w.heap.size w wr) (fun _ i _ => l.length - (intOf i).toNat)
 case atStart => exact ⟨0, Nat.zero_le _, rfl, by simp [Tm.sizes], by simp, Below.refl _ _⟩
 case round =>
  obtain ⟨k, hk, rfl, rfl, hal, hB⟩ := hrel
  have HB := Lib.hid hB; clear hB
  have Hal := Lib.hid hal; clear hal
  obtain ⟨sz, hsz'⟩ : ∃ sz, sz = Tm.sizes (l.take k) := ⟨_, rfl⟩
  have hszb : sz ≤ 1000000 := by have := Tm.sizes_le_take l k; omega
  rw [← hsz']
  have Hsz' := Lib.hid hsz'; clear hsz'
  by_cases hlt : k < l.length
  ·obtain ⟨x, hx⟩ : ∃ x, l[k]? = some x := ⟨_, List.getElem?_eq_getElem hlt⟩
   obtain ⟨g, off, Ai, ci, rfl, -, ⟨e0, e1, e2, e3⟩, hxs, hxc⟩ := (Hc.out.stay HB.out (Nat.le_refl _)).at_ hx
   have hxm := List.mem_of_getElem? hx
   have Hts := Lib.hid (take_snoc hx)
   have Hxz := Lib.hid (Tm.sizes_take hx)
   have hxsz : x.size ≤ 1000000 := by have := Tm.size_mem hxm; omega
   have hxsum : sz + x.size ≤ 1000000 := by have := Tm.sizes_le_take l (k + 1); have := Hsz'.out; have := Hxz.out; omega
   obtain ⟨b, hb'⟩ : ∃ b, b = isB x := ⟨_, rfl⟩
   have hcall := refIs_calls x P wr _ ⟨Ai, ci, rfl, hxs, hxc⟩ hxsz
   rw [← hb'] at hcall
   have Hcall := Lib.hid hcall; clear hcall hx
   have Hxc := Lib.hid hxc; clear hxc
   have Hb := Lib.hid hb'; clear hb'
   have Hcells := Lib.hid (And.intro e0 (And.intro e1 (And.intro e2 e3)))
   go_wp2_with fail
   refine Hcall.out.mono ?_
   rintro e w2 ⟨rfl, hb⟩
   have HB2 := Lib.hid (HB.out.trans (hb.mono HB.out.size))
   have HB12 := Lib.hid hb
   replace e0 := keep_cell hb e0
   replace e1 := keep_cell hb e1
   replace e2 := keep_cell hb e2
   replace e3 := keep_cell hb e3
   clear hb
   cases b
   ·have Hr := Lib.hid (show allB l = false from by
     rw [Htg.out]
     have : allIs l = false := by rw [allIs, List.all_eq_false]; exact ⟨x, hxm, by rw [← Hb.out]; simp⟩
     rw [this]; rfl)
    go_wp2
    go_ret
    exact ⟨by rw [Hr.out]; rfl, HB2.out⟩
   ·have hdl := x.depth_le
    go_wp2_with fail
    refine (refSize_calls x P w2 _ ⟨Ai, ci, rfl, hxs, Hxc.out.stay HB12.out (Nat.le_refl _)⟩ hxsz).mono ?_
    rintro e w3 ⟨rfl, hb⟩
    have HB3 := Lib.hid (HB2.out.trans (hb.mono HB2.out.size)); clear hb e0 e1 e2 e3
    go_wp2
    go_roundw
    case rel => exact ⟨k + 1, by omega, by go_num, by rw [Hxz.out, ← Hsz'.out]; go_num, by rw [Hts.out, List.all_append, Hal.out]; simp [← Hb.out], HB3.out⟩
    case measure => simp [intOf]; omega
  ·have hke : k = l.length := by omega
   subst hke
   have Hr := Lib.hid (show allB l = decide (sz ≤ 4000) from by
    have h1 := Hal.out
    have h2 := Hsz'.out
    rw [List.take_length] at h1 h2
    rw [Htg.out, show allIs l = true from h1, h2]; rfl)
   by_cases hd : sz ≤ 4000
   ·have d1 : decide (sz ≤ 4000) = true := decide_eq_true hd
    have d1' : decide ((sz : Int) ≤ 4000) = true := decide_eq_true (by omega)
    go_wp2
    go_ret
    exact ⟨by rw [Hr.out, d1]; rfl, HB.out⟩
   ·have d1 : decide (sz ≤ 4000) = false := decide_eq_false hd
    have d1' : decide ((sz : Int) ≤ 4000) = false := decide_eq_false (by omega)
    go_wp2
    go_ret
    exact ⟨by rw [Hr.out, d1]; rfl, HB.out⟩
set_option maxRecDepth 100000 in
set_option maxHeartbeats 4000000 in
theorem refCheckAll_calls (l : List Tm) (P : Nat → Prop) (A : Option Addr) (c : Nat) (w : World) (hc : TmC P w A c l) (hsz : Tm.sizes l ≤ 1000000) : Calls Try.prog 19 #[.slice A l.length c] w (RetN w (errT (allB l))) := by
 obtain ⟨r, hr⟩ : ∃ r, r = allB l := ⟨_, rfl⟩
 have hcall := refTogether_calls l P A c w hc hsz
 rw [← hr] at hcall ⊢
 have Hcall := Lib.hid hcall; clear hcall hr hc
 go_enter Try.func19, Try.ntmps19
 go_wp2_with fail
 refine Hcall.out.mono ?_
 rintro e w1 ⟨rfl, hb⟩
 have HBw := Lib.hid hb; clear hb
 cases r
 ·go_wp2
  go_ret
  exact ⟨rfl, HBw.out⟩
 ·go_wp2
  go_ret
  exact ⟨rfl, HBw.out⟩
end Go.Proofs.Ytfhgknmkpegpbaa
set_option linter.unusedVariables false
set_option linter.unusedSimpArgs false
namespace Go.Proofs.Ytfhgknmkpegpbaa
open Go.RowKit
section
variable {P : Program} {ops : Array Oper} {Q : Exit → Act → World → Prop} {md : Region.Mode} {S : World → Prop}
theorem takeH {i d : Nat} {fuel : Nat} {listed : Array Bool} {a : Act} {w : World} (v : Value) (hd : (ops[i]?).map Oper.dst = some (some d)) (hs : Region.noSelect ops = true) (hf : Region.free md ops listed i = true) (hr : (Region.ready md ops listed).contains i = true)
  (hQ : ∀ c a d w, Q (.panic c) (a.put d v) w → Q (.panic c) a w) (hy : ∀ o, ops[i]? = some o → YieldsIf P ops S o v a) (hS : S w)
  (h : wpAnyH P md ops Q S fuel (listed.setIfInBounds i true) (a.put (some d) v) w) : wpAnyH P md ops Q S (fuel + 1) listed a w := by
 cases ho : ops[i]? with
 | none => rw [ho] at hd; cases hd
 | some o =>
  rw [ho] at hd
  injection hd with hd
  refine wpAnyH_take ho hs hf hr (fun c a w hq => hQ c a o.dst w hq) (hy o ho) hS ?_
  rw [show o.dst = some d from hd]
  exact h
theorem stepH {i : Nat} {fuel : Nat} {listed : Array Bool} {a : Act} {w : World} (hr : Region.ready md ops listed = [i]) (hi : (ops[i]?).isSome = true)
  (h : ∀ o, ops[i]? = some o → ∀ K' : Act → World → Prop, Shut (∀ a w, S w → (S w → wpAnyH P md ops Q S fuel (listed.setIfInBounds i true) a w) → K' a w) → if Region.wanted o (yielded ops a.tmps) = true then Oper.wp P o a w K' Q else K' (a.put o.dst undef) w) :
  wpAnyH P md ops Q S (fuel + 1) listed a w := by
 cases ho : ops[i]? with
 | none => rw [ho] at hi; cases hi
 | some o => exact wpAnyH_ready hr (by simp) (AllReadyH.cons ho (h o ho) AllReadyH.nil)
theorem allocsH (idx : List Nat) (L : (Nat → Bool) → Array Bool) (A : (Nat → Value) → Act) (F : Nat → Value → World → Prop) (fuel : Nat)
  (hLc : ∀ d d' : Nat → Bool, (∀ i ∈ idx, d i = d' i) → L d = L d')
  (hready : ∀ d : Nat → Bool, (∃ i ∈ idx, d i = false) → Region.ready md ops (L d) = idx.filter (fun i => !d i))
  (hset : ∀ (d : Nat → Bool) (i : Nat), i ∈ idx → (L d).setIfInBounds i true = L (fun j => if j = i then true else d j))
  (hstep : ∀ i ∈ idx, ∀ (vals : Nat → Value) (w : World) (K : Act → World → Prop), S w → (∀ x w', S w' → Below w.heap.size w w' → F i x w' → K (A (fun j => if j = i then x else vals j)) w') → wpOp P ops Q i K (A vals) w)
  (hF : ∀ i x (w w' : World), F i x w → Below w.heap.size w w' → F i x w')
  (hfin : ∀ vals w, S w → (∀ i ∈ idx, F i (vals i) w) → wpAnyH P md ops Q S fuel (L (fun _ => true)) (A vals) w) :
  ∀ (n : Nat) (d : Nat → Bool) (vals : Nat → Value) (w : World), (idx.filter (fun i => !d i)).length = n → idx.Nodup → S w → (∀ i ∈ idx, d i = true → F i (vals i) w) → wpAnyH P md ops Q S (fuel + n) (L d) (A vals) w := by
 intro n
 induction n with
 | zero =>
  intro d vals w hn hnd hS hd
  have hall : ∀ i ∈ idx, d i = true := fun i hi => by
   cases hdi : d i with
   | true => rfl
   | false =>
    have : i ∈ idx.filter (fun i => !d i) := List.mem_filter.2 ⟨hi, by rw [hdi]; rfl⟩
    rw [List.length_eq_zero_iff.1 hn] at this
    cases this
  rw [hLc d (fun _ => true) hall]
  exact hfin vals w hS (fun i hi => hd i hi (hall i hi))
 | succ n ih =>
  intro d vals w hn hnd hS hd
  have hex : ∃ i ∈ idx, d i = false := by
   cases hl : idx.filter (fun i => !d i) with
   | nil => rw [hl] at hn; cases hn
   | cons i l =>
    have : i ∈ idx.filter (fun i => !d i) := by rw [hl]; exact List.mem_cons_self ..
    have h2 := List.mem_filter.1 this
    exact ⟨i, h2.1, by simpa using h2.2⟩
  refine wpAnyH_all (hready d hex) (fun e => by rw [e] at hn; cases hn) fun i hi => ?_
  have h2 := List.mem_filter.1 hi
  have hdi : d i = false := by simpa using h2.2
  refine hstep i h2.1 vals w _ hS fun x w' hS' hb hFx => ⟨hS', ?_⟩
  rw [hset d i h2.1]
  refine ih _ _ w' ?_ hnd hS' fun j hj hdj => ?_
  ·have h3 : idx.filter (fun j => !(if j = i then true else d j)) = (idx.filter (fun j => !d j)).erase i := by
    rw [List.Nodup.erase_eq_filter (hnd.filter _), List.filter_filter]
    apply List.filter_congr
    intro j hj
    by_cases e : j = i
    ·subst e; simp
    ·simp [e]
   rw [h3, List.length_erase_of_mem hi, hn]; rfl
  ·by_cases e : j = i
   ·subst e; rw [if_pos rfl]; exact hFx
   ·rw [if_neg e]; rw [if_neg e] at hdj; exact hF j _ w w' (hd j hj hdj) hb
end
end Go.Proofs.Ytfhgknmkpegpbaa
