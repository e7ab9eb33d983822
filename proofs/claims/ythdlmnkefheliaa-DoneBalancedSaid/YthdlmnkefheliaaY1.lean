/- How the arguments of the statements about layer 28 are read: lists of calls, lists of numbers, states; helpers of the rows. -/
import Derived.Test.YthdlmnkefheliaaD2
import Derived.Test.YthdlmnkefheliaaRows
import Derived.WalkKit
import Derived.ProofKit
import Derived.OpenShut
import Derived.ShutString
import Derived.ChangeOld
import Derived.Below
import Derived.SizedLaws
import Derived.Deep.Slices
import Derived.Deep.Fields
import Derived.ChangeSame
import Derived.Lib.SmallJoins
set_option linter.unusedVariables false
set_option linter.unusedSimpArgs false
namespace Go.Proofs.Ythdlmnkefheliaa
open Go.ChangeShapes Go.WideShapes Go.Deep Go.RowKit Go.Joins Go.ChangeAt

section
variable {H : Type} {enc : TypeId × Value → H} {P : Program} {w : World} {base : Nat} {spare : Nat → Bool} {held : Bool}
theorem open_slice_fields {t e : TypeId} {fs : Array Field} {fuel : Nat} {cs : List Value} {x : DataW H × List MemPlace} (ht : P.underlying t = some (.slice e)) (he : P.underlying e = some (.struct fs))
    (hone : oneCellFields P fs = true) (hC : P.cellsOf e = fs.size) (h : DataW.trod enc P w base spare held fuel t cs = some x) :
    cs = [.slice none 0 0] ∨
    ∃ (a : Addr) (len cap m : Nat), cs = [.slice (some a) len cap] ∧ base ≤ a.block ∧ len ≤ cap ∧ cap ≤ maxLen ∧ m = (if spare a.block then cap else len) ∧
      ∀ i, i < m → ∃ (n : Nat), ∀ (j : Nat) (f : Field), fs[j]? = some f → ∃ (v : Value) (y : DataW H × List MemPlace), w.cell? (a.add (i * fs.size + j)) = some v ∧ DataW.trod enc P w base spare held n f.type [v] = some y := by
  rcases open_slice ht h with h0 | ⟨a, len, cap, m, n, D, Pl, hcs, hb, hl, hm, hmm, hx, hi⟩
  · exact .inl h0.1
  · refine .inr ⟨a, len, cap, m, hcs, hb, hl, hm, hmm, fun i him => ?_⟩
    obtain ⟨cs', hc, ht'⟩ := hi i him
    rw [hC] at hc
    obtain ⟨ys, n', hn', hy, hlen, hyl, hf⟩ := DataW.trod_struct he ht'
    obtain ⟨_, hcl, hat⟩ := World.cells?_some hc
    refine ⟨n', fun j f hj => ?_⟩
    obtain ⟨ho, hk⟩ := hone_of hone j f hj
    have hjl : j < fs.size := (Array.getElem?_eq_some_iff.1 hj).1
    have hcell := hat j hjl
    have hv : cs'[j]? = some (cs'[j]'(by omega)) := List.getElem?_eq_getElem (by omega)
    have h1 := hf j f hj
    rw [ho, hk] at h1
    have hone' : (cs'.drop j).take 1 = [cs'[j]'(by omega)] := by
      rw [List.drop_eq_getElem_cons (by omega)]
      rfl
    rw [hone'] at h1
    have hys : ys[j]? = some (ys[j]'(by omega)) := List.getElem?_eq_getElem (by omega)
    refine ⟨_, _, ?_, h1.trans hys⟩
    rw [← Go.Deep.add_add, hcell, hv]
theorem open_agg5 {r : Reach} {b0 : Nat} {t : TypeId} {f0 f1 f2 f3 f4 : Field} {v : Value} {d : DataW H} {p : List MemPlace} (hs : P.underlying t = some (.struct #[f0, f1, f2, f3, f4])) (hone : oneCellFields P #[f0, f1, f2, f3, f4] = true) (hC : P.cellsOf t = 5)
    (hv : Value.okWide P w r b0 t v) (h : DataW.Trod enc P w base spare held t v d p) :
    ∃ (v0 v1 v2 v3 v4 : Value) (y0 y1 y2 y3 y4 : DataW H × List MemPlace) (n : Nat), v = .agg #[v0, v1, v2, v3, v4] ∧
      DataW.trod enc P w base spare held n f0.type [v0] = some y0 ∧ DataW.trod enc P w base spare held n f1.type [v1] = some y1 ∧ DataW.trod enc P w base spare held n f2.type [v2] = some y2 ∧ DataW.trod enc P w base spare held n f3.type [v3] = some y3 ∧ DataW.trod enc P w base spare held n f4.type [v4] = some y4 := by
  obtain ⟨cs, rfl, hsz⟩ := okWide_struct hs hv
  obtain ⟨l⟩ := cs
  match l, hsz.trans hC with
  | [c0, c1, c2, c3, c4], _ =>
    obtain ⟨fuel, hf⟩ := h
    obtain ⟨xs, n, _, hx, _, hlen, hg⟩ := DataW.trod_struct hs hf
    obtain ⟨o0, k0⟩ := hone_of hone 0 f0 rfl
    obtain ⟨o1, k1⟩ := hone_of hone 1 f1 rfl
    obtain ⟨o2, k2⟩ := hone_of hone 2 f2 rfl
    obtain ⟨o3, k3⟩ := hone_of hone 3 f3 rfl
    obtain ⟨o4, k4⟩ := hone_of hone 4 f4 rfl
    match xs, hlen with
    | [y0, y1, y2, y3, y4], _ =>
      exact ⟨c0, c1, c2, c3, c4, y0, y1, y2, y3, y4, n, rfl, by simpa [Value.cells, o0, k0] using hg 0 f0 rfl, by simpa [Value.cells, o1, k1] using hg 1 f1 rfl, by simpa [Value.cells, o2, k2] using hg 2 f2 rfl, by simpa [Value.cells, o3, k3] using hg 3 f3 rfl, by simpa [Value.cells, o4, k4] using hg 4 f4 rfl⟩
end

/-- A slice value that reads as a list: what the walks ask. -/
def SlV {T : Type} (encT : T → List Value) (w : World) (v : Value) (xs : List T) : Prop :=
  ∃ A c, v = .slice A xs.length c ∧ xs.length ≤ c ∧ (c ≤ 9223372036854775807 ∧ (A = none → c = 0)) ∧ Rd w A (xs.flatMap encT)

section
variable {H : Type} {enc : TypeId × Value → H} {P : Program} {w : World}
theorem addr_spot {a : Addr} {v : Value} (h : w.cell? a = some v) : a = ⟨a.block, a.off, none⟩ := by
  obtain ⟨b, o, s⟩ := a
  cases s with
  | none => rfl
  | some s =>
    unfold World.cell? at h
    cases hh : w.heap[b]? with
    | none => rw [hh] at h; cases h
    | some o => cases o <;> rw [hh] at h <;> simp at h
theorem add_spot {a : Addr} (n : Nat) (h : a = ⟨a.block, a.off, none⟩) : a.add n = ⟨a.block, a.off + n, none⟩ := by
  unfold Addr.add
  split
  · rename_i h0; subst h0; exact h
  · rfl
theorem rd_of {T : Type} (encT : T → List Value) (k : Nat) (hk : ∀ x, (encT x).length = k) (h0 : 0 < k) {a : Addr} {len cap : Nat} (hle : len ≤ cap) (hcap : cap ≤ maxLen)
    (H : ∀ i, i < len → ∃ x : T, ∀ j u, (encT x)[j]? = some u → w.cell? (a.add (i * k + j)) = some u) : ∃ xs : List T, SlV encT w (.slice (some a) len cap) xs := by
  classical
  rcases Nat.eq_zero_or_pos len with hz | hz
  · subst hz
    exact ⟨[], some a, cap, rfl, Nat.zero_le _, ⟨hcap, fun h => by cases h⟩, fun h => absurd rfl h⟩
  obtain ⟨x0, hx0⟩ := H 0 hz
  let f : Nat → T := fun i => if h : i < len then Classical.choose (H i h) else x0
  have hf : ∀ i, i < len → ∀ j u, (encT (f i))[j]? = some u → w.cell? (a.add (i * k + j)) = some u := by
    intro i hi j u hu
    have : f i = Classical.choose (H i hi) := dif_pos hi
    rw [this] at hu
    exact Classical.choose_spec (H i hi) j u hu
  have hsp : a = ⟨a.block, a.off, none⟩ := by
    have h1 : ∃ u, (encT x0)[0]? = some u := ⟨_, List.getElem?_eq_getElem (by rw [hk]; exact h0)⟩
    obtain ⟨u, hu⟩ := h1
    have := hx0 0 u hu
    rw [show 0 * k + 0 = 0 by omega] at this
    exact addr_spot (a := a) (by simpa [Addr.add] using this)
  have hll : ((List.range len).map f).length = len := by simp
  refine ⟨(List.range len).map f, some a, cap, by rw [hll], by rw [hll]; exact hle, ⟨hcap, fun h => by cases h⟩, fun _ => ⟨a.block, a.off, congrArg some hsp, fun j v hj => ?_⟩⟩
  have hjl : j < (((List.range len).map f).flatMap encT).length := (List.getElem?_eq_some_iff.1 hj).1
  rw [flatMap_len encT k hk, hll] at hjl
  have hi : j / k < len := Nat.div_lt_of_lt_mul (by rw [Nat.mul_comm]; exact hjl)
  have hjm : j % k < k := Nat.mod_lt _ h0
  have hdm : j / k * k + j % k = j := by rw [Nat.mul_comm]; exact Nat.div_add_mod j k
  have hget : ((List.range len).map f)[j / k]? = some (f (j / k)) := by simp [hi]
  have h2 := flatMap_get encT k hk _ _ (j % k) _ hget hjm
  rw [hdm, hj] at h2
  have := hf _ hi (j % k) v h2.symm
  rw [hdm, add_spot _ hsp] at this
  exact this

theorem sl_ints {t e : TypeId} {v : Value} {d : DataW H} {p : List MemPlace} {r : Reach} {b0 : Nat} (ht : P.underlying t = some (.slice e)) (he : P.underlying e = some (.int .i64)) (hC : P.cellsOf e = 1)
    (hv : Value.okWide P w r b0 t v) (h : DataW.Trod enc P w 0 (fun _ => true) true t v d p) : ∃ xs : List Int, SlV encI w v xs := by
  obtain ⟨a, n, c, rfl⟩ := okWide_slice ht hv
  obtain ⟨fuel, hf⟩ := h
  rcases open_ints ht he hC hf with ⟨hcs, _⟩ | ⟨x, l, c', zs, hcs, _, hl, hm, hz, _, hcell, hwz⟩
  · simp [Value.cells] at hcs
    obtain ⟨rfl, rfl, rfl⟩ := hcs
    exact ⟨[], none, 0, rfl, Nat.le_refl _, ⟨by omega, fun _ => rfl⟩, fun h => absurd rfl h⟩
  · simp [Value.cells] at hcs
    obtain ⟨rfl, rfl, rfl⟩ := hcs
    refine rd_of encI 1 (fun _ => rfl) (by omega) hl hm fun i hi => ⟨zs.getD i 0, fun j u hu => ?_⟩
    match j, hu with
    | 0, hu =>
      simp [encI] at hu; subst hu
      rw [Nat.mul_one, Nat.add_zero]
      exact hcell i (by simp only [if_true] at hz; omega)
    | j + 1, hu => simp [encI] at hu
theorem cell_int {n : Nat} {f : Field} {v : Value} {y : DataW H × List MemPlace} (hf : P.underlying f.type = some (.int .i64)) (h : DataW.trod enc P w 0 (fun _ => true) true n f.type [v] = some y) : ∃ z : Int, v = .int .i64 z := by
  obtain ⟨k, e1, _, _⟩ := DataW.trod_int hf h
  simp only [List.cons.injEq, and_true] at e1
  exact ⟨k, e1⟩
theorem sl_three {t e : TypeId} {f0 f1 f2 : Field} {cs : List Value} {fuel : Nat} {x : DataW H × List MemPlace} (ht : P.underlying t = some (.slice e)) (he : P.underlying e = some (.struct #[f0, f1, f2]))
    (hone : oneCellFields P #[f0, f1, f2] = true) (hC : P.cellsOf e = 3) (i0 : P.underlying f0.type = some (.int .i64)) (i1 : P.underlying f1.type = some (.int .i64)) (i2 : P.underlying f2.type = some (.int .i64))
    (h : DataW.trod enc P w 0 (fun _ => true) true fuel t cs = some x) : ∃ v, cs = [v] ∧ ∃ xs : List (Int × Int × Int), SlV encL w v xs := by
  rcases open_slice_fields ht he hone hC h with hcs | ⟨a, len, cap, m, hcs, _, hl, hm, hz, hi⟩
  · exact ⟨_, hcs, [], none, 0, rfl, Nat.le_refl _, ⟨by omega, fun _ => rfl⟩, fun h => absurd rfl h⟩
  · refine ⟨_, hcs, rd_of encL 3 (fun _ => rfl) (by omega) hl hm fun i him => ?_⟩
    simp only [if_true] at hz
    obtain ⟨n, hj⟩ := hi i (by omega)
    obtain ⟨v0, y0, c0, t0⟩ := hj 0 f0 rfl
    obtain ⟨v1, y1, c1, t1⟩ := hj 1 f1 rfl
    obtain ⟨v2, y2, c2, t2⟩ := hj 2 f2 rfl
    obtain ⟨z0, rfl⟩ := cell_int i0 t0
    obtain ⟨z1, rfl⟩ := cell_int i1 t1
    obtain ⟨z2, rfl⟩ := cell_int i2 t2
    refine ⟨(z0, z1, z2), fun j u hu => ?_⟩
    match j, hu with
    | 0, hu => simp [encL] at hu; subst hu; exact c0
    | 1, hu => simp [encL] at hu; subst hu; exact c1
    | 2, hu => simp [encL] at hu; subst hu; exact c2
    | j + 3, hu => simp [encL] at hu
theorem sl_two {t e : TypeId} {f0 f1 : Field} {cs : List Value} {fuel : Nat} {x : DataW H × List MemPlace} (ht : P.underlying t = some (.slice e)) (he : P.underlying e = some (.struct #[f0, f1]))
    (hone : oneCellFields P #[f0, f1] = true) (hC : P.cellsOf e = 2) (i0 : P.underlying f0.type = some (.int .i64)) (i1 : P.underlying f1.type = some (.int .i64))
    (h : DataW.trod enc P w 0 (fun _ => true) true fuel t cs = some x) : ∃ v, cs = [v] ∧ ∃ xs : List (Int × Int), SlV encH w v xs := by
  rcases open_slice_fields ht he hone hC h with hcs | ⟨a, len, cap, m, hcs, _, hl, hm, hz, hi⟩
  · exact ⟨_, hcs, [], none, 0, rfl, Nat.le_refl _, ⟨by omega, fun _ => rfl⟩, fun h => absurd rfl h⟩
  · refine ⟨_, hcs, rd_of encH 2 (fun _ => rfl) (by omega) hl hm fun i him => ?_⟩
    simp only [if_true] at hz
    obtain ⟨n, hj⟩ := hi i (by omega)
    obtain ⟨v0, y0, c0, t0⟩ := hj 0 f0 rfl
    obtain ⟨v1, y1, c1, t1⟩ := hj 1 f1 rfl
    obtain ⟨z0, rfl⟩ := cell_int i0 t0
    obtain ⟨z1, rfl⟩ := cell_int i1 t1
    refine ⟨(z0, z1), fun j u hu => ?_⟩
    match j, hu with
    | 0, hu => simp [encH] at hu; subst hu; exact c0
    | 1, hu => simp [encH] at hu; subst hu; exact c1
    | j + 2, hu => simp [encH] at hu
end
set_option maxRecDepth 100000 in
theorem view_calls {H : Type} {enc : TypeId × Value → H} {w : World} {v : Value} {d : DataW H} {p : List MemPlace} {r : Reach} {b0 : Nat} (hv : Value.okWide Try.prog w r b0 44 v) (h : DataW.Trod enc Try.prog w 0 (fun _ => true) true 44 v d p) :
    ∃ xs : List (Int × Int × Int), SlV encL w v xs := by
  obtain ⟨a, n, c, rfl⟩ := okWide_slice Try.underlying44 hv
  obtain ⟨fuel, hf⟩ := h
  obtain ⟨v, hcs, xs, hx⟩ := sl_three Try.underlying44 Try.underlying47 (by kernel_rfl) (by kernel_rfl) Try.underlying3 Try.underlying3 Try.underlying3 hf
  simp [Value.cells] at hcs
  subst hcs
  exact ⟨xs, hx⟩
set_option maxRecDepth 100000 in
theorem view_ints {H : Type} {enc : TypeId × Value → H} {w : World} {v : Value} {d : DataW H} {p : List MemPlace} {r : Reach} {b0 : Nat} (hv : Value.okWide Try.prog w r b0 35 v) (h : DataW.Trod enc Try.prog w 0 (fun _ => true) true 35 v d p) :
    ∃ xs : List Int, SlV encI w v xs := sl_ints Try.underlying35 Try.underlying3 (by kernel_rfl) hv h
set_option maxRecDepth 100000 in
theorem view_throw {H : Type} {enc : TypeId × Value → H} {w : World} {v : Value} {d : DataW H} {p : List MemPlace} {r : Reach} {b0 : Nat} (hv : Value.okWide Try.prog w r b0 25 v) (h : DataW.Trod enc Try.prog w 0 (fun _ => true) true 25 v d p) :
    ∃ t : Thr, ThrV w v t := by
  obtain ⟨v0, v1, v2, v3, v4, y0, y1, y2, y3, y4, n, rfl, h0, h1, h2, h3, h4⟩ := open_agg5 Try.underlying25 (by kernel_rfl) (by kernel_rfl) hv h
  obtain ⟨g, e0, _, _⟩ := DataW.trod_int Try.underlying3 h0
  obtain ⟨o, e1, _, _⟩ := DataW.trod_int Try.underlying3 h1
  simp only [List.cons.injEq, and_true] at e0 e1
  subst e0 e1
  obtain ⟨vp, e2, ps, A1, c1, rfl, p1, p2, p3⟩ := sl_two Try.underlying22 Try.underlying51 (by kernel_rfl) (by kernel_rfl) Try.underlying3 Try.underlying3 h2
  obtain ⟨vm, e3, ms, A2, c2, rfl, m1, m2, m3⟩ := sl_three Try.underlying23 Try.underlying54 (by kernel_rfl) (by kernel_rfl) Try.underlying3 Try.underlying3 Try.underlying3 h3
  simp only [List.cons.injEq, and_true] at e2 e3
  subst e2 e3
  obtain ⟨b, e4, _⟩ := DataW.trod_bool Try.underlying4 h4
  simp only [List.cons.injEq, and_true] at e4
  subst e4
  exact ⟨⟨g, o, ps, ms, b⟩, A1, c1, A2, c2, rfl, p1, p2, p3, m1, m2, m3⟩
end Go.Proofs.Ythdlmnkefheliaa
