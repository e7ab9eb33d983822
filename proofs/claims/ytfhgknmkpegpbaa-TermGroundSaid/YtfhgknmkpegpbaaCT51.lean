/- A literal row of trees to which another row is appended; the row's reader of lengths; items and lists: plain facts. -/
import Derived.Test.YtfhgknmkpegpbaaCT50
import Derived.Test.YtfhgknmkpegpbaaCT46
import Derived.Test.YtfhgknmkpegpbaaM8
set_option linter.unusedVariables false
set_option linter.unusedSimpArgs false
namespace Go.Proofs.Ytfhgknmkpegpbaa
open Go.RowKit

theorem terms_reads {P : Nat → Prop} {W : World} {A : Option Addr} {c : Nat} {l : List Tm} (h : TmC P W A c l) :
    ∃ es : List EV, l = es.map (fun e => e.1) ∧ Reads W W.heap.size 4 A l.length (es.flatMap encE) ∧ ∀ e ∈ es, e.1.s.size ≤ 9223372036854775807 ∧ TmC P W e.2.1 e.2.2 e.1.l := by
  cases h with
  | mk es he hl hc hn hP hr hs hrec =>
    refine ⟨es, he, ⟨?_, fun h0 => ?_⟩, fun e h => ⟨hs e h, hrec e h⟩⟩
    · rw [he, List.length_map, flatMap_len encE 4 (fun _ => rfl)]
    · have hne : es.flatMap encE ≠ [] := by
        intro e
        have := congrArg List.length e
        rw [flatMap_len encE 4 (fun _ => rfl)] at this
        rw [he, List.length_map] at h0
        simp at this; omega
      obtain ⟨g, off, hA, hcell⟩ := hr hne
      refine ⟨⟨g, off, none⟩, hA, ?_, fun j u hj => ?_⟩
      · cases hx : (es.flatMap encE)[0]? with
        | none => rw [List.getElem?_eq_none_iff] at hx; exact absurd (List.length_eq_zero_iff.1 (by omega)) hne
        | some u => exact World.block_lt_of_cell? W _ (hcell 0 u hx)
      · have := hcell j u hj
        have e2 : (⟨g, off, none⟩ : Addr).add j = ⟨g, off + j, none⟩ := by
          unfold Addr.add
          split
          · rename_i h; subst h; rfl
          · rfl
        rw [e2]; exact this
theorem one_encE (es : List EV) : ∀ u ∈ es.flatMap encE, u.oneCell' = true := fun u hu => by
  obtain ⟨e, -, he⟩ := List.mem_flatMap.1 hu
  simp only [encE, List.mem_cons, List.not_mem_nil, or_false] at he
  rcases he with rfl | rfl | rfl | rfl <;> rfl
theorem lit_owns {W : World} {base g : Nat} {es : List EV} (hb : Blk W g 25 (es.flatMap encE).toArray) (hg : base ≤ g) (hl : es.length ≤ 100) : W.ownsRow base 25 4 (.slice (some ⟨g, 0, none⟩) es.length es.length) es.length (es.flatMap encE) := by
  have h1 := flatMap_len encE 4 (fun _ => rfl) es
  refine ⟨h1, Or.inr ⟨g, es.length, (es.flatMap encE).toArray, rfl, hg, hb, Nat.le_refl _, by simp only [maxLen]; omega, by simpa using h1, ?_⟩⟩
  rw [List.toList_toArray]
  exact List.take_of_length_le (by omega)
/-- What an append of a row of trees to a literal one gives. -/
theorem append_terms {P : Nat → Prop} {W w' : World} {base g : Nat} {v' : Value} {es1 es : List EV} (hb : Blk W g 25 (es1.flatMap encE).toArray)
    (h1 : ∀ e ∈ es1, e.1.s.size ≤ 9223372036854775807 ∧ TmC P W e.2.1 e.2.2 e.1.l) (h2 : ∀ e ∈ es, e.1.s.size ≤ 9223372036854775807 ∧ TmC P W e.2.1 e.2.2 e.1.l) (hP : ∀ x, P x → x ≠ g)
    (hown : w'.ownsRow base 25 4 v' (es1.length + es.length) (es1.flatMap encE ++ es.flatMap encE)) (hg : W.grownBy w' (some g)) (hv : v'.ownBlock = some g ∨ v'.ownBlock = some W.heap.size) :
    ∃ A' c', v' = .slice A' (es1.map (fun e => e.1) ++ es.map (fun e => e.1)).length c' ∧ TmC (fun _ => True) w' A' c' (es1.map (fun e => e.1) ++ es.map (fun e => e.1)) := by
  have hr : RowT base (fun _ => True) w' v' (es1.map (fun e => e.1) ++ es.map (fun e => e.1)) := by
    refine ⟨es1 ++ es, by simp, by simpa using hown, fun e he => ?_⟩
    have key : e.1.s.size ≤ 9223372036854775807 ∧ TmC P W e.2.1 e.2.2 e.1.l := by
      rcases List.mem_append.1 he with h | h
      · exact h1 e h
      · exact h2 e h
    refine ⟨key.1, (key.2.inside.grown hg (fun x hx e => hP x hx.1 (by injection e with e; exact e.symm))).mono (fun x hx => ⟨trivial, ?_, Nat.lt_of_lt_of_le hx.2 hg.size⟩)⟩
    intro e
    rcases hv with h | h
    · rw [h] at e; injection e with e; exact hP x hx.1 e
    · rw [h] at e; injection e with e; omega
  obtain ⟨A', c', hA, hT⟩ := hr.toC
  exact ⟨A', c', hA, hT.mono (fun _ _ => trivial)⟩

/-- The length of an argument that is a row of trees is within reach. -/
theorem sized_terms {H : Type} {enc : TypeId × Value → H} {w : World} {A : Option Addr} {n c j : Nat} {d : DataW H} {p : List MemPlace} {ts : List TypeId} {ds : List (DataW H)} (hs : (DataW.weightsEach Try.prog ts ds).all (· ≤ reachBytes) = true) (ht : ts[j]? = some 22) (hd : ds[j]? = some d)
    (h : DataW.Trod enc Try.prog w 0 (fun _ => true) true 22 (.slice A n c) d p) : n * 56 ≤ 140737488351232 := by
  obtain ⟨fuel, hf⟩ := h
  cases fuel with
  | zero => simp [DataW.trod] at hf
  | succ fuel =>
    have hB : Try.prog.bytesOf 25 = 56 := by kernel_rfl
    rcases DataW.trod_slice Try.underlying22 hf with h0 | ⟨a, len, cap, elems, rest, m, -, hv, hx, -, hl, hm, hlen, -⟩
    · have h1 := h0.1
      simp [Value.cells] at h1
      omega
    · simp [Value.cells] at hv
      obtain ⟨hA, hn, hc⟩ := hv
      subst hn
      have hd' : d = .slice (elems.map (·.1)) (rest.map (·.1)) := congrArg Prod.fst hx
      have h2 := sized_slice hs ht (hd.trans (congrArg some hd')) Try.underlying22
      rw [hB, List.length_map, List.length_map] at h2
      have h3 : reachBytes = 140737488351232 := by decide
      rw [h3, hlen] at h2
      have h4 : n * 56 ≤ (n + rest.length) * 56 := Nat.mul_le_mul_right _ (Nat.le_add_right _ _)
      omega
end Go.Proofs.Ytfhgknmkpegpbaa
