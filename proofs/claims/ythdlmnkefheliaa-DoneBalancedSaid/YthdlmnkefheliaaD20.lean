import Derived.Test.YthdlmnkefheliaaP1
import Derived.Deep.RegionLaw
import Derived.WalkSpells
import Derived.WalkLawsBesides
set_option linter.unusedVariables false
set_option linter.unusedSimpArgs false
namespace Go.Proofs.Ythdlmnkefheliaa
open Go.RowKit

set_option maxRecDepth 100000 in
set_option maxHeartbeats 4000000 in
theorem plan_calls (l0 : List Int) (A : Option Addr) (c : Nat) (w : World) (hlen : l0.length ≤ 100000) (hc : l0.length ≤ c) (hn : A = none → c = 0) (hr : Rd w A (l0.flatMap encI)) :
    Calls Try.prog 23 #[.slice A l0.length c] w (RetP w (planM l0)) := by
  have Hr := Lib.hid hr; clear hr
  have Hn := Lib.hid hn; clear hn
  rcases hb : bd 1 16 (l0.length : Int) with _ | _
  · have hf : planM l0 = ([], 1) := by rw [planM, hb]; rfl
    have Hf := Lib.hid hf; clear hf
    have Hb := Lib.hid hb; clear hb
    go_enter Try.func23, Try.ntmps23
    go_wp2_with (go_at_call 51; refine (bd_calls _ _ _ _ Hb.out _).mono ?_; rintro e w' ⟨rfl, rfl⟩)
    exact bodyPost_ret (v := .tuple #[.slice none 0 0, .int .i64 1]) (by simp [results, Try.results23, go_sem, *]) rfl ⟨_, by rw [Hf.out], by rw [Hf.out]; exact World.ownsRow_nil _ _ _ _, Below.refl _ _⟩
  rcases ha : l0.any (fun x => !bd 0 1000 x) with _ | _
  case true =>
    have hf : planM l0 = ([], 1) := by rw [planM, hb, ha]; rfl
    have Hf := Lib.hid hf; clear hf
    have Hb := Lib.hid hb; clear hb
    have Ha := Lib.hid ha; clear ha
    go_enter Try.func23, Try.ntmps23
    go_wp2_with (go_at_call 51; refine (bd_calls _ _ _ _ Hb.out _).mono ?_; rintro e w' ⟨rfl, rfl⟩)
    refine (containsFuncI 61 #[] (fun x => !bd 0 1000 x) l0 A c _ hlen Hr.out cf61 (fun w1 x _ _ => f61_calls x w1)).mono ?_
    rintro e w1 ⟨rfl, hb1⟩
    have Hb1 := Lib.hid hb1; clear hb1
    rw [Ha.out]
    go_wp2
    exact bodyPost_ret (v := .tuple #[.slice none 0 0, .int .i64 1]) (by simp [results, Try.results23, go_sem, *]) rfl ⟨_, by rw [Hf.out], by rw [Hf.out]; exact World.ownsRow_nil _ _ _ _, Hb1.out⟩
  have hf : planM l0 = (planGo (sq l0).toNat l0 [], 0) := by rw [planM, hb, ha]; rfl
  have Hf := Lib.hid hf; clear hf
  have hb' := (bd_iff _ _ _).1 hb
  have hl1 : 1 ≤ l0.length := by omega
  have hl16 : l0.length ≤ 16 := by omega
  have hbnd : ∀ x ∈ l0, 0 ≤ x ∧ x ≤ 1000 := fun x hx => by
    have := List.any_eq_false.1 ha x hx
    exact (bd_iff _ _ _).1 (by simpa using this)
  have hN : (sq l0).toNat ≤ 16000000 := by have := sq_le l0 hbnd; omega
  have Hst := Lib.hid (PlanInv.start hbnd); clear hbnd
  obtain ⟨N, hNd⟩ : ∃ N, N = (sq l0).toNat := ⟨_, rfl⟩
  rw [← hNd] at hN Hf Hst
  clear hNd hb'
  have Hb := Lib.hid hb; clear hb
  have Ha := Lib.hid ha; clear ha
  obtain ⟨i0, hi, hz0, hz1, hz2⟩ := info_parts info42
  have Hi := Lib.hid (And.intro hi (And.intro hz0 (And.intro hz1 hz2))); clear hi hz0 hz1 hz2
  go_enter Try.func23, Try.ntmps23
  go_wp2_with (go_at_call 51; refine (bd_calls _ _ _ _ Hb.out _).mono ?_; rintro e w' ⟨rfl, rfl⟩)
  refine (containsFuncI 61 #[] (fun x => !bd 0 1000 x) l0 A c _ hlen Hr.out cf61 (fun w1 x _ _ => f61_calls x w1)).mono ?_
  rintro e w1 ⟨rfl, hb1⟩
  have Hb1 := Lib.hid hb1; clear hb1
  rw [Ha.out]
  go_wp2_with fail
  refine (cloneI_calls l0 A c w1 hlen hc Hn.out (Hr.out.below Hb1.out (Nat.le_refl _))).mono ?_
  rintro e w2 ⟨v, rfl, hown, hb2⟩
  obtain ⟨g, cg, rfl, -, -⟩ := hown.form (show 0 < l0.length by omega)
  have Hown := Lib.hid (own_lower hown Hb1.out.size); clear hown
  have Hb2 := Lib.hid (Hb1.out.trans (hb2.mono Hb1.out.size)); clear hb2
  go_wp2_with fail
  go_loopw [4, 6, 7, 8, 9] (fun o _ _ _ _ wr => ∃ (n : Nat) (l : List Int) (out : List (Int × Int)), PlanInv l0 N n l out ∧ wr.ownsRow w.heap.size 3 1 (.slice (some ⟨g, 0, none⟩) l0.length cg) l0.length (l.flatMap encI) ∧ wr.ownsRow w.heap.size 42 2 o out.length (out.flatMap encH) ∧ Below w.heap.size w wr) (fun o _ _ _ _ _ => N - sliceLen o)
  case atStart => exact ⟨N, l0, [], Hst.out, Hown.out, World.ownsRow_nil _ _ _ _, Hb2.out⟩
  case round =>
    obtain ⟨n, l, out, hinv, hol, hoo, hB⟩ := hrel
    obtain ⟨A', c', rfl⟩ := own_slice hoo
    have hne : l ≠ [] := by intro e; have := hinv.len; rw [e] at this; simp at this; omega
    obtain ⟨f, t, hpa⟩ := planAt hne
    have hmo := hinv.bnd _ (List.mem_of_getElem? hpa.f_)
    have hle := hinv.bnd _ (List.mem_of_getElem? hpa.t_)
    obtain ⟨mo, hmoe⟩ : ∃ mo, mo = maxI l := ⟨_, rfl⟩
    obtain ⟨le, hlee⟩ : ∃ le, le = minI l := ⟨_, rfl⟩
    rw [← hmoe] at hmo
    rw [← hlee] at hle
    obtain ⟨hm0, hm1⟩ := hmo
    obtain ⟨hq0, hq1⟩ := hle
    have hfl : f < l0.length := by have := (List.getElem?_eq_some_iff.1 hpa.f_).1; rw [hinv.len] at this; exact this
    have htl : t < l0.length := by have := (List.getElem?_eq_some_iff.1 hpa.t_).1; rw [hinv.len] at this; exact this
    have hol16 : out.length ≤ 16000000 := by have := hinv.cnt; omega
    have Hlen := Lib.hid hinv.len
    have Hll := Lib.hid (show l.length ≤ 100000 ∧ 1 ≤ l.length by rw [Hlen.out]; omega)
    have Hmo := Lib.hid hmoe; clear hmoe
    have Hle := Lib.hid hlee; clear hlee
    have Hinv := Lib.hid hinv; clear hinv
    have Hpa := Lib.hid hpa; clear hpa
    have Hne := Lib.hid hne; clear hne
    have Hol := Lib.hid hol; clear hol
    have Hoo := Lib.hid hoo; clear hoo
    have HB := Lib.hid hB; clear hB
    by_cases hd : mo - le ≤ 1
    · have hdb : decide (mo - le ≤ 1) = true := decide_eq_true hd
      go_wp2_with fail
      refine (maxr_calls mo l0.length l _ _ _ Hmo.out Hlen.out.symm Hll.out.1 Hll.out.2 (own_rd Hol.out)).mono ?_
      rintro e w3 ⟨rfl, hb3⟩
      have Hb3 := Lib.hid (HB.out.trans (hb3.mono HB.out.size))
      have Hol3 := Lib.hid (own_below Hol.out hb3 (Nat.le_refl _))
      have Hoo3 := Lib.hid (own_below Hoo.out hb3 (Nat.le_refl _))
      clear hb3
      go_wp2_with fail
      refine (minr_calls le l0.length l _ _ _ Hle.out Hlen.out.symm Hll.out.1 Hll.out.2 (own_rd Hol3.out)).mono ?_
      rintro e w4 ⟨rfl, hb4⟩
      have Hb4 := Lib.hid (Hb3.out.trans (hb4.mono Hb3.out.size))
      have Hol4 := Lib.hid (own_below Hol3.out hb4 (Nat.le_refl _))
      have Hoo4 := Lib.hid (own_below Hoo3.out hb4 (Nat.le_refl _))
      clear hb4
      have hr0 := Hinv.out.done (by rw [← Hmo.out, ← Hle.out]; exact hd)
      have Hr0 := Lib.hid (show planM l0 = (out, 0) from by rw [Hf.out, hr0]); clear hr0
      go_wp2
      exact bodyPost_ret (v := .tuple #[.slice A' out.length c', .int .i64 0]) (by simp [results, Try.results23, go_sem, *]) rfl ⟨_, by rw [Hr0.out], by rw [Hr0.out]; exact Hoo4.out, Hb4.out⟩
    · have hdb : decide (mo - le ≤ 1) = false := decide_eq_false hd
      have Hd := Lib.hid hd; clear hd
      go_wp2_with fail
      refine (maxr_calls mo l0.length l _ _ _ Hmo.out Hlen.out.symm Hll.out.1 Hll.out.2 (own_rd Hol.out)).mono ?_
      rintro e w3 ⟨rfl, hb3⟩
      have Hb3 := Lib.hid (HB.out.trans (hb3.mono HB.out.size))
      have Hol3 := Lib.hid (own_below Hol.out hb3 (Nat.le_refl _))
      have Hoo3 := Lib.hid (own_below Hoo.out hb3 (Nat.le_refl _))
      clear hb3
      go_wp2_with fail
      refine (minr_calls le l0.length l _ _ _ Hle.out Hlen.out.symm Hll.out.1 Hll.out.2 (own_rd Hol3.out)).mono ?_
      rintro e w4 ⟨rfl, hb4⟩
      have Hb4 := Lib.hid (Hb3.out.trans (hb4.mono Hb3.out.size))
      have Hol4 := Lib.hid (own_below Hol3.out hb4 (Nat.le_refl _))
      have Hoo4 := Lib.hid (own_below Hoo3.out hb4 (Nat.le_refl _))
      clear hb4
      have hd' : ¬ maxI l - minI l ≤ 1 := by rw [← Hmo.out, ← Hle.out]; have := Hd.out; omega
      have hft : f ≠ t := Hpa.out.ne hd'
      obtain ⟨m, hnm, hinv'⟩ := Hinv.out.step Hpa.out hd'
      have hcnt := Hinv.out.cnt
      have hst := Hpa.out.step
      rw [← Hmo.out, ← Hle.out] at hst
      have Hst' := Lib.hid hst; clear hst
      have Hinv' := Lib.hid hinv'; clear hinv'
      have hif : findI (fun x => mo == x) l = f := by rw [Hmo.out]; exact Hpa.out.mx
      have hit : findI (fun x => le == x) l = t := by rw [Hle.out]; exact Hpa.out.mn
      have Hif := Lib.hid hif; clear hif
      have Hit := Lib.hid hit; clear hit
      have hcf : (l.flatMap encI)[f]? = some (.int .i64 mo) := by
        have := flatMap_get encI 1 (fun _ => rfl) l f 0 _ Hpa.out.f_ (by omega)
        rw [Nat.mul_one, Nat.add_zero, ← Hmo.out] at this; exact this
      have hct : (l.flatMap encI)[t]? = some (.int .i64 le) := by
        have := flatMap_get encI 1 (fun _ => rfl) l t 0 _ Hpa.out.t_ (by omega)
        rw [Nat.mul_one, Nat.add_zero, ← Hle.out] at this; exact this
      have Hcf := Lib.hid hcf; clear hcf
      have Hct := Lib.hid hct; clear hct
      have Hd' := Lib.hid hd'; clear hd'
      go_wp2_with fail
      refine (indexr_calls f mo l0.length l _ _ _ Hif.out Hlen.out.symm Hll.out.1 (own_rd Hol4.out)).mono ?_
      rintro e w5 ⟨rfl, hb5⟩
      have Hb5 := Lib.hid (Hb4.out.trans (hb5.mono Hb4.out.size))
      have Hol5 := Lib.hid (own_below Hol4.out hb5 (Nat.le_refl _))
      have Hoo5 := Lib.hid (own_below Hoo4.out hb5 (Nat.le_refl _))
      clear hb5
      go_wp2_with fail
      refine (indexr_calls t le l0.length l _ _ _ Hit.out Hlen.out.symm Hll.out.1 (own_rd Hol5.out)).mono ?_
      rintro e w6 ⟨rfl, hb6⟩
      have Hb6 := Lib.hid (Hb5.out.trans (hb6.mono Hb5.out.size))
      have Hol6 := Lib.hid (own_below Hol5.out hb6 (Nat.le_refl _))
      have Hoo6 := Lib.hid (own_below Hoo5.out hb6 (Nat.le_refl _))
      clear hb6
      obtain ⟨e0, f0⟩ := own_cell_in Hol6.out f _ Hcf.out
      obtain ⟨e1, f1⟩ := own_cell_in Hol6.out t _ Hct.out
      have hgle := (Hol6.out.lt g rfl).1
      have hglt := (Hol6.out.lt g rfl).2
      have hset1 := own_set_in Hol6.out f (.int .i64 (mo - 1)) (by omega)
      have hset2 := own_set_in hset1 t (.int .i64 (le + 1)) (by omega)
      have hcells : ((l.flatMap encI).set f (.int .i64 (mo - 1))).set t (.int .i64 (le + 1)) = (planStep l).flatMap encI := by
        have h1 := flatMap_set encI 1 (fun _ => rfl) l f 0 _ (mo - 1) (.int .i64 (mo - 1)) Hpa.out.f_ (by omega) rfl
        have h2 := flatMap_set encI 1 (fun _ => rfl) (l.set f (mo - 1)) t 0 _ (le + 1) (.int .i64 (le + 1)) (by rw [Hmo.out]; exact Hpa.out.step_at (by have := Hd'.out; omega)) (by omega) rfl
        rw [Nat.mul_one, Nat.add_zero] at h1 h2
        rw [h1, h2, ← Hst'.out]
      rw [hcells] at hset2
      obtain ⟨cur6, hcur6⟩ := own_blk Hol6.out
      have hoo7 := own_set_far (own_set_far Hoo6.out hcur6 (by decide) f (.int .i64 (mo - 1))) (hcur6.set_ f (.int .i64 (mo - 1))) (by decide) t (.int .i64 (le + 1))
      have hb7 := (Hb6.out.setCell (p := ⟨g, f, none⟩) hgle (.int .i64 (mo - 1))).setCell (p := ⟨g, t, none⟩) hgle (.int .i64 (le + 1))
      have hbn := Blk.new ((w6.setCell ⟨g, f, none⟩ (.int .i64 (mo - 1))).setCell ⟨g, t, none⟩ (.int .i64 (le + 1))) 42 #[.int .i64 f, .int .i64 t]
      rw [show ((w6.setCell ⟨g, f, none⟩ (.int .i64 (mo - 1))).setCell ⟨g, t, none⟩ (.int .i64 (le + 1))).heap.size = w6.heap.size from by simp] at hbn
      have Hset2 := Lib.hid hset2
      have Hoo7 := Lib.hid hoo7
      have Hol8 := Lib.hid (hset2.alloc (.cells #[.int .i64 f, .int .i64 t] 42))
      have Hoo8 := Lib.hid (hoo7.alloc (.cells #[.int .i64 f, .int .i64 t] 42))
      have Hb8 := Lib.hid (hb7.alloc hb7.size (.cells #[.int .i64 f, .int .i64 t] 42))
      have Hbn := Lib.hid hbn
      have Hne2 := Lib.hid (own_own_ne hset2 hoo7 (by decide))
      clear hset1 hset2 hoo7 hb7 hbn hcells hcur6
      have hmax : out.length + 1 ≤ maxLen := by simp only [maxLen]; omega
      have hby : (out.length + 1) * 16 ≤ 140737488355328 := by omega
      have hbs := Hb8.out.size
      have Hcc := Lib.hid (And.intro hmax (And.intro hby hbs)); clear hmax hby hbs
      go_wp2_with (at_builtin; refine wpList_append_own _ rfl (.tmp 47) (.tmp 51) 36 rfl w.heap.size 42 i0 _ 2 16 Try.underlying36 Hi.out.1 Hi.out.2.1 Hi.out.2.2.1 Hi.out.2.2.2 rfl (by decide) (.slice A' out.length c') out.length (out.flatMap encH) rfl Hoo8.out ⟨w6.heap.size, 0, none⟩ 1 1 [.int .i64 f, .int .i64 t] rfl rfl ?c1 ?c2 Hcc.out.1 Hcc.out.2.1 Hcc.out.2.2 ?_)
      case c1 =>
        intro j u hu
        rw [add_lit0, Hbn.out.cell j]
        simpa using hu
      case c2 => simp [Value.oneCell']
      intro v7 w7 hown hg _
      obtain ⟨A7, c7, rfl⟩ := own_slice hown
      have Hol9 := Lib.hid (Hol8.out.kept hg Hne2.out)
      have Hb9 := Lib.hid (Hb8.out.grown hg Hcc.out.2.2 (fun k hk => (Hoo8.out.lt k hk).1))
      have Hoo9 := Lib.hid hown; clear hown hg
      go_wp2
      go_roundw
      case rel => exact ⟨m, planStep l, out ++ [((f : Int), (t : Int))], Hinv'.out, Hol9.out, by
        have := Hoo9.out
        rw [List.flatMap_append]
        simpa [encH] using this, Hb9.out⟩
      case measure => simp only [sliceLen]; omega
end Go.Proofs.Ythdlmnkefheliaa
