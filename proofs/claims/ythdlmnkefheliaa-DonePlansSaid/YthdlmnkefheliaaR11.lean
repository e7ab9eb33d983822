import Derived.Test.YthdlmnkefheliaaD24
import Derived.Test.YthdlmnkefheliaaD20
import Derived.Test.YthdlmnkefheliaaD34
import Derived.Test.YthdlmnkefheliaaD35
set_option linter.unusedVariables false
set_option linter.unusedSimpArgs false
namespace Go.Proofs.Ythdlmnkefheliaa
open Go.RowKit
/-- The place of the first greatest of the first numbers. -/
structure PreMax (l : List Int) (k f : Nat) (x : Int) : Prop where
  at_ : l[f]? = some x
  lt : f < k
  le : ∀ (j : Nat) (y : Int), j < k → l[j]? = some y → y ≤ x
  fst : ∀ (j : Nat) (y : Int), j < f → l[j]? = some y → y < x
structure PreMin (l : List Int) (k f : Nat) (x : Int) : Prop where
  at_ : l[f]? = some x
  lt : f < k
  le : ∀ (j : Nat) (y : Int), j < k → l[j]? = some y → x ≤ y
  fst : ∀ (j : Nat) (y : Int), j < f → l[j]? = some y → x < y
theorem PreMax.one {l : List Int} {x : Int} (h : l[0]? = some x) : PreMax l 1 0 x :=
  ⟨h, Nat.zero_lt_one, fun j y hj hy => by obtain rfl : j = 0 := by omega
                                           rw [h] at hy; injection hy; omega, fun j y hj _ => by omega⟩
theorem PreMin.one {l : List Int} {x : Int} (h : l[0]? = some x) : PreMin l 1 0 x :=
  ⟨h, Nat.zero_lt_one, fun j y hj hy => by obtain rfl : j = 0 := by omega
                                           rw [h] at hy; injection hy; omega, fun j y hj _ => by omega⟩
theorem PreMax.more {l : List Int} {k f : Nat} {x y : Int} (h : PreMax l k f x) (hk : l[k]? = some y) (hlt : x < y) : PreMax l (k + 1) k y :=
  ⟨hk, by omega, fun j z hj hz => by
    by_cases e : j = k
    · subst e; rw [hk] at hz; injection hz; omega
    · have := h.le j z (by omega) hz; omega, fun j z hj hz => by have := h.le j z hj hz; omega⟩
theorem PreMin.more {l : List Int} {k f : Nat} {x y : Int} (h : PreMin l k f x) (hk : l[k]? = some y) (hlt : y < x) : PreMin l (k + 1) k y :=
  ⟨hk, by omega, fun j z hj hz => by
    by_cases e : j = k
    · subst e; rw [hk] at hz; injection hz; omega
    · have := h.le j z (by omega) hz; omega, fun j z hj hz => by have := h.le j z hj hz; omega⟩
theorem PreMax.same {l : List Int} {k f : Nat} {x y : Int} (h : PreMax l k f x) (hk : l[k]? = some y) (hle : y ≤ x) : PreMax l (k + 1) f x :=
  ⟨h.at_, by have := h.lt; omega, fun j z hj hz => by
    by_cases e : j = k
    · subst e; rw [hk] at hz; injection hz; omega
    · exact h.le j z (by omega) hz, h.fst⟩
theorem PreMin.same {l : List Int} {k f : Nat} {x y : Int} (h : PreMin l k f x) (hk : l[k]? = some y) (hle : x ≤ y) : PreMin l (k + 1) f x :=
  ⟨h.at_, by have := h.lt; omega, fun j z hj hz => by
    by_cases e : j = k
    · subst e; rw [hk] at hz; injection hz; omega
    · exact h.le j z (by omega) hz, h.fst⟩
theorem findI_first {l : List Int} {f : Nat} {x : Int} (h : l[f]? = some x) (hf : ∀ (j : Nat) (y : Int), j < f → l[j]? = some y → y ≠ x) : findI (fun y => x == y) l = f := by
  refine findI_some ?_
  obtain ⟨hlt, hx⟩ := List.getElem?_eq_some_iff.1 h
  rw [List.findIdx?_eq_some_iff_getElem]
  refine ⟨hlt, by rw [hx]; simp, fun j hj => ?_⟩
  have := hf j _ hj (List.getElem?_eq_getElem (by omega))
  simp only [beq_iff_eq, bne_iff_ne, ne_eq, Bool.not_eq_true, Bool.not_eq_eq_eq_not, beq_eq_false_iff_ne]
  intro e; exact this e.symm
theorem PreMax.all {l : List Int} {f : Nat} {x : Int} (h : PreMax l l.length f x) : maxI l = x ∧ maxAt l = f := by
  have hne : l ≠ [] := by intro e; have := h.at_; rw [e] at this; simp at this
  have hm : maxI l = x := by
    have h1 := le_maxI (List.mem_of_getElem? h.at_)
    obtain ⟨j, hj, he⟩ := List.getElem_of_mem (maxI_mem hne)
    have h2 := h.le j _ hj (List.getElem?_eq_getElem hj)
    rw [he] at h2; omega
  refine ⟨hm, ?_⟩
  rw [maxAt, hm]
  exact findI_first h.at_ (fun j y hj hy => by have := h.fst j y hj hy; omega)
theorem PreMin.all {l : List Int} {f : Nat} {x : Int} (h : PreMin l l.length f x) : minI l = x ∧ minAt l = f := by
  have hne : l ≠ [] := by intro e; have := h.at_; rw [e] at this; simp at this
  have hm : minI l = x := by
    have h1 := minI_le (List.mem_of_getElem? h.at_)
    obtain ⟨j, hj, he⟩ := List.getElem_of_mem (minI_mem hne)
    have h2 := h.le j _ hj (List.getElem?_eq_getElem hj)
    rw [he] at h2; omega
  refine ⟨hm, ?_⟩
  rw [minAt, hm]
  exact findI_first h.at_ (fun j y hj hy => by have := h.fst j y hj hy; omega)
/-- The two slices of a plan under way: the numbers and the moves. -/
def PlanW (w W : World) (g cg n : Nat) (l : List Int) (v : Value) (out : List (Int × Int)) : Prop :=
  W.ownsRow w.heap.size 3 1 (.slice (some ⟨g, 0, none⟩) n cg) n (l.flatMap encI) ∧ W.ownsRow w.heap.size 42 2 v out.length (out.flatMap encH) ∧ Below w.heap.size w W
theorem PlanW.drewN {w W : World} {g cg n : Nat} {l : List Int} {v : Value} {out : List (Int × Int)} (h : PlanW w W g cg n l v out) (m : Nat) : PlanW w (W.drewN m) g cg n l v out :=
  ⟨h.1, h.2.1, below_drewN h.2.2 m⟩
theorem PlanW.cell {w W : World} {g cg n : Nat} {l : List Int} {v : Value} {out : List (Int × Int)} (h : PlanW w W g cg n l v out) {j : Nat} {x : Int} (hj : l[j]? = some x) :
    W.cell? ⟨g, j, none⟩ = some (.int .i64 x) ∧ W.frozen? ⟨g, j, none⟩ = false := by
  have := flatMap_get encI 1 (fun _ => rfl) l j 0 _ hj (by omega)
  rw [Nat.mul_one, Nat.add_zero] at this
  exact own_cell_in h.1 j _ this

set_option maxRecDepth 100000 in
set_option maxHeartbeats 4000000 in
theorem refPlan_calls (l0 : List Int) (A : Option Addr) (c : Nat) (w : World) (hlen : l0.length ≤ 100000) (hr : Rd w A (l0.flatMap encI)) :
    Calls Try.prog 24 #[.slice A l0.length c] w (RetP w (planM l0)) := by
  have HR := Lib.hid hr; clear hr
  by_cases h1 : 1 ≤ l0.length
  case neg =>
    have hb : bd 1 16 (l0.length : Int) = false := by rw [← Bool.not_eq_true, bd_iff]; omega
    have Hf := Lib.hid (show planM l0 = ([], 1) from by rw [planM, hb]; rfl); clear hb
    have hd0 : decide ((l0.length : Int) < 1) = true := decide_eq_true (by omega)
    have hd1 : decide (l0.length < 1) = true := decide_eq_true (by omega)
    go_enter Try.func24, Try.ntmps24
    go_wp2
    exact bodyPost_ret (v := .tuple #[.slice none 0 0, .int .i64 1]) (by simp [results, Try.results24, go_sem, *]) rfl ⟨_, by rw [Hf.out], by rw [Hf.out]; exact World.ownsRow_nil _ _ _ _, Below.refl _ _⟩
  have hd0 : decide ((l0.length : Int) < 1) = false := decide_eq_false (by omega)
  have hd1 : decide (l0.length < 1) = false := decide_eq_false (by omega)
  by_cases h16 : l0.length ≤ 16
  case neg =>
    have hb : bd 1 16 (l0.length : Int) = false := by rw [← Bool.not_eq_true, bd_iff]; omega
    have Hf := Lib.hid (show planM l0 = ([], 1) from by rw [planM, hb]; rfl); clear hb
    have hd2 : decide ((16 : Int) < (l0.length : Int)) = true := decide_eq_true (by omega)
    have hd3 : decide (16 < l0.length) = true := decide_eq_true (by omega)
    go_enter Try.func24, Try.ntmps24
    go_wp2
    exact bodyPost_ret (v := .tuple #[.slice none 0 0, .int .i64 1]) (by simp [results, Try.results24, go_sem, *]) rfl ⟨_, by rw [Hf.out], by rw [Hf.out]; exact World.ownsRow_nil _ _ _ _, Below.refl _ _⟩
  have hd2 : decide ((16 : Int) < (l0.length : Int)) = false := decide_eq_false (by omega)
  have hd3 : decide (16 < l0.length) = false := decide_eq_false (by omega)
  have hb : bd 1 16 (l0.length : Int) = true := (bd_iff _ _ _).2 (by omega)
  have Hb := Lib.hid hb; clear hb
  obtain ⟨i3, hi3, hy0, hy1, hy2⟩ := info_parts info3
  have Hi3 := Lib.hid (And.intro hi3 (And.intro hy0 (And.intro hy1 hy2))); clear hi3 hy0 hy1 hy2
  obtain ⟨i0, hi, hz0, hz1, hz2⟩ := info_parts info42
  have Hi := Lib.hid (And.intro hi (And.intro hz0 (And.intro hz1 hz2))); clear hi hz0 hz1 hz2
  have hone : ∀ u ∈ l0.flatMap encI, u.oneCell' = true := by
    intro u hu
    obtain ⟨x, _, hx⟩ := List.mem_flatMap.1 hu
    simp only [encI, List.mem_cons, List.not_mem_nil, or_false] at hx
    rcases hx with rfl <;> rfl
  have hR := HR.out.reads (by decide) (k := 1) (n := l0.length) (flatMap_len encI 1 (fun _ => rfl) l0)
  have HR2 := Lib.hid hR; clear hR
  have Ho := Lib.hid hone; clear hone
  go_enter Try.func24, Try.ntmps24
  go_wp2_with (at_builtin; refine wpList_append_any _ rfl (.tmp 18) (.tmp 19) 35 rfl w.heap.size 3 i3 _ 1 8 Try.underlying35 Hi3.out.1 Hi3.out.2.1 Hi3.out.2.2.1 Hi3.out.2.2.2 rfl (by decide) (.slice (some ⟨w.heap.size, 0, none⟩) 0 0) 0 [] rfl (World.ownsRow_made w #[] 0 (Nat.le_refl _) (Nat.zero_le _) rfl) w.heap.size A l0.length c (l0.flatMap encI) rfl (HR2.out.alloc (Nat.le_refl _) _) Ho.out (by simp only [maxLen]; omega) (by omega) (by simp) ?_)
  intro v1 w1 hown0 hg _
  have hown : w1.ownsRow w.heap.size 3 1 v1 l0.length (l0.flatMap encI) := by simpa using hown0
  clear hown0
  have hbel : Below w.heap.size w w1 := ((Below.refl _ w).alloc (Nat.le_refl _) _).grown hg (by simp) (fun k hk => by simp [Value.ownBlock] at hk; omega)
  obtain ⟨g, cg, rfl, -, -⟩ := hown.form (show 0 < l0.length by omega)
  have Hown := Lib.hid hown; clear hown
  have Hb1 := Lib.hid hbel; clear hbel hg hd0 hd1 hd2 hd3
  go_wp2
  go_loopw [5] (fun i wr => ∃ k : Nat, k ≤ l0.length ∧ i = .int .i64 k ∧ (∀ (j : Nat) (x : Int), j < k → l0[j]? = some x → 0 ≤ x ∧ x ≤ 1000) ∧ PlanW w wr g cg l0.length l0 (.slice none 0 0) []) (fun i _ => l0.length - (intOf i).toNat)
  case atStart => exact ⟨0, Nat.zero_le _, rfl, fun j x hj _ => absurd hj (Nat.not_lt_zero _), Hown.out, World.ownsRow_nil _ _ _ _, Hb1.out⟩
  case round =>
    obtain ⟨k, hk, rfl, hal, hpw⟩ := hrel
    have Hal := Lib.hid hal
    have Hpw := Lib.hid hpw
    clear hal hpw
    by_cases hlt : k < l0.length
    · obtain ⟨x, hx⟩ : ∃ x, l0[k]? = some x := ⟨_, List.getElem?_eq_getElem hlt⟩
      obtain ⟨e0, -⟩ := Hpw.out.cell hx
      have Hx := Lib.hid hx; clear hx
      by_cases hx0 : 0 ≤ x ∧ x ≤ 1000
      · have hdx0 : decide (x < 0) = false := decide_eq_false (by omega)
        have hdx1 : decide ((1000 : Int) < x) = false := decide_eq_false (by omega)
        go_wp2
        go_roundw
        case rel => exact ⟨k + 1, by omega, by go_num, fun j y hj hy => by
          by_cases e : j = k
          · subst e; rw [Hx.out] at hy; injection hy with hy; subst hy; exact hx0
          · exact Hal.out j y (by omega) hy, Hpw.out⟩
        case measure => simp [intOf]; omega
      · have hf : planM l0 = ([], 1) := by
          have ha : (l0.any fun x => !bd 0 1000 x) = true := by
            rw [List.any_eq_true]
            exact ⟨x, List.mem_of_getElem? Hx.out, by rw [Bool.not_eq_true', ← Bool.not_eq_true, bd_iff]; exact hx0⟩
          rw [planM, Hb.out, ha]; rfl
        have Hf := Lib.hid hf; clear hf
        rcases Int.lt_or_le x 0 with hneg | hpos
        · have hdx0 : decide (x < 0) = true := decide_eq_true hneg
          go_wp2
          exact bodyPost_ret (v := .tuple #[.slice none 0 0, .int .i64 1]) (by simp [results, Try.results24, go_sem, *]) rfl ⟨_, by rw [Hf.out], by rw [Hf.out]; exact World.ownsRow_nil _ _ _ _, Hpw.out.2.2⟩
        · have hdx0 : decide (x < 0) = false := decide_eq_false (by omega)
          have hdx1 : decide ((1000 : Int) < x) = true := decide_eq_true (by omega)
          go_wp2
          exact bodyPost_ret (v := .tuple #[.slice none 0 0, .int .i64 1]) (by simp [results, Try.results24, go_sem, *]) rfl ⟨_, by rw [Hf.out], by rw [Hf.out]; exact World.ownsRow_nil _ _ _ _, Hpw.out.2.2⟩
    · have hke : k = l0.length := by omega
      subst hke
      have hbnd : ∀ x ∈ l0, 0 ≤ x ∧ x ≤ 1000 := fun x hx => by
        obtain ⟨j, hj, he⟩ := List.getElem_of_mem hx
        exact Hal.out j x hj (by rw [List.getElem?_eq_getElem hj, he])
      have ha : (l0.any fun x => !bd 0 1000 x) = false := by
        rw [List.any_eq_false]
        intro x hx
        rw [Bool.not_eq_true, Bool.not_eq_false', bd_iff]; exact hbnd x hx
      have hf : planM l0 = (planGo (sq l0).toNat l0 [], 0) := by rw [planM, Hb.out, ha]; rfl
      have Hf := Lib.hid hf; clear hf ha
      have hN : (sq l0).toNat ≤ 16000000 := by have := sq_le l0 hbnd; omega
      have Hst := Lib.hid (PlanInv.start hbnd); clear hbnd
      obtain ⟨N, hNd⟩ : ∃ N, N = (sq l0).toNat := ⟨_, rfl⟩
      rw [← hNd] at hN Hf Hst
      clear hNd
      have hpw2 : PlanW w (wr.alloc (.cells #[] 42)) g cg l0.length l0 (.slice (some ⟨wr.heap.size, 0, none⟩) 0 0) [] :=
        ⟨Hpw.out.1.alloc _, World.ownsRow_made wr #[] 0 Hpw.out.2.2.size (Nat.zero_le _) rfl, Hpw.out.2.2.alloc Hpw.out.2.2.size _⟩
      have Hpw2 := Lib.hid hpw2
      clear hpw2
      go_wp2
      go_loopw [6, 7, 8, 9] (fun o _ _ _ wr => ∃ (n : Nat) (l : List Int) (out : List (Int × Int)), PlanInv l0 N n l out ∧ PlanW w wr g cg l0.length l o out) (fun o _ _ _ _ => N - sliceLen o)
      case atStart => exact ⟨N, l0, [], Hst.out, Hpw2.out⟩
      case round =>
        clear Hpw Hpw2
        obtain ⟨n, l, out, hinv, hpw⟩ := hrel
        obtain ⟨A', c', rfl⟩ := own_slice hpw.2.1
        have hne : l ≠ [] := by intro e; have := hinv.len; rw [e] at this; simp at this; omega
        obtain ⟨x0, hx0⟩ : ∃ x0, l[0]? = some x0 := ⟨_, List.getElem?_eq_getElem (by have := hinv.len; omega)⟩
        have Hinv := Lib.hid hinv; clear hinv
        have Hpw := Lib.hid hpw; clear hpw
        have Hmx := Lib.hid (PreMax.one hx0)
        have Hmn := Lib.hid (PreMin.one hx0)
        clear hx0
        go_wp2
        go_loopw [7, 8, 9] (fun ff tt kk wr => ∃ (f t k : Nat) (mx mn : Int), ff = .int .i64 f ∧ tt = .int .i64 t ∧ kk = .int .i64 k ∧ k ≤ l0.length ∧ PreMax l k f mx ∧ PreMin l k t mn ∧ PlanW w wr g cg l0.length l (.slice A' out.length c') out) (fun _ _ kk _ => l0.length - (intOf kk).toNat)
        case atStart => exact ⟨0, 0, 1, x0, x0, rfl, rfl, rfl, by omega, Hmx.out, Hmn.out, Hpw.out⟩
        case round =>
          clear Hpw Hmx Hmn
          obtain ⟨f, t, k, mx, mn, rfl, rfl, rfl, hk, hmx, hmn, hpw⟩ := hrel
          have hfk := hmx.lt
          have htk := hmn.lt
          have hll := Hinv.out.len
          obtain ⟨m0, m0'⟩ := hpw.cell hmx.at_
          obtain ⟨n0, n0'⟩ := hpw.cell hmn.at_
          have hbm := Hinv.out.bnd _ (List.mem_of_getElem? hmx.at_)
          have hbn := Hinv.out.bnd _ (List.mem_of_getElem? hmn.at_)
          have Hmx := Lib.hid hmx; clear hmx
          have Hmn := Lib.hid hmn; clear hmn
          have Hpw := Lib.hid hpw; clear hpw
          by_cases hlt : k < l0.length
          · obtain ⟨x, hx⟩ : ∃ x, l[k]? = some x := ⟨_, List.getElem?_eq_getElem (by omega)⟩
            obtain ⟨e0, -⟩ := Hpw.out.cell hx
            have Hx := Lib.hid hx; clear hx
            by_cases hgt : mx < x
            · have hdg : decide (mx < x) = true := decide_eq_true hgt
              go_wp2_with fail
              go_quiet (fail)
              refine exit_at (fun W => PlanW w W g cg l0.length l (.slice A' out.length c') out) (Hpw.out.drewN _) ?_
              clear Hpw e0 m0 n0 m0' n0'
              rintro wr2 hpw
              have Hpw := Lib.hid hpw
              obtain ⟨m0, m0'⟩ := hpw.cell Hmx.out.at_
              obtain ⟨n0, n0'⟩ := hpw.cell Hmn.out.at_
              obtain ⟨e0, -⟩ := hpw.cell Hx.out
              clear hpw
              by_cases hgl : x < mn
              · have hdl : decide (x < mn) = true := decide_eq_true hgl
                go_wp2_with fail
                go_quiet (fail)
                refine exit_at (fun W => PlanW w W g cg l0.length l (.slice A' out.length c') out) (Hpw.out.drewN _) ?_
                clear Hpw e0 m0 n0 m0' n0'
                rintro wr3 hpw
                have Hpw := Lib.hid hpw
                obtain ⟨m0, m0'⟩ := hpw.cell Hmx.out.at_
                obtain ⟨n0, n0'⟩ := hpw.cell Hmn.out.at_
                obtain ⟨e0, -⟩ := hpw.cell Hx.out
                clear hpw
                go_wp2
                go_roundw
                case rel => exact ⟨k, k, k + 1, x, x, rfl, rfl, by go_num, by omega, Hmx.out.more Hx.out hgt, Hmn.out.more Hx.out hgl, Hpw.out⟩
                case measure => simp [intOf]; omega
              · have hdl : decide (x < mn) = false := decide_eq_false hgl
                go_wp2_with fail
                go_quiet (fail)
                refine exit_at (fun W => PlanW w W g cg l0.length l (.slice A' out.length c') out) (Hpw.out.drewN _) ?_
                clear Hpw e0 m0 n0 m0' n0'
                rintro wr3 hpw
                have Hpw := Lib.hid hpw
                obtain ⟨m0, m0'⟩ := hpw.cell Hmx.out.at_
                obtain ⟨n0, n0'⟩ := hpw.cell Hmn.out.at_
                obtain ⟨e0, -⟩ := hpw.cell Hx.out
                clear hpw
                go_wp2
                go_roundw
                case rel => exact ⟨k, t, k + 1, x, mn, rfl, rfl, by go_num, by omega, Hmx.out.more Hx.out hgt, Hmn.out.same Hx.out (by omega), Hpw.out⟩
                case measure => simp [intOf]; omega
            · have hdg : decide (mx < x) = false := decide_eq_false hgt
              go_wp2_with fail
              go_quiet (fail)
              refine exit_at (fun W => PlanW w W g cg l0.length l (.slice A' out.length c') out) (Hpw.out.drewN _) ?_
              clear Hpw e0 m0 n0 m0' n0'
              rintro wr2 hpw
              have Hpw := Lib.hid hpw
              obtain ⟨m0, m0'⟩ := hpw.cell Hmx.out.at_
              obtain ⟨n0, n0'⟩ := hpw.cell Hmn.out.at_
              obtain ⟨e0, -⟩ := hpw.cell Hx.out
              clear hpw
              by_cases hgl : x < mn
              · have hdl : decide (x < mn) = true := decide_eq_true hgl
                go_wp2_with fail
                go_quiet (fail)
                refine exit_at (fun W => PlanW w W g cg l0.length l (.slice A' out.length c') out) (Hpw.out.drewN _) ?_
                clear Hpw e0 m0 n0 m0' n0'
                rintro wr3 hpw
                have Hpw := Lib.hid hpw
                obtain ⟨m0, m0'⟩ := hpw.cell Hmx.out.at_
                obtain ⟨n0, n0'⟩ := hpw.cell Hmn.out.at_
                obtain ⟨e0, -⟩ := hpw.cell Hx.out
                clear hpw
                go_wp2
                go_roundw
                case rel => exact ⟨f, k, k + 1, mx, x, rfl, rfl, by go_num, by omega, Hmx.out.same Hx.out (by omega), Hmn.out.more Hx.out hgl, Hpw.out⟩
                case measure => simp [intOf]; omega
              · have hdl : decide (x < mn) = false := decide_eq_false hgl
                go_wp2_with fail
                go_quiet (fail)
                refine exit_at (fun W => PlanW w W g cg l0.length l (.slice A' out.length c') out) (Hpw.out.drewN _) ?_
                clear Hpw e0 m0 n0 m0' n0'
                rintro wr3 hpw
                have Hpw := Lib.hid hpw
                obtain ⟨m0, m0'⟩ := hpw.cell Hmx.out.at_
                obtain ⟨n0, n0'⟩ := hpw.cell Hmn.out.at_
                obtain ⟨e0, -⟩ := hpw.cell Hx.out
                clear hpw
                go_wp2
                go_roundw
                case rel => exact ⟨f, t, k + 1, mx, mn, rfl, rfl, by go_num, by omega, Hmx.out.same Hx.out (by omega), Hmn.out.same Hx.out (by omega), Hpw.out⟩
                case measure => simp [intOf]; omega
          · have hke : k = l0.length := by omega
            subst hke
            have hmall := PreMax.all (l := l) (f := f) (x := mx) (by rw [hll]; exact Hmx.out)
            have hnall := PreMin.all (l := l) (f := t) (x := mn) (by rw [hll]; exact Hmn.out)
            have hpa : PlanAt l f t := ⟨hmall.2, hnall.2, by rw [hmall.1]; exact Hmx.out.at_, by rw [hnall.1]; exact Hmn.out.at_⟩
            obtain ⟨hmall, -⟩ := hmall
            obtain ⟨hnall, -⟩ := hnall
            have Hmall := Lib.hid hmall
            have Hnall := Lib.hid hnall
            have Hpa := Lib.hid hpa
            clear hmall hnall hpa
            obtain ⟨hm0, hm1⟩ := hbm
            obtain ⟨hq0, hq1⟩ := hbn
            have hfl : f < l0.length := hfk
            have htl : t < l0.length := htk
            have hol16 : out.length ≤ 16000000 := by have := Hinv.out.cnt; omega
            by_cases hd : mx - mn ≤ 1
            · have hdb : decide (mx - mn ≤ 1) = true := decide_eq_true hd
              have hr0 := Hinv.out.done (by rw [Hmall.out, Hnall.out]; exact hd)
              have Hr0 := Lib.hid (show planM l0 = (out, 0) from by rw [Hf.out, hr0]); clear hr0
              go_wp2_with fail
              go_quiet (fail)
              refine exit_at (fun W => PlanW w W g cg l0.length l (.slice A' out.length c') out) (Hpw.out.drewN _) ?_
              clear Hpw m0 n0 m0' n0'
              rintro wr2 hpw
              have Hpw := Lib.hid hpw; clear hpw
              go_wp2
              exact bodyPost_ret (v := .tuple #[.slice A' out.length c', .int .i64 0]) (by simp [results, Try.results24, go_sem, *]) rfl ⟨_, by rw [Hr0.out], by rw [Hr0.out]; exact Hpw.out.2.1, Hpw.out.2.2⟩
            · have hdb : decide (mx - mn ≤ 1) = false := decide_eq_false hd
              have hd' : ¬ maxI l - minI l ≤ 1 := by rw [Hmall.out, Hnall.out]; exact hd
              have hft : f ≠ t := Hpa.out.ne hd'
              obtain ⟨m, hnm, hinv'⟩ := Hinv.out.step Hpa.out hd'
              have hcnt := Hinv.out.cnt
              have hst := Hpa.out.step
              rw [Hmall.out, Hnall.out] at hst
              have hsa := Hpa.out.step_at hd'
              rw [Hmall.out, Hnall.out] at hsa
              have Hst' := Lib.hid hst; clear hst
              have Hsa := Lib.hid hsa; clear hsa
              have Hinv' := Lib.hid hinv'; clear hinv'
              have Hd := Lib.hid hd; clear hd hd'
              go_wp2_with fail
              go_quiet (fail)
              refine exit_at (fun W => PlanW w W g cg l0.length l (.slice A' out.length c') out) (Hpw.out.drewN _) ?_
              clear Hpw m0 n0 m0' n0'
              rintro wr2 hpw
              obtain ⟨m0, m0'⟩ := hpw.cell Hmx.out.at_
              obtain ⟨n0, n0'⟩ := hpw.cell Hmn.out.at_
              obtain ⟨hol, hoo, hB⟩ := hpw
              have hgle := (hol.lt g rfl).1
              have hglt := (hol.lt g rfl).2
              have hlen1 : (l.flatMap encI).length = l0.length := by rw [flatMap_len encI 1 (fun _ => rfl) l, Nat.mul_one, hll]
              have hset1 := own_set_in hol f (.int .i64 (mx - 1)) (by omega)
              have hset2 := own_set_in hset1 t (.int .i64 (mn + 1)) (by omega)
              have hcells : ((l.flatMap encI).set f (.int .i64 (mx - 1))).set t (.int .i64 (mn + 1)) = (planStep l).flatMap encI := by
                have h1 := flatMap_set encI 1 (fun _ => rfl) l f 0 _ (mx - 1) (.int .i64 (mx - 1)) Hmx.out.at_ (by omega) rfl
                have h2 := flatMap_set encI 1 (fun _ => rfl) (l.set f (mx - 1)) t 0 _ (mn + 1) (.int .i64 (mn + 1)) Hsa.out (by omega) rfl
                rw [Nat.mul_one, Nat.add_zero] at h1 h2
                rw [h1, h2, ← Hst'.out]
              rw [hcells] at hset2
              obtain ⟨cur6, hcur6⟩ := own_blk hol
              have hoo7 := own_set_far (own_set_far hoo hcur6 (by decide) f (.int .i64 (mx - 1))) (hcur6.set_ f (.int .i64 (mx - 1))) (by decide) t (.int .i64 (mn + 1))
              have hb7 := (hB.setCell (p := ⟨g, f, none⟩) hgle (.int .i64 (mx - 1))).setCell (p := ⟨g, t, none⟩) hgle (.int .i64 (mn + 1))
              have hbn := Blk.new ((wr2.setCell ⟨g, f, none⟩ (.int .i64 (mx - 1))).setCell ⟨g, t, none⟩ (.int .i64 (mn + 1))) 42 #[.int .i64 f, .int .i64 t]
              rw [show ((wr2.setCell ⟨g, f, none⟩ (.int .i64 (mx - 1))).setCell ⟨g, t, none⟩ (.int .i64 (mn + 1))).heap.size = wr2.heap.size from by simp] at hbn
              have Hol8 := Lib.hid (hset2.alloc (.cells #[.int .i64 f, .int .i64 t] 42))
              have Hoo8 := Lib.hid (hoo7.alloc (.cells #[.int .i64 f, .int .i64 t] 42))
              have Hb8 := Lib.hid (hb7.alloc hb7.size (.cells #[.int .i64 f, .int .i64 t] 42))
              have Hbn := Lib.hid hbn
              have Hne2 := Lib.hid (own_own_ne hset2 hoo7 (by decide))
              clear hset1 hset2 hoo7 hb7 hbn hcells hcur6 hol hoo hB hlen1
              have hmax : out.length + 1 ≤ maxLen := by simp only [maxLen]; omega
              have hby : (out.length + 1) * 16 ≤ 140737488355328 := by omega
              have hbs := Hb8.out.size
              have Hcc := Lib.hid (And.intro hmax (And.intro hby hbs)); clear hmax hby hbs
              go_wp2_with (at_builtin; refine wpList_append_own _ rfl (.tmp 89) (.tmp 93) 36 rfl w.heap.size 42 i0 _ 2 16 Try.underlying36 Hi.out.1 Hi.out.2.1 Hi.out.2.2.1 Hi.out.2.2.2 rfl (by decide) (.slice A' out.length c') out.length (out.flatMap encH) rfl Hoo8.out ⟨wr2.heap.size, 0, none⟩ 1 1 [.int .i64 f, .int .i64 t] rfl rfl ?c1 ?c2 Hcc.out.1 Hcc.out.2.1 Hcc.out.2.2 ?_)
              case c1 =>
                intro j u hu
                rw [add_lit0, Hbn.out.cell j]
                simpa using hu
              case c2 => simp [Value.oneCell']
              intro v7 w7 hown hg _
              obtain ⟨A7, c7, rfl⟩ := own_slice hown
              have Hol9 := Lib.hid (Hol8.out.kept hg Hne2.out)
              have Hb9 := Lib.hid (Hb8.out.grown hg Hcc.out.2.2 (fun k hk => (Hoo8.out.lt k hk).1))
              have Hoo9 := Lib.hid hown; clear hown hg
              go_wp2
              go_roundw
              case rel => exact ⟨m, planStep l, out ++ [((f : Int), (t : Int))], Hinv'.out, Hol9.out, by
                have := Hoo9.out
                rw [List.flatMap_append]
                simpa [encH] using this, Hb9.out⟩
              case measure => simp only [sliceLen]; omega
end Go.Proofs.Ythdlmnkefheliaa
