/- Leaves, Ground, ContainsFunc on numbers with the law's closure, a map as a set: functions 50, 48, 97, 51, 52. -/
import Derived.Test.YtfhgknmkpegpbaaCT65
import Derived.Test.YtfhgknmkpegpbaaM5
set_option linter.unusedVariables false
set_option linter.unusedSimpArgs false
namespace Go.Proofs.Ytfhgknmkpegpbaa
open Go.RowKit

mutual
/-- How many nodes are variables. -/
def Tm.lv : Tm → Nat | .mk k n s l => (if k = 1 then 1 else 0) + Tm.lvs l
def Tm.lvs : List Tm → Nat
  | [] => 0
  | t :: ts => Tm.lv t + Tm.lvs ts
end
theorem Tm.lv_eq (t : Tm) : t.lv = (if t.k = 1 then 1 else 0) + Tm.lvs t.l := by cases t; rw [Tm.lv]; rfl
theorem Tm.lvs_append : ∀ (a b : List Tm), Tm.lvs (a ++ b) = Tm.lvs a + Tm.lvs b
  | [], b => by simp [Tm.lvs]
  | x :: a, b => by simp only [List.cons_append, Tm.lvs, Tm.lvs_append a b]; omega
theorem Tm.lvs_take {l : List Tm} {k : Nat} {x : Tm} (h : l[k]? = some x) : Tm.lvs (l.take (k + 1)) = Tm.lvs (l.take k) + x.lv := by
  rw [take_snoc h, Tm.lvs_append]; simp [Tm.lvs]
theorem Tm.lv_le (n : Nat) : (∀ t : Tm, t.size ≤ n → t.lv ≤ t.size) ∧ (∀ l : List Tm, Tm.sizes l ≤ n → Tm.lvs l ≤ Tm.sizes l) := by
  induction n with
  | zero =>
    refine ⟨fun t h => by have := t.size_pos; omega, fun l h => ?_⟩
    cases l with
    | nil => simp [Tm.lvs]
    | cons x xs => rw [Tm.sizes] at h; have := x.size_pos; omega
  | succ n ih =>
    have h1 : ∀ t : Tm, t.size ≤ n + 1 → t.lv ≤ t.size := fun t h => by
      have := ih.2 t.l (by rw [t.size_eq] at h; omega)
      rw [t.size_eq, t.lv_eq]; split <;> omega
    refine ⟨h1, fun l => ?_⟩
    induction l with
    | nil => intro _; simp [Tm.lvs]
    | cons x xs ihl =>
      intro h
      rw [Tm.sizes] at h ⊢
      rw [Tm.lvs]
      have := h1 x (by omega)
      have := ihl (by omega)
      omega
set_option maxRecDepth 100000 in
set_option maxHeartbeats 4000000 in
theorem leaves_calls (t : Tm) : ∀ (P : Nat → Prop) (w : World) (v : Value), TmV P w v t → t.size ≤ 1000000 → Calls Try.prog 50 #[v] w (RetN w (t.lv : Nat)) := by
  induction t using Tm.ind with
  | h t ih =>
    intro P w v hv hsz
    obtain ⟨A, c, rfl, hs, hc⟩ := hv
    have Ih := Lib.hid ih; clear ih
    obtain ⟨W0, hW0⟩ : ∃ W0, W0 = w.alloc (.cells #[.int .i64 t.k, .int .i64 t.n, .string t.s, .slice A t.l.length c] 25) := ⟨_, rfl⟩
    have hB0 : Below w.heap.size w W0 := by rw [hW0]; exact (Below.refl _ _).alloc (Nat.le_refl _) _
    have hlen := t.len_lt_size
    have hlc := hc.len.1
    have Hc := Lib.hid (hc.stay hB0 (Nat.le_refl _)); clear hc
    have Hsz := Lib.hid t.size_eq
    have hlv0 := (Tm.lv_le t.size).1 t (Nat.le_refl _)
    obtain ⟨lv, hlv⟩ : ∃ n, n = t.lv := ⟨_, rfl⟩
    rw [← hlv] at hlv0 ⊢
    obtain ⟨b, hb⟩ : ∃ b : Nat, b = if t.k = 1 then 1 else 0 := ⟨_, rfl⟩
    have hlve : lv = b + Tm.lvs t.l := by rw [hlv, t.lv_eq, ← hb]
    have hb1 : b ≤ 1 := by rw [hb]; split <;> omega
    have Hlv := Lib.hid hlve; clear hlve hlv
    have HB0 := Lib.hid hB0; clear hB0
    have HW := Lib.hid hW0; clear hW0
    have hll : t.l.length ≤ 1000000 := by omega
    by_cases hk1 : t.k = 1
    case pos =>
      have hbe : b = 1 := by rw [hb, if_pos hk1]
      subst hbe
      have hkb : (t.k == 1) = true := by simpa using hk1
      clear hb hk1
      go_enter Try.func50, Try.ntmps50
      go_wp2
      go_loopw [3, 12] (fun n i wr => ∃ k : Nat, k ≤ t.l.length ∧ i = .int .i64 k ∧ n = .int .i64 ((1 + Tm.lvs (t.l.take k) : Nat) : Int) ∧ Hid (Below W0.heap.size W0 wr)) (fun _ i _ => t.l.length - (intOf i).toNat)
      case atStart => exact ⟨0, Nat.zero_le _, rfl, by simp [Tm.lvs], Lib.hid (by rw [HW.out]; exact Below.refl _ _)⟩
      case round =>
        obtain ⟨k, hk, rfl, rfl, HB⟩ := hrel
        obtain ⟨sz, hsz'⟩ : ∃ sz, sz = 1 + Tm.lvs (t.l.take k) := ⟨_, rfl⟩
        rw [← hsz']
        have Hsz' := Lib.hid hsz'; clear hsz'
        by_cases hlt : k < t.l.length
        · obtain ⟨x, hx⟩ : ∃ x, t.l[k]? = some x := ⟨_, List.getElem?_eq_getElem hlt⟩
          obtain ⟨g, off, Ai, ci, rfl, -, ⟨e0, e1, e2, e3⟩, hxs, hxc⟩ := (Hc.out.stay HB.out (Nat.le_refl _)).at_ hx
          have hxm := List.mem_of_getElem? hx
          have hxz := Tm.lvs_take hx
          have hxb : x.size ≤ 1000000 := by have := Tm.size_child hxm; omega
          have hxl : x.lv ≤ 1000000 := by have := (Tm.lv_le x.size).1 x (Nat.le_refl _); omega
          have hszb : sz ≤ 1000001 := by
            have h1 := (Tm.lv_le _).2 (t.l.take k) (Nat.le_refl _)
            have h2 := Tm.sizes_le_take t.l k
            have h3 := Hsz.out
            have h4 := Hsz'.out
            omega
          have Hxz := Lib.hid hxz; clear hxz
          have hcall := Ih.out x hxm P (wr.alloc (.cells #[.int .i64 x.k, .int .i64 x.n, .string x.s, .slice Ai x.l.length ci] 25)) _ ⟨Ai, ci, rfl, hxs, hxc.stay ((Below.refl _ _).alloc (Nat.le_refl _) _) (Nat.le_refl _)⟩ hxb
          obtain ⟨xl, hxl2⟩ : ∃ n, n = x.lv := ⟨_, rfl⟩
          rw [← hxl2] at hcall hxl
          have Hxl2 := Lib.hid hxl2; clear hxl2
          have Hcall := Lib.hid hcall; clear hcall hxc hx
          go_wp2_with fail
          refine Hcall.out.mono ?_
          rintro e w1 ⟨rfl, hb⟩
          have HB1 := Lib.hid (HB.out.trans (((Below.refl _ _).alloc HB.out.size _).trans (hb.mono (Nat.le_trans HB.out.size (by simp))))); clear hb
          go_wp2
          go_roundw
          case rel => exact ⟨k + 1, by omega, by go_num, by rw [Hxz.out, ← Nat.add_assoc, ← Hsz'.out, ← Hxl2.out]; go_num, HB1⟩
          case measure => simp [intOf]; omega
        · have hke : k = t.l.length := by omega
          subst hke
          have h1 : sz = lv := by rw [Hsz'.out, Hlv.out, List.take_length]
          have H1 := Lib.hid h1; clear h1
          go_wp2
          go_ret
          exact ⟨by rw [← H1.out]; rfl, HB0.out.trans (HB.out.mono HB0.out.size)⟩
    case neg =>
      have hbe : b = 0 := by rw [hb, if_neg hk1]
      subst hbe
      have hkb : (t.k == 1) = false := by simpa using hk1
      clear hb hk1
      go_enter Try.func50, Try.ntmps50
      go_wp2
      go_loopw [3, 12] (fun n i wr => ∃ k : Nat, k ≤ t.l.length ∧ i = .int .i64 k ∧ n = .int .i64 ((0 + Tm.lvs (t.l.take k) : Nat) : Int) ∧ Hid (Below W0.heap.size W0 wr)) (fun _ i _ => t.l.length - (intOf i).toNat)
      case atStart => exact ⟨0, Nat.zero_le _, rfl, by simp [Tm.lvs], Lib.hid (by rw [HW.out]; exact Below.refl _ _)⟩
      case round =>
        obtain ⟨k, hk, rfl, rfl, HB⟩ := hrel
        obtain ⟨sz, hsz'⟩ : ∃ sz, sz = 0 + Tm.lvs (t.l.take k) := ⟨_, rfl⟩
        rw [← hsz']
        have Hsz' := Lib.hid hsz'; clear hsz'
        by_cases hlt : k < t.l.length
        · obtain ⟨x, hx⟩ : ∃ x, t.l[k]? = some x := ⟨_, List.getElem?_eq_getElem hlt⟩
          obtain ⟨g, off, Ai, ci, rfl, -, ⟨e0, e1, e2, e3⟩, hxs, hxc⟩ := (Hc.out.stay HB.out (Nat.le_refl _)).at_ hx
          have hxm := List.mem_of_getElem? hx
          have hxz := Tm.lvs_take hx
          have hxb : x.size ≤ 1000000 := by have := Tm.size_child hxm; omega
          have hxl : x.lv ≤ 1000000 := by have := (Tm.lv_le x.size).1 x (Nat.le_refl _); omega
          have hszb : sz ≤ 1000001 := by
            have h1 := (Tm.lv_le _).2 (t.l.take k) (Nat.le_refl _)
            have h2 := Tm.sizes_le_take t.l k
            have h3 := Hsz.out
            have h4 := Hsz'.out
            omega
          have Hxz := Lib.hid hxz; clear hxz
          have hcall := Ih.out x hxm P (wr.alloc (.cells #[.int .i64 x.k, .int .i64 x.n, .string x.s, .slice Ai x.l.length ci] 25)) _ ⟨Ai, ci, rfl, hxs, hxc.stay ((Below.refl _ _).alloc (Nat.le_refl _) _) (Nat.le_refl _)⟩ hxb
          obtain ⟨xl, hxl2⟩ : ∃ n, n = x.lv := ⟨_, rfl⟩
          rw [← hxl2] at hcall hxl
          have Hxl2 := Lib.hid hxl2; clear hxl2
          have Hcall := Lib.hid hcall; clear hcall hxc hx
          go_wp2_with fail
          refine Hcall.out.mono ?_
          rintro e w1 ⟨rfl, hb⟩
          have HB1 := Lib.hid (HB.out.trans (((Below.refl _ _).alloc HB.out.size _).trans (hb.mono (Nat.le_trans HB.out.size (by simp))))); clear hb
          go_wp2
          go_roundw
          case rel => exact ⟨k + 1, by omega, by go_num, by rw [Hxz.out, ← Nat.add_assoc, ← Hsz'.out, ← Hxl2.out]; go_num, HB1⟩
          case measure => simp [intOf]; omega
        · have hke : k = t.l.length := by omega
          subst hke
          have h1 : sz = lv := by rw [Hsz'.out, Hlv.out, List.take_length]
          have H1 := Lib.hid h1; clear h1
          go_wp2
          go_ret
          exact ⟨by rw [← H1.out]; rfl, HB0.out.trans (HB.out.mono HB0.out.size)⟩

set_option maxRecDepth 100000 in
set_option maxHeartbeats 4000000 in
theorem ground_calls (t : Tm) (P : Nat → Prop) (w : World) (v : Value) (hv : TmV P w v t) (hi : isB t = true) :
    Calls Try.prog 48 #[v] w (RetA w (.tuple #[.bool (decide (varsL [t] = [])), .int .i64 0])) := by
  obtain ⟨A, c, rfl, hs, hc⟩ := hv
  obtain ⟨W0, hW0⟩ : ∃ W0, W0 = (w.alloc (.cells #[.int .i64 t.k, .int .i64 t.n, .string t.s, .slice A t.l.length c] 25)).alloc (.cells #[.int .i64 t.k, .int .i64 t.n, .string t.s, .slice A t.l.length c] 25) := ⟨_, rfl⟩
  have hB0 : Below w.heap.size w W0 := by rw [hW0]; exact ((Below.refl _ _).alloc (Nat.le_refl _) _).alloc (by simp) _
  have hcall := vars_ok [t] (fun _ => True) _ 1 W0 (by
    rw [hW0]
    have h1 := row1 (w.alloc (.cells #[.int .i64 t.k, .int .i64 t.n, .string t.s, .slice A t.l.length c] 25)) t A c (P := fun _ => True) hs ((hc.stay ((Below.refl _ _).alloc (Nat.le_refl _) _) (Nat.le_refl _)).mono (fun _ _ => trivial))
    rw [World.size_alloc] at h1
    exact h1) (by rw [allB_one]; exact hi)
  obtain ⟨xs, hxs⟩ : ∃ xs, xs = varsL [t] := ⟨_, rfl⟩
  rw [← hxs] at hcall ⊢
  have Hcall := Lib.hid hcall; have HB0 := Lib.hid hB0; have HW := Lib.hid hW0; clear hcall hB0 hW0 hc hxs
  go_enter Try.func48, Try.ntmps48
  go_wp2_with fail
  rw [← HW.out]
  refine Hcall.out.mono ?_
  rintro e w1 ⟨A1, c1, rfl, -, -, -, hb⟩
  have HB := Lib.hid (HB0.out.trans (hb.mono HB0.out.size)); clear hb
  by_cases hx : xs = []
  · have hd : ((xs.length : Int) == 0) = true := by rw [hx]; rfl
    have hr := Lib.hid (show decide (xs = []) = true from decide_eq_true hx)
    clear hx
    go_wp2
    exact bodyPost_ret (v := .tuple #[.bool true, .int .i64 0]) (by simp [results, Try.results48, go_sem]) rfl (R := RetA w _) ⟨by rw [hr.out], HB.out⟩
  · have hd : ((xs.length : Int) == 0) = false := by
      have : xs.length ≠ 0 := fun e => hx (List.length_eq_zero_iff.1 e)
      simp; exact hx
    have hr := Lib.hid (show decide (xs = []) = false from decide_eq_false hx)
    clear hx
    go_wp2
    exact bodyPost_ret (v := .tuple #[.bool false, .int .i64 0]) (by simp [results, Try.results48, go_sem]) rfl (R := RetA w _) ⟨by rw [hr.out], HB.out⟩

/-- A map that holds a set of numbers. -/
def MapS (W : World) (b n : Nat) (xs : List Int) : Prop :=
  ∃ D : DataW Unit, W.ownsMap Try.prog 3 (plainElem Try.prog 4) b n D ∧ Maps.Tidy D ∧ Maps.size D = xs.length ∧
    ∀ x, Maps.has D (.int .i64 x) = decide (x ∈ xs) ∧ D.atKey (.int .i64 x) (.lit (.bool false)) = .lit (.bool (decide (x ∈ xs)))
theorem MapS.made (w : World) : MapS (w.alloc (.map #[] 0)) w.heap.size 0 [] := ⟨_, World.ownsMap_made w _ _ _, Maps.tidy_empty, rfl, fun x => ⟨by simp [Maps.has], rfl⟩⟩
theorem MapS.below {w w' : World} {b n B : Nat} {xs : List Int} (h : MapS w b n xs) (hb : Below B w w') (hB : b < B) : MapS w' b n xs := by
  obtain ⟨D, ⟨es, clock, h1, h2, h3, h4⟩, h5⟩ := h
  exact ⟨D, ⟨es, clock, (hb.block b hB).trans h1, h2, h3, h4⟩, h5⟩
theorem MapS.lt {w : World} {b n : Nat} {xs : List Int} (h : MapS w b n xs) : b < w.heap.size := by obtain ⟨D, h1, h2⟩ := h; exact h1.lt
theorem MapS.kept {w w' : World} {b n : Nat} {xs : List Int} {row : Option Nat} (h : MapS w b n xs) (hg : w.grownBy w' row) (hne : some b ≠ row) : MapS w' b n xs := by
  obtain ⟨D, h1, h2⟩ := h; exact ⟨D, h1.kept hg hne, h2⟩
def addS (xs : List Int) (x : Int) : List Int := if x ∈ xs then xs else xs ++ [x]
theorem MapS.put {w w1 : World} {b n : Nat} {xs : List Int} {x : Int} {D : DataW Unit} (h1 : w1.ownsMap Try.prog 3 (plainElem Try.prog 4) b (n + 1) (D.put (.int .i64 x) (.lit (.bool true)))) (h2 : Maps.Tidy D) (h3 : Maps.size D = xs.length)
    (h4 : ∀ x, Maps.has D (.int .i64 x) = decide (x ∈ xs) ∧ D.atKey (.int .i64 x) (.lit (.bool false)) = .lit (.bool (decide (x ∈ xs)))) : MapS w1 b (n + 1) (addS xs x) := by
  have hk : WideAt.IsKeyLit (Lit.int .i64 x) := trivial
  refine ⟨_, h1, h2.put hk _, ?_, fun r => ?_⟩
  · rw [Maps.size_put h2, (h4 x).1, h3]
    unfold addS
    by_cases hm : x ∈ xs <;> simp [hm]
  · have hma : (r ∈ addS xs x) ↔ (r ∈ xs ∨ r = x) := by
      unfold addS
      split
      · rename_i h; exact ⟨Or.inl, fun h2 => h2.elim id (fun e => e ▸ h)⟩
      · simp
    by_cases e : r = x
    · subst e
      rw [Maps.has_put_same h2.isMap hk, Maps.atKey_put_same h2.isMap hk]
      simp [hma]
    · have hne : (Lit.int .i64 r) ≠ .int .i64 x := fun e2 => e (by injection e2)
      rw [Maps.has_put_other hne, Maps.atKey_put_other hne, (h4 r).1, (h4 r).2]
      simp [hma, e]
theorem MapS.lookup {w : World} {b n : Nat} {xs : List Int} (h : MapS w b n xs) {x : Int} (hx : (Lit.int .i64 x).wf = true) :
    (Instr.lookup 62 (.map (some b)) (.int .i64 x) false).run Try.prog w = .ok (.bool (decide (x ∈ xs))) w := by
  obtain ⟨D, h1, h2, -, h3⟩ := h
  exact MapB.lookup (n := n) (m := fun x => decide (x ∈ xs)) ⟨D, h1, h2.isMap, fun x => (h3 x).2⟩ hx

set_option maxRecDepth 100000 in
set_option maxHeartbeats 4000000 in
theorem notIn_calls (xs : List Int) (cb mb n : Nat) (w : World) (x : Int) (hb : Blk w cb 62 #[.map (some mb)]) (hm : MapS w mb n xs) (h0 : 0 ≤ x) (h1 : x < 100000) :
    Calls Try.prog 52 #[.int .i64 x, .pointer (some ⟨cb, 0, none⟩)] w (RetB w (!decide (x ∈ xs))) := by
  have hlook := hm.lookup (int_wf h0 h1)
  obtain ⟨b0, -⟩ := Blk.one hb
  have hlt := hb.lt
  clear hm hb h0 h1
  go_enter Try.func52, Try.ntmps52
  go_wp2
  go_ret
  exact ⟨rfl, Below.refl _ _⟩

set_option maxRecDepth 100000 in
set_option maxHeartbeats 4000000 in
theorem indexFuncS_calls (ys xs : List Int) (cb mb n : Nat) (A : Option Addr) (c : Nat) (w : World) (hy : Rd w A (ys.flatMap encI)) (hyl : ys.length ≤ 1000000) (hb : Blk w cb 62 #[.map (some mb)]) (hm : MapS w mb n xs) (hbd : ∀ y ∈ ys, 0 ≤ y ∧ y < 100000) (hall : ∀ y ∈ ys, y ∈ xs) :
    Calls Try.prog 97 #[.slice A ys.length c, .func (.func 52) #[] #[.pointer (some ⟨cb, 0, none⟩)]] w (RetN w (-1)) := by
  have Hy := Lib.hid hy; have Hb := Lib.hid hb; have Hm := Lib.hid hm; have Hbd := Lib.hid hbd; have Hall := Lib.hid hall; clear hy hb hm hbd hall
  go_enter Try.func97, Try.ntmps97
  go_wp2
  go_loopw [8] (fun i wr => ∃ k : Nat, k ≤ ys.length ∧ i = .int .i64 k ∧ Hid (Below w.heap.size w wr)) (fun i _ => ys.length - (intOf i).toNat)
  case atStart => exact ⟨0, Nat.zero_le _, rfl, Lib.hid (Below.refl _ _)⟩
  case round =>
    obtain ⟨k, hk, rfl, HB⟩ := hrel
    by_cases hlt : k < ys.length
    · obtain ⟨x, hx⟩ : ∃ x, ys[k]? = some x := ⟨_, List.getElem?_eq_getElem hlt⟩
      obtain ⟨g, off, hA, e0⟩ := (Hy.out.below HB.out (Nat.le_refl _)).atI hx
      have hxm := List.mem_of_getElem? hx
      have hbd := Hbd.out x hxm
      have hcall := notIn_calls xs cb mb n wr x (Hb.out.below HB.out Hb.out.lt) (Hm.out.below HB.out Hm.out.lt) hbd.1 hbd.2
      rw [decide_eq_true (Hall.out x hxm)] at hcall
      have Hcall := Lib.hid hcall; clear hcall hx hxm hbd
      subst hA
      go_wp2_with fail
      refine Hcall.out.mono ?_
      rintro e w2 ⟨rfl, hb⟩
      have HB2 := Lib.hid (HB.out.trans (hb.mono HB.out.size)); clear hb
      go_wp2
      go_roundw
      case rel => exact ⟨k + 1, by omega, by go_num, HB2⟩
      case measure => simp [intOf]; omega
    · go_wp2
      go_ret
      exact ⟨rfl, HB.out⟩
set_option maxRecDepth 100000 in
set_option maxHeartbeats 4000000 in
theorem containsFuncS_calls (ys xs : List Int) (cb mb n : Nat) (A : Option Addr) (c : Nat) (w : World) (hy : Rd w A (ys.flatMap encI)) (hyl : ys.length ≤ 1000000) (hb : Blk w cb 62 #[.map (some mb)]) (hm : MapS w mb n xs) (hbd : ∀ y ∈ ys, 0 ≤ y ∧ y < 100000) (hall : ∀ y ∈ ys, y ∈ xs) :
    Calls Try.prog 51 #[.slice A ys.length c, .func (.func 52) #[] #[.pointer (some ⟨cb, 0, none⟩)]] w (RetB w false) := by
  have Hcall := Lib.hid (indexFuncS_calls ys xs cb mb n A c w hy hyl hb hm hbd hall); clear hy hb hm hbd hall
  go_enter Try.func51, Try.ntmps51
  go_wp2_with fail
  refine Hcall.out.mono ?_
  rintro e w2 ⟨rfl, hb⟩
  have HB := Lib.hid hb; clear hb
  go_wp2
  go_ret
  exact ⟨rfl, HB.out⟩
end Go.Proofs.Ytfhgknmkpegpbaa
