/- Layer 1, part 5 of the base: the walks and plain facts named in NOTES.md as T33, T34, T35, T36, B1, T37, T38, T39, T40. -/
import Derived.Test.YtfhgknmkpegpbaaM4
import Derived.Maps.OwnOps
import Derived.Shelf.Strings.BuilderK
import Derived.Test.YtfhgknmkpegpbaaM1
import Derived.Maps.OwnSet

set_option linter.unusedVariables false
set_option linter.unusedSimpArgs false
namespace Go.Proofs.Ytfhgknmkpegpbaa
open Go.RowKit

theorem Tm.mat_mem (n : Nat) : (∀ (t u : Tm) (sub : List Tm), t.size ≤ n → ∀ x ∈ (t.mat u sub).1, x ∈ sub ∨ x.size ≤ u.size) ∧ (∀ (xs ys sub : List Tm), Tm.sizes xs ≤ n → ∀ x ∈ (Tm.mats xs ys sub).1, x ∈ sub ∨ x.size ≤ Tm.sizes ys) := by
  induction n with
  | zero =>
    refine ⟨fun t u sub h => by have := t.size_pos; omega, fun xs ys sub h x hx => ?_⟩
    cases xs with
    | nil => rw [Tm.mats_nil] at hx; exact Or.inl hx
    | cons a l => rw [Tm.sizes] at h; have := a.size_pos; omega
  | succ n ih =>
    have h1 : ∀ (t u : Tm) (sub : List Tm), t.size ≤ n + 1 → ∀ x ∈ (t.mat u sub).1, x ∈ sub ∨ x.size ≤ u.size := fun t u sub h x hx => by
      rw [t.size_eq] at h
      rw [Tm.mat_eq] at hx
      split at hx
      · split at hx
        · split at hx
          · rcases List.mem_or_eq_of_mem_set hx with h2 | h2
            · exact Or.inl h2
            · rw [h2]; exact Or.inr (Nat.le_refl _)
          · exact Or.inl hx
        · exact Or.inl hx
      · split at hx
        · rcases ih.2 _ _ _ (by omega) x hx with h2 | h2
          · exact Or.inl h2
          · rw [u.size_eq]; exact Or.inr (by omega)
        · exact Or.inl hx
    refine ⟨h1, fun xs => ?_⟩
    induction xs with
    | nil => intro ys sub _ x hx; rw [Tm.mats_nil] at hx; exact Or.inl hx
    | cons a l ihl =>
      intro ys sub h x hx
      rw [Tm.sizes] at h
      cases ys with
      | nil => rw [Tm.mats] at hx; exact Or.inl hx
      | cons y ys =>
        rw [Tm.mats_cons] at hx
        rw [Tm.sizes]
        have key : x ∈ (a.mat y sub).1 → x ∈ sub ∨ x.size ≤ y.size + Tm.sizes ys := fun h2 => by
          rcases h1 a y sub (by omega) x h2 with h3 | h3
          · exact Or.inl h3
          · exact Or.inr (by omega)
        split at hx
        · rcases ihl ys _ (by omega) x hx with h2 | h2
          · exact key h2
          · exact Or.inr (by omega)
        · exact key hx
theorem flatMap_encI (xs : List Int) : xs.flatMap encI = xs.map (Value.int .i64) := by
  induction xs with
  | nil => rfl
  | cons x xs ih => rw [List.flatMap_cons, ih]; rfl
/-- What Match gives: the list (none: nil), whether it can. -/
noncomputable def matchR (p t : Tm) : Option (List Tm) := if (p.mat t (List.replicate (maxV (varsL [p])).toNat Tm.zero)).2 = true then some (p.mat t (List.replicate (maxV (varsL [p])).toNat Tm.zero)).1 else none
def RetMa (w : World) (r : Option (List Tm)) (er : Int) (e : Ending) (w' : World) : Prop :=
  ∃ A c, e = .returned (.tuple #[.slice A (r.getD []).length c, .bool r.isSome, .int .i64 er]) ∧ TmC (w.heap.size ≤ ·) w' A c (r.getD []) ∧ Below w.heap.size w w'

set_option maxRecDepth 100000 in
set_option maxHeartbeats 4000000 in
theorem matchTop_calls (t u : Tm) (P Q : Nat → Prop) (w : World) (v v2 : Value) (hv : TmV P w v t) (hv2 : TmV Q w v2 u) :
    Calls Try.prog 35 #[v, v2] w (RetMa w (if allIs [t, u] = true then matchR t u else none) (errT (allIs [t, u]))) := by
  obtain ⟨A, c, rfl, hs, hc⟩ := hv
  obtain ⟨B, d, rfl, hs', hd⟩ := hv2
  obtain ⟨W1, hW1⟩ : ∃ W1, W1 = ((w.alloc (.cells #[.int .i64 t.k, .int .i64 t.n, .string t.s, .slice A t.l.length c] 25)).alloc (.cells #[.int .i64 u.k, .int .i64 u.n, .string u.s, .slice B u.l.length d] 25)).alloc (.cells #[.int .i64 t.k, .int .i64 t.n, .string t.s, .slice A t.l.length c, .int .i64 u.k, .int .i64 u.n, .string u.s, .slice B u.l.length d] 25) := ⟨_, rfl⟩
  have hB1 : Below w.heap.size w W1 := by rw [hW1]; exact (((Below.refl _ _).alloc (Nat.le_refl _) _).alloc (by simp) _).alloc (by simp; omega) _
  have hX : Blk W1 w.heap.size 25 #[.int .i64 t.k, .int .i64 t.n, .string t.s, .slice A t.l.length c] := by rw [hW1]; exact ((Blk.new w 25 _).alloc _).alloc _
  have hY : Blk W1 (w.heap.size + 1) 25 #[.int .i64 u.k, .int .i64 u.n, .string u.s, .slice B u.l.length d] := by
    rw [hW1]
    have := Blk.new (w.alloc (.cells #[.int .i64 t.k, .int .i64 t.n, .string t.s, .slice A t.l.length c] 25)) 25 #[.int .i64 u.k, .int .i64 u.n, .string u.s, .slice B u.l.length d]
    rw [show (w.alloc (.cells #[.int .i64 t.k, .int .i64 t.n, .string t.s, .slice A t.l.length c] 25)).heap.size = w.heap.size + 1 from by simp] at this
    exact this.alloc _
  have hZ : Blk W1 (w.heap.size + 1 + 1) 25 #[.int .i64 t.k, .int .i64 t.n, .string t.s, .slice A t.l.length c, .int .i64 u.k, .int .i64 u.n, .string u.s, .slice B u.l.length d] := by
    rw [hW1]
    have := Blk.new ((w.alloc (.cells #[.int .i64 t.k, .int .i64 t.n, .string t.s, .slice A t.l.length c] 25)).alloc (.cells #[.int .i64 u.k, .int .i64 u.n, .string u.s, .slice B u.l.length d] 25)) 25 #[.int .i64 t.k, .int .i64 t.n, .string t.s, .slice A t.l.length c, .int .i64 u.k, .int .i64 u.n, .string u.s, .slice B u.l.length d]
    rw [show ((w.alloc (.cells #[.int .i64 t.k, .int .i64 t.n, .string t.s, .slice A t.l.length c] 25)).alloc (.cells #[.int .i64 u.k, .int .i64 u.n, .string u.s, .slice B u.l.length d] 25)).heap.size = w.heap.size + 1 + 1 from by simp] at this
    exact this
  have hc1 := (hc.inside.belowP hB1 (fun g h => h.2)).mono (Q := fun g => g < w.heap.size) (fun g h => h.2)
  have hd1 := (hd.inside.belowP hB1 (fun g h => h.2)).mono (Q := fun g => g < w.heap.size) (fun g h => h.2)
  have hcall := checked_calls [t, u] _ _ 2 W1 (TmC.lit (P := fun g => g < w.heap.size ∨ g = w.heap.size + 1 + 1) [(t, A, c), (u, B, d)] (by simp; exact ⟨⟨hs, hc1.mono (fun g h => Or.inl h)⟩, hs', hd1.mono (fun g h => Or.inl h)⟩) hZ (Or.inr rfl) (by simp))
  obtain ⟨b, hb⟩ : ∃ b, b = allIs [t, u] := ⟨_, rfl⟩
  rw [← hb] at hcall ⊢
  obtain ⟨R, hR⟩ : ∃ R, R = if b = true then matchR t u else none := ⟨_, rfl⟩
  rw [← hR]
  have HR := Lib.hid hR; clear hR
  have Hb := Lib.hid hb; clear hb
  have Hcall := Lib.hid hcall; clear hcall hZ
  have Hc := Lib.hid hc1; clear hc hc1
  have Hd := Lib.hid hd1; clear hd hd1
  have HX := Lib.hid hX; clear hX
  have HY := Lib.hid hY; clear hY
  have HB1 := Lib.hid hB1; clear hB1
  have HW := Lib.hid hW1; clear hW1
  go_enter Try.func35, Try.ntmps35
  go_wp2_with fail
  rw [← HW.out]
  refine Hcall.out.mono ?_
  rintro e w1 ⟨rfl, hb1⟩
  have hsz := HB1.out.size
  have lx := HX.out.lt
  have ly := HY.out.lt
  have hX1 := HX.out.below hb1 lx
  have hY1 := HY.out.below hb1 ly
  obtain ⟨⟨a0, a1, a2, a3⟩, -⟩ := hX1.four
  obtain ⟨⟨b0, b1, b2, b3⟩, -⟩ := hY1.four
  have HX1 := Lib.hid hX1; clear hX1
  have HY1 := Lib.hid hY1; clear hY1
  have HB2 := Lib.hid (HB1.out.trans (hb1.mono hsz))
  have Hc1 := Lib.hid (Hc.out.stay hb1 (Nat.le_refl _))
  have Hd1 := Lib.hid (Hd.out.stay hb1 (Nat.le_refl _))
  clear hb1 lx ly
  cases b
  · have he : (errT false != 0) = true := rfl
    have hr : R = none := by have := HR.out; simpa using this
    subst hr
    go_wp2
    exact bodyPost_ret (v := .tuple #[.slice none 0 0, .bool false, .int .i64 (errT false)]) (by simp [results, Try.results35, go_sem]) rfl (R := RetMa w none _) ⟨none, 0, rfl, TmC.nil _ _ (by omega) (fun _ => rfl), HB2.out⟩
  have he : (errT true != 0) = false := rfl
  have hr : R = matchR t u := by have := HR.out; simpa using this
  have Hr := Lib.hid hr; clear hr HR
  have hoks : isB t = true := by have := Hb.out; simp [allIs] at this; exact this.1
  have Hok := Lib.hid hoks; clear hoks
  have Hou := Lib.hid (show isB u = true from by have := Hb.out; simp [allIs] at this; exact this.2)
  have hokt := isB_iff.1 Hok.out
  have hvr : ∀ x ∈ varsL [t], 0 ≤ x ∧ x < 100000 := fun x hx => by
    rcases varsFrom_mem hx with h | ⟨y, hy, hk, rfl⟩
    · simp at h
    · exact var_bd (okB_pre t hokt.1 y (by simpa [Tm.pres] using hy)) hk
  have hbb : Below w1.heap.size w1 (w1.alloc (.cells #[.int .i64 t.k, .int .i64 t.n, .string t.s, .slice A t.l.length c] 25)) := (Below.refl _ _).alloc (Nat.le_refl _) _
  have hcall := vars_calls [t] (fun g => g < w.heap.size ∨ g = w1.heap.size) _ 1 (w1.alloc (.cells #[.int .i64 t.k, .int .i64 t.n, .string t.s, .slice A t.l.length c] 25)) (TmC.lit [(t, A, c)] (by simp; exact ⟨hs, (Hc1.out.stay hbb (Nat.le_refl _)).mono (fun g h => Or.inl h)⟩) (Blk.new _ _ _) (Or.inr rfl) (by simp)) (by simp [Tm.okBs, hokt.1]) (by simp [Tm.sizes]; omega)
  obtain ⟨xs, hxs⟩ : ∃ xs, xs = varsL [t] := ⟨_, rfl⟩
  rw [← hxs] at hcall hvr
  have Hxs := Lib.hid hxs; clear hxs
  have Hvr := Lib.hid hvr; clear hvr
  have Hcall2 := Lib.hid hcall; clear hcall hokt Hcall
  have HBB := Lib.hid hbb; clear hbb
  go_wp2_with fail
  refine Hcall2.out.mono ?_
  rintro e w2 ⟨vs, rfl, hrow, hnil, hb2⟩
  have hb12 := HBB.out.trans (hb2.mono HBB.out.size)
  obtain ⟨As, cs, rfl⟩ := own_slice hrow
  have hrd := own_rd hrow
  have hX2 := HX1.out.below hb12 HX1.out.lt
  have hY2 := HY1.out.below hb12 HY1.out.lt
  have HX2 := Lib.hid hX2
  have HY2 := Lib.hid hY2
  have Hc2 := Lib.hid (Hc1.out.stay hb12 (Nat.le_refl _))
  have Hd2 := Lib.hid (Hd1.out.stay hb12 (Nat.le_refl _))
  have HB3 := Lib.hid (HB2.out.trans (hb12.mono HB2.out.size))
  have Hrd := Lib.hid (show Rd w2 As (xs.flatMap encI) from by rw [flatMap_encI]; exact hrd)
  have hxl : xs.length ≤ 9223372036854775807 := by
    have h1 := varsFrom_len [] (Tm.pres [t])
    rw [Tm.pres_len] at h1
    have h2 := (isB_iff.1 Hok.out).2.1
    have h3 : xs.length = (varsFrom [] (Tm.pres [t])).length := by rw [Hxs.out]; rfl
    simp [Tm.sizes] at h1
    omega
  clear a0 a1 a2 a3 b0 b1 b2 b3 hrow hnil hb2 hb12 hrd hX2 hY2
  have hmkT : ∀ m : Nat, m ≤ 100000 → ∀ W : World, (Instr.makeSlice 22 (.int .i64 (m : Int)) (.int .i64 (m : Int))).run Try.prog W = .ok (.slice (some ⟨W.heap.size, 0, none⟩) m m) (W.alloc (.cells (madeCells zc (m * 4)) 25)) := fun m hm W => mkT m hm W
  have HmkT := Lib.hid hmkT; clear hmkT
  go_wp2
  go_loopw [8, 24] (fun a i wr => ∃ k : Nat, k ≤ xs.length ∧ i = .int .i64 k ∧ a = .int .i64 (maxV (xs.take k)) ∧ wr = w2) (fun _ i _ => xs.length - (intOf i).toNat)
  case atStart => exact ⟨0, Nat.zero_le _, rfl, rfl, rfl⟩
  case round =>
    obtain ⟨k, hk, rfl, rfl, rfl⟩ := hrel
    by_cases hlt : k < xs.length
    · obtain ⟨x, hx⟩ : ∃ x, xs[k]? = some x := ⟨_, List.getElem?_eq_getElem hlt⟩
      obtain ⟨g, off, rfl, e0⟩ := Hrd.out.atI hx
      have hts : maxV (xs.take (k + 1)) = max (maxV (xs.take k)) (x + 1) := by rw [take_snoc hx, maxV_snoc]
      have hxb := Hvr.out x (List.mem_of_getElem? hx)
      have hx0 : 0 ≤ x := hxb.1
      have hx1 : x ≤ 1000000 := by omega
      have Hts := Lib.hid hts; clear hts hx hxb
      obtain ⟨M, hM⟩ : ∃ M, M = maxV (xs.take k) := ⟨_, rfl⟩
      rw [← hM]
      have HM := Lib.hid hM; clear hM
      go_wp2
      go_roundw
      case rel => exact ⟨k + 1, by omega, by go_num, by rw [Hts.out, ← HM.out], trivial⟩
      case measure => simp [intOf]; omega
    · have hke : k = xs.length := by omega
      subst hke
      rw [List.take_length]
      have hmb := maxV_bd Hvr.out
      obtain ⟨m, hm⟩ : ∃ m : Nat, maxV xs = m := ⟨(maxV xs).toNat, by omega⟩
      rw [hm]
      have hm1 : m ≤ 100000 := by omega
      have hmk := HmkT.out m hm1
      have Hm := Lib.hid hm; clear hm hmb
      have hm0 : (0 : Int) ≤ (m : Int) := by omega
      have lx := HX2.out.lt
      have ly := HY2.out.lt
      obtain ⟨⟨a0, a1, a2, a3⟩, -⟩ := HX2.out.four
      obtain ⟨⟨b0, b1, b2, b3⟩, -⟩ := HY2.out.four
      have hbm : Below wr.heap.size wr (wr.alloc (.cells (madeCells zc (m * 4)) 25)) := (Below.refl _ _).alloc (Nat.le_refl _) _
      have hlr : (List.replicate m Tm.zero).length = m := List.length_replicate
      have hcall := match_calls t (fun g => g < w.heap.size) (wr.alloc (.cells (madeCells zc (m * 4)) 25)) _ _ u (List.replicate m Tm.zero) wr.heap.size ⟨A, c, rfl, hs, Hc2.out.stay hbm (Nat.le_refl _)⟩ ⟨B, d, rfl, hs', Hd2.out.stay hbm (Nat.le_refl _)⟩ (SubC.made _ _ _) (fun h hh => by omega) (by omega) (fun y hy hyk => by
        have h1 := var_bd (okB_pre t (isB_iff.1 Hok.out).1 y hy) hyk
        have h2 : y.n ∈ xs := by rw [Hxs.out]; exact varsFrom_has (by simpa [Tm.pres] using hy) hyk
        have h3 := maxV_gt h2
        rw [Hm.out] at h3
        exact ⟨h1.1, by omega⟩)
      rw [hlr] at hcall
      have hRe : R = if (t.mat u (List.replicate m Tm.zero)).2 = true then some (t.mat u (List.replicate m Tm.zero)).1 else none := by rw [Hr.out, matchR, ← Hxs.out, Hm.out]; rfl
      have hln := (Tm.mat_len t.size).1 t u (List.replicate m Tm.zero) (Nat.le_refl _)
      rw [hlr] at hln
      obtain ⟨⟨rs, rb⟩, hrr⟩ : ∃ r, r = t.mat u (List.replicate m Tm.zero) := ⟨_, rfl⟩
      have hmem := (Tm.mat_mem t.size).1 t u (List.replicate m Tm.zero) (Nat.le_refl _)
      rw [← hrr] at hcall hRe hln hmem
      have Hmem := Lib.hid (show ∀ x ∈ rs, x.size ≤ 1000000 from fun x hx => by
        have h2 := (isB_iff.1 Hou.out).2.1
        rcases hmem x hx with h | h
        · rw [(List.mem_replicate.1 h).2]; show (1 : Nat) + 0 ≤ _; omega
        · omega)
      clear hmem
      have HRe := Lib.hid hRe; clear hRe hrr
      have Hln := Lib.hid (show rs.length = m from hln); clear hln
      have Hcall3 := Lib.hid hcall; clear hcall
      have HBm := Lib.hid (HB3.out.trans (hbm.mono HB3.out.size)); clear hbm
      go_wp2_with fail
      refine Hcall3.out.mono ?_
      rintro e w3 ⟨rfl, hsb, hb3⟩
      have Hsb := Lib.hid (show SubC _ w3 wr.heap.size rs from hsb); clear hsb
      have HB4 := Lib.hid (HBm.out.trans (hb3.below (by have := HBm.out.size; omega) HBm.out.size)); clear hb3
      cases rb
      · have hr : R = none := by have := HRe.out; simpa using this
        subst hr
        go_wp2
        exact bodyPost_ret (v := .tuple #[.slice none 0 0, .bool false, .int .i64 0]) (by simp [results, Try.results35, go_sem]) rfl (R := RetMa w none _) ⟨none, 0, rfl, TmC.nil _ _ (by omega) (fun _ => rfl), HB4.out⟩
      · have hr : R = some rs := by have := HRe.out; simpa using this
        subst hr
        have HG := Lib.hid (show SubI (fun i j => (i < 0 ∧ w.heap.size ≤ j ∧ j ≠ wr.heap.size) ∨ (0 ≤ i ∧ j < w.heap.size)) w3 wr.heap.size rs from Hsb.out.toI.mono (fun i _ j hj => Or.inr ⟨Nat.zero_le _, hj⟩))
        have hrl := Hln.out
        have hwr : w.heap.size ≤ wr.heap.size := HB3.out.size
        go_wp2
        obtain ⟨G, hG⟩ : ∃ G, G = wr.heap.size := ⟨_, rfl⟩
        rw [← hG] at HG hwr ⊢
        clear hG
        go_loopw [42] (fun i wx => ∃ k : Nat, k ≤ m ∧ i = .int .i64 k ∧ (SubI (fun i j => (i < k ∧ w.heap.size ≤ j ∧ j ≠ G) ∨ (k ≤ i ∧ j < w.heap.size)) wx G rs ∧ Below w.heap.size w wx)) (fun i _ => m - (intOf i).toNat)
        case atStart => exact ⟨0, Nat.zero_le _, rfl, HG.out, HB4.out⟩
        case round =>
          obtain ⟨k, hk, rfl, hsi, hB⟩ := hrel
          have HB := Lib.hid hB; clear hB
          by_cases hkm : k < m
          · obtain ⟨x, hx⟩ : ∃ x, rs[k]? = some x := ⟨_, List.getElem?_eq_getElem (by omega)⟩
            obtain ⟨Ax, cx, e0, e1, e2, e3, hxs, hxc⟩ := hsi.cells hx
            have hxz := Hmem.out x (List.mem_of_getElem? hx)
            have hcall := copied_calls x _ _ _ ⟨Ax, cx, rfl, hxs, hxc⟩ hxz
            have Hcall4 := Lib.hid hcall; clear hcall hxc
            have Hx := Lib.hid hx; clear hx
            have Hsi := Lib.hid hsi; clear hsi
            go_wp2_with fail
            refine Hcall4.out.mono ?_
            rintro e w4 ⟨A5, c5, rfl, -, hx5, hb5⟩
            have hsi2 := Hsi.out.below hb5 (Nat.le_refl _)
            have hlG := Hsi.out.lt
            have hcs := hsi2.cells Hx.out
            obtain ⟨A6, c6, q0, q1, q2, q3, -, -⟩ := hcs
            have f0 := hsi2.frozen (k * 4)
            have f1 := hsi2.frozen (k * 4 + 1)
            have f2 := hsi2.frozen (k * 4 + 2)
            have f3 := hsi2.frozen (k * 4 + 3)
            have hBw := HB.out.size
            have hnew := SubI.put (R' := fun i j => (i < k + 1 ∧ w.heap.size ≤ j ∧ j ≠ G) ∨ (k + 1 ≤ i ∧ j < w.heap.size)) hsi2 Hx.out hxs (hx5.mono (fun j hj => Or.inl ⟨by omega, by omega, by omega⟩)) (fun i j hj => by omega) (fun i hi j hj => by omega)
            have Hnew := Lib.hid hnew; clear hnew hsi2 hx5
            have HB6 := Lib.hid ((((HB.out.trans (hb5.mono HB.out.size)).setCell (p := ⟨G, k * 4, none⟩) hwr (.int .i64 x.k)).setCell (p := ⟨G, k * 4 + 1, none⟩) hwr (.int .i64 x.n)).setCell (p := ⟨G, k * 4 + 2, none⟩) hwr (.string x.s) |>.setCell (p := ⟨G, k * 4 + 3, none⟩) hwr (.slice A5 x.l.length c5))
            clear hb5
            go_wp2
            go_roundw
            case rel => exact ⟨k + 1, by omega, by go_num, Hnew.out, HB6.out⟩
            case measure => simp [intOf]; omega
          · have hke : k = m := by omega
            subst hke
            have hfin : TmC (w.heap.size ≤ ·) wr (some ⟨G, 0, none⟩) rs.length rs := by
              obtain ⟨es, h1, h2, h3⟩ := hsi
              subst h1
              rw [List.length_map] at hrl ⊢
              refine TmC.lit es (fun e he => ?_) h2 hwr (by omega)
              obtain ⟨i, hi⟩ := List.mem_iff_getElem?.1 he
              have hil := (List.getElem?_eq_some_iff.1 hi).1
              exact ⟨(h3 i e hi).1, (h3 i e hi).2.mono (fun j hj => by omega)⟩
            have Hfin := Lib.hid hfin; clear hfin hsi
            go_wp2
            refine bodyPost_ret (v := .tuple #[.slice (some ⟨G, 0, none⟩) rs.length rs.length, .bool true, .int .i64 0]) (by simp [results, Try.results35, go_sem, hrl]) rfl (R := RetMa w (some rs) _) ⟨_, _, rfl, Hfin.out, HB.out⟩
end Go.Proofs.Ytfhgknmkpegpbaa

set_option linter.unusedVariables false
set_option linter.unusedSimpArgs false
namespace Go.Proofs.Ytfhgknmkpegpbaa
open Go.RowKit

/-- A map from numbers to numbers. -/
def MapN (W : World) (b n : Nat) (val : Int → Int) : Prop :=
  ∃ D : DataW Unit, W.ownsMap Try.prog 3 (plainElem Try.prog 3) b n D ∧ Maps.IsMap D ∧ ∀ x, D.atKey (.int .i64 x) (.lit (.int .i64 0)) = .lit (.int .i64 (val x))
theorem MapN.made (w : World) : MapN (w.alloc (.map #[] 0)) w.heap.size 0 (fun _ => 0) := ⟨_, World.ownsMap_made w _ _ _, Maps.isMap_empty, fun _ => rfl⟩
theorem MapN.kept {w w' : World} {b n : Nat} {m : Int → Int} {row : Option Nat} (h : MapN w b n m) (hg : w.grownBy w' row) (hne : some b ≠ row) : MapN w' b n m := by
  obtain ⟨D, h1, h2⟩ := h; exact ⟨D, h1.kept hg hne, h2⟩
theorem MapN.lt {w : World} {b n : Nat} {m : Int → Int} (h : MapN w b n m) : b < w.heap.size := by obtain ⟨D, h1, h2⟩ := h; exact h1.lt
theorem lit_inj {a b : Int} (h : (DataW.lit (Lit.int .i64 a) : DataW Unit) = .lit (.int .i64 b)) : a = b := by
  cases h; rfl
theorem MapN.lookup {w : World} {b n : Nat} {m : Int → Int} (h : MapN w b n m) {x : Int} (hx : (Lit.int .i64 x).wf = true) :
    (Instr.lookup 98 (.map (some b)) (.int .i64 x) false).run Try.prog w = .ok (.int .i64 (m x)) w := by
  obtain ⟨D, h1, -, h2⟩ := h
  obtain ⟨c, hrun, hat, -⟩ := h1.lookup_int (Maps.int_keyed Try.underlying3) Try.underlying98 Try.underlying3 (Try.zeroValue3 _) (Maps.keyOf_int_mk Try.underlying3 hx)
  rw [h2] at hat
  rw [show m x = c from lit_inj hat]
  exact hrun
theorem MapN.put {w : World} {b n : Nat} {D : DataW Unit} {m : Int → Int} {x y : Int} (h1 : w.ownsMap Try.prog 3 (plainElem Try.prog 3) b n (D.put (.int .i64 x) (.lit (.int .i64 y)))) (hm : Maps.IsMap D)
    (h2 : ∀ x, D.atKey (.int .i64 x) (.lit (.int .i64 0)) = .lit (.int .i64 (m x))) : MapN w b n (fun z => if z = x then y else m z) := by
  refine ⟨_, h1, ?_, fun z => ?_⟩
  · obtain ⟨es, rfl⟩ := hm; exact ⟨_, rfl⟩
  · by_cases h : z = x
    · subst h
      rw [Maps.atKey_put_same hm (show WideAt.IsKeyLit (.int .i64 z) from trivial)]; simp
    · rw [Maps.atKey_put_other (by simpa using h), h2]
      show _ = DataW.lit (Lit.int .i64 (if z = x then y else m z))
      rw [if_neg h]
theorem int_wf {n : Int} (h0 : 0 ≤ n) (h1 : n < 100000) : (Lit.int .i64 n).wf = true := by
  unfold Lit.wf
  simp [IntKind.min, IntKind.max, IntKind.bits, IntKind.signed]
  omega
def nowF (val : Int → Int) (n : Int) : Option Tm := some (Tm.va (val n))

set_option maxRecDepth 100000 in
set_option maxHeartbeats 4000000 in
theorem normal1_calls (Q : Nat → Prop) (cb mb k : Nat) (val : Int → Int) (w : World) (n : Int) (hb : Blk w cb 98 #[.map (some mb)]) (hm : MapN w mb k val) (h0 : 0 ≤ n) (h1 : n < 100000) :
    Calls Try.prog 86 #[.int .i64 n, .pointer (some ⟨cb, 0, none⟩)] w (RetP Q w (nowF val n)) := by
  have hlook := (hm.kept (World.grownBy_alloc w (.cells #[.int .i64 0, .int .i64 0, .string ⟨#[]⟩, .slice none 0 0] 25) none) (by simp)).lookup (int_wf h0 h1)
  have hlt := hb.lt
  obtain ⟨b0, -⟩ := Blk.one hb
  clear hm hb h0 h1
  go_enter Try.func86, Try.ntmps86
  go_wp2
  refine bodyPost_ret (v := .tuple #[.agg #[.int .i64 1, .int .i64 (val n), .string ⟨#[]⟩, .slice none 0 0], .bool true]) (by simp [results, Try.results86, go_sem]) rfl (R := RetP Q w _) ⟨none, 0, rfl, by show (0 : Nat) ≤ _; omega, TmC.nil _ _ (by omega) (fun _ => rfl), ?_⟩
  exact (Below.refl _ _).alloc (Nat.le_refl _) _
end Go.Proofs.Ytfhgknmkpegpbaa

set_option linter.unusedVariables false
set_option linter.unusedSimpArgs false
namespace Go.Proofs.Ytfhgknmkpegpbaa
open Go.RowKit

/-- The numbers that a list of numbers gives to its elements. -/
def nowOf (xs : List Int) (k : Nat) : Int → Int := fun z => if z ∈ xs.take k then ((xs.take k).idxOf z : Int) else 0
theorem nowOf_zero (xs : List Int) : nowOf xs 0 = fun _ => 0 := by funext z; simp [nowOf]
theorem nowOf_succ {xs : List Int} {k : Nat} {x : Int} (hx : xs[k]? = some x) (hn : x ∉ xs.take k) : nowOf xs (k + 1) = fun z => if z = x then (k : Int) else nowOf xs k z := by
  funext z
  have hl : (xs.take k).length = k := by have := (List.getElem?_eq_some_iff.1 hx).1; rw [List.length_take]; omega
  unfold nowOf
  rw [take_snoc hx]
  by_cases h : z = x
  · subst h
    rw [if_pos (by simp), if_pos rfl, List.idxOf_append, if_neg hn]
    simp [hl]
  · rw [if_neg h]
    by_cases hm : z ∈ xs.take k
    · rw [if_pos (by simp [hm]), if_pos hm, List.idxOf_append, if_pos hm]
    · rw [if_neg (by simp [hm, h]), if_neg hm]
/-- What Normal gives for one tree. -/
def normT (val : Int → Int) (t : Tm) : Tm := (repT (nowF val) t).getD Tm.zero
theorem varsFrom_nodup {acc : List Int} {l : List Tm} (h : acc.Nodup) : (varsFrom acc l).Nodup := by
  induction l generalizing acc with
  | nil => exact h
  | cons t l ih =>
    refine ih (acc := varsAcc acc t) ?_
    unfold varsAcc
    split
    · rename_i hc
      rw [List.nodup_append]
      exact ⟨h, by simp, fun a ha b hb => by rw [List.mem_singleton.1 hb]; exact fun e => hc.2 (e ▸ ha)⟩
    · exact h
end Go.Proofs.Ytfhgknmkpegpbaa

set_option linter.unusedVariables false
set_option linter.unusedSimpArgs false
namespace Go.Proofs.Ytfhgknmkpegpbaa
open Go.RowKit

theorem MapN.below {w w' : World} {b n B : Nat} {m : Int → Int} (h : MapN w b n m) (hb : Below B w w') (hB : w.heap.size ≤ B) : MapN w' b n m :=
  h.kept (row := none) ⟨hb.os, hb.tape, hb.output, hb.size, fun k hk _ => hb.block k (Nat.lt_of_lt_of_le hk hB)⟩ (by simp)
theorem MapN.but {w w' : World} {b n g : Nat} {m : Int → Int} (h : MapN w b n m) (hb : But g w w') (hne : b ≠ g) : MapN w' b n m :=
  h.kept (row := some g) ⟨hb.os, hb.tape, hb.output, hb.size, fun k hk he => hb.block k hk (fun e => he (by rw [e]))⟩ (by simpa using hne)
/-- What Normal gives: the trees, the numbers that there were, an error. -/
def RetNo (w : World) (ts : List Tm) (xs : List Int) (er : Int) (e : Ending) (w' : World) : Prop :=
  ∃ A c v, e = .returned (.tuple #[.slice A ts.length c, v, .int .i64 er]) ∧ TmC (w.heap.size ≤ ·) w' A c ts ∧ w'.ownsRow w.heap.size 3 1 v xs.length (xs.map (Value.int .i64)) ∧ (v = .slice none 0 0 ↔ xs = []) ∧ Below w.heap.size w w'
def normR (l : List Tm) : List Tm := l.map (normT (nowOf (varsL l) (varsL l).length))

theorem varsL_nodup (l : List Tm) : (varsL l).Nodup := varsFrom_nodup List.nodup_nil
theorem nodup_get {xs : List Int} (h : xs.Nodup) {k : Nat} {x : Int} (hx : xs[k]? = some x) : x ∉ xs.take k := by
  intro hm
  have h1 := List.take_append_drop k xs
  have h2 : (xs.take k ++ xs.drop k).Nodup := by rw [h1]; exact h
  rw [List.nodup_append] at h2
  have h3 : x ∈ xs.drop k := List.mem_of_getElem? (i := 0) (by rw [List.getElem?_drop, Nat.add_zero]; exact hx)
  exact h2.2.2 x hm x h3 rfl
theorem okBs_var {l : List Tm} (h : Tm.okBs l = true) {x : Int} (hx : x ∈ varsL l) : 0 ≤ x ∧ x < 100000 := by
  rcases varsFrom_mem hx with h1 | ⟨y, hy, hk, rfl⟩
  · simp at h1
  · have : ∀ (l : List Tm), Tm.okBs l = true → ∀ y ∈ Tm.pres l, y.k = 1 → 0 ≤ y.n ∧ y.n < 100000 := fun l => by
      induction l with
      | nil => intro _ y hy; simp [Tm.pres] at hy
      | cons a l ih =>
        intro h y hy hk
        rw [Tm.okBs, Bool.and_eq_true] at h
        rw [Tm.pres] at hy
        rcases List.mem_append.1 hy with hy | hy
        · exact var_bd (okB_pre a h.1 y hy) hk
        · exact ih h.2 y hy hk
    exact this l h y hy hk

set_option maxRecDepth 100000 in
set_option maxHeartbeats 4000000 in
theorem normal_calls (l : List Tm) (P : Nat → Prop) (A : Option Addr) (c : Nat) (w : World) (hc : TmC P w A c l) :
    Calls Try.prog 29 #[.slice A l.length c] w (RetNo w (if allB l = true then normR l else []) (if allB l = true then varsL l else []) (errT (allB l))) := by
  have hcall := varsTop_calls l P A c w hc
  obtain ⟨i0, hi0⟩ := info25
  have Hi := Lib.hid hi0; clear hi0
  have hmm := @run_makeMap Try.prog
  have hlc := hc.len.1
  have hlm := hc.len.2.1
  obtain ⟨b, hb⟩ : ∃ b, b = allB l := ⟨_, rfl⟩
  rw [← hb] at hcall ⊢
  obtain ⟨xs, hxs⟩ : ∃ xs, xs = (if b = true then varsL l else []) := ⟨_, rfl⟩
  obtain ⟨ts, hts⟩ : ∃ ts, ts = (if b = true then normR l else []) := ⟨_, rfl⟩
  rw [← hxs] at hcall ⊢
  rw [← hts]
  have Hxs := Lib.hid hxs; clear hxs
  have Hts := Lib.hid hts; clear hts
  have Hb := Lib.hid hb; clear hb
  have Hcall := Lib.hid hcall; clear hcall
  have Hc := Lib.hid hc.inside; clear hc
  go_enter Try.func29, Try.ntmps29
  go_wp2_with fail
  refine Hcall.out.mono ?_
  rintro e w1 ⟨v, rfl, hrow, hnil, hb1⟩
  have Hc1 := Lib.hid (Hc.out.stay hb1 (Nat.le_refl _))
  have HB1 := Lib.hid hb1; clear hb1
  cases b
  · have he : (errT false != 0) = true := rfl
    have hx : xs = [] := by have := Hxs.out; simpa using this
    have ht : ts = [] := by have := Hts.out; simpa using this
    subst hx ht
    clear hrow hnil
    go_wp2
    exact bodyPost_ret (v := .tuple #[.slice none 0 0, .slice none 0 0, .int .i64 (errT false)]) (by simp [results, Try.results29, go_sem]) rfl (R := RetNo w [] [] _) ⟨none, 0, _, rfl, TmC.nil _ _ (by omega) (fun _ => rfl), World.ownsRow_nil _ _ _ _, by simp, HB1.out⟩
  have he : (errT true != 0) = false := rfl
  have hall := allB_iff.1 Hb.out.symm
  have hx : xs = varsL l := by have := Hxs.out; simpa using this
  have ht : ts = normR l := by have := Hts.out; simpa using this
  have hxl : xs.length ≤ 1000000 := by
    have h1 := varsFrom_len [] (Tm.pres l)
    rw [Tm.pres_len] at h1
    have h3 : xs.length = (varsFrom [] (Tm.pres l)).length := by rw [hx]; rfl
    simp at h1
    omega
  have Hvr := Lib.hid (show ∀ x ∈ xs, 0 ≤ x ∧ x < 100000 from fun x hxm => okBs_var hall.1 (by rw [← hx]; exact hxm))
  have Hnd := Lib.hid (show xs.Nodup from by rw [hx]; exact varsL_nodup l)
  have Hx := Lib.hid hx; clear hx
  have Ht := Lib.hid ht; clear ht
  have Hall := Lib.hid hall; clear hall
  obtain ⟨As, cs, rfl⟩ := own_slice hrow
  have hrd := own_rd hrow
  have Hrd := Lib.hid (show Rd w1 As (xs.flatMap encI) from by rw [flatMap_encI]; exact hrd)
  have Hrow := Lib.hid hrow
  have Hnil := Lib.hid hnil
  clear hrow hnil hrd
  obtain ⟨W2, hW2⟩ : ∃ W2, W2 = (w1.alloc (.map #[] 0)).alloc (.cells #[.map (some w1.heap.size)] 98) := ⟨_, rfl⟩
  have hB2 : Below w1.heap.size w1 W2 := by rw [hW2]; exact ((Below.refl _ _).alloc (Nat.le_refl _) _).alloc (by simp) _
  have hM2 : MapN W2 w1.heap.size 0 (nowOf xs 0) := by rw [hW2, nowOf_zero]; exact (MapN.made w1).kept (World.grownBy_alloc _ _ none) (by simp)
  have hK2 : Blk W2 (w1.heap.size + 1) 98 #[.map (some w1.heap.size)] := by
    rw [hW2]
    have := Blk.new (w1.alloc (.map #[] 0)) 98 #[.map (some w1.heap.size)]
    rwa [World.size_alloc] at this
  have HB2 := Lib.hid hB2; clear hB2
  have HM2 := Lib.hid hM2; clear hM2
  have HK2 := Lib.hid hK2; clear hK2
  have HW2 := Lib.hid hW2; clear hW2
  go_wp2_with fail
  rw [← HW2.out]
  go_wp2
  obtain ⟨G, hG⟩ : ∃ G, G = w1.heap.size := ⟨_, rfl⟩
  rw [← hG] at HM2 HK2 HB2 ⊢
  have HG := Lib.hid hG; clear hG
  go_loopw [26] (fun i wr => ∃ k : Nat, k ≤ xs.length ∧ i = .int .i64 k ∧ Hid (MapN wr G k (nowOf xs k)) ∧ Hid (Blk wr (G + 1) 98 #[.map (some G)]) ∧ Hid (Below G w1 wr)) (fun i _ => xs.length - (intOf i).toNat)
  case atStart => exact ⟨0, Nat.zero_le _, rfl, HM2, HK2, HB2⟩
  case round =>
    obtain ⟨k, hk, rfl, HM, HK, HB⟩ := hrel
    by_cases hlt : k < xs.length
    · obtain ⟨x, hx⟩ : ∃ x, xs[k]? = some x := ⟨_, List.getElem?_eq_getElem hlt⟩
      obtain ⟨g, off, rfl, c0⟩ := Hrd.out.atI hx
      have hgl := World.block_lt_of_cell? w1 _ c0
      have e0 := (HB.out.cell (p := ⟨g, off + k, none⟩) (by rw [HG.out]; exact hgl)).trans c0
      have hxb := Hvr.out x (List.mem_of_getElem? hx)
      have hwf := int_wf hxb.1 hxb.2
      have hwk : (Lit.int .i64 (k : Int)).wf = true := by
        unfold Lit.wf
        simp [IntKind.min, IntKind.max, IntKind.bits, IntKind.signed]
        omega
      have Hsu := Lib.hid (nowOf_succ hx (nodup_get Hnd.out hx))
      obtain ⟨D, hown, hDm, hat⟩ := HM.out
      obtain ⟨k0, -⟩ := Blk.one HK.out
      have hlt1 := HK.out.lt
      clear c0 hgl hxb hx
      go_wp2_with (at_mapUpdate; refine wpList_mapUpdate_own _ rfl _ _ _ 98 rfl 3 3 (Maps.int_keyed Try.underlying3) Try.underlying98 _ G k _ rfl hown (by simp [maxLen]; omega) _ _ _ rfl rfl (Maps.keyOf_int_mk Try.underlying3 hwf) _ [] (plainElem_int Try.underlying3 hwk) ?_; intro w3 hown3 hg3)
      have HM3 := Lib.hid (show MapN w3 G (k + 1) (nowOf xs (k + 1)) from by rw [Hsu.out]; exact MapN.put hown3 hDm hat)
      have HK3 := Lib.hid (HK.out.grown hg3 (by simp))
      have HB3 := Lib.hid (HB.out.grown hg3 (by omega) (fun r hr => by injection hr with hr; omega))
      clear hown3 hg3 hown hDm hat
      go_wp2
      go_roundw
      case rel => exact ⟨k + 1, by omega, by go_num, HM3, HK3, HB3⟩
      case measure => simp [intOf]; omega
    · have hke : k = xs.length := by omega
      subst hke
      have HB1' := Lib.hid (HB1.out.trans (HB.out.mono (by rw [HG.out]; exact HB1.out.size)))
      have Hc2 := Lib.hid (Hc1.out.stay HB.out (by rw [HG.out]; exact Nat.le_refl _))
      have hsz0 : w.heap.size ≤ wr.heap.size := HB1'.out.size
      have Hval := Lib.hid (show nowOf xs xs.length = nowOf (varsL l) (varsL l).length from by rw [Hx.out])
      obtain ⟨val, hval⟩ : ∃ val, val = nowOf xs xs.length := ⟨_, rfl⟩
      rw [← hval] at HM
      have Hv := Lib.hid hval; clear hval
      obtain ⟨N0, hN0⟩ : ∃ N0, N0 = wr.heap.size := ⟨_, rfl⟩
      obtain ⟨WB, hWB⟩ : ∃ WB, WB = wr := ⟨_, rfl⟩
      rw [← hWB] at HM HK HB HB1' Hc2 hsz0 hN0 ⊢
      clear hWB
      have hgn : G + 1 < N0 := by rw [hN0]; exact HK.out.lt
      have hwn : w.heap.size ≤ N0 := by rw [hN0]; exact hsz0
      have HN0 := Lib.hid hN0; clear hN0 hsz0
      go_wp2
      go_loopw [10, 37] (fun v10 i wr => ∃ k : Nat, k ≤ l.length ∧ i = .int .i64 k ∧ Hid (RowT N0 (N0 ≤ ·) wr v10 ((l.take k).map (normT val))) ∧ Hid (Below N0 WB wr)) (fun _ i _ => l.length - (intOf i).toNat)
      case atStart => exact ⟨0, Nat.zero_le _, rfl, Lib.hid (RowT.nil _ _ _), Lib.hid (by rw [HN0.out]; exact Below.refl _ _)⟩
      case round =>
        obtain ⟨k, hk, rfl, Hrw, HB5⟩ := hrel
        by_cases hlt : k < l.length
        · obtain ⟨x, hx⟩ : ∃ x, l[k]? = some x := ⟨_, List.getElem?_eq_getElem hlt⟩
          have hcr := Hc2.out.stay HB5.out (by rw [HN0.out]; exact Nat.le_refl _)
          obtain ⟨g, off, Ai, ci, rfl, hPg, ⟨e0, e1, e2, e3⟩, hxs, hxc⟩ := hcr.at_ hx
          have hxm := List.mem_of_getElem? hx
          have Htk := Lib.hid (take_snoc hx)
          have hxz : x.size ≤ 1000000 := by have := Tm.size_mem hxm; have := Hall.out.2.1; omega
          have hvar : ∀ y ∈ x.pre, y.k = 1 → 0 ≤ y.n ∧ y.n < 100000 := fun y hy hk => var_bd (okB_pre x (Tm.okBs_mem Hall.out.1 hxm) y hy) hk
          have hbb : Below wr.heap.size wr (wr.alloc (.cells #[.int .i64 x.k, .int .i64 x.n, .string x.s, .slice Ai x.l.length ci] 25)) := (Below.refl _ _).alloc (Nat.le_refl _) _
          have hNr : N0 ≤ wr.heap.size := by rw [HN0.out]; exact HB5.out.size
          have hEr : Blk wr (G + 1) 98 #[.map (some G)] ∧ MapN wr G xs.length val := ⟨HK.out.below HB5.out (by omega), HM.out.below HB5.out (by rw [HN0.out]; exact Nat.le_refl _)⟩
          have hcall := replaced_calls 86 (G + 1) (nowF val) (fun _ => False) (fun W => Blk W (G + 1) 98 #[.map (some G)] ∧ MapN W G xs.length val) (wr.alloc (.cells #[.int .i64 x.k, .int .i64 x.n, .string x.s, .slice Ai x.l.length ci] 25))
            (fun b W W' h1 h2 h3 => ⟨h2.1.but h3 (by simp at h1; omega), h2.2.but h3 (by simp at h1; omega)⟩) (fun g hg => hg.elim) (fun _ _ => rfl) (fun n x hx => by unfold nowF at hx; injection hx with hx; rw [← hx]; show (1 : Nat) + 0 ≤ _; omega)
            (fun W n h1 h2 h3 => normal1_calls _ (G + 1) G xs.length val W n h1.1 h1.2 h2 h3) x P _ ⟨Ai, ci, rfl, hxs, (hxc.stay hbb (Nat.le_refl _)).mono (fun g h => h.1)⟩ ⟨hEr.1.below hbb (by omega), hEr.2.below hbb (Nat.le_refl _)⟩ hxz hvar
          have Hcall2 := Lib.hid hcall; clear hcall hxc hx hvar hEr hcr
          have HBB := Lib.hid hbb; clear hbb
          go_wp2_with fail
          refine Hcall2.out.mono ?_
          rintro e w4 ⟨A2, c2, rfl, hs2, hx2, hb2⟩
          generalize hz : (if (repT (nowF val) x).isSome = true then (0 : Int) else 2) = er2
          clear hz
          obtain ⟨y, hy⟩ : ∃ y, y = normT val x := ⟨_, rfl⟩
          have hyy : (repT (nowF val) x).getD Tm.zero = y := by rw [hy]; rfl
          rw [hyy] at hs2 hx2 ⊢
          have Hy := Lib.hid hy; clear hy hyy
          have hbr : Below wr.heap.size wr w4 := HBB.out.trans (hb2.mono HBB.out.size)
          obtain ⟨W5, hW5⟩ : ∃ W5, W5 = w4.alloc (.cells #[.int .i64 y.k, .int .i64 y.n, .string y.s, .slice A2 y.l.length c2] 25) := ⟨_, rfl⟩
          have hB5 : Below wr.heap.size wr W5 := by rw [hW5]; exact hbr.alloc hbr.size _
          have hY5 : Blk W5 w4.heap.size 25 #[.int .i64 y.k, .int .i64 y.n, .string y.s, .slice A2 y.l.length c2] := by rw [hW5]; exact Blk.new _ _ _
          have hx5 := hx2.stay (show Below w4.heap.size w4 W5 from by rw [hW5]; exact (Below.refl _ _).alloc (Nat.le_refl _) _) (Nat.le_refl _)
          obtain ⟨⟨y0, y1, y2, y3⟩, -⟩ := hY5.four
          have hbr2 : Below wr.heap.size wr (W5.alloc (.cells #[.int .i64 y.k, .int .i64 y.n, .string y.s, .slice A2 y.l.length c2] 25)) := hB5.alloc hB5.size _
          have hrw2 := Hrw.out.below hbr2 (Nat.le_refl _)
          have hx3 := hx5.stay ((Below.refl _ _).alloc (Nat.le_refl _) (.cells #[.int .i64 y.k, .int .i64 y.n, .string y.s, .slice A2 y.l.length c2] 25)) (Nat.le_refl _)
          have hob : ∀ g, wr.heap.size + 1 ≤ g → N0 ≤ g ∧ some g ≠ u10.ownBlock := fun g hg => by
            refine ⟨by omega, fun e => ?_⟩
            obtain ⟨es, h1, h2, h3⟩ := Hrw.out
            have := (h2.lt g e.symm).2
            omega
          obtain ⟨es, hes, hrow, hch⟩ := hrw2
          have hel : es.length = k := by rw [← List.length_map (f := fun e : EV => e.1), ← hes, List.length_map, List.length_take]; omega
          have Hx3 := Lib.hid hx3; clear hx3 hx2 hx5
          have Hob := Lib.hid hob; clear hob
          have Hch := Lib.hid hch
          have Hrow2 := Lib.hid hrow
          have HB6 := Lib.hid (HB5.out.trans (hbr2.mono (by rw [HN0.out] at hNr ⊢; exact HB5.out.size))); clear hbr2 hbr hb2
          have Hes := Lib.hid hes
          have Hel := Lib.hid hel
          have HY5 := Lib.hid hY5
          have HB7 := Lib.hid hB5
          clear hrow hch hes hel hY5 hB5
          subst hW5
          have hnb := Blk.new (w4.alloc (.cells #[.int .i64 y.k, .int .i64 y.n, .string y.s, .slice A2 y.l.length c2] 25)) 25 #[.int .i64 y.k, .int .i64 y.n, .string y.s, .slice A2 y.l.length c2]
          rw [World.size_alloc] at hnb
          have Hnb := Lib.hid hnb; clear hnb
          go_wp2_with (at_builtin; refine wpList_append_own_at _ rfl (.tmp 47) (.tmp 49) 22 rfl N0 25 i0 _ 4 56 Try.underlying22 Hi.out.1 Hi.out.2.1 Hi.out.2.2.1 Hi.out.2.2.2 rfl (by decide) u10 es.length (es.flatMap encE) rfl Hrow2.out ⟨w4.heap.size + 1, 0, none⟩ 1 1 [.int .i64 y.k, .int .i64 y.n, .string y.s, .slice A2 y.l.length c2] rfl rfl ?c1 ?c2 ?c3 ?c4 ?c5 ?_)
          case c1 =>
            intro j u hu
            rw [add_lit0, Hnb.out.cell j]
            simpa using hu
          case c2 => simp [Value.oneCell']
          case c3 => rw [Hel.out]; simp only [maxLen]; omega
          case c4 => have := len_le_sizes l; have := Hall.out.2.1; rw [Hel.out]; omega
          case c5 => have := HB7.out.size; simp at this ⊢; omega
          intro v' w6 hown hg _ hbk
          have hnew : RowT N0 (N0 ≤ ·) w6 v' ((l.take (k + 1)).map (normT val)) := by
            rw [Htk.out, List.map_append, List.map_singleton, ← Hy.out]
            exact RowT.push es Hes.out Hch.out hs2 Hx3.out (fun g hg' => Hob.out g (by simpa using hg')) hown hg (by simpa using hbk)
          have HB8 := Lib.hid (HB6.out.grown hg (by have := HB7.out.size; simp at this ⊢; omega) (fun k hk => (Hrow2.out.lt k hk).1))
          have Hnew := Lib.hid hnew
          obtain ⟨A', c', rfl⟩ := own_slice hown
          clear hown hg hbk hnew
          go_wp2
          go_roundw
          case rel => exact ⟨k + 1, by omega, by go_num, Hnew, HB8⟩
          case measure => simp [intOf]; omega
        · have hke : k = l.length := by omega
          subst hke
          obtain ⟨A2, c2, rfl, h2⟩ := Hrw.out.toC
          rw [List.take_length] at h2 ⊢
          have hob : ∀ g, (N0 ≤ g ∨ some g = (Value.slice A2 (l.map (normT val)).length c2).ownBlock) → w.heap.size ≤ g := fun g hg => by
            rcases hg with h | h
            · omega
            · obtain ⟨es, h3, h4, h5⟩ := Hrw.out
              rw [List.take_length] at h4
              have := (h4.lt g h.symm).1
              omega
          have H2 := Lib.hid (h2.mono hob); clear h2 hob
          have HBF := Lib.hid (HB1'.out.trans (HB5.out.mono hwn))
          have hts : ts = l.map (normT val) := by rw [Ht.out, Hv.out, Hval.out]; rfl
          have HrowF := Lib.hid (own_below Hrow.out (HB.out.trans (HB5.out.mono (by omega))) (by rw [HG.out]; exact Nat.le_refl _))
          go_wp2
          exact bodyPost_ret (v := .tuple #[.slice A2 (l.map (normT val)).length c2, .slice As xs.length cs, .int .i64 0]) (by simp [results, Try.results29, go_sem]) rfl (R := RetNo w ts xs _) ⟨A2, c2, _, by rw [hts]; rfl, by rw [hts]; exact H2.out, HrowF.out, Hnil.out, HBF.out⟩
end Go.Proofs.Ytfhgknmkpegpbaa

namespace Go.Proofs
open Go.Shelf
def Try.bld_ren : Go.Shelf.Ren := ⟨fun | 167 => 148 | 166 => 149 | 240 => 155 | 276 => 156 | 169 => 131 | n => n, fun | 70 => 146 | 9 => 9 | 0 => 0 | 72 => 149 | 37 => 147 | 127 => 167 | 3 => 3 | 5 => 5 | 4 => 4 | 20 => 20 | 75 => 163 | 164 => 171 | 80 => 152 | n => n, fun | n => n⟩
theorem Try.lays167 : Go.Proofs.Lays.n167 Try.prog Try.bld_ren := {
  mixed := by kernel_rfl
  f167 := Try.func148.trans (congrArg some (by kernel_rfl))
  f240 := Try.func155.trans (congrArg some (by kernel_rfl))
  f276 := Try.func156.trans (congrArg some (by kernel_rfl))
  t0 := Try.underlying0
  a0 := Try.isAgg0
  z0 := Try.sizeOf0
  v0 := Try.zeroValue0
  t4 := Try.underlying4
  a4 := Try.isAgg4
  z4 := Try.sizeOf4
  v4 := Try.zeroValue4
  t5 := Try.underlying5
  a5 := Try.isAgg5
  z5 := Try.sizeOf5
  v5 := Try.zeroValue5
  t9 := Try.underlying9
  a9 := Try.isAgg9
  z9 := Try.sizeOf9
  v9 := Try.zeroValue9
  t20 := Try.underlying20
  a20 := Try.isAgg20
  z20 := Try.sizeOf20
  v20 := Try.zeroValue20
  t37 := Try.underlying147
  a37 := Try.isAgg147
  z37 := Try.sizeOf147
  v37 := Try.zeroValue147
  t70 := Try.underlying146
  a70 := Try.isAgg146
  z70 := Try.sizeOf146
  v70 := Try.zeroValue146
  t72 := Try.underlying149
  a72 := Try.isAgg149
  z72 := Try.sizeOf149
  v72 := Try.zeroValue149
  t75 := Try.underlying163
  a75 := Try.isAgg163
  z75 := Try.sizeOf163
  v75 := Try.zeroValue163
  t164 := Try.underlying171
  a164 := Try.isAgg171
  z164 := Try.sizeOf171
  v164 := Try.zeroValue171 }
theorem Try.lays166 : Go.Proofs.Lays.n166 Try.prog Try.bld_ren := {
  mixed := by kernel_rfl
  f166 := Try.func149.trans (congrArg some (by kernel_rfl))
  f240 := Try.func155.trans (congrArg some (by kernel_rfl))
  f276 := Try.func156.trans (congrArg some (by kernel_rfl))
  t0 := Try.underlying0
  a0 := Try.isAgg0
  z0 := Try.sizeOf0
  v0 := Try.zeroValue0
  t3 := Try.underlying3
  a3 := Try.isAgg3
  z3 := Try.sizeOf3
  v3 := Try.zeroValue3
  t4 := Try.underlying4
  a4 := Try.isAgg4
  z4 := Try.sizeOf4
  v4 := Try.zeroValue4
  t9 := Try.underlying9
  a9 := Try.isAgg9
  z9 := Try.sizeOf9
  v9 := Try.zeroValue9
  t20 := Try.underlying20
  a20 := Try.isAgg20
  z20 := Try.sizeOf20
  v20 := Try.zeroValue20
  t37 := Try.underlying147
  a37 := Try.isAgg147
  z37 := Try.sizeOf147
  v37 := Try.zeroValue147
  t70 := Try.underlying146
  a70 := Try.isAgg146
  z70 := Try.sizeOf146
  v70 := Try.zeroValue146
  t72 := Try.underlying149
  a72 := Try.isAgg149
  z72 := Try.sizeOf149
  v72 := Try.zeroValue149
  t75 := Try.underlying163
  a75 := Try.isAgg163
  z75 := Try.sizeOf163
  v75 := Try.zeroValue163
  t164 := Try.underlying171
  a164 := Try.isAgg171
  z164 := Try.sizeOf171
  v164 := Try.zeroValue171 }
theorem Try.lays169b : Go.Proofs.Lays.n169 Try.prog Try.bld_ren := {
  mixed := by kernel_rfl
  f169 := Try.func131.trans (congrArg some (by kernel_rfl))
  t0 := Try.underlying0
  a0 := Try.isAgg0
  z0 := Try.sizeOf0
  v0 := Try.zeroValue0
  t3 := Try.underlying3
  a3 := Try.isAgg3
  z3 := Try.sizeOf3
  v3 := Try.zeroValue3
  t9 := Try.underlying9
  a9 := Try.isAgg9
  z9 := Try.sizeOf9
  v9 := Try.zeroValue9
  t37 := Try.underlying147
  a37 := Try.isAgg147
  z37 := Try.sizeOf147
  v37 := Try.zeroValue147
  t70 := Try.underlying146
  a70 := Try.isAgg146
  z70 := Try.sizeOf146
  v70 := Try.zeroValue146
  t72 := Try.underlying149
  a72 := Try.isAgg149
  z72 := Try.sizeOf149
  v72 := Try.zeroValue149
  t127 := Try.underlying167
  a127 := Try.isAgg167
  z127 := Try.sizeOf167
  v127 := Try.zeroValue167 }
theorem Try.Builder_ExtraB : Builder.Extra Try.prog Try.bld_ren := {
  sizeBuilder := by kernel_rfl
  liesBuilder := by kernel_rfl
  t5 := Try.underlying5
  a5 := Try.isAgg5
  z5 := Try.sizeOf5
  v5 := Try.zeroValue5
  infoByte := by kernel_rfl
  cellsByte := by kernel_rfl
  sizeByte := by kernel_rfl
  neB5 := by decide }
end Go.Proofs

set_option linter.unusedVariables false
set_option linter.unusedSimpArgs false
namespace Go.Proofs.Ytfhgknmkpegpbaa
open Go.RowKit

def b8 (n : Int) : List UInt8 := (List.range 8).map fun k => UInt8.ofNat ((n / (2 ^ (8 * k) : Int)) % 256).toNat
theorem b8_len (n : Int) : (b8 n).length = 8 := by simp [b8]
theorem u8_inj {a b : Int} (ha : 0 ≤ a) (ha2 : a < 256) (hb : 0 ≤ b) (hb2 : b < 256) (h : UInt8.ofNat a.toNat = UInt8.ofNat b.toNat) : a = b := by
  have h1 := congrArg UInt8.toNat h
  rw [UInt8.toNat_ofNat', UInt8.toNat_ofNat'] at h1
  omega
theorem b8_inj {n m : Int} (hn : -9223372036854775808 ≤ n) (hn2 : n ≤ 9223372036854775807) (hm : -9223372036854775808 ≤ m) (hm2 : m ≤ 9223372036854775807) (h : b8 n = b8 m) : n = m := by
  have key : ∀ k, k < 8 → (n / (2 ^ (8 * k) : Int)) % 256 = (m / (2 ^ (8 * k) : Int)) % 256 := fun k hk => by
    have h1 := congrArg (fun l => l[k]?) h
    simp only [b8, List.getElem?_map, List.getElem?_range hk, Option.map_some] at h1
    injection h1 with h1
    exact u8_inj (Int.emod_nonneg _ (by omega)) (Int.emod_lt_of_pos _ (by omega)) (Int.emod_nonneg _ (by omega)) (Int.emod_lt_of_pos _ (by omega)) h1
  have k0 := key 0 (by omega)
  have k1 := key 1 (by omega)
  have k2 := key 2 (by omega)
  have k3 := key 3 (by omega)
  have k4 := key 4 (by omega)
  have k5 := key 5 (by omega)
  have k6 := key 6 (by omega)
  have k7 := key 7 (by omega)
  simp at k0 k1 k2 k3 k4 k5 k6 k7
  clear key h
  omega
mutual
/-- The text of a tree. -/
def Tm.txt : Tm → List UInt8 | .mk k n s l => b8 k ++ (b8 n ++ (b8 s.size ++ (b8 l.length ++ (s.data.toList ++ Tm.txts l))))
def Tm.txts : List Tm → List UInt8
  | [] => []
  | t :: ts => Tm.txt t ++ Tm.txts ts
end
theorem Tm.txt_eq (t : Tm) : t.txt = b8 t.k ++ (b8 t.n ++ (b8 t.s.size ++ (b8 t.l.length ++ (t.s.data.toList ++ Tm.txts t.l)))) := by cases t; rw [Tm.txt]; rfl
theorem Tm.txts_append (a b : List Tm) : Tm.txts (a ++ b) = Tm.txts a ++ Tm.txts b := by
  induction a with
  | nil => rfl
  | cons x a ih => rw [List.cons_append, Tm.txts, Tm.txts, ih, List.append_assoc]
def fitN (t : Tm) : Prop := (-9223372036854775808 ≤ t.k ∧ t.k ≤ 9223372036854775807) ∧ (-9223372036854775808 ≤ t.n ∧ t.n ≤ 9223372036854775807) ∧ t.s.size ≤ 9223372036854775807 ∧ t.l.length ≤ 9223372036854775807
theorem b8_app {n m : Int} {r r' : List UInt8} (hn : -9223372036854775808 ≤ n) (hn2 : n ≤ 9223372036854775807) (hm : -9223372036854775808 ≤ m) (hm2 : m ≤ 9223372036854775807) (h : b8 n ++ r = b8 m ++ r') : n = m ∧ r = r' := by
  obtain ⟨h1, h2⟩ := List.append_inj h (by rw [b8_len, b8_len])
  exact ⟨b8_inj hn hn2 hm hm2 h1, h2⟩
theorem Tm.txt_inj (N : Nat) : (∀ (t u : Tm) (r r' : List UInt8), t.size ≤ N → (∀ x ∈ t.pre, fitN x) → (∀ x ∈ u.pre, fitN x) → t.txt ++ r = u.txt ++ r' → t = u ∧ r = r') ∧
    (∀ (xs ys : List Tm) (r r' : List UInt8), Tm.sizes xs ≤ N → (∀ x ∈ Tm.pres xs, fitN x) → (∀ x ∈ Tm.pres ys, fitN x) → xs.length = ys.length → Tm.txts xs ++ r = Tm.txts ys ++ r' → xs = ys ∧ r = r') := by
  induction N with
  | zero =>
    refine ⟨fun t u r r' h => by have := t.size_pos; omega, fun xs ys r r' h hx hy hl he => ?_⟩
    cases xs with
    | nil => cases ys with
      | nil => exact ⟨rfl, he⟩
      | cons y ys => simp at hl
    | cons a l => rw [Tm.sizes] at h; have := a.size_pos; omega
  | succ n ih =>
    have h1 : ∀ (t u : Tm) (r r' : List UInt8), t.size ≤ n + 1 → (∀ x ∈ t.pre, fitN x) → (∀ x ∈ u.pre, fitN x) → t.txt ++ r = u.txt ++ r' → t = u ∧ r = r' := fun t u r r' h ht hu he => by
      rw [t.size_eq] at h
      rw [t.pre_eq] at ht
      rw [u.pre_eq] at hu
      rw [t.txt_eq, u.txt_eq] at he
      simp only [List.append_assoc] at he
      obtain ⟨a1, a2, a3, a4⟩ := ht t (List.mem_cons_self ..)
      obtain ⟨c1, c2, c3, c4⟩ := hu u (List.mem_cons_self ..)
      obtain ⟨e1, he⟩ := b8_app a1.1 a1.2 c1.1 c1.2 he
      obtain ⟨e2, he⟩ := b8_app a2.1 a2.2 c2.1 c2.2 he
      obtain ⟨e3, he⟩ := b8_app (by omega) (by omega) (by omega) (by omega) he
      obtain ⟨e4, he⟩ := b8_app (by omega) (by omega) (by omega) (by omega) he
      obtain ⟨e5, he⟩ := List.append_inj he (by show t.s.data.size = u.s.data.size; exact Int.ofNat.inj e3)
      obtain ⟨e6, he⟩ := ih.2 t.l u.l r r' (by omega) (fun x hx => ht x (List.mem_cons_of_mem _ hx)) (fun x hx => hu x (List.mem_cons_of_mem _ hx)) (Int.ofNat.inj e4) he
      refine ⟨?_, he⟩
      cases t with | mk k1 n1 s1 l1 =>
      cases u with | mk k2 n2 s2 l2 =>
      have e1' : k1 = k2 := e1
      have e2' : n1 = n2 := e2
      have e6' : l1 = l2 := e6
      have e5' : s1 = s2 := by
        cases s1; cases s2
        congr 1
        exact Array.toList_inj.1 e5
      rw [e1', e2', e5', e6']
    refine ⟨h1, fun xs => ?_⟩
    induction xs with
    | nil =>
      intro ys r r' h hx hy hl he
      cases ys with
      | nil => exact ⟨rfl, he⟩
      | cons y ys => simp at hl
    | cons a l ihl =>
      intro ys r r' h hx hy hl he
      rw [Tm.sizes] at h
      cases ys with
      | nil => simp at hl
      | cons y ys =>
        rw [Tm.txts, Tm.txts, List.append_assoc, List.append_assoc] at he
        rw [Tm.pres] at hx hy
        obtain ⟨q1, he⟩ := h1 a y _ _ (by omega) (fun x hx' => hx x (List.mem_append_left _ hx')) (fun x hx' => hy x (List.mem_append_left _ hx')) he
        obtain ⟨q2, he⟩ := ihl ys r r' (by omega) (fun x hx' => hx x (List.mem_append_right _ hx')) (fun x hx' => hy x (List.mem_append_right _ hx')) (by simpa using hl) he
        exact ⟨by rw [q1, q2], he⟩
end Go.Proofs.Ytfhgknmkpegpbaa

set_option linter.unusedVariables false
set_option linter.unusedSimpArgs false
namespace Go.Proofs.Ytfhgknmkpegpbaa
open Go.RowKit

noncomputable section
open Classical in
/-- The index of a pair (the length, if it is not there), and the list with it. -/
def pidx (p : List (Tm × Tm)) (q : Tm × Tm) : Nat := p.findIdx (fun x => decide (x = q))
open Classical in
def padd (p : List (Tm × Tm)) (q : Tm × Tm) : List (Tm × Tm) := if q ∈ p then p else p ++ [q]
mutual
/-- The program's generalization, with the pairs for which variables stand. -/
def Tm.gen : Tm → Tm → List (Tm × Tm) → Tm × List (Tm × Tm)
  | .mk k n s l, u, p => if k = u.k ∧ k ≠ 1 ∧ n = u.n ∧ s.toList = u.s.toList ∧ l.length = u.l.length then (.mk k n s (Tm.gens l u.l p).1, (Tm.gens l u.l p).2) else (Tm.va (pidx p (.mk k n s l, u)), padd p (.mk k n s l, u))
def Tm.gens : List Tm → List Tm → List (Tm × Tm) → List Tm × List (Tm × Tm)
  | [], _, p => ([], p)
  | _ :: _, [], p => ([], p)
  | x :: xs, y :: ys, p => ((Tm.gen x y p).1 :: (Tm.gens xs ys (Tm.gen x y p).2).1, (Tm.gens xs ys (Tm.gen x y p).2).2)
end
end
theorem Tm.gen_eq (t u : Tm) (p : List (Tm × Tm)) : t.gen u p = if t.k = u.k ∧ t.k ≠ 1 ∧ t.n = u.n ∧ t.s.toList = u.s.toList ∧ t.l.length = u.l.length then (.mk t.k t.n t.s (Tm.gens t.l u.l p).1, (Tm.gens t.l u.l p).2) else (Tm.va (pidx p (t, u)), padd p (t, u)) := by
  cases t; rw [Tm.gen]; rfl
theorem Tm.gens_nil (ys : List Tm) (p : List (Tm × Tm)) : Tm.gens [] ys p = ([], p) := by rw [Tm.gens]
theorem Tm.gens_cons (x y : Tm) (xs ys : List Tm) (p : List (Tm × Tm)) : Tm.gens (x :: xs) (y :: ys) p = ((Tm.gen x y p).1 :: (Tm.gens xs ys (Tm.gen x y p).2).1, (Tm.gens xs ys (Tm.gen x y p).2).2) := by rw [Tm.gens]
/-- One more element. -/
theorem Tm.gens_snoc {xs ys : List Tm} {x y : Tm} (hl : xs.length = ys.length) (p : List (Tm × Tm)) :
    Tm.gens (xs ++ [x]) (ys ++ [y]) p = ((Tm.gens xs ys p).1 ++ [(Tm.gen x y (Tm.gens xs ys p).2).1], (Tm.gen x y (Tm.gens xs ys p).2).2) := by
  induction xs generalizing ys p with
  | nil =>
    cases ys with
    | nil => rw [List.nil_append, List.nil_append, Tm.gens_cons, Tm.gens_nil, Tm.gens_nil]; rfl
    | cons y' ys => simp at hl
  | cons a xs ih =>
    cases ys with
    | nil => simp at hl
    | cons b ys =>
      rw [List.cons_append, List.cons_append, Tm.gens_cons, Tm.gens_cons, ih (by simpa using hl)]
      rfl
theorem Tm.gens_len {xs ys : List Tm} (hl : xs.length = ys.length) (p : List (Tm × Tm)) : (Tm.gens xs ys p).1.length = xs.length := by
  induction xs generalizing ys p with
  | nil => rw [Tm.gens_nil]
  | cons a xs ih =>
    cases ys with
    | nil => simp at hl
    | cons b ys => rw [Tm.gens_cons, List.length_cons, ih (by simpa using hl)]; rfl
/-- What generalization keeps: the pairs grow by at most one for each node, each a pair of nodes of both trees; no pair twice. -/
theorem Tm.gen_pairs (F : Tm → Prop) (N : Nat) : (∀ (t u : Tm) (p : List (Tm × Tm)), t.size ≤ N → (∀ x ∈ t.pre, F x) → (∀ x ∈ u.pre, F x) → p.Nodup → (∀ q ∈ p, (∀ x ∈ q.1.pre, F x) ∧ ∀ x ∈ q.2.pre, F x) →
      (t.gen u p).2.length ≤ p.length + t.size ∧ (t.gen u p).2.Nodup ∧ ∀ q ∈ (t.gen u p).2, (∀ x ∈ q.1.pre, F x) ∧ ∀ x ∈ q.2.pre, F x) ∧
    (∀ (xs ys : List Tm) (p : List (Tm × Tm)), Tm.sizes xs ≤ N → (∀ x ∈ Tm.pres xs, F x) → (∀ x ∈ Tm.pres ys, F x) → p.Nodup → (∀ q ∈ p, (∀ x ∈ q.1.pre, F x) ∧ ∀ x ∈ q.2.pre, F x) →
      (Tm.gens xs ys p).2.length ≤ p.length + Tm.sizes xs ∧ (Tm.gens xs ys p).2.Nodup ∧ ∀ q ∈ (Tm.gens xs ys p).2, (∀ x ∈ q.1.pre, F x) ∧ ∀ x ∈ q.2.pre, F x) := by
  induction N with
  | zero =>
    refine ⟨fun t u p h => by have := t.size_pos; omega, fun xs ys p h hx hy hn hp => ?_⟩
    cases xs with
    | nil => rw [Tm.gens_nil]; exact ⟨Nat.le_add_right _ _, hn, hp⟩
    | cons a l => rw [Tm.sizes] at h; have := a.size_pos; omega
  | succ n ih =>
    have h1 : ∀ (t u : Tm) (p : List (Tm × Tm)), t.size ≤ n + 1 → (∀ x ∈ t.pre, F x) → (∀ x ∈ u.pre, F x) → p.Nodup → (∀ q ∈ p, (∀ x ∈ q.1.pre, F x) ∧ ∀ x ∈ q.2.pre, F x) →
      (t.gen u p).2.length ≤ p.length + t.size ∧ (t.gen u p).2.Nodup ∧ ∀ q ∈ (t.gen u p).2, (∀ x ∈ q.1.pre, F x) ∧ ∀ x ∈ q.2.pre, F x := fun t u p h hx hy hn hp => by
      have hsz := t.size_eq
      rw [Tm.gen_eq]
      split
      · obtain ⟨a1, a2, a3⟩ := ih.2 t.l u.l p (by omega) (fun x h => hx x (by rw [t.pre_eq]; exact List.mem_cons_of_mem _ h)) (fun x h => hy x (by rw [u.pre_eq]; exact List.mem_cons_of_mem _ h)) hn hp
        exact ⟨by simp only; omega, a2, a3⟩
      · simp only
        unfold padd
        split
        · exact ⟨by omega, hn, hp⟩
        · rename_i hnp
          refine ⟨by simp; omega, ?_, fun q hq => ?_⟩
          · rw [List.nodup_append]
            exact ⟨hn, by simp, fun a ha b hb => by rw [List.mem_singleton.1 hb]; exact fun e => hnp (e ▸ ha)⟩
          · rcases List.mem_append.1 hq with hq | hq
            · exact hp q hq
            · rw [List.mem_singleton.1 hq]; exact ⟨hx, hy⟩
    refine ⟨h1, fun xs => ?_⟩
    induction xs with
    | nil => intro ys p h hx hy hn hp; rw [Tm.gens_nil]; exact ⟨Nat.le_add_right _ _, hn, hp⟩
    | cons a l ihl =>
      intro ys p h hx hy hn hp
      cases ys with
      | nil => rw [Tm.gens]; exact ⟨Nat.le_add_right _ _, hn, hp⟩
      | cons y ys =>
        rw [Tm.sizes] at h ⊢
        rw [Tm.pres] at hx hy
        rw [Tm.gens_cons]
        obtain ⟨a1, a2, a3⟩ := h1 a y p (by omega) (fun x hx' => hx x (List.mem_append_left _ hx')) (fun x hx' => hy x (List.mem_append_left _ hx')) hn hp
        obtain ⟨b1, b2, b3⟩ := ihl ys (Tm.gen a y p).2 (by omega) (fun x hx' => hx x (List.mem_append_right _ hx')) (fun x hx' => hy x (List.mem_append_right _ hx')) a2 a3
        exact ⟨by simp only; omega, b2, b3⟩
end Go.Proofs.Ytfhgknmkpegpbaa

set_option linter.unusedVariables false
set_option linter.unusedSimpArgs false
namespace Go.Proofs.Ytfhgknmkpegpbaa
open Go.RowKit

/-- A strings.Builder that holds bytes. -/
def Bld (W : World) (B b : Nat) (bs : List UInt8) : Prop := Lib.IsBuilderF 149 5 B b (Lib.byteCells bs) W
theorem writeByte_calls (B b : Nat) (bs : List UInt8) (c : Int) (x : UInt8) (w : World) (h : Bld w B b bs) (hc : c = (x.toNat : Int)) (hlen : bs.length + 1 ≤ 140737488355328) (hBw : B ≤ w.heap.size) :
    Calls Try.prog 148 #[.pointer (some ⟨b, 0, none⟩), .int .u8 c] w fun e w' => e = .returned .nilIface ∧ Bld w' B b (bs ++ [x]) ∧ Below B w w' ∧ Lib.OthersKept 5 (some b) w w' := by
  have h1 : Calls Try.prog 148 #[.pointer (some ⟨b, 0, none⟩), .int .u8 c] w fun e w' => e = .returned .nilIface ∧ (Lib.BuilderAtF 149 5 B b (.pointer (some ⟨b, 0, none⟩)) (Lib.byteCells bs ++ [.int .u8 c]) w' ∧ Below B w w' ∧ Lib.OthersKept 5 (some b) w w') :=
    Any.Builder_WriteByte_k Try.lays167 Try.Builder_ExtraB B b (Lib.byteCells bs) c w h (by rw [Lib.byteCells_length]; exact hlen) hBw
  refine h1.mono ?_
  rintro e w' ⟨rfl, h2, h3, h4⟩
  refine ⟨rfl, .inr ?_, h3, h4⟩
  rw [Lib.byteCells_append, show Lib.byteCells [x] = [Value.int .u8 c] from by rw [hc]; rfl]
  exact h2
theorem writeString_calls (B b : Nat) (bs : List UInt8) (s : ByteArray) (w : World) (h : Bld w B b bs) (hlen : bs.length + s.size ≤ 140737488355328) (hBw : B ≤ w.heap.size) :
    Calls Try.prog 149 #[.pointer (some ⟨b, 0, none⟩), .string s] w fun e w' => e = .returned (.tuple #[.int .i64 s.size, .nilIface]) ∧ Bld w' B b (bs ++ s.data.toList) ∧ Below B w w' ∧ Lib.OthersKept 5 (some b) w w' := by
  have h1 : Calls Try.prog 149 #[.pointer (some ⟨b, 0, none⟩), .string s] w fun e w' => e = .returned (.tuple #[.int .i64 s.size, .nilIface]) ∧ (Lib.BuilderAtF 149 5 B b (.pointer (some ⟨b, 0, none⟩)) (Lib.byteCells bs ++ Lib.strCells s) w' ∧ Below B w w' ∧ Lib.OthersKept 5 (some b) w w') :=
    Any.Builder_WriteString_k Try.lays166 Try.Builder_ExtraB B b (Lib.byteCells bs) s w h (by rw [Lib.byteCells_length]; exact hlen) hBw
  refine h1.mono ?_
  rintro e w' ⟨rfl, h2, h3, h4⟩
  refine ⟨rfl, .inr ?_, h3, h4⟩
  rw [Lib.byteCells_append, ← Lib.strCells_eq]
  exact h2
theorem string_calls (B b : Nat) (bs : List UInt8) (w : World) (h : Bld w B b bs) (hBw : B ≤ w.heap.size) :
    Calls Try.prog 131 #[.pointer (some ⟨b, 0, none⟩)] w fun e w' => e = .returned (.string ⟨bs.toArray⟩) ∧ Bld w' B b bs ∧ Below B w w' ∧ Lib.OthersKept 5 (some b) w w' :=
  Any.Builder_String_any_k Try.lays169b Try.Builder_ExtraB B b bs w h hBw
theorem Bld.alloc {W : World} {B b : Nat} {bs : List UInt8} (h : Bld W B b bs) (o : Obj) : Bld (W.alloc o) B b bs := Lib.IsBuilderF.alloc h o
theorem Bld.lt {W : World} {B b : Nat} {bs : List UInt8} (h : Bld W B b bs) : b < W.heap.size := by
  rcases h with h | h
  · exact h.lt
  · exact h.lt
theorem Blk.others {W W' : World} {g b T : Nat} {cs : Array Value} (h : Blk W g T cs) (hk : Lib.OthersKept 5 (some b) W W') (hg : g ≠ b) (hT : T ≠ 5) : Blk W' g T cs :=
  hk g _ h (by simpa using hg) (fun c fz e => by injection e with _ e2; exact hT e2)
def RetTx (w : World) (B b : Nat) (bs : List UInt8) (e : Ending) (w' : World) : Prop := e = .returned (.tuple #[]) ∧ Bld w' B b bs ∧ Below B w w' ∧ Lib.OthersKept 5 (some b) w w'

set_option maxRecDepth 100000 in
set_option maxHeartbeats 4000000 in
theorem text_calls (t : Tm) : ∀ (P : Nat → Prop) (B b : Nat) (bs : List UInt8) (w : World) (v : Value), TmV P w v t → (∀ g, P g → g < B) → B ≤ b → Bld w B b bs → B ≤ w.heap.size → bs.length + t.txt.length ≤ 1000000000 → (∀ x ∈ t.pre, fitN x) →
    Calls Try.prog 130 #[.pointer (some ⟨b, 0, none⟩), v] w (RetTx w B b (bs ++ t.txt)) := by
  induction t using Tm.ind with
  | h t ih =>
    intro P B b bs w v hv hP hBb hbl hBw hlen hfit
    obtain ⟨A, c, rfl, hs, hc⟩ := hv
    have Ih := Lib.hid ih; clear ih
    have hlc := hc.len.1
    have hlm := hc.len.2.1
    have hlt := hbl.lt
    have hf := hfit t (by rw [t.pre_eq]; exact List.mem_cons_self ..)
    obtain ⟨ns, hns⟩ : ∃ ns : List Int, ns = [t.k, t.n, (t.s.size : Int), (t.l.length : Int)] := ⟨_, rfl⟩
    have htxt : t.txt = ns.flatMap b8 ++ (t.s.data.toList ++ Tm.txts t.l) := by rw [t.txt_eq, hns]; simp
    have hnl : ns.length = 4 := by rw [hns]; rfl
    obtain ⟨W0, hW0⟩ : ∃ W0, W0 = w.alloc (.cells #[.int .i64 t.k, .int .i64 t.n, .string t.s, .slice A t.l.length c] 25) := ⟨_, rfl⟩
    have hX0 : Blk W0 w.heap.size 25 #[.int .i64 t.k, .int .i64 t.n, .string t.s, .slice A t.l.length c] := by rw [hW0]; exact Blk.new _ _ _
    have hl0 : Bld W0 B b bs := by rw [hW0]; exact hbl.alloc _
    have hB0 : Below B w W0 := by rw [hW0]; exact (Below.refl _ _).alloc hBw _
    have hO0 : Lib.OthersKept 5 (some b) w W0 := by rw [hW0]; exact (Lib.OthersKept.refl _ _ _).alloc _
    have hc0 : TmC P W0 A c t.l := hc.belowP hB0 hP
    have hsz0 : W0.heap.size = w.heap.size + 1 := by rw [hW0]; simp
    obtain ⟨⟨a0, a1, a2, a3⟩, -⟩ := hX0.four
    have Hfit := Lib.hid hfit; clear hfit
    have Hlen := Lib.hid hlen; clear hlen
    have Htxt := Lib.hid htxt; clear htxt
    have Hf := Lib.hid hf; clear hf
    have HX0 := Lib.hid hX0; clear hX0
    have Hl0 := Lib.hid hl0; clear hl0 hbl
    have HB0 := Lib.hid hB0; clear hB0
    have HO0 := Lib.hid hO0; clear hO0
    have Hc := Lib.hid (hc.mono (Q := P) (fun g h => h)); clear hc0 hc
    have HP := Lib.hid hP; clear hP
    have HW := Lib.hid hW0; clear hW0
    have Hsz := Lib.hid hsz0; clear hsz0
    have Hns := Lib.hid hns; clear hns
    go_enter Try.func130, Try.ntmps130
    go_wp2_with fail
    rw [← HW.out]
    go_wp2
    obtain ⟨G, hG⟩ : ∃ G, G = w.heap.size + 1 := ⟨_, rfl⟩
    have hb3 := Blk.new W0 3 #[.int .i64 t.k, .int .i64 t.n, .int .i64 t.s.size, .int .i64 t.l.length]
    rw [Hsz.out, ← hG] at hb3
    obtain ⟨W1, hW1⟩ : ∃ W1, W1 = W0.alloc (.cells #[.int .i64 t.k, .int .i64 t.n, .int .i64 t.s.size, .int .i64 t.l.length] 3) := ⟨_, rfl⟩
    have hI : Hid (Blk W1 w.heap.size 25 #[.int .i64 t.k, .int .i64 t.n, .string t.s, .slice A t.l.length c] ∧ Blk W1 G 3 #[.int .i64 t.k, .int .i64 t.n, .int .i64 t.s.size, .int .i64 t.l.length] ∧ Below B w W1 ∧ Lib.OthersKept 5 (some b) w W1) := by
      refine Lib.hid ⟨?_, ?_, ?_, ?_⟩
      · rw [hW1]; exact HX0.out.alloc _
      · rw [hW1]; exact hb3
      · rw [hW1]; exact HB0.out.alloc (by have := Hsz.out; omega) _
      · rw [hW1]; exact HO0.out.alloc _
    have hL1 : Hid (Bld W1 B b bs) := Lib.hid (by rw [hW1]; exact Hl0.out.alloc _)
    have hGb : b < G := by rw [hG]; omega
    rw [← hW1, ← hG]
    have HG := Lib.hid hG; clear hG hb3 hW1
    go_loopw [21] (fun i wr => ∃ j : Nat, j ≤ 4 ∧ i = .int .i64 j ∧ Hid (Bld wr B b (bs ++ (ns.take j).flatMap b8)) ∧ Hid (Blk wr w.heap.size 25 #[.int .i64 t.k, .int .i64 t.n, .string t.s, .slice A t.l.length c] ∧ Blk wr G 3 #[.int .i64 t.k, .int .i64 t.n, .int .i64 t.s.size, .int .i64 t.l.length] ∧ Below B w wr ∧ Lib.OthersKept 5 (some b) w wr)) (fun i _ => 4 - (intOf i).toNat)
    case atStart => exact ⟨0, by omega, rfl, by simpa using hL1, hI⟩
    case round =>
      obtain ⟨j, hj, rfl, HL, HI⟩ := hrel
      by_cases hlt4 : j < 4
      · obtain ⟨n, hn⟩ : ∃ n, ns[j]? = some n := ⟨_, List.getElem?_eq_getElem (by omega)⟩
        have e0 : wr.cell? ⟨G, j, none⟩ = some (.int .i64 n) := by
          rw [HI.out.2.1.cell j]
          rw [Hns.out] at hn
          match j, hlt4, hn with
          | 0, _, hn => simp at hn; rw [← hn]; rfl
          | 1, _, hn => simp at hn; rw [← hn]; rfl
          | 2, _, hn => simp at hn; rw [← hn]; rfl
          | 3, _, hn => simp at hn; rw [← hn]; rfl
        have hnb : -9223372036854775808 ≤ n ∧ n ≤ 9223372036854775807 := by
          have hf := Hf.out
          unfold fitN at hf
          rw [Hns.out] at hn
          match j, hlt4, hn with
          | 0, _, hn => simp at hn; omega
          | 1, _, hn => simp at hn; omega
          | 2, _, hn => simp at hn; omega
          | 3, _, hn => simp at hn; omega
        have Hnb := Lib.hid hnb; clear hnb
        have d4 : decide ((j : Int) < 4) = true := decide_eq_true (by omega)
        have Htk := Lib.hid (show (ns.take (j + 1)).flatMap b8 = (ns.take j).flatMap b8 ++ b8 n from by rw [take_snoc hn]; simp)
        have hln : (bs ++ (ns.take j).flatMap b8).length + 8 ≤ 1000000000 := by
          have h1 := Hlen.out
          rw [Htxt.out] at h1
          have h2 : ((ns.take (j + 1)).flatMap b8).length ≤ (ns.flatMap b8).length := by
            conv => rhs; rw [← List.take_append_drop (j + 1) ns, List.flatMap_append, List.length_append]
            omega
          rw [Htk.out] at h2
          simp only [List.length_append, b8_len] at h1 h2 ⊢
          omega
        have Hln := Lib.hid hln; clear hln hn
        go_wp2
        go_loopw [25] (fun i wr => ∃ k : Nat, k ≤ 8 ∧ i = .int .i64 k ∧ Hid (Bld wr B b (bs ++ (ns.take j).flatMap b8 ++ (b8 n).take k)) ∧ Hid (Blk wr w.heap.size 25 #[.int .i64 t.k, .int .i64 t.n, .string t.s, .slice A t.l.length c] ∧ Blk wr G 3 #[.int .i64 t.k, .int .i64 t.n, .int .i64 t.s.size, .int .i64 t.l.length] ∧ Below B w wr ∧ Lib.OthersKept 5 (some b) w wr)) (fun i _ => 8 - (intOf i).toNat)
        case atStart => exact ⟨0, by omega, rfl, by simpa using HL, HI⟩
        case round =>
          obtain ⟨k, hk, rfl, HL2, HI2⟩ := hrel
          by_cases hlt8 : k < 8
          · obtain ⟨x, hx⟩ : ∃ x, x = UInt8.ofNat ((n / (2 ^ (8 * k) : Int)) % 256).toNat := ⟨_, rfl⟩
            have hxc : n / 2 ^ (8 * k) % 256 = (x.toNat : Int) := by
              rw [hx, UInt8.toNat_ofNat']
              have h1 := Int.emod_nonneg (n / 2 ^ (8 * k)) (show (256 : Int) ≠ 0 by omega)
              have h2 := Int.emod_lt_of_pos (n / 2 ^ (8 * k)) (show (0 : Int) < 256 by omega)
              omega
            have hxk : (b8 n)[k]? = some x := by
              simp only [b8, List.getElem?_map, List.getElem?_range hlt8, Option.map_some]
              rw [hx]
            have Htk8 := Lib.hid (show (b8 n).take (k + 1) = (b8 n).take k ++ [x] from take_snoc hxk)
            have hcall := writeByte_calls B b (bs ++ (ns.take j).flatMap b8 ++ (b8 n).take k) (n / 2 ^ (8 * k) % 256) x wr HL2.out hxc (by have := Hln.out; have h3 := List.length_take_le k (b8 n); rw [List.length_append]; omega) (by have := HI2.out.2.2.1.size; omega)
            have Hcall := Lib.hid hcall; clear hcall hxc hxk hx
            go_wp2_with fail
            refine Hcall.out.mono ?_
            rintro e w2 ⟨rfl, hL3, hB3, hO3⟩
            have HL3 := Lib.hid (show Bld w2 B b (bs ++ (ns.take j).flatMap b8 ++ (b8 n).take (k + 1)) from by rw [Htk8.out, ← List.append_assoc]; exact hL3)
            have HI3 := Lib.hid (show Blk w2 w.heap.size 25 #[.int .i64 t.k, .int .i64 t.n, .string t.s, .slice A t.l.length c] ∧ Blk w2 G 3 #[.int .i64 t.k, .int .i64 t.n, .int .i64 t.s.size, .int .i64 t.l.length] ∧ Below B w w2 ∧ Lib.OthersKept 5 (some b) w w2 from
              ⟨HI2.out.1.others hO3 (by omega) (by decide), HI2.out.2.1.others hO3 (by omega) (by decide), HI2.out.2.2.1.trans hB3, HI2.out.2.2.2.trans hO3⟩)
            clear hL3 hB3 hO3
            go_wp2
            go_roundw
            case rel => exact ⟨k + 1, by omega, by go_num, HL3, HI3⟩
            case measure => simp [intOf]; omega
          · have hke : k = 8 := by omega
            subst hke
            have HL3 := Lib.hid (show Bld wr B b (bs ++ (ns.take (j + 1)).flatMap b8) from by
              rw [Htk.out, ← List.append_assoc]
              have := HL2.out
              rwa [List.take_of_length_le (l := b8 n) (by rw [b8_len]; omega)] at this)
            go_wp2
            go_roundw
            case rel => exact ⟨j + 1, by omega, by go_num, HL3, HI2⟩
            case measure => simp [intOf]; omega
      · have hje : j = 4 := by omega
        subst hje
        have hL4 : Bld wr B b (bs ++ ns.flatMap b8) := by
          have := HL.out
          rwa [List.take_of_length_le (by omega)] at this
        have hl1 := Hlen.out
        rw [Htxt.out] at hl1
        simp only [List.length_append] at hl1
        obtain ⟨⟨x0, x1, x2, x3⟩, -⟩ := HI.out.1.four
        have hcall := writeString_calls B b _ t.s wr hL4 (by have : t.s.size = t.s.data.toList.length := (Array.length_toList ..).symm; rw [List.length_append]; omega) (by have := HI.out.2.2.1.size; omega)
        have Hl1 := Lib.hid hl1; clear hl1 hL4
        have Hcall := Lib.hid hcall; clear hcall
        go_wp2_with fail
        refine Hcall.out.mono ?_
        rintro e w2 ⟨rfl, hL3, hB3, hO3⟩
        have HL5 := Lib.hid hL3
        have hI5 : Blk w2 w.heap.size 25 #[.int .i64 t.k, .int .i64 t.n, .string t.s, .slice A t.l.length c] ∧ Below B w w2 ∧ Lib.OthersKept 5 (some b) w w2 :=
          ⟨HI.out.1.others hO3 (by omega) (by decide), HI.out.2.2.1.trans hB3, HI.out.2.2.2.trans hO3⟩
        have HI5 := Lib.hid hI5; clear hI5 hL3 hB3 hO3 x0 x1 x2 x3
        obtain ⟨⟨x0, x1, x2, x3⟩, -⟩ := HI5.out.1.four
        go_wp2
        obtain ⟨bs5, hbs5⟩ : ∃ bs5, bs5 = bs ++ ns.flatMap b8 ++ t.s.data.toList := ⟨_, rfl⟩
        rw [← hbs5] at HL5
        have Hb5 := Lib.hid hbs5; clear hbs5
        go_loopw [44] (fun i wr => ∃ j : Nat, j ≤ t.l.length ∧ i = .int .i64 j ∧ Hid (Bld wr B b (bs5 ++ Tm.txts (t.l.take j))) ∧ Hid (Below B w wr ∧ Lib.OthersKept 5 (some b) w wr)) (fun i _ => t.l.length - (intOf i).toNat)
        case atStart => exact ⟨0, Nat.zero_le _, rfl, by simpa [Tm.txts] using HL5, Lib.hid HI5.out.2⟩
        case round =>
          obtain ⟨j, hj, rfl, HL6, HI6⟩ := hrel
          by_cases hlt : j < t.l.length
          · obtain ⟨x, hx⟩ : ∃ x, t.l[j]? = some x := ⟨_, List.getElem?_eq_getElem hlt⟩
            have hcr : TmC P wr A c t.l := Hc.out.belowP HI6.out.1 HP.out
            obtain ⟨g, off, Ai, ci, rfl, hPg, ⟨e0, e1, e2, e3⟩, hxs, hxc⟩ := hcr.at_ hx
            have hxm := List.mem_of_getElem? hx
            have Htk6 := Lib.hid (show Tm.txts (t.l.take (j + 1)) = Tm.txts (t.l.take j) ++ x.txt from by rw [take_snoc hx, Tm.txts_append]; simp [Tm.txts])
            have hxl : (bs5 ++ Tm.txts (t.l.take j)).length + x.txt.length ≤ 1000000000 := by
              have h1 := Hl1.out
              have h2 : (Tm.txts (t.l.take (j + 1))).length ≤ (Tm.txts t.l).length := by
                conv => rhs; rw [← List.take_append_drop (j + 1) t.l, Tm.txts_append, List.length_append]
                omega
              rw [Htk6.out] at h2
              rw [Hb5.out]
              simp only [List.length_append] at h1 h2 ⊢
              omega
            have hxf : ∀ y ∈ x.pre, fitN y := fun y hy => Hfit.out y (by
              rw [t.pre_eq]
              refine List.mem_cons_of_mem _ ?_
              have h1 := congrArg Tm.pres (List.take_append_drop (j + 1) t.l)
              rw [take_snoc hx, Tm.pres_append, Tm.pres_append] at h1
              rw [← h1]
              simp [Tm.pres, hy])
            have hcall := Ih.out x hxm P B b (bs5 ++ Tm.txts (t.l.take j)) (wr.alloc (.cells #[.int .i64 x.k, .int .i64 x.n, .string x.s, .slice Ai x.l.length ci] 25)) _ ⟨Ai, ci, rfl, hxs, hxc.belowP ((Below.refl _ _).alloc (Nat.le_refl _) _) (fun g hg => Nat.lt_of_lt_of_le (HP.out g hg) (by have := HI6.out.1.size; omega))⟩ HP.out hBb (HL6.out.alloc _) (by have := HI6.out.1.size; simp; omega) hxl hxf
            have Hcall2 := Lib.hid hcall; clear hcall hxc hx hxl hxf hcr
            go_wp2_with fail
            refine Hcall2.out.mono ?_
            rintro e w3 ⟨rfl, hL3, hB3, hO3⟩
            have HL7 := Lib.hid (show Bld w3 B b (bs5 ++ Tm.txts (t.l.take (j + 1))) from by rw [Htk6.out, ← List.append_assoc]; exact hL3)
            have HI7 := Lib.hid (show Below B w w3 ∧ Lib.OthersKept 5 (some b) w w3 from ⟨(HI6.out.1.alloc (by have := HI6.out.1.size; omega) _).trans hB3, (HI6.out.2.alloc _).trans hO3⟩)
            clear hL3 hB3 hO3
            go_wp2
            go_roundw
            case rel => exact ⟨j + 1, by omega, by go_num, HL7, HI7⟩
            case measure => simp [intOf]; omega
          · have hje : j = t.l.length := by omega
            subst hje
            have hfin : Bld wr B b (bs ++ t.txt) := by
              have := HL6.out
              rw [List.take_length, Hb5.out] at this
              rw [Htxt.out]
              simpa [List.append_assoc] using this
            have Hfin := Lib.hid hfin; clear hfin
            go_wp2
            exact bodyPost_ret (v := .tuple #[]) (by simp [results, Try.results130, go_sem]) rfl (R := RetTx w B b _) ⟨rfl, Hfin.out, HI6.out.1, HI6.out.2⟩
end Go.Proofs.Ytfhgknmkpegpbaa

set_option linter.unusedVariables false
set_option linter.unusedSimpArgs false
namespace Go.Proofs.Ytfhgknmkpegpbaa
open Go.RowKit

def pkey (q : Tm × Tm) : List UInt8 := q.1.txt ++ q.2.txt
def fitP (q : Tm × Tm) : Prop := (∀ x ∈ q.1.pre, fitN x) ∧ ∀ x ∈ q.2.pre, fitN x
theorem pkey_inj {q r : Tm × Tm} (hq : fitP q) (hr : fitP r) (h : pkey q = pkey r) : q = r := by
  obtain ⟨h1, h2⟩ := (Tm.txt_inj q.1.size).1 q.1 r.1 _ _ (Nat.le_refl _) hq.1 hr.1 h
  obtain ⟨h3, -⟩ := (Tm.txt_inj q.2.size).1 q.2 r.2 [] [] (Nat.le_refl _) hq.2 hr.2 (by rw [h2])
  exact Prod.ext h1 h3
theorem pidx_not {p : List (Tm × Tm)} {q : Tm × Tm} (h : q ∉ p) : pidx p q = p.length := by
  unfold pidx
  rw [List.findIdx_eq_length]
  intro x hx
  simp
  rintro rfl
  exact h hx
theorem pidx_old {p : List (Tm × Tm)} {q r : Tm × Tm} (h : q ∈ p) : pidx (p ++ [r]) q = pidx p q := by
  unfold pidx
  rw [List.findIdx_append, if_pos (List.findIdx_lt_length_of_exists ⟨q, h, by simp⟩)]
theorem pidx_new {p : List (Tm × Tm)} {q : Tm × Tm} (h : q ∉ p) : pidx (p ++ [q]) q = p.length := by
  have h1 := pidx_not h
  unfold pidx at h1 ⊢
  rw [List.findIdx_append, if_neg (by omega), List.findIdx_cons]
  simp
theorem pidx_lt {p : List (Tm × Tm)} {q : Tm × Tm} (h : q ∈ p) : pidx p q < p.length := by
  unfold pidx
  exact List.findIdx_lt_length_of_exists ⟨q, h, by simp⟩
open Classical in
/-- The map of the variables of a generalization. -/
def MapP (W : World) (mb : Nat) (p : List (Tm × Tm)) : Prop :=
  ∃ D : DataW Unit, W.ownsMap Try.prog 9 (plainElem Try.prog 3) mb p.length D ∧ Maps.Tidy D ∧ Maps.size D = p.length ∧
    ∀ q, fitP q → Maps.has D (.string (pkey q)) = decide (q ∈ p) ∧ (q ∈ p → D.atKey (.string (pkey q)) (.lit (.int .i64 0)) = .lit (.int .i64 (pidx p q)))
theorem MapP.made (w : World) : MapP (w.alloc (.map #[] 0)) w.heap.size [] := ⟨_, World.ownsMap_made w _ _ _, Maps.tidy_empty, rfl, fun q _ => ⟨by simp [Maps.has], fun h => by simp at h⟩⟩
theorem MapP.kept {w w' : World} {b : Nat} {p : List (Tm × Tm)} {row : Option Nat} (h : MapP w b p) (hg : w.grownBy w' row) (hne : some b ≠ row) : MapP w' b p := by
  obtain ⟨D, h1, h2⟩ := h; exact ⟨D, h1.kept hg hne, h2⟩
theorem MapP.lt {w : World} {b : Nat} {p : List (Tm × Tm)} (h : MapP w b p) : b < w.heap.size := by obtain ⟨D, h1, h2⟩ := h; exact h1.lt
theorem MapP.below {w w' : World} {b B : Nat} {p : List (Tm × Tm)} (h : MapP w b p) (hb : Below B w w') (hB : b < B) : MapP w' b p := by
  obtain ⟨D, ⟨es, clock, h1, h2, h3, h4⟩, h5⟩ := h
  exact ⟨D, ⟨es, clock, (hb.block b hB).trans h1, h2, h3, h4⟩, h5⟩
theorem MapP.same {w w' : World} {b : Nat} {p : List (Tm × Tm)} (h : MapP w b p) (hb : w'.heap[b]? = w.heap[b]?) : MapP w' b p := by
  obtain ⟨D, ⟨es, clock, h1, h2, h3, h4⟩, h5⟩ := h
  exact ⟨D, ⟨es, clock, hb.trans h1, h2, h3, h4⟩, h5⟩
theorem isKey_string (l : List UInt8) : WideAt.IsKeyLit (.string l) := trivial
theorem MapP.put {w w1 : World} {b : Nat} {p : List (Tm × Tm)} {q : Tm × Tm} {D : DataW Unit} (h1 : w1.ownsMap Try.prog 9 (plainElem Try.prog 3) b (p.length + 1) (D.put (.string (pkey q)) (.lit (.int .i64 p.length)))) (h2 : Maps.Tidy D) (h3 : Maps.size D = p.length)
    (h4 : ∀ q, fitP q → Maps.has D (.string (pkey q)) = @decide (q ∈ p) (Classical.propDecidable _) ∧ (q ∈ p → D.atKey (.string (pkey q)) (.lit (.int .i64 0)) = .lit (.int .i64 (pidx p q)))) (hq : fitP q) (hn : q ∉ p) : MapP w1 b (p ++ [q]) := by
  refine ⟨_, by simpa using h1, h2.put (isKey_string _) _, ?_, fun r hr => ?_⟩
  · rw [Maps.size_put h2, (h4 q hq).1, h3]
    simp [hn]
  · by_cases e : r = q
    · subst e
      refine ⟨?_, fun _ => ?_⟩
      · rw [Maps.has_put_same h2.isMap (isKey_string _)]; simp
      · rw [Maps.atKey_put_same h2.isMap (isKey_string _), pidx_new hn]
    · have hne : (Lit.string (pkey r)) ≠ .string (pkey q) := fun e2 => e (pkey_inj hr hq (by injection e2))
      refine ⟨?_, fun hm => ?_⟩
      · rw [Maps.has_put_other hne, (h4 r hr).1]
        simp [e]
      · have hm' : r ∈ p := by
          rcases List.mem_append.1 hm with h | h
          · exact h
          · exact absurd (List.mem_singleton.1 h) e
        rw [Maps.atKey_put_other hne, (h4 r hr).2 hm', pidx_old hm']
theorem Tm.txts_mem {l : List Tm} {x : Tm} (h : x ∈ l) : x.txt.length ≤ (Tm.txts l).length := by
  induction l with
  | nil => simp at h
  | cons a l ih =>
    rw [Tm.txts, List.length_append]
    rcases List.mem_cons.1 h with rfl | h
    · omega
    · have := ih h; omega
theorem Tm.txt_child {t x : Tm} (h : x ∈ t.l) : x.txt.length ≤ t.txt.length := by
  have := Tm.txts_mem h
  rw [t.txt_eq]
  simp only [List.length_append]
  omega
/-- What a generalization gives. -/
def RetG (mb : Nat) (w : World) (r : Tm × List (Tm × Tm)) (e : Ending) (w' : World) : Prop :=
  ∃ A c, e = .returned (.agg #[.int .i64 r.1.k, .int .i64 r.1.n, .string r.1.s, .slice A r.1.l.length c]) ∧ r.1.s.size ≤ 9223372036854775807 ∧ TmC (w.heap.size ≤ ·) w' A c r.1.l ∧ MapP w' mb r.2 ∧ But mb w w'
end Go.Proofs.Ytfhgknmkpegpbaa
