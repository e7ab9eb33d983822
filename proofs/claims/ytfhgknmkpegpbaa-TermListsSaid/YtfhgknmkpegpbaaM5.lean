/- Layer 1, part 5 of the base: the walks and plain facts named in NOTES.md as T33, T34, T35, T37, T38, T39, T40, T41, T42. -/
import Derived.Test.YtfhgknmkpegpbaaM4
import Derived.Maps.OwnOps
import Derived.Test.YtfhgknmkpegpbaaM1
import Derived.Maps.OwnSet

set_option linter.unusedVariables false
set_option linter.unusedSimpArgs false
namespace Go.Proofs.Ytfhgknmkpegpbaa
open Go.RowKit

theorem Tm.mat_mem (n : Nat) : (∀ (t u : Tm) (sub : List Tm), t.size ≤ n → ∀ x ∈ (t.mat u sub).1, x ∈ sub ∨ x.size ≤ u.size) ∧ (∀ (xs ys sub : List Tm), Tm.sizes xs ≤ n → ∀ x ∈ (Tm.mats xs ys sub).1, x ∈ sub ∨ x.size ≤ Tm.sizes ys) := by
  induction n with
  | zero =>
    refine ⟨fun t u sub h => by have := t.size_pos; omega, fun xs ys sub h x hx => ?_⟩
    cases xs with
    | nil => rw [Tm.mats_nil] at hx; exact Or.inl hx
    | cons a l => rw [Tm.sizes] at h; have := a.size_pos; omega
  | succ n ih =>
    have h1 : ∀ (t u : Tm) (sub : List Tm), t.size ≤ n + 1 → ∀ x ∈ (t.mat u sub).1, x ∈ sub ∨ x.size ≤ u.size := fun t u sub h x hx => by
      rw [t.size_eq] at h
      rw [Tm.mat_eq] at hx
      split at hx
      · split at hx
        · split at hx
          · rcases List.mem_or_eq_of_mem_set hx with h2 | h2
            · exact Or.inl h2
            · rw [h2]; exact Or.inr (Nat.le_refl _)
          · exact Or.inl hx
        · exact Or.inl hx
      · split at hx
        · rcases ih.2 _ _ _ (by omega) x hx with h2 | h2
          · exact Or.inl h2
          · rw [u.size_eq]; exact Or.inr (by omega)
        · exact Or.inl hx
    refine ⟨h1, fun xs => ?_⟩
    induction xs with
    | nil => intro ys sub _ x hx; rw [Tm.mats_nil] at hx; exact Or.inl hx
    | cons a l ihl =>
      intro ys sub h x hx
      rw [Tm.sizes] at h
      cases ys with
      | nil => rw [Tm.mats] at hx; exact Or.inl hx
      | cons y ys =>
        rw [Tm.mats_cons] at hx
        rw [Tm.sizes]
        have key : x ∈ (a.mat y sub).1 → x ∈ sub ∨ x.size ≤ y.size + Tm.sizes ys := fun h2 => by
          rcases h1 a y sub (by omega) x h2 with h3 | h3
          · exact Or.inl h3
          · exact Or.inr (by omega)
        split at hx
        · rcases ihl ys _ (by omega) x hx with h2 | h2
          · exact key h2
          · exact Or.inr (by omega)
        · exact key hx
theorem flatMap_encI (xs : List Int) : xs.flatMap encI = xs.map (Value.int .i64) := by
  induction xs with
  | nil => rfl
  | cons x xs ih => rw [List.flatMap_cons, ih]; rfl
/-- What Match gives: the list (none: nil), whether it can. -/
noncomputable def matchR (p t : Tm) : Option (List Tm) := if (p.mat t (List.replicate (maxV (varsL [p])).toNat Tm.zero)).2 = true then some (p.mat t (List.replicate (maxV (varsL [p])).toNat Tm.zero)).1 else none
def RetMa (w : World) (r : Option (List Tm)) (er : Int) (e : Ending) (w' : World) : Prop :=
  ∃ A c, e = .returned (.tuple #[.slice A (r.getD []).length c, .bool r.isSome, .int .i64 er]) ∧ TmC (w.heap.size ≤ ·) w' A c (r.getD []) ∧ Below w.heap.size w w'

set_option maxRecDepth 100000 in
set_option maxHeartbeats 4000000 in
theorem matchTop_calls (t u : Tm) (P Q : Nat → Prop) (w : World) (v v2 : Value) (hv : TmV P w v t) (hv2 : TmV Q w v2 u) :
    Calls Try.prog 35 #[v, v2] w (RetMa w (if allIs [t, u] = true then matchR t u else none) (errT (allIs [t, u]))) := by
  obtain ⟨A, c, rfl, hs, hc⟩ := hv
  obtain ⟨B, d, rfl, hs', hd⟩ := hv2
  obtain ⟨W1, hW1⟩ : ∃ W1, W1 = ((w.alloc (.cells #[.int .i64 t.k, .int .i64 t.n, .string t.s, .slice A t.l.length c] 25)).alloc (.cells #[.int .i64 u.k, .int .i64 u.n, .string u.s, .slice B u.l.length d] 25)).alloc (.cells #[.int .i64 t.k, .int .i64 t.n, .string t.s, .slice A t.l.length c, .int .i64 u.k, .int .i64 u.n, .string u.s, .slice B u.l.length d] 25) := ⟨_, rfl⟩
  have hB1 : Below w.heap.size w W1 := by rw [hW1]; exact (((Below.refl _ _).alloc (Nat.le_refl _) _).alloc (by simp) _).alloc (by simp; omega) _
  have hX : Blk W1 w.heap.size 25 #[.int .i64 t.k, .int .i64 t.n, .string t.s, .slice A t.l.length c] := by rw [hW1]; exact ((Blk.new w 25 _).alloc _).alloc _
  have hY : Blk W1 (w.heap.size + 1) 25 #[.int .i64 u.k, .int .i64 u.n, .string u.s, .slice B u.l.length d] := by
    rw [hW1]
    have := Blk.new (w.alloc (.cells #[.int .i64 t.k, .int .i64 t.n, .string t.s, .slice A t.l.length c] 25)) 25 #[.int .i64 u.k, .int .i64 u.n, .string u.s, .slice B u.l.length d]
    rw [show (w.alloc (.cells #[.int .i64 t.k, .int .i64 t.n, .string t.s, .slice A t.l.length c] 25)).heap.size = w.heap.size + 1 from by simp] at this
    exact this.alloc _
  have hZ : Blk W1 (w.heap.size + 1 + 1) 25 #[.int .i64 t.k, .int .i64 t.n, .string t.s, .slice A t.l.length c, .int .i64 u.k, .int .i64 u.n, .string u.s, .slice B u.l.length d] := by
    rw [hW1]
    have := Blk.new ((w.alloc (.cells #[.int .i64 t.k, .int .i64 t.n, .string t.s, .slice A t.l.length c] 25)).alloc (.cells #[.int .i64 u.k, .int .i64 u.n, .string u.s, .slice B u.l.length d] 25)) 25 #[.int .i64 t.k, .int .i64 t.n, .string t.s, .slice A t.l.length c, .int .i64 u.k, .int .i64 u.n, .string u.s, .slice B u.l.length d]
    rw [show ((w.alloc (.cells #[.int .i64 t.k, .int .i64 t.n, .string t.s, .slice A t.l.length c] 25)).alloc (.cells #[.int .i64 u.k, .int .i64 u.n, .string u.s, .slice B u.l.length d] 25)).heap.size = w.heap.size + 1 + 1 from by simp] at this
    exact this
  have hc1 := (hc.inside.belowP hB1 (fun g h => h.2)).mono (Q := fun g => g < w.heap.size) (fun g h => h.2)
  have hd1 := (hd.inside.belowP hB1 (fun g h => h.2)).mono (Q := fun g => g < w.heap.size) (fun g h => h.2)
  have hcall := checked_calls [t, u] _ _ 2 W1 (TmC.lit (P := fun g => g < w.heap.size ∨ g = w.heap.size + 1 + 1) [(t, A, c), (u, B, d)] (by simp; exact ⟨⟨hs, hc1.mono (fun g h => Or.inl h)⟩, hs', hd1.mono (fun g h => Or.inl h)⟩) hZ (Or.inr rfl) (by simp))
  obtain ⟨b, hb⟩ : ∃ b, b = allIs [t, u] := ⟨_, rfl⟩
  rw [← hb] at hcall ⊢
  obtain ⟨R, hR⟩ : ∃ R, R = if b = true then matchR t u else none := ⟨_, rfl⟩
  rw [← hR]
  have HR := Lib.hid hR; clear hR
  have Hb := Lib.hid hb; clear hb
  have Hcall := Lib.hid hcall; clear hcall hZ
  have Hc := Lib.hid hc1; clear hc hc1
  have Hd := Lib.hid hd1; clear hd hd1
  have HX := Lib.hid hX; clear hX
  have HY := Lib.hid hY; clear hY
  have HB1 := Lib.hid hB1; clear hB1
  have HW := Lib.hid hW1; clear hW1
  go_enter Try.func35, Try.ntmps35
  go_wp2_with fail
  rw [← HW.out]
  refine Hcall.out.mono ?_
  rintro e w1 ⟨rfl, hb1⟩
  have hsz := HB1.out.size
  have lx := HX.out.lt
  have ly := HY.out.lt
  have hX1 := HX.out.below hb1 lx
  have hY1 := HY.out.below hb1 ly
  obtain ⟨⟨a0, a1, a2, a3⟩, -⟩ := hX1.four
  obtain ⟨⟨b0, b1, b2, b3⟩, -⟩ := hY1.four
  have HX1 := Lib.hid hX1; clear hX1
  have HY1 := Lib.hid hY1; clear hY1
  have HB2 := Lib.hid (HB1.out.trans (hb1.mono hsz))
  have Hc1 := Lib.hid (Hc.out.stay hb1 (Nat.le_refl _))
  have Hd1 := Lib.hid (Hd.out.stay hb1 (Nat.le_refl _))
  clear hb1 lx ly
  cases b
  · have he : (errT false != 0) = true := rfl
    have hr : R = none := by have := HR.out; simpa using this
    subst hr
    go_wp2
    exact bodyPost_ret (v := .tuple #[.slice none 0 0, .bool false, .int .i64 (errT false)]) (by simp [results, Try.results35, go_sem]) rfl (R := RetMa w none _) ⟨none, 0, rfl, TmC.nil _ _ (by omega) (fun _ => rfl), HB2.out⟩
  have he : (errT true != 0) = false := rfl
  have hr : R = matchR t u := by have := HR.out; simpa using this
  have Hr := Lib.hid hr; clear hr HR
  have hoks : isB t = true := by have := Hb.out; simp [allIs] at this; exact this.1
  have Hok := Lib.hid hoks; clear hoks
  have Hou := Lib.hid (show isB u = true from by have := Hb.out; simp [allIs] at this; exact this.2)
  have hokt := isB_iff.1 Hok.out
  have hvr : ∀ x ∈ varsL [t], 0 ≤ x ∧ x < 100000 := fun x hx => by
    rcases varsFrom_mem hx with h | ⟨y, hy, hk, rfl⟩
    · simp at h
    · exact var_bd (okB_pre t hokt.1 y (by simpa [Tm.pres] using hy)) hk
  have hbb : Below w1.heap.size w1 (w1.alloc (.cells #[.int .i64 t.k, .int .i64 t.n, .string t.s, .slice A t.l.length c] 25)) := (Below.refl _ _).alloc (Nat.le_refl _) _
  have hcall := vars_calls [t] (fun g => g < w.heap.size ∨ g = w1.heap.size) _ 1 (w1.alloc (.cells #[.int .i64 t.k, .int .i64 t.n, .string t.s, .slice A t.l.length c] 25)) (TmC.lit [(t, A, c)] (by simp; exact ⟨hs, (Hc1.out.stay hbb (Nat.le_refl _)).mono (fun g h => Or.inl h)⟩) (Blk.new _ _ _) (Or.inr rfl) (by simp)) (by simp [Tm.okBs, hokt.1]) (by simp [Tm.sizes]; omega)
  obtain ⟨xs, hxs⟩ : ∃ xs, xs = varsL [t] := ⟨_, rfl⟩
  rw [← hxs] at hcall hvr
  have Hxs := Lib.hid hxs; clear hxs
  have Hvr := Lib.hid hvr; clear hvr
  have Hcall2 := Lib.hid hcall; clear hcall hokt Hcall
  have HBB := Lib.hid hbb; clear hbb
  go_wp2_with fail
  refine Hcall2.out.mono ?_
  rintro e w2 ⟨vs, rfl, hrow, hnil, hb2⟩
  have hb12 := HBB.out.trans (hb2.mono HBB.out.size)
  obtain ⟨As, cs, rfl⟩ := own_slice hrow
  have hrd := own_rd hrow
  have hX2 := HX1.out.below hb12 HX1.out.lt
  have hY2 := HY1.out.below hb12 HY1.out.lt
  have HX2 := Lib.hid hX2
  have HY2 := Lib.hid hY2
  have Hc2 := Lib.hid (Hc1.out.stay hb12 (Nat.le_refl _))
  have Hd2 := Lib.hid (Hd1.out.stay hb12 (Nat.le_refl _))
  have HB3 := Lib.hid (HB2.out.trans (hb12.mono HB2.out.size))
  have Hrd := Lib.hid (show Rd w2 As (xs.flatMap encI) from by rw [flatMap_encI]; exact hrd)
  have hxl : xs.length ≤ 9223372036854775807 := by
    have h1 := varsFrom_len [] (Tm.pres [t])
    rw [Tm.pres_len] at h1
    have h2 := (isB_iff.1 Hok.out).2.1
    have h3 : xs.length = (varsFrom [] (Tm.pres [t])).length := by rw [Hxs.out]; rfl
    simp [Tm.sizes] at h1
    omega
  clear a0 a1 a2 a3 b0 b1 b2 b3 hrow hnil hb2 hb12 hrd hX2 hY2
  have hmkT : ∀ m : Nat, m ≤ 100000 → ∀ W : World, (Instr.makeSlice 22 (.int .i64 (m : Int)) (.int .i64 (m : Int))).run Try.prog W = .ok (.slice (some ⟨W.heap.size, 0, none⟩) m m) (W.alloc (.cells (madeCells zc (m * 4)) 25)) := fun m hm W => mkT m hm W
  have HmkT := Lib.hid hmkT; clear hmkT
  go_wp2
  go_loopw [8, 24] (fun a i wr => ∃ k : Nat, k ≤ xs.length ∧ i = .int .i64 k ∧ a = .int .i64 (maxV (xs.take k)) ∧ wr = w2) (fun _ i _ => xs.length - (intOf i).toNat)
  case atStart => exact ⟨0, Nat.zero_le _, rfl, rfl, rfl⟩
  case round =>
    obtain ⟨k, hk, rfl, rfl, rfl⟩ := hrel
    by_cases hlt : k < xs.length
    · obtain ⟨x, hx⟩ : ∃ x, xs[k]? = some x := ⟨_, List.getElem?_eq_getElem hlt⟩
      obtain ⟨g, off, rfl, e0⟩ := Hrd.out.atI hx
      have hts : maxV (xs.take (k + 1)) = max (maxV (xs.take k)) (x + 1) := by rw [take_snoc hx, maxV_snoc]
      have hxb := Hvr.out x (List.mem_of_getElem? hx)
      have hx0 : 0 ≤ x := hxb.1
      have hx1 : x ≤ 1000000 := by omega
      have Hts := Lib.hid hts; clear hts hx hxb
      obtain ⟨M, hM⟩ : ∃ M, M = maxV (xs.take k) := ⟨_, rfl⟩
      rw [← hM]
      have HM := Lib.hid hM; clear hM
      go_wp2
      go_roundw
      case rel => exact ⟨k + 1, by omega, by go_num, by rw [Hts.out, ← HM.out], trivial⟩
      case measure => simp [intOf]; omega
    · have hke : k = xs.length := by omega
      subst hke
      rw [List.take_length]
      have hmb := maxV_bd Hvr.out
      obtain ⟨m, hm⟩ : ∃ m : Nat, maxV xs = m := ⟨(maxV xs).toNat, by omega⟩
      rw [hm]
      have hm1 : m ≤ 100000 := by omega
      have hmk := HmkT.out m hm1
      have Hm := Lib.hid hm; clear hm hmb
      have hm0 : (0 : Int) ≤ (m : Int) := by omega
      have lx := HX2.out.lt
      have ly := HY2.out.lt
      obtain ⟨⟨a0, a1, a2, a3⟩, -⟩ := HX2.out.four
      obtain ⟨⟨b0, b1, b2, b3⟩, -⟩ := HY2.out.four
      have hbm : Below wr.heap.size wr (wr.alloc (.cells (madeCells zc (m * 4)) 25)) := (Below.refl _ _).alloc (Nat.le_refl _) _
      have hlr : (List.replicate m Tm.zero).length = m := List.length_replicate
      have hcall := match_calls t (fun g => g < w.heap.size) (wr.alloc (.cells (madeCells zc (m * 4)) 25)) _ _ u (List.replicate m Tm.zero) wr.heap.size ⟨A, c, rfl, hs, Hc2.out.stay hbm (Nat.le_refl _)⟩ ⟨B, d, rfl, hs', Hd2.out.stay hbm (Nat.le_refl _)⟩ (SubC.made _ _ _) (fun h hh => by omega) (by omega) (fun y hy hyk => by
        have h1 := var_bd (okB_pre t (isB_iff.1 Hok.out).1 y hy) hyk
        have h2 : y.n ∈ xs := by rw [Hxs.out]; exact varsFrom_has (by simpa [Tm.pres] using hy) hyk
        have h3 := maxV_gt h2
        rw [Hm.out] at h3
        exact ⟨h1.1, by omega⟩)
      rw [hlr] at hcall
      have hRe : R = if (t.mat u (List.replicate m Tm.zero)).2 = true then some (t.mat u (List.replicate m Tm.zero)).1 else none := by rw [Hr.out, matchR, ← Hxs.out, Hm.out]; rfl
      have hln := (Tm.mat_len t.size).1 t u (List.replicate m Tm.zero) (Nat.le_refl _)
      rw [hlr] at hln
      obtain ⟨⟨rs, rb⟩, hrr⟩ : ∃ r, r = t.mat u (List.replicate m Tm.zero) := ⟨_, rfl⟩
      have hmem := (Tm.mat_mem t.size).1 t u (List.replicate m Tm.zero) (Nat.le_refl _)
      rw [← hrr] at hcall hRe hln hmem
      have Hmem := Lib.hid (show ∀ x ∈ rs, x.size ≤ 1000000 from fun x hx => by
        have h2 := (isB_iff.1 Hou.out).2.1
        rcases hmem x hx with h | h
        · rw [(List.mem_replicate.1 h).2]; show (1 : Nat) + 0 ≤ _; omega
        · omega)
      clear hmem
      have HRe := Lib.hid hRe; clear hRe hrr
      have Hln := Lib.hid (show rs.length = m from hln); clear hln
      have Hcall3 := Lib.hid hcall; clear hcall
      have HBm := Lib.hid (HB3.out.trans (hbm.mono HB3.out.size)); clear hbm
      go_wp2_with fail
      refine Hcall3.out.mono ?_
      rintro e w3 ⟨rfl, hsb, hb3⟩
      have Hsb := Lib.hid (show SubC _ w3 wr.heap.size rs from hsb); clear hsb
      have HB4 := Lib.hid (HBm.out.trans (hb3.below (by have := HBm.out.size; omega) HBm.out.size)); clear hb3
      cases rb
      · have hr : R = none := by have := HRe.out; simpa using this
        subst hr
        go_wp2
        exact bodyPost_ret (v := .tuple #[.slice none 0 0, .bool false, .int .i64 0]) (by simp [results, Try.results35, go_sem]) rfl (R := RetMa w none _) ⟨none, 0, rfl, TmC.nil _ _ (by omega) (fun _ => rfl), HB4.out⟩
      · have hr : R = some rs := by have := HRe.out; simpa using this
        subst hr
        have HG := Lib.hid (show SubI (fun i j => (i < 0 ∧ w.heap.size ≤ j ∧ j ≠ wr.heap.size) ∨ (0 ≤ i ∧ j < w.heap.size)) w3 wr.heap.size rs from Hsb.out.toI.mono (fun i _ j hj => Or.inr ⟨Nat.zero_le _, hj⟩))
        have hrl := Hln.out
        have hwr : w.heap.size ≤ wr.heap.size := HB3.out.size
        go_wp2
        obtain ⟨G, hG⟩ : ∃ G, G = wr.heap.size := ⟨_, rfl⟩
        rw [← hG] at HG hwr ⊢
        clear hG
        go_loopw [42] (fun i wx => ∃ k : Nat, k ≤ m ∧ i = .int .i64 k ∧ (SubI (fun i j => (i < k ∧ w.heap.size ≤ j ∧ j ≠ G) ∨ (k ≤ i ∧ j < w.heap.size)) wx G rs ∧ Below w.heap.size w wx)) (fun i _ => m - (intOf i).toNat)
        case atStart => exact ⟨0, Nat.zero_le _, rfl, HG.out, HB4.out⟩
        case round =>
          obtain ⟨k, hk, rfl, hsi, hB⟩ := hrel
          have HB := Lib.hid hB; clear hB
          by_cases hkm : k < m
          · obtain ⟨x, hx⟩ : ∃ x, rs[k]? = some x := ⟨_, List.getElem?_eq_getElem (by omega)⟩
            obtain ⟨Ax, cx, e0, e1, e2, e3, hxs, hxc⟩ := hsi.cells hx
            have hxz := Hmem.out x (List.mem_of_getElem? hx)
            have hcall := copied_calls x _ _ _ ⟨Ax, cx, rfl, hxs, hxc⟩ hxz
            have Hcall4 := Lib.hid hcall; clear hcall hxc
            have Hx := Lib.hid hx; clear hx
            have Hsi := Lib.hid hsi; clear hsi
            go_wp2_with fail
            refine Hcall4.out.mono ?_
            rintro e w4 ⟨A5, c5, rfl, -, hx5, hb5⟩
            have hsi2 := Hsi.out.below hb5 (Nat.le_refl _)
            have hlG := Hsi.out.lt
            have hcs := hsi2.cells Hx.out
            obtain ⟨A6, c6, q0, q1, q2, q3, -, -⟩ := hcs
            have f0 := hsi2.frozen (k * 4)
            have f1 := hsi2.frozen (k * 4 + 1)
            have f2 := hsi2.frozen (k * 4 + 2)
            have f3 := hsi2.frozen (k * 4 + 3)
            have hBw := HB.out.size
            have hnew := SubI.put (R' := fun i j => (i < k + 1 ∧ w.heap.size ≤ j ∧ j ≠ G) ∨ (k + 1 ≤ i ∧ j < w.heap.size)) hsi2 Hx.out hxs (hx5.mono (fun j hj => Or.inl ⟨by omega, by omega, by omega⟩)) (fun i j hj => by omega) (fun i hi j hj => by omega)
            have Hnew := Lib.hid hnew; clear hnew hsi2 hx5
            have HB6 := Lib.hid ((((HB.out.trans (hb5.mono HB.out.size)).setCell (p := ⟨G, k * 4, none⟩) hwr (.int .i64 x.k)).setCell (p := ⟨G, k * 4 + 1, none⟩) hwr (.int .i64 x.n)).setCell (p := ⟨G, k * 4 + 2, none⟩) hwr (.string x.s) |>.setCell (p := ⟨G, k * 4 + 3, none⟩) hwr (.slice A5 x.l.length c5))
            clear hb5
            go_wp2
            go_roundw
            case rel => exact ⟨k + 1, by omega, by go_num, Hnew.out, HB6.out⟩
            case measure => simp [intOf]; omega
          · have hke : k = m := by omega
            subst hke
            have hfin : TmC (w.heap.size ≤ ·) wr (some ⟨G, 0, none⟩) rs.length rs := by
              obtain ⟨es, h1, h2, h3⟩ := hsi
              subst h1
              rw [List.length_map] at hrl ⊢
              refine TmC.lit es (fun e he => ?_) h2 hwr (by omega)
              obtain ⟨i, hi⟩ := List.mem_iff_getElem?.1 he
              have hil := (List.getElem?_eq_some_iff.1 hi).1
              exact ⟨(h3 i e hi).1, (h3 i e hi).2.mono (fun j hj => by omega)⟩
            have Hfin := Lib.hid hfin; clear hfin hsi
            go_wp2
            refine bodyPost_ret (v := .tuple #[.slice (some ⟨G, 0, none⟩) rs.length rs.length, .bool true, .int .i64 0]) (by simp [results, Try.results35, go_sem, hrl]) rfl (R := RetMa w (some rs) _) ⟨_, _, rfl, Hfin.out, HB.out⟩
end Go.Proofs.Ytfhgknmkpegpbaa

set_option linter.unusedVariables false
set_option linter.unusedSimpArgs false
namespace Go.Proofs.Ytfhgknmkpegpbaa
open Go.RowKit

/-- A map from numbers to numbers. -/
def MapN (W : World) (b n : Nat) (val : Int → Int) : Prop :=
  ∃ D : DataW Unit, W.ownsMap Try.prog 3 (plainElem Try.prog 3) b n D ∧ Maps.IsMap D ∧ ∀ x, D.atKey (.int .i64 x) (.lit (.int .i64 0)) = .lit (.int .i64 (val x))
theorem MapN.made (w : World) : MapN (w.alloc (.map #[] 0)) w.heap.size 0 (fun _ => 0) := ⟨_, World.ownsMap_made w _ _ _, Maps.isMap_empty, fun _ => rfl⟩
theorem MapN.kept {w w' : World} {b n : Nat} {m : Int → Int} {row : Option Nat} (h : MapN w b n m) (hg : w.grownBy w' row) (hne : some b ≠ row) : MapN w' b n m := by
  obtain ⟨D, h1, h2⟩ := h; exact ⟨D, h1.kept hg hne, h2⟩
theorem MapN.lt {w : World} {b n : Nat} {m : Int → Int} (h : MapN w b n m) : b < w.heap.size := by obtain ⟨D, h1, h2⟩ := h; exact h1.lt
theorem lit_inj {a b : Int} (h : (DataW.lit (Lit.int .i64 a) : DataW Unit) = .lit (.int .i64 b)) : a = b := by
  cases h; rfl
theorem MapN.lookup {w : World} {b n : Nat} {m : Int → Int} (h : MapN w b n m) {x : Int} (hx : (Lit.int .i64 x).wf = true) :
    (Instr.lookup 98 (.map (some b)) (.int .i64 x) false).run Try.prog w = .ok (.int .i64 (m x)) w := by
  obtain ⟨D, h1, -, h2⟩ := h
  obtain ⟨c, hrun, hat, -⟩ := h1.lookup_int (Maps.int_keyed Try.underlying3) Try.underlying98 Try.underlying3 (Try.zeroValue3 _) (Maps.keyOf_int_mk Try.underlying3 hx)
  rw [h2] at hat
  rw [show m x = c from lit_inj hat]
  exact hrun
theorem MapN.put {w : World} {b n : Nat} {D : DataW Unit} {m : Int → Int} {x y : Int} (h1 : w.ownsMap Try.prog 3 (plainElem Try.prog 3) b n (D.put (.int .i64 x) (.lit (.int .i64 y)))) (hm : Maps.IsMap D)
    (h2 : ∀ x, D.atKey (.int .i64 x) (.lit (.int .i64 0)) = .lit (.int .i64 (m x))) : MapN w b n (fun z => if z = x then y else m z) := by
  refine ⟨_, h1, ?_, fun z => ?_⟩
  · obtain ⟨es, rfl⟩ := hm; exact ⟨_, rfl⟩
  · by_cases h : z = x
    · subst h
      rw [Maps.atKey_put_same hm (show WideAt.IsKeyLit (.int .i64 z) from trivial)]; simp
    · rw [Maps.atKey_put_other (by simpa using h), h2]
      show _ = DataW.lit (Lit.int .i64 (if z = x then y else m z))
      rw [if_neg h]
theorem int_wf {n : Int} (h0 : 0 ≤ n) (h1 : n < 100000) : (Lit.int .i64 n).wf = true := by
  unfold Lit.wf
  simp [IntKind.min, IntKind.max, IntKind.bits, IntKind.signed]
  omega
def nowF (val : Int → Int) (n : Int) : Option Tm := some (Tm.va (val n))

set_option maxRecDepth 100000 in
set_option maxHeartbeats 4000000 in
theorem normal1_calls (Q : Nat → Prop) (cb mb k : Nat) (val : Int → Int) (w : World) (n : Int) (hb : Blk w cb 98 #[.map (some mb)]) (hm : MapN w mb k val) (h0 : 0 ≤ n) (h1 : n < 100000) :
    Calls Try.prog 86 #[.int .i64 n, .pointer (some ⟨cb, 0, none⟩)] w (RetP Q w (nowF val n)) := by
  have hlook := (hm.kept (World.grownBy_alloc w (.cells #[.int .i64 0, .int .i64 0, .string ⟨#[]⟩, .slice none 0 0] 25) none) (by simp)).lookup (int_wf h0 h1)
  have hlt := hb.lt
  obtain ⟨b0, -⟩ := Blk.one hb
  clear hm hb h0 h1
  go_enter Try.func86, Try.ntmps86
  go_wp2
  refine bodyPost_ret (v := .tuple #[.agg #[.int .i64 1, .int .i64 (val n), .string ⟨#[]⟩, .slice none 0 0], .bool true]) (by simp [results, Try.results86, go_sem]) rfl (R := RetP Q w _) ⟨none, 0, rfl, by show (0 : Nat) ≤ _; omega, TmC.nil _ _ (by omega) (fun _ => rfl), ?_⟩
  exact (Below.refl _ _).alloc (Nat.le_refl _) _
end Go.Proofs.Ytfhgknmkpegpbaa

set_option linter.unusedVariables false
set_option linter.unusedSimpArgs false
namespace Go.Proofs.Ytfhgknmkpegpbaa
open Go.RowKit

/-- The numbers that a list of numbers gives to its elements. -/
def nowOf (xs : List Int) (k : Nat) : Int → Int := fun z => if z ∈ xs.take k then ((xs.take k).idxOf z : Int) else 0
theorem nowOf_zero (xs : List Int) : nowOf xs 0 = fun _ => 0 := by funext z; simp [nowOf]
theorem nowOf_succ {xs : List Int} {k : Nat} {x : Int} (hx : xs[k]? = some x) (hn : x ∉ xs.take k) : nowOf xs (k + 1) = fun z => if z = x then (k : Int) else nowOf xs k z := by
  funext z
  have hl : (xs.take k).length = k := by have := (List.getElem?_eq_some_iff.1 hx).1; rw [List.length_take]; omega
  unfold nowOf
  rw [take_snoc hx]
  by_cases h : z = x
  · subst h
    rw [if_pos (by simp), if_pos rfl, List.idxOf_append, if_neg hn]
    simp [hl]
  · rw [if_neg h]
    by_cases hm : z ∈ xs.take k
    · rw [if_pos (by simp [hm]), if_pos hm, List.idxOf_append, if_pos hm]
    · rw [if_neg (by simp [hm, h]), if_neg hm]
/-- What Normal gives for one tree. -/
def normT (val : Int → Int) (t : Tm) : Tm := (repT (nowF val) t).getD Tm.zero
theorem varsFrom_nodup {acc : List Int} {l : List Tm} (h : acc.Nodup) : (varsFrom acc l).Nodup := by
  induction l generalizing acc with
  | nil => exact h
  | cons t l ih =>
    refine ih (acc := varsAcc acc t) ?_
    unfold varsAcc
    split
    · rename_i hc
      rw [List.nodup_append]
      exact ⟨h, by simp, fun a ha b hb => by rw [List.mem_singleton.1 hb]; exact fun e => hc.2 (e ▸ ha)⟩
    · exact h
end Go.Proofs.Ytfhgknmkpegpbaa

set_option linter.unusedVariables false
set_option linter.unusedSimpArgs false
namespace Go.Proofs.Ytfhgknmkpegpbaa
open Go.RowKit

def b8 (n : Int) : List UInt8 := (List.range 8).map fun k => UInt8.ofNat ((n / (2 ^ (8 * k) : Int)) % 256).toNat
theorem b8_len (n : Int) : (b8 n).length = 8 := by simp [b8]
theorem u8_inj {a b : Int} (ha : 0 ≤ a) (ha2 : a < 256) (hb : 0 ≤ b) (hb2 : b < 256) (h : UInt8.ofNat a.toNat = UInt8.ofNat b.toNat) : a = b := by
  have h1 := congrArg UInt8.toNat h
  rw [UInt8.toNat_ofNat', UInt8.toNat_ofNat'] at h1
  omega
theorem b8_inj {n m : Int} (hn : -9223372036854775808 ≤ n) (hn2 : n ≤ 9223372036854775807) (hm : -9223372036854775808 ≤ m) (hm2 : m ≤ 9223372036854775807) (h : b8 n = b8 m) : n = m := by
  have key : ∀ k, k < 8 → (n / (2 ^ (8 * k) : Int)) % 256 = (m / (2 ^ (8 * k) : Int)) % 256 := fun k hk => by
    have h1 := congrArg (fun l => l[k]?) h
    simp only [b8, List.getElem?_map, List.getElem?_range hk, Option.map_some] at h1
    injection h1 with h1
    exact u8_inj (Int.emod_nonneg _ (by omega)) (Int.emod_lt_of_pos _ (by omega)) (Int.emod_nonneg _ (by omega)) (Int.emod_lt_of_pos _ (by omega)) h1
  have k0 := key 0 (by omega)
  have k1 := key 1 (by omega)
  have k2 := key 2 (by omega)
  have k3 := key 3 (by omega)
  have k4 := key 4 (by omega)
  have k5 := key 5 (by omega)
  have k6 := key 6 (by omega)
  have k7 := key 7 (by omega)
  simp at k0 k1 k2 k3 k4 k5 k6 k7
  clear key h
  omega
mutual
/-- The text of a tree. -/
def Tm.txt : Tm → List UInt8 | .mk k n s l => b8 k ++ (b8 n ++ (b8 s.size ++ (b8 l.length ++ (s.data.toList ++ Tm.txts l))))
def Tm.txts : List Tm → List UInt8
  | [] => []
  | t :: ts => Tm.txt t ++ Tm.txts ts
end
theorem Tm.txt_eq (t : Tm) : t.txt = b8 t.k ++ (b8 t.n ++ (b8 t.s.size ++ (b8 t.l.length ++ (t.s.data.toList ++ Tm.txts t.l)))) := by cases t; rw [Tm.txt]; rfl
theorem Tm.txts_append (a b : List Tm) : Tm.txts (a ++ b) = Tm.txts a ++ Tm.txts b := by
  induction a with
  | nil => rfl
  | cons x a ih => rw [List.cons_append, Tm.txts, Tm.txts, ih, List.append_assoc]
def fitN (t : Tm) : Prop := (-9223372036854775808 ≤ t.k ∧ t.k ≤ 9223372036854775807) ∧ (-9223372036854775808 ≤ t.n ∧ t.n ≤ 9223372036854775807) ∧ t.s.size ≤ 9223372036854775807 ∧ t.l.length ≤ 9223372036854775807
theorem b8_app {n m : Int} {r r' : List UInt8} (hn : -9223372036854775808 ≤ n) (hn2 : n ≤ 9223372036854775807) (hm : -9223372036854775808 ≤ m) (hm2 : m ≤ 9223372036854775807) (h : b8 n ++ r = b8 m ++ r') : n = m ∧ r = r' := by
  obtain ⟨h1, h2⟩ := List.append_inj h (by rw [b8_len, b8_len])
  exact ⟨b8_inj hn hn2 hm hm2 h1, h2⟩
theorem Tm.txt_inj (N : Nat) : (∀ (t u : Tm) (r r' : List UInt8), t.size ≤ N → (∀ x ∈ t.pre, fitN x) → (∀ x ∈ u.pre, fitN x) → t.txt ++ r = u.txt ++ r' → t = u ∧ r = r') ∧
    (∀ (xs ys : List Tm) (r r' : List UInt8), Tm.sizes xs ≤ N → (∀ x ∈ Tm.pres xs, fitN x) → (∀ x ∈ Tm.pres ys, fitN x) → xs.length = ys.length → Tm.txts xs ++ r = Tm.txts ys ++ r' → xs = ys ∧ r = r') := by
  induction N with
  | zero =>
    refine ⟨fun t u r r' h => by have := t.size_pos; omega, fun xs ys r r' h hx hy hl he => ?_⟩
    cases xs with
    | nil => cases ys with
      | nil => exact ⟨rfl, he⟩
      | cons y ys => simp at hl
    | cons a l => rw [Tm.sizes] at h; have := a.size_pos; omega
  | succ n ih =>
    have h1 : ∀ (t u : Tm) (r r' : List UInt8), t.size ≤ n + 1 → (∀ x ∈ t.pre, fitN x) → (∀ x ∈ u.pre, fitN x) → t.txt ++ r = u.txt ++ r' → t = u ∧ r = r' := fun t u r r' h ht hu he => by
      rw [t.size_eq] at h
      rw [t.pre_eq] at ht
      rw [u.pre_eq] at hu
      rw [t.txt_eq, u.txt_eq] at he
      simp only [List.append_assoc] at he
      obtain ⟨a1, a2, a3, a4⟩ := ht t (List.mem_cons_self ..)
      obtain ⟨c1, c2, c3, c4⟩ := hu u (List.mem_cons_self ..)
      obtain ⟨e1, he⟩ := b8_app a1.1 a1.2 c1.1 c1.2 he
      obtain ⟨e2, he⟩ := b8_app a2.1 a2.2 c2.1 c2.2 he
      obtain ⟨e3, he⟩ := b8_app (by omega) (by omega) (by omega) (by omega) he
      obtain ⟨e4, he⟩ := b8_app (by omega) (by omega) (by omega) (by omega) he
      obtain ⟨e5, he⟩ := List.append_inj he (by show t.s.data.size = u.s.data.size; exact Int.ofNat.inj e3)
      obtain ⟨e6, he⟩ := ih.2 t.l u.l r r' (by omega) (fun x hx => ht x (List.mem_cons_of_mem _ hx)) (fun x hx => hu x (List.mem_cons_of_mem _ hx)) (Int.ofNat.inj e4) he
      refine ⟨?_, he⟩
      cases t with | mk k1 n1 s1 l1 =>
      cases u with | mk k2 n2 s2 l2 =>
      have e1' : k1 = k2 := e1
      have e2' : n1 = n2 := e2
      have e6' : l1 = l2 := e6
      have e5' : s1 = s2 := by
        cases s1; cases s2
        congr 1
        exact Array.toList_inj.1 e5
      rw [e1', e2', e5', e6']
    refine ⟨h1, fun xs => ?_⟩
    induction xs with
    | nil =>
      intro ys r r' h hx hy hl he
      cases ys with
      | nil => exact ⟨rfl, he⟩
      | cons y ys => simp at hl
    | cons a l ihl =>
      intro ys r r' h hx hy hl he
      rw [Tm.sizes] at h
      cases ys with
      | nil => simp at hl
      | cons y ys =>
        rw [Tm.txts, Tm.txts, List.append_assoc, List.append_assoc] at he
        rw [Tm.pres] at hx hy
        obtain ⟨q1, he⟩ := h1 a y _ _ (by omega) (fun x hx' => hx x (List.mem_append_left _ hx')) (fun x hx' => hy x (List.mem_append_left _ hx')) he
        obtain ⟨q2, he⟩ := ihl ys r r' (by omega) (fun x hx' => hx x (List.mem_append_right _ hx')) (fun x hx' => hy x (List.mem_append_right _ hx')) (by simpa using hl) he
        exact ⟨by rw [q1, q2], he⟩
end Go.Proofs.Ytfhgknmkpegpbaa

set_option linter.unusedVariables false
set_option linter.unusedSimpArgs false
namespace Go.Proofs.Ytfhgknmkpegpbaa
open Go.RowKit

noncomputable section
open Classical in
/-- The index of a pair (the length, if it is not there), and the list with it. -/
def pidx (p : List (Tm × Tm)) (q : Tm × Tm) : Nat := p.findIdx (fun x => decide (x = q))
open Classical in
def padd (p : List (Tm × Tm)) (q : Tm × Tm) : List (Tm × Tm) := if q ∈ p then p else p ++ [q]
mutual
/-- The program's generalization, with the pairs for which variables stand. -/
def Tm.gen : Tm → Tm → List (Tm × Tm) → Tm × List (Tm × Tm)
  | .mk k n s l, u, p => if k = u.k ∧ k ≠ 1 ∧ n = u.n ∧ s.toList = u.s.toList ∧ l.length = u.l.length then (.mk k n s (Tm.gens l u.l p).1, (Tm.gens l u.l p).2) else (Tm.va (pidx p (.mk k n s l, u)), padd p (.mk k n s l, u))
def Tm.gens : List Tm → List Tm → List (Tm × Tm) → List Tm × List (Tm × Tm)
  | [], _, p => ([], p)
  | _ :: _, [], p => ([], p)
  | x :: xs, y :: ys, p => ((Tm.gen x y p).1 :: (Tm.gens xs ys (Tm.gen x y p).2).1, (Tm.gens xs ys (Tm.gen x y p).2).2)
end
end
theorem Tm.gen_eq (t u : Tm) (p : List (Tm × Tm)) : t.gen u p = if t.k = u.k ∧ t.k ≠ 1 ∧ t.n = u.n ∧ t.s.toList = u.s.toList ∧ t.l.length = u.l.length then (.mk t.k t.n t.s (Tm.gens t.l u.l p).1, (Tm.gens t.l u.l p).2) else (Tm.va (pidx p (t, u)), padd p (t, u)) := by
  cases t; rw [Tm.gen]; rfl
theorem Tm.gens_nil (ys : List Tm) (p : List (Tm × Tm)) : Tm.gens [] ys p = ([], p) := by rw [Tm.gens]
theorem Tm.gens_cons (x y : Tm) (xs ys : List Tm) (p : List (Tm × Tm)) : Tm.gens (x :: xs) (y :: ys) p = ((Tm.gen x y p).1 :: (Tm.gens xs ys (Tm.gen x y p).2).1, (Tm.gens xs ys (Tm.gen x y p).2).2) := by rw [Tm.gens]
/-- One more element. -/
theorem Tm.gens_snoc {xs ys : List Tm} {x y : Tm} (hl : xs.length = ys.length) (p : List (Tm × Tm)) :
    Tm.gens (xs ++ [x]) (ys ++ [y]) p = ((Tm.gens xs ys p).1 ++ [(Tm.gen x y (Tm.gens xs ys p).2).1], (Tm.gen x y (Tm.gens xs ys p).2).2) := by
  induction xs generalizing ys p with
  | nil =>
    cases ys with
    | nil => rw [List.nil_append, List.nil_append, Tm.gens_cons, Tm.gens_nil, Tm.gens_nil]; rfl
    | cons y' ys => simp at hl
  | cons a xs ih =>
    cases ys with
    | nil => simp at hl
    | cons b ys =>
      rw [List.cons_append, List.cons_append, Tm.gens_cons, Tm.gens_cons, ih (by simpa using hl)]
      rfl
theorem Tm.gens_len {xs ys : List Tm} (hl : xs.length = ys.length) (p : List (Tm × Tm)) : (Tm.gens xs ys p).1.length = xs.length := by
  induction xs generalizing ys p with
  | nil => rw [Tm.gens_nil]
  | cons a xs ih =>
    cases ys with
    | nil => simp at hl
    | cons b ys => rw [Tm.gens_cons, List.length_cons, ih (by simpa using hl)]; rfl
/-- What generalization keeps: the pairs grow by at most one for each node, each a pair of nodes of both trees; no pair twice. -/
theorem Tm.gen_pairs (F : Tm → Prop) (N : Nat) : (∀ (t u : Tm) (p : List (Tm × Tm)), t.size ≤ N → (∀ x ∈ t.pre, F x) → (∀ x ∈ u.pre, F x) → p.Nodup → (∀ q ∈ p, (∀ x ∈ q.1.pre, F x) ∧ ∀ x ∈ q.2.pre, F x) →
      (t.gen u p).2.length ≤ p.length + t.size ∧ (t.gen u p).2.Nodup ∧ ∀ q ∈ (t.gen u p).2, (∀ x ∈ q.1.pre, F x) ∧ ∀ x ∈ q.2.pre, F x) ∧
    (∀ (xs ys : List Tm) (p : List (Tm × Tm)), Tm.sizes xs ≤ N → (∀ x ∈ Tm.pres xs, F x) → (∀ x ∈ Tm.pres ys, F x) → p.Nodup → (∀ q ∈ p, (∀ x ∈ q.1.pre, F x) ∧ ∀ x ∈ q.2.pre, F x) →
      (Tm.gens xs ys p).2.length ≤ p.length + Tm.sizes xs ∧ (Tm.gens xs ys p).2.Nodup ∧ ∀ q ∈ (Tm.gens xs ys p).2, (∀ x ∈ q.1.pre, F x) ∧ ∀ x ∈ q.2.pre, F x) := by
  induction N with
  | zero =>
    refine ⟨fun t u p h => by have := t.size_pos; omega, fun xs ys p h hx hy hn hp => ?_⟩
    cases xs with
    | nil => rw [Tm.gens_nil]; exact ⟨Nat.le_add_right _ _, hn, hp⟩
    | cons a l => rw [Tm.sizes] at h; have := a.size_pos; omega
  | succ n ih =>
    have h1 : ∀ (t u : Tm) (p : List (Tm × Tm)), t.size ≤ n + 1 → (∀ x ∈ t.pre, F x) → (∀ x ∈ u.pre, F x) → p.Nodup → (∀ q ∈ p, (∀ x ∈ q.1.pre, F x) ∧ ∀ x ∈ q.2.pre, F x) →
      (t.gen u p).2.length ≤ p.length + t.size ∧ (t.gen u p).2.Nodup ∧ ∀ q ∈ (t.gen u p).2, (∀ x ∈ q.1.pre, F x) ∧ ∀ x ∈ q.2.pre, F x := fun t u p h hx hy hn hp => by
      have hsz := t.size_eq
      rw [Tm.gen_eq]
      split
      · obtain ⟨a1, a2, a3⟩ := ih.2 t.l u.l p (by omega) (fun x h => hx x (by rw [t.pre_eq]; exact List.mem_cons_of_mem _ h)) (fun x h => hy x (by rw [u.pre_eq]; exact List.mem_cons_of_mem _ h)) hn hp
        exact ⟨by simp only; omega, a2, a3⟩
      · simp only
        unfold padd
        split
        · exact ⟨by omega, hn, hp⟩
        · rename_i hnp
          refine ⟨by simp; omega, ?_, fun q hq => ?_⟩
          · rw [List.nodup_append]
            exact ⟨hn, by simp, fun a ha b hb => by rw [List.mem_singleton.1 hb]; exact fun e => hnp (e ▸ ha)⟩
          · rcases List.mem_append.1 hq with hq | hq
            · exact hp q hq
            · rw [List.mem_singleton.1 hq]; exact ⟨hx, hy⟩
    refine ⟨h1, fun xs => ?_⟩
    induction xs with
    | nil => intro ys p h hx hy hn hp; rw [Tm.gens_nil]; exact ⟨Nat.le_add_right _ _, hn, hp⟩
    | cons a l ihl =>
      intro ys p h hx hy hn hp
      cases ys with
      | nil => rw [Tm.gens]; exact ⟨Nat.le_add_right _ _, hn, hp⟩
      | cons y ys =>
        rw [Tm.sizes] at h ⊢
        rw [Tm.pres] at hx hy
        rw [Tm.gens_cons]
        obtain ⟨a1, a2, a3⟩ := h1 a y p (by omega) (fun x hx' => hx x (List.mem_append_left _ hx')) (fun x hx' => hy x (List.mem_append_left _ hx')) hn hp
        obtain ⟨b1, b2, b3⟩ := ihl ys (Tm.gen a y p).2 (by omega) (fun x hx' => hx x (List.mem_append_right _ hx')) (fun x hx' => hy x (List.mem_append_right _ hx')) a2 a3
        exact ⟨by simp only; omega, b2, b3⟩
end Go.Proofs.Ytfhgknmkpegpbaa

set_option linter.unusedVariables false
set_option linter.unusedSimpArgs false
namespace Go.Proofs.Ytfhgknmkpegpbaa
open Go.RowKit

/-- A strings.Builder that holds bytes. -/
def Bld (W : World) (B b : Nat) (bs : List UInt8) : Prop := Lib.IsBuilderF 149 5 B b (Lib.byteCells bs) W
theorem writeByte_calls (B b : Nat) (bs : List UInt8) (c : Int) (x : UInt8) (w : World) (h : Bld w B b bs) (hc : c = (x.toNat : Int)) (hlen : bs.length + 1 ≤ 140737488355328) (hBw : B ≤ w.heap.size) :
    Calls Try.prog 148 #[.pointer (some ⟨b, 0, none⟩), .int .u8 c] w fun e w' => e = .returned .nilIface ∧ Bld w' B b (bs ++ [x]) ∧ Below B w w' ∧ Lib.OthersKept 5 (some b) w w' := by
  have h1 : Calls Try.prog 148 #[.pointer (some ⟨b, 0, none⟩), .int .u8 c] w fun e w' => e = .returned .nilIface ∧ (Lib.BuilderAtF 149 5 B b (.pointer (some ⟨b, 0, none⟩)) (Lib.byteCells bs ++ [.int .u8 c]) w' ∧ Below B w w' ∧ Lib.OthersKept 5 (some b) w w') :=
    Any.Builder_WriteByte_k Try.lays167 Try.Builder_ExtraB B b (Lib.byteCells bs) c w h (by rw [Lib.byteCells_length]; exact hlen) hBw
  refine h1.mono ?_
  rintro e w' ⟨rfl, h2, h3, h4⟩
  refine ⟨rfl, .inr ?_, h3, h4⟩
  rw [Lib.byteCells_append, show Lib.byteCells [x] = [Value.int .u8 c] from by rw [hc]; rfl]
  exact h2
theorem writeString_calls (B b : Nat) (bs : List UInt8) (s : ByteArray) (w : World) (h : Bld w B b bs) (hlen : bs.length + s.size ≤ 140737488355328) (hBw : B ≤ w.heap.size) :
    Calls Try.prog 149 #[.pointer (some ⟨b, 0, none⟩), .string s] w fun e w' => e = .returned (.tuple #[.int .i64 s.size, .nilIface]) ∧ Bld w' B b (bs ++ s.data.toList) ∧ Below B w w' ∧ Lib.OthersKept 5 (some b) w w' := by
  have h1 : Calls Try.prog 149 #[.pointer (some ⟨b, 0, none⟩), .string s] w fun e w' => e = .returned (.tuple #[.int .i64 s.size, .nilIface]) ∧ (Lib.BuilderAtF 149 5 B b (.pointer (some ⟨b, 0, none⟩)) (Lib.byteCells bs ++ Lib.strCells s) w' ∧ Below B w w' ∧ Lib.OthersKept 5 (some b) w w') :=
    Any.Builder_WriteString_k Try.lays166 Try.Builder_ExtraB B b (Lib.byteCells bs) s w h (by rw [Lib.byteCells_length]; exact hlen) hBw
  refine h1.mono ?_
  rintro e w' ⟨rfl, h2, h3, h4⟩
  refine ⟨rfl, .inr ?_, h3, h4⟩
  rw [Lib.byteCells_append, ← Lib.strCells_eq]
  exact h2
theorem string_calls (B b : Nat) (bs : List UInt8) (w : World) (h : Bld w B b bs) (hBw : B ≤ w.heap.size) :
    Calls Try.prog 131 #[.pointer (some ⟨b, 0, none⟩)] w fun e w' => e = .returned (.string ⟨bs.toArray⟩) ∧ Bld w' B b bs ∧ Below B w w' ∧ Lib.OthersKept 5 (some b) w w' :=
  Any.Builder_String_any_k Try.lays169b Try.Builder_ExtraB B b bs w h hBw
theorem Bld.alloc {W : World} {B b : Nat} {bs : List UInt8} (h : Bld W B b bs) (o : Obj) : Bld (W.alloc o) B b bs := Lib.IsBuilderF.alloc h o
theorem Bld.lt {W : World} {B b : Nat} {bs : List UInt8} (h : Bld W B b bs) : b < W.heap.size := by
  rcases h with h | h
  · exact h.lt
  · exact h.lt
theorem Blk.others {W W' : World} {g b T : Nat} {cs : Array Value} (h : Blk W g T cs) (hk : Lib.OthersKept 5 (some b) W W') (hg : g ≠ b) (hT : T ≠ 5) : Blk W' g T cs :=
  hk g _ h (by simpa using hg) (fun c fz e => by injection e with _ e2; exact hT e2)
def RetTx (w : World) (B b : Nat) (bs : List UInt8) (e : Ending) (w' : World) : Prop := e = .returned (.tuple #[]) ∧ Bld w' B b bs ∧ Below B w w' ∧ Lib.OthersKept 5 (some b) w w'

set_option maxRecDepth 100000 in
set_option maxHeartbeats 4000000 in
theorem text_calls (t : Tm) : ∀ (P : Nat → Prop) (B b : Nat) (bs : List UInt8) (w : World) (v : Value), TmV P w v t → (∀ g, P g → g < B) → B ≤ b → Bld w B b bs → B ≤ w.heap.size → bs.length + t.txt.length ≤ 1000000000 → (∀ x ∈ t.pre, fitN x) →
    Calls Try.prog 130 #[.pointer (some ⟨b, 0, none⟩), v] w (RetTx w B b (bs ++ t.txt)) := by
  induction t using Tm.ind with
  | h t ih =>
    intro P B b bs w v hv hP hBb hbl hBw hlen hfit
    obtain ⟨A, c, rfl, hs, hc⟩ := hv
    have Ih := Lib.hid ih; clear ih
    have hlc := hc.len.1
    have hlm := hc.len.2.1
    have hlt := hbl.lt
    have hf := hfit t (by rw [t.pre_eq]; exact List.mem_cons_self ..)
    obtain ⟨ns, hns⟩ : ∃ ns : List Int, ns = [t.k, t.n, (t.s.size : Int), (t.l.length : Int)] := ⟨_, rfl⟩
    have htxt : t.txt = ns.flatMap b8 ++ (t.s.data.toList ++ Tm.txts t.l) := by rw [t.txt_eq, hns]; simp
    have hnl : ns.length = 4 := by rw [hns]; rfl
    obtain ⟨W0, hW0⟩ : ∃ W0, W0 = w.alloc (.cells #[.int .i64 t.k, .int .i64 t.n, .string t.s, .slice A t.l.length c] 25) := ⟨_, rfl⟩
    have hX0 : Blk W0 w.heap.size 25 #[.int .i64 t.k, .int .i64 t.n, .string t.s, .slice A t.l.length c] := by rw [hW0]; exact Blk.new _ _ _
    have hl0 : Bld W0 B b bs := by rw [hW0]; exact hbl.alloc _
    have hB0 : Below B w W0 := by rw [hW0]; exact (Below.refl _ _).alloc hBw _
    have hO0 : Lib.OthersKept 5 (some b) w W0 := by rw [hW0]; exact (Lib.OthersKept.refl _ _ _).alloc _
    have hc0 : TmC P W0 A c t.l := hc.belowP hB0 hP
    have hsz0 : W0.heap.size = w.heap.size + 1 := by rw [hW0]; simp
    obtain ⟨⟨a0, a1, a2, a3⟩, -⟩ := hX0.four
    have Hfit := Lib.hid hfit; clear hfit
    have Hlen := Lib.hid hlen; clear hlen
    have Htxt := Lib.hid htxt; clear htxt
    have Hf := Lib.hid hf; clear hf
    have HX0 := Lib.hid hX0; clear hX0
    have Hl0 := Lib.hid hl0; clear hl0 hbl
    have HB0 := Lib.hid hB0; clear hB0
    have HO0 := Lib.hid hO0; clear hO0
    have Hc := Lib.hid (hc.mono (Q := P) (fun g h => h)); clear hc0 hc
    have HP := Lib.hid hP; clear hP
    have HW := Lib.hid hW0; clear hW0
    have Hsz := Lib.hid hsz0; clear hsz0
    have Hns := Lib.hid hns; clear hns
    go_enter Try.func130, Try.ntmps130
    go_wp2_with fail
    rw [← HW.out]
    go_wp2
    obtain ⟨G, hG⟩ : ∃ G, G = w.heap.size + 1 := ⟨_, rfl⟩
    have hb3 := Blk.new W0 3 #[.int .i64 t.k, .int .i64 t.n, .int .i64 t.s.size, .int .i64 t.l.length]
    rw [Hsz.out, ← hG] at hb3
    obtain ⟨W1, hW1⟩ : ∃ W1, W1 = W0.alloc (.cells #[.int .i64 t.k, .int .i64 t.n, .int .i64 t.s.size, .int .i64 t.l.length] 3) := ⟨_, rfl⟩
    have hI : Hid (Blk W1 w.heap.size 25 #[.int .i64 t.k, .int .i64 t.n, .string t.s, .slice A t.l.length c] ∧ Blk W1 G 3 #[.int .i64 t.k, .int .i64 t.n, .int .i64 t.s.size, .int .i64 t.l.length] ∧ Below B w W1 ∧ Lib.OthersKept 5 (some b) w W1) := by
      refine Lib.hid ⟨?_, ?_, ?_, ?_⟩
      · rw [hW1]; exact HX0.out.alloc _
      · rw [hW1]; exact hb3
      · rw [hW1]; exact HB0.out.alloc (by have := Hsz.out; omega) _
      · rw [hW1]; exact HO0.out.alloc _
    have hL1 : Hid (Bld W1 B b bs) := Lib.hid (by rw [hW1]; exact Hl0.out.alloc _)
    have hGb : b < G := by rw [hG]; omega
    rw [← hW1, ← hG]
    have HG := Lib.hid hG; clear hG hb3 hW1
    go_loopw [21] (fun i wr => ∃ j : Nat, j ≤ 4 ∧ i = .int .i64 j ∧ Hid (Bld wr B b (bs ++ (ns.take j).flatMap b8)) ∧ Hid (Blk wr w.heap.size 25 #[.int .i64 t.k, .int .i64 t.n, .string t.s, .slice A t.l.length c] ∧ Blk wr G 3 #[.int .i64 t.k, .int .i64 t.n, .int .i64 t.s.size, .int .i64 t.l.length] ∧ Below B w wr ∧ Lib.OthersKept 5 (some b) w wr)) (fun i _ => 4 - (intOf i).toNat)
    case atStart => exact ⟨0, by omega, rfl, by simpa using hL1, hI⟩
    case round =>
      obtain ⟨j, hj, rfl, HL, HI⟩ := hrel
      by_cases hlt4 : j < 4
      · obtain ⟨n, hn⟩ : ∃ n, ns[j]? = some n := ⟨_, List.getElem?_eq_getElem (by omega)⟩
        have e0 : wr.cell? ⟨G, j, none⟩ = some (.int .i64 n) := by
          rw [HI.out.2.1.cell j]
          rw [Hns.out] at hn
          match j, hlt4, hn with
          | 0, _, hn => simp at hn; rw [← hn]; rfl
          | 1, _, hn => simp at hn; rw [← hn]; rfl
          | 2, _, hn => simp at hn; rw [← hn]; rfl
          | 3, _, hn => simp at hn; rw [← hn]; rfl
        have hnb : -9223372036854775808 ≤ n ∧ n ≤ 9223372036854775807 := by
          have hf := Hf.out
          unfold fitN at hf
          rw [Hns.out] at hn
          match j, hlt4, hn with
          | 0, _, hn => simp at hn; omega
          | 1, _, hn => simp at hn; omega
          | 2, _, hn => simp at hn; omega
          | 3, _, hn => simp at hn; omega
        have Hnb := Lib.hid hnb; clear hnb
        have d4 : decide ((j : Int) < 4) = true := decide_eq_true (by omega)
        have Htk := Lib.hid (show (ns.take (j + 1)).flatMap b8 = (ns.take j).flatMap b8 ++ b8 n from by rw [take_snoc hn]; simp)
        have hln : (bs ++ (ns.take j).flatMap b8).length + 8 ≤ 1000000000 := by
          have h1 := Hlen.out
          rw [Htxt.out] at h1
          have h2 : ((ns.take (j + 1)).flatMap b8).length ≤ (ns.flatMap b8).length := by
            conv => rhs; rw [← List.take_append_drop (j + 1) ns, List.flatMap_append, List.length_append]
            omega
          rw [Htk.out] at h2
          simp only [List.length_append, b8_len] at h1 h2 ⊢
          omega
        have Hln := Lib.hid hln; clear hln hn
        go_wp2
        go_loopw [25] (fun i wr => ∃ k : Nat, k ≤ 8 ∧ i = .int .i64 k ∧ Hid (Bld wr B b (bs ++ (ns.take j).flatMap b8 ++ (b8 n).take k)) ∧ Hid (Blk wr w.heap.size 25 #[.int .i64 t.k, .int .i64 t.n, .string t.s, .slice A t.l.length c] ∧ Blk wr G 3 #[.int .i64 t.k, .int .i64 t.n, .int .i64 t.s.size, .int .i64 t.l.length] ∧ Below B w wr ∧ Lib.OthersKept 5 (some b) w wr)) (fun i _ => 8 - (intOf i).toNat)
        case atStart => exact ⟨0, by omega, rfl, by simpa using HL, HI⟩
        case round =>
          obtain ⟨k, hk, rfl, HL2, HI2⟩ := hrel
          by_cases hlt8 : k < 8
          · obtain ⟨x, hx⟩ : ∃ x, x = UInt8.ofNat ((n / (2 ^ (8 * k) : Int)) % 256).toNat := ⟨_, rfl⟩
            have hxc : n / 2 ^ (8 * k) % 256 = (x.toNat : Int) := by
              rw [hx, UInt8.toNat_ofNat']
              have h1 := Int.emod_nonneg (n / 2 ^ (8 * k)) (show (256 : Int) ≠ 0 by omega)
              have h2 := Int.emod_lt_of_pos (n / 2 ^ (8 * k)) (show (0 : Int) < 256 by omega)
              omega
            have hxk : (b8 n)[k]? = some x := by
              simp only [b8, List.getElem?_map, List.getElem?_range hlt8, Option.map_some]
              rw [hx]
            have Htk8 := Lib.hid (show (b8 n).take (k + 1) = (b8 n).take k ++ [x] from take_snoc hxk)
            have hcall := writeByte_calls B b (bs ++ (ns.take j).flatMap b8 ++ (b8 n).take k) (n / 2 ^ (8 * k) % 256) x wr HL2.out hxc (by have := Hln.out; have h3 := List.length_take_le k (b8 n); rw [List.length_append]; omega) (by have := HI2.out.2.2.1.size; omega)
            have Hcall := Lib.hid hcall; clear hcall hxc hxk hx
            go_wp2_with fail
            refine Hcall.out.mono ?_
            rintro e w2 ⟨rfl, hL3, hB3, hO3⟩
            have HL3 := Lib.hid (show Bld w2 B b (bs ++ (ns.take j).flatMap b8 ++ (b8 n).take (k + 1)) from by rw [Htk8.out, ← List.append_assoc]; exact hL3)
            have HI3 := Lib.hid (show Blk w2 w.heap.size 25 #[.int .i64 t.k, .int .i64 t.n, .string t.s, .slice A t.l.length c] ∧ Blk w2 G 3 #[.int .i64 t.k, .int .i64 t.n, .int .i64 t.s.size, .int .i64 t.l.length] ∧ Below B w w2 ∧ Lib.OthersKept 5 (some b) w w2 from
              ⟨HI2.out.1.others hO3 (by omega) (by decide), HI2.out.2.1.others hO3 (by omega) (by decide), HI2.out.2.2.1.trans hB3, HI2.out.2.2.2.trans hO3⟩)
            clear hL3 hB3 hO3
            go_wp2
            go_roundw
            case rel => exact ⟨k + 1, by omega, by go_num, HL3, HI3⟩
            case measure => simp [intOf]; omega
          · have hke : k = 8 := by omega
            subst hke
            have HL3 := Lib.hid (show Bld wr B b (bs ++ (ns.take (j + 1)).flatMap b8) from by
              rw [Htk.out, ← List.append_assoc]
              have := HL2.out
              rwa [List.take_of_length_le (l := b8 n) (by rw [b8_len]; omega)] at this)
            go_wp2
            go_roundw
            case rel => exact ⟨j + 1, by omega, by go_num, HL3, HI2⟩
            case measure => simp [intOf]; omega
      · have hje : j = 4 := by omega
        subst hje
        have hL4 : Bld wr B b (bs ++ ns.flatMap b8) := by
          have := HL.out
          rwa [List.take_of_length_le (by omega)] at this
        have hl1 := Hlen.out
        rw [Htxt.out] at hl1
        simp only [List.length_append] at hl1
        obtain ⟨⟨x0, x1, x2, x3⟩, -⟩ := HI.out.1.four
        have hcall := writeString_calls B b _ t.s wr hL4 (by have : t.s.size = t.s.data.toList.length := (Array.length_toList ..).symm; rw [List.length_append]; omega) (by have := HI.out.2.2.1.size; omega)
        have Hl1 := Lib.hid hl1; clear hl1 hL4
        have Hcall := Lib.hid hcall; clear hcall
        go_wp2_with fail
        refine Hcall.out.mono ?_
        rintro e w2 ⟨rfl, hL3, hB3, hO3⟩
        have HL5 := Lib.hid hL3
        have hI5 : Blk w2 w.heap.size 25 #[.int .i64 t.k, .int .i64 t.n, .string t.s, .slice A t.l.length c] ∧ Below B w w2 ∧ Lib.OthersKept 5 (some b) w w2 :=
          ⟨HI.out.1.others hO3 (by omega) (by decide), HI.out.2.2.1.trans hB3, HI.out.2.2.2.trans hO3⟩
        have HI5 := Lib.hid hI5; clear hI5 hL3 hB3 hO3 x0 x1 x2 x3
        obtain ⟨⟨x0, x1, x2, x3⟩, -⟩ := HI5.out.1.four
        go_wp2
        obtain ⟨bs5, hbs5⟩ : ∃ bs5, bs5 = bs ++ ns.flatMap b8 ++ t.s.data.toList := ⟨_, rfl⟩
        rw [← hbs5] at HL5
        have Hb5 := Lib.hid hbs5; clear hbs5
        go_loopw [44] (fun i wr => ∃ j : Nat, j ≤ t.l.length ∧ i = .int .i64 j ∧ Hid (Bld wr B b (bs5 ++ Tm.txts (t.l.take j))) ∧ Hid (Below B w wr ∧ Lib.OthersKept 5 (some b) w wr)) (fun i _ => t.l.length - (intOf i).toNat)
        case atStart => exact ⟨0, Nat.zero_le _, rfl, by simpa [Tm.txts] using HL5, Lib.hid HI5.out.2⟩
        case round =>
          obtain ⟨j, hj, rfl, HL6, HI6⟩ := hrel
          by_cases hlt : j < t.l.length
          · obtain ⟨x, hx⟩ : ∃ x, t.l[j]? = some x := ⟨_, List.getElem?_eq_getElem hlt⟩
            have hcr : TmC P wr A c t.l := Hc.out.belowP HI6.out.1 HP.out
            obtain ⟨g, off, Ai, ci, rfl, hPg, ⟨e0, e1, e2, e3⟩, hxs, hxc⟩ := hcr.at_ hx
            have hxm := List.mem_of_getElem? hx
            have Htk6 := Lib.hid (show Tm.txts (t.l.take (j + 1)) = Tm.txts (t.l.take j) ++ x.txt from by rw [take_snoc hx, Tm.txts_append]; simp [Tm.txts])
            have hxl : (bs5 ++ Tm.txts (t.l.take j)).length + x.txt.length ≤ 1000000000 := by
              have h1 := Hl1.out
              have h2 : (Tm.txts (t.l.take (j + 1))).length ≤ (Tm.txts t.l).length := by
                conv => rhs; rw [← List.take_append_drop (j + 1) t.l, Tm.txts_append, List.length_append]
                omega
              rw [Htk6.out] at h2
              rw [Hb5.out]
              simp only [List.length_append] at h1 h2 ⊢
              omega
            have hxf : ∀ y ∈ x.pre, fitN y := fun y hy => Hfit.out y (by
              rw [t.pre_eq]
              refine List.mem_cons_of_mem _ ?_
              have h1 := congrArg Tm.pres (List.take_append_drop (j + 1) t.l)
              rw [take_snoc hx, Tm.pres_append, Tm.pres_append] at h1
              rw [← h1]
              simp [Tm.pres, hy])
            have hcall := Ih.out x hxm P B b (bs5 ++ Tm.txts (t.l.take j)) (wr.alloc (.cells #[.int .i64 x.k, .int .i64 x.n, .string x.s, .slice Ai x.l.length ci] 25)) _ ⟨Ai, ci, rfl, hxs, hxc.belowP ((Below.refl _ _).alloc (Nat.le_refl _) _) (fun g hg => Nat.lt_of_lt_of_le (HP.out g hg) (by have := HI6.out.1.size; omega))⟩ HP.out hBb (HL6.out.alloc _) (by have := HI6.out.1.size; simp; omega) hxl hxf
            have Hcall2 := Lib.hid hcall; clear hcall hxc hx hxl hxf hcr
            go_wp2_with fail
            refine Hcall2.out.mono ?_
            rintro e w3 ⟨rfl, hL3, hB3, hO3⟩
            have HL7 := Lib.hid (show Bld w3 B b (bs5 ++ Tm.txts (t.l.take (j + 1))) from by rw [Htk6.out, ← List.append_assoc]; exact hL3)
            have HI7 := Lib.hid (show Below B w w3 ∧ Lib.OthersKept 5 (some b) w w3 from ⟨(HI6.out.1.alloc (by have := HI6.out.1.size; omega) _).trans hB3, (HI6.out.2.alloc _).trans hO3⟩)
            clear hL3 hB3 hO3
            go_wp2
            go_roundw
            case rel => exact ⟨j + 1, by omega, by go_num, HL7, HI7⟩
            case measure => simp [intOf]; omega
          · have hje : j = t.l.length := by omega
            subst hje
            have hfin : Bld wr B b (bs ++ t.txt) := by
              have := HL6.out
              rw [List.take_length, Hb5.out] at this
              rw [Htxt.out]
              simpa [List.append_assoc] using this
            have Hfin := Lib.hid hfin; clear hfin
            go_wp2
            exact bodyPost_ret (v := .tuple #[]) (by simp [results, Try.results130, go_sem]) rfl (R := RetTx w B b _) ⟨rfl, Hfin.out, HI6.out.1, HI6.out.2⟩
end Go.Proofs.Ytfhgknmkpegpbaa

set_option linter.unusedVariables false
set_option linter.unusedSimpArgs false
namespace Go.Proofs.Ytfhgknmkpegpbaa
open Go.RowKit

def pkey (q : Tm × Tm) : List UInt8 := q.1.txt ++ q.2.txt
def fitP (q : Tm × Tm) : Prop := (∀ x ∈ q.1.pre, fitN x) ∧ ∀ x ∈ q.2.pre, fitN x
theorem pkey_inj {q r : Tm × Tm} (hq : fitP q) (hr : fitP r) (h : pkey q = pkey r) : q = r := by
  obtain ⟨h1, h2⟩ := (Tm.txt_inj q.1.size).1 q.1 r.1 _ _ (Nat.le_refl _) hq.1 hr.1 h
  obtain ⟨h3, -⟩ := (Tm.txt_inj q.2.size).1 q.2 r.2 [] [] (Nat.le_refl _) hq.2 hr.2 (by rw [h2])
  exact Prod.ext h1 h3
theorem pidx_not {p : List (Tm × Tm)} {q : Tm × Tm} (h : q ∉ p) : pidx p q = p.length := by
  unfold pidx
  rw [List.findIdx_eq_length]
  intro x hx
  simp
  rintro rfl
  exact h hx
theorem pidx_old {p : List (Tm × Tm)} {q r : Tm × Tm} (h : q ∈ p) : pidx (p ++ [r]) q = pidx p q := by
  unfold pidx
  rw [List.findIdx_append, if_pos (List.findIdx_lt_length_of_exists ⟨q, h, by simp⟩)]
theorem pidx_new {p : List (Tm × Tm)} {q : Tm × Tm} (h : q ∉ p) : pidx (p ++ [q]) q = p.length := by
  have h1 := pidx_not h
  unfold pidx at h1 ⊢
  rw [List.findIdx_append, if_neg (by omega), List.findIdx_cons]
  simp
theorem pidx_lt {p : List (Tm × Tm)} {q : Tm × Tm} (h : q ∈ p) : pidx p q < p.length := by
  unfold pidx
  exact List.findIdx_lt_length_of_exists ⟨q, h, by simp⟩
open Classical in
/-- The map of the variables of a generalization. -/
def MapP (W : World) (mb : Nat) (p : List (Tm × Tm)) : Prop :=
  ∃ D : DataW Unit, W.ownsMap Try.prog 9 (plainElem Try.prog 3) mb p.length D ∧ Maps.Tidy D ∧ Maps.size D = p.length ∧
    ∀ q, fitP q → Maps.has D (.string (pkey q)) = decide (q ∈ p) ∧ (q ∈ p → D.atKey (.string (pkey q)) (.lit (.int .i64 0)) = .lit (.int .i64 (pidx p q)))
theorem MapP.made (w : World) : MapP (w.alloc (.map #[] 0)) w.heap.size [] := ⟨_, World.ownsMap_made w _ _ _, Maps.tidy_empty, rfl, fun q _ => ⟨by simp [Maps.has], fun h => by simp at h⟩⟩
theorem MapP.kept {w w' : World} {b : Nat} {p : List (Tm × Tm)} {row : Option Nat} (h : MapP w b p) (hg : w.grownBy w' row) (hne : some b ≠ row) : MapP w' b p := by
  obtain ⟨D, h1, h2⟩ := h; exact ⟨D, h1.kept hg hne, h2⟩
theorem MapP.lt {w : World} {b : Nat} {p : List (Tm × Tm)} (h : MapP w b p) : b < w.heap.size := by obtain ⟨D, h1, h2⟩ := h; exact h1.lt
theorem MapP.below {w w' : World} {b B : Nat} {p : List (Tm × Tm)} (h : MapP w b p) (hb : Below B w w') (hB : b < B) : MapP w' b p := by
  obtain ⟨D, ⟨es, clock, h1, h2, h3, h4⟩, h5⟩ := h
  exact ⟨D, ⟨es, clock, (hb.block b hB).trans h1, h2, h3, h4⟩, h5⟩
theorem MapP.same {w w' : World} {b : Nat} {p : List (Tm × Tm)} (h : MapP w b p) (hb : w'.heap[b]? = w.heap[b]?) : MapP w' b p := by
  obtain ⟨D, ⟨es, clock, h1, h2, h3, h4⟩, h5⟩ := h
  exact ⟨D, ⟨es, clock, hb.trans h1, h2, h3, h4⟩, h5⟩
theorem isKey_string (l : List UInt8) : WideAt.IsKeyLit (.string l) := trivial
theorem MapP.put {w w1 : World} {b : Nat} {p : List (Tm × Tm)} {q : Tm × Tm} {D : DataW Unit} (h1 : w1.ownsMap Try.prog 9 (plainElem Try.prog 3) b (p.length + 1) (D.put (.string (pkey q)) (.lit (.int .i64 p.length)))) (h2 : Maps.Tidy D) (h3 : Maps.size D = p.length)
    (h4 : ∀ q, fitP q → Maps.has D (.string (pkey q)) = @decide (q ∈ p) (Classical.propDecidable _) ∧ (q ∈ p → D.atKey (.string (pkey q)) (.lit (.int .i64 0)) = .lit (.int .i64 (pidx p q)))) (hq : fitP q) (hn : q ∉ p) : MapP w1 b (p ++ [q]) := by
  refine ⟨_, by simpa using h1, h2.put (isKey_string _) _, ?_, fun r hr => ?_⟩
  · rw [Maps.size_put h2, (h4 q hq).1, h3]
    simp [hn]
  · by_cases e : r = q
    · subst e
      refine ⟨?_, fun _ => ?_⟩
      · rw [Maps.has_put_same h2.isMap (isKey_string _)]; simp
      · rw [Maps.atKey_put_same h2.isMap (isKey_string _), pidx_new hn]
    · have hne : (Lit.string (pkey r)) ≠ .string (pkey q) := fun e2 => e (pkey_inj hr hq (by injection e2))
      refine ⟨?_, fun hm => ?_⟩
      · rw [Maps.has_put_other hne, (h4 r hr).1]
        simp [e]
      · have hm' : r ∈ p := by
          rcases List.mem_append.1 hm with h | h
          · exact h
          · exact absurd (List.mem_singleton.1 h) e
        rw [Maps.atKey_put_other hne, (h4 r hr).2 hm', pidx_old hm']
theorem Tm.txts_mem {l : List Tm} {x : Tm} (h : x ∈ l) : x.txt.length ≤ (Tm.txts l).length := by
  induction l with
  | nil => simp at h
  | cons a l ih =>
    rw [Tm.txts, List.length_append]
    rcases List.mem_cons.1 h with rfl | h
    · omega
    · have := ih h; omega
theorem Tm.txt_child {t x : Tm} (h : x ∈ t.l) : x.txt.length ≤ t.txt.length := by
  have := Tm.txts_mem h
  rw [t.txt_eq]
  simp only [List.length_append]
  omega
/-- What a generalization gives. -/
def RetG (mb : Nat) (w : World) (r : Tm × List (Tm × Tm)) (e : Ending) (w' : World) : Prop :=
  ∃ A c, e = .returned (.agg #[.int .i64 r.1.k, .int .i64 r.1.n, .string r.1.s, .slice A r.1.l.length c]) ∧ r.1.s.size ≤ 9223372036854775807 ∧ TmC (w.heap.size ≤ ·) w' A c r.1.l ∧ MapP w' mb r.2 ∧ But mb w w'
end Go.Proofs.Ytfhgknmkpegpbaa

set_option linter.unusedVariables false
set_option linter.unusedSimpArgs false
namespace Go.Proofs.Ytfhgknmkpegpbaa
open Go.RowKit

theorem keepN {N : Nat} {W W' : World} {g o : Nat} {v : Value} (hb : Below N W W') (hlt : g < N) (h : W.cell? ⟨g, o, none⟩ = some v) : W'.cell? ⟨g, o, none⟩ = some v := (hb.cell (p := ⟨g, o, none⟩) hlt).trans h
theorem bld_new (w : World) : Bld (w.alloc (.cells #[.pointer none, .slice none 0 0] 149)) w.heap.size w.heap.size [] :=
  .inl ⟨Nat.le_refl _, .slice none 0 0, heap_alloc_new w _, ⟨by simp [Lib.byteCells], .inl ⟨rfl, by simp [Lib.byteCells]⟩⟩, by simp [Value.ownBlock]⟩

theorem ownsMap_below {w w' : World} {k : TypeId} {R : Value → Option (DataW Unit × List MemPlace)} {b n B : Nat} {D : DataW Unit} (h : w.ownsMap Try.prog k R b n D) (hb : Below B w w') (hB : b < B) : w'.ownsMap Try.prog k R b n D := by
  obtain ⟨es, clock, h1, h2, h3, h4⟩ := h
  exact ⟨es, clock, (hb.block b hB).trans h1, h2, h3, h4⟩
theorem MapP.set4 {W : World} {mb z : Nat} {p : List (Tm × Tm)} (h : MapP W mb p) (hne : mb ≠ z) (a b c d : Value) : MapP ((((W.setCell ⟨z, 0, none⟩ a).setCell ⟨z, 1, none⟩ b).setCell ⟨z, 2, none⟩ c).setCell ⟨z, 3, none⟩ d) mb p :=
  h.same (by rw [Below.heap_setCell _ _ _ _ hne, Below.heap_setCell _ _ _ _ hne, Below.heap_setCell _ _ _ _ hne, Below.heap_setCell _ _ _ _ hne])
theorem But.set4 {w W : World} {mb z : Nat} (h : But mb w W) (hz : w.heap.size ≤ z) (a b c d : Value) : But mb w ((((W.setCell ⟨z, 0, none⟩ a).setCell ⟨z, 1, none⟩ b).setCell ⟨z, 2, none⟩ c).setCell ⟨z, 3, none⟩ d) :=
  (((h.setCellFar ⟨z, 0, none⟩ hz a).setCellFar ⟨z, 1, none⟩ hz b).setCellFar ⟨z, 2, none⟩ hz c).setCellFar ⟨z, 3, none⟩ hz d

theorem keepAll {N mb : Nat} {wr w2 w4 : World} {g o : Nat} {v : Value} {ob : Obj} (hb2 : But mb wr w2) (hB4 : Below N (w2.alloc ob) w4) (hne : g ≠ mb) (hlt : g < N) (h : wr.cell? ⟨g, o, none⟩ = some v) : w4.cell? ⟨g, o, none⟩ = some v :=
  keepN hB4 hlt ((World.cell?_alloc_lt _ _ _ (World.block_lt_of_cell? w2 _ (but_cell hb2 hne h))).trans (but_cell hb2 hne h))
theorem But.thenBelow {b B : Nat} {x y z : World} (h : But b x y) (k : Below B y z) (hB : x.heap.size ≤ B) : But b x z :=
  ⟨k.os.trans h.os, k.tape.trans h.tape, k.output.trans h.output, Nat.le_trans h.size k.size, fun j hj hne => (k.block j (by omega)).trans (h.block j hj hne)⟩
theorem RowT.butN {N : Nat} {P : Nat → Prop} {w w' : World} {v : Value} {l : List Tm} {b : Nat} (h : RowT N P w v l) (hb : But b w w') (hN : b < N) (hP : ∀ g, P g → g ≠ b) : RowT N P w' v l := by
  obtain ⟨es, h1, h2, h3⟩ := h
  exact ⟨es, h1, h2.kept hb.grownBy (.inr (fun e => by have := (h2.lt b e).1; omega)), fun e he => ⟨(h3 e he).1, ((h3 e he).2.but hb (fun g hg => hP g hg.1)).mono fun g hg => ⟨hg.1, hg.2.1, Nat.lt_of_lt_of_le hg.2.2 hb.size⟩⟩⟩

set_option maxRecDepth 100000 in
set_option maxHeartbeats 4000000 in
theorem general_calls (t : Tm) : ∀ (P Q : Nat → Prop) (w : World) (v v2 : Value) (u : Tm) (mb : Nat) (p : List (Tm × Tm)), TmV P w v t → TmV Q w v2 u → MapP w mb p → (∀ g, P g → g ≠ mb) → (∀ g, Q g → g ≠ mb) → fitP (t, u) → p.Nodup → p.length + t.size ≤ 1000000 → t.txt.length + u.txt.length ≤ 1000000000 →
    Calls Try.prog 92 #[.map (some mb), v, v2] w (RetG mb w (t.gen u p)) := by
  induction t using Tm.ind with
  | h t ih =>
    intro P Q w v v2 u mb p hv hv2 hmp hP hQ hfit hnd hpl htl
    obtain ⟨A, c, rfl, hs, hc⟩ := hv
    obtain ⟨B, d, rfl, hs', hd⟩ := hv2
    have Ih := Lib.hid ih; clear ih
    obtain ⟨i0, hi0⟩ := info25
    have Hi := Lib.hid hi0; clear hi0
    obtain ⟨W0, hW0⟩ : ∃ W0, W0 = ((w.alloc (.cells #[.int .i64 t.k, .int .i64 t.n, .string t.s, .slice A t.l.length c] 25)).alloc (.cells #[.int .i64 u.k, .int .i64 u.n, .string u.s, .slice B u.l.length d] 25)).alloc (.cells #[.int .i64 0, .int .i64 0, .string ⟨#[]⟩, .slice none 0 0] 25) := ⟨_, rfl⟩
    have hB0 : Below w.heap.size w W0 := by rw [hW0]; exact (((Below.refl _ _).alloc (Nat.le_refl _) _).alloc (by simp) _).alloc (by simp; omega) _
    have hX0 : Blk W0 w.heap.size 25 #[.int .i64 t.k, .int .i64 t.n, .string t.s, .slice A t.l.length c] := by rw [hW0]; exact ((Blk.new w 25 _).alloc _).alloc _
    have hY0 : Blk W0 (w.heap.size + 1) 25 #[.int .i64 u.k, .int .i64 u.n, .string u.s, .slice B u.l.length d] := by
      rw [hW0]
      have := Blk.new (w.alloc (.cells #[.int .i64 t.k, .int .i64 t.n, .string t.s, .slice A t.l.length c] 25)) 25 #[.int .i64 u.k, .int .i64 u.n, .string u.s, .slice B u.l.length d]
      rw [World.size_alloc] at this
      exact this.alloc _
    have hZ0 : Blk W0 (w.heap.size + 1 + 1) 25 #[.int .i64 0, .int .i64 0, .string ⟨#[]⟩, .slice none 0 0] := by
      rw [hW0]
      have := Blk.new ((w.alloc (.cells #[.int .i64 t.k, .int .i64 t.n, .string t.s, .slice A t.l.length c] 25)).alloc (.cells #[.int .i64 u.k, .int .i64 u.n, .string u.s, .slice B u.l.length d] 25)) 25 #[.int .i64 0, .int .i64 0, .string ⟨#[]⟩, .slice none 0 0]
      rwa [World.size_alloc, World.size_alloc] at this
    have hsW : W0.heap.size = w.heap.size + 1 + 1 + 1 := by rw [hW0]; simp
    have hlc := hc.len.1
    have hlm := hc.len.2.1
    have hld := hd.len.1
    have hln := hd.len.2.1
    have hmlt := hmp.lt
    have Hc := Lib.hid (hc.inside.stay hB0 (Nat.le_refl _)); clear hc
    have Hd := Lib.hid (hd.inside.stay hB0 (Nat.le_refl _)); clear hd
    have Hm0 := Lib.hid (hmp.below hB0 hmlt); clear hmp
    have HX0 := Lib.hid hX0; clear hX0
    have HY0 := Lib.hid hY0; clear hY0
    have HZ0 := Lib.hid hZ0; clear hZ0
    have HB0 := Lib.hid hB0; clear hB0
    have HW := Lib.hid hW0; clear hW0
    have HP := Lib.hid hP; clear hP
    have HQ := Lib.hid hQ; clear hQ
    have Hfit := Lib.hid hfit; clear hfit
    have Hnd := Lib.hid hnd; clear hnd
    have Htl := Lib.hid htl; clear htl
    have HsW := Lib.hid hsW; clear hsW
    have hgen := Tm.gen_eq t u p
    obtain ⟨R, hR⟩ : ∃ R, R = t.gen u p := ⟨_, rfl⟩
    rw [← hR] at hgen ⊢
    have Hgen := Lib.hid hgen; clear hgen hR
    have hfp : ∀ g : Nat, (P g ∧ g < w.heap.size) → g < w.heap.size + 1 + 1 + 1 := fun g h => by have := h.2; omega
    have hfq : ∀ g : Nat, (Q g ∧ g < w.heap.size) → g < w.heap.size + 1 + 1 + 1 := fun g h => by have := h.2; omega
    have hn0 := bld_new W0
    rw [HsW.out] at hn0
    have hc1 := text_calls t (fun g => P g ∧ g < w.heap.size) (w.heap.size + 1 + 1 + 1) (w.heap.size + 1 + 1 + 1) [] (W0.alloc (.cells #[.pointer none, .slice none 0 0] 149)) _ ⟨A, c, rfl, hs, Hc.out.stay ((Below.refl _ _).alloc (Nat.le_refl _) _) (Nat.le_refl _)⟩ hfp (Nat.le_refl _) hn0 (by have := HsW.out; simp; omega) (by have := Htl.out; simp; omega) Hfit.out.1
    rw [List.nil_append] at hc1
    have HC1 := Lib.hid hc1; clear hc1 hn0
    have HC2 := Lib.hid (fun (W : World) (h1 : Below (w.heap.size + 1 + 1 + 1) W0 W) (h2 : Bld W (w.heap.size + 1 + 1 + 1) (w.heap.size + 1 + 1 + 1) t.txt) => text_calls u (fun g => Q g ∧ g < w.heap.size) (w.heap.size + 1 + 1 + 1) (w.heap.size + 1 + 1 + 1) t.txt W _ ⟨B, d, rfl, hs', Hd.out.belowP h1 hfq⟩ hfq (Nat.le_refl _) h2 (by have := HsW.out; have := h1.size; omega) Htl.out Hfit.out.2)
    clear hfp hfq
    obtain ⟨⟨a0, a1, a2, a3⟩, -⟩ := HX0.out.four
    obtain ⟨⟨b0, b1, b2, b3⟩, -⟩ := HY0.out.four
    by_cases hk : t.k = u.k
    case neg =>
      have Hgl := Lib.hid (show R = (Tm.va (pidx p (t, u)), padd p (t, u)) from by rw [Hgen.out, if_neg (fun h => hk h.1)])
      have dhk : (t.k == u.k) = false := by simpa using hk
      clear hk
      clear a0 a1 a2 a3 b0 b1 b2 b3
      go_enter Try.func92, Try.ntmps92
      go_wp2_with fail
      rw [← HW.out]
      refine HC1.out.mono ?_
      rintro e w1 ⟨rfl, hl1, hb1, -⟩
      have hb1 : Below (w.heap.size + 1 + 1 + 1) W0 w1 := ((Below.refl _ W0).alloc (by have := HsW.out; omega) _).trans hb1
      obtain ⟨⟨b0, b1, b2, b3⟩, -⟩ := (HY0.out.below hb1 (by omega)).four
      have hs1 := hb1.size
      rw [HsW.out] at hs1
      have HB1 := Lib.hid hb1; clear hb1
      have HL1 := Lib.hid hl1; clear hl1
      go_wp2_with fail
      refine (HC2.out w1 HB1.out HL1.out).mono ?_
      rintro e w2 ⟨rfl, hl2, hb2, -⟩
      have HB2 := Lib.hid (HB1.out.trans hb2); clear hb2
      have HL2 := Lib.hid hl2; clear hl2
      have Hst := Lib.hid (string_calls (w.heap.size + 1 + 1 + 1) (w.heap.size + 1 + 1 + 1) (t.txt ++ u.txt) w2 HL2.out (by have := HB2.out.size; have := HsW.out; omega))
      go_wp2_with fail
      refine Hst.out.mono ?_
      rintro e w3 ⟨rfl, hl3, hb3, -⟩
      have HB3 := Lib.hid (HB2.out.trans hb3); clear hb3
      have HL3 := Lib.hid hl3; clear hl3 b0 b1 b2 b3
      have hs3 : w.heap.size + 1 + 1 + 1 ≤ w3.heap.size := by have := HB3.out.size; have := HsW.out; omega
      obtain ⟨D, hown, hT, hS, hall⟩ := Hm0.out.below HB3.out (by omega)
      obtain ⟨ky, hky⟩ : ∃ ky, ky = pkey (t, u) := ⟨_, rfl⟩
      have hkl : (t.txt ++ u.txt) = ky := by rw [hky]; rfl
      have hkey : keyOf Try.prog 9 (.string ⟨ky.toArray⟩) = some (.string ky) := by
        have h1 : (⟨ky.toArray⟩ : ByteArray).size = ky.length := by simp [ByteArray.size]
        have h2 := WideMaps.keyOf_string_mk (P := Try.prog) (k := 9) Try.underlying9 (s := ⟨ky.toArray⟩) (by rw [h1, ← hkl, List.length_append]; have := Htl.out; simp only [maxLen]; omega)
        simpa using h2
      rw [hkl]
      have Hky := Lib.hid hky; clear hky hkl
      by_cases hq : (t, u) ∈ p
      · have hhas : Maps.has D (.string ky) = true := by rw [Hky.out, (hall _ Hfit.out).1]; simpa using hq
        have hat0 := (hall _ Hfit.out).2 hq
        rw [← Hky.out] at hat0
        have Hgen2 := Lib.hid (show R = (Tm.va (pidx p (t, u)), p) from by rw [Hgl.out]; unfold padd; rw [if_pos hq])
        obtain ⟨⟨z0, z1, z2, z3⟩, ⟨f0, f1, f2, f3⟩⟩ := (HZ0.out.below HB3.out (by omega)).four
        have HZ3 := Lib.hid (HZ0.out.below HB3.out (by omega))
        go_wp2_with (at_lookup; refine wpList_lookup_own_ok_int _ rfl _ _ 108 rfl 9 3 .i64 (Maps.string_keyed Try.underlying9) Try.underlying108 Try.underlying3 (Try.zeroValue3 _) mb p.length D rfl hown (.string ⟨ky.toArray⟩) (.string ky) rfl hkey ?_; intro cc hat hwc; rw [hhas]; rw [hat0] at hat; have hcc := lit_inj hat; subst hcc; clear hat hwc)
        have hF := ((((HZ3.out.set_ 0 (.int .i64 1)).set_ 1 (.int .i64 (pidx p (t, u)))).set_ 2 (.string ⟨#[]⟩)).set_ 3 (.slice none 0 0))
        obtain ⟨⟨q0, q1, q2, q3⟩, -⟩ := hF.four
        have hF := ((((HZ3.out.set_ 0 (.int .i64 1)).set_ 1 (.int .i64 (pidx p (t, u)))).set_ 2 (.string ⟨#[]⟩)).set_ 3 (.slice none 0 0))
        obtain ⟨⟨q0, q1, q2, q3⟩, -⟩ := hF.four
        have hmF := (Hm0.out.below HB3.out (by omega)).set4 (z := w.heap.size + 1 + 1) (by omega) (.int .i64 1) (.int .i64 (pidx p (t, u))) (.string ⟨#[]⟩) (.slice none 0 0)
        have hbF := (But.of_below (b := mb) (HB0.out.trans (HB3.out.mono (by omega))) (Nat.le_refl _)).set4 (z := w.heap.size + 1 + 1) (by omega) (.int .i64 1) (.int .i64 (pidx p (t, u))) (.string ⟨#[]⟩) (.slice none 0 0)
        refine bodyPost_ret (v := .agg #[.int .i64 1, .int .i64 (pidx p (t, u)), .string ⟨#[]⟩, .slice none 0 0]) ?_ rfl (R := RetG mb w R) ⟨none, 0, by rw [Hgen2.out]; rfl, by rw [Hgen2.out]; show (⟨#[]⟩ : ByteArray).size ≤ _; decide, by rw [Hgen2.out]; exact TmC.nil _ _ (by omega) (fun _ => rfl), by rw [Hgen2.out]; exact hmF, hbF⟩
        generalize (World.setCell _ ⟨w.heap.size + 1 + 1, 3, none⟩ _) = WF at q0 q1 q2 q3 ⊢
        clear hF hmF hbF
        simp [results, Try.results92, go_sem, q0, q1, q2, q3]
      · have hhas : Maps.has D (.string ky) = false := by rw [Hky.out, (hall _ Hfit.out).1]; simpa using hq
        have Hgen2 := Lib.hid (show R = (Tm.va p.length, p ++ [(t, u)]) from by rw [Hgl.out, pidx_not hq]; unfold padd; rw [if_neg hq])
        have Hq := Lib.hid hq; clear hq
        have hwk : (Lit.int .i64 (p.length : Int)).wf = true := by
          unfold Lit.wf
          simp [IntKind.min, IntKind.max, IntKind.bits, IntKind.signed]
          omega
        have Hst2 := Lib.hid (string_calls (w.heap.size + 1 + 1 + 1) (w.heap.size + 1 + 1 + 1) (t.txt ++ u.txt) w3 HL3.out hs3)
        have Hall := Lib.hid hall; clear hall
        go_wp2_with (first
          | (at_lookup; refine wpList_lookup_own_ok_int _ rfl _ _ 108 rfl 9 3 .i64 (Maps.string_keyed Try.underlying9) Try.underlying108 Try.underlying3 (Try.zeroValue3 _) mb p.length D rfl hown (.string ⟨ky.toArray⟩) (.string ky) rfl hkey ?_; intro cc hat hwc; rw [hhas]; clear hat hwc)
          | (at_len; refine wpList_len_own _ rfl _ 108 rfl 9 3 Try.underlying108 _ mb p.length D rfl hown ?_; rw [hS]))
        refine Hst2.out.mono ?_
        rintro e w4 ⟨rfl, hl4, hb4, -⟩
        have hown4 := ownsMap_below hown hb4 (by omega)
        have HB4 := Lib.hid (HB3.out.trans hb4)
        have hkl : (t.txt ++ u.txt) = ky := by rw [Hky.out]; rfl
        rw [hkl]
        clear hl4 hb4 hown hkl
        have hZ4 := HZ0.out.below HB4.out (by omega)
        have hs4 : w.heap.size + 1 + 1 + 1 ≤ w4.heap.size := by have := HB4.out.size; have := HsW.out; omega
        have HZ4 := Lib.hid hZ4; clear hZ4
        have hz5 : ∀ w5, w4.grownBy w5 (some mb) → Blk w5 (w.heap.size + 1 + 1) 25 #[.int .i64 0, .int .i64 0, .string ⟨#[]⟩, .slice none 0 0] := fun w5 h => HZ4.out.grown h (by simp; omega)
        have Hz5 := Lib.hid hz5; clear hz5
        go_wp2_with (at_mapUpdate; refine wpList_mapUpdate_own _ rfl _ _ _ 108 rfl 9 3 (Maps.string_keyed Try.underlying9) Try.underlying108 _ mb p.length D rfl hown4 (by simp only [maxLen]; omega) (.string ⟨ky.toArray⟩) (.int .i64 p.length) (.string ky) rfl rfl hkey _ [] (plainElem_int Try.underlying3 hwk) ?_; intro w5 hown5 hg5; have hZ5 := Hz5.out w5 hg5; have hs5 := hg5.size; obtain ⟨⟨z0, z1, z2, z3⟩, ⟨f0, f1, f2, f3⟩⟩ := hZ5.four; have HZ5 := Lib.hid hZ5; clear hZ5; have Hown5 := Lib.hid hown5; clear hown5; have Hg5 := Lib.hid hg5; clear hg5)
        have hF := ((((HZ5.out.set_ 0 (.int .i64 1)).set_ 1 (.int .i64 p.length)).set_ 2 (.string ⟨#[]⟩)).set_ 3 (.slice none 0 0))
        obtain ⟨⟨q0, q1, q2, q3⟩, -⟩ := hF.four
        have hm5 : MapP w5 mb (p ++ [(t, u)]) := MapP.put (w := w5) (by have := Hown5.out; rw [Hky.out] at this; exact this) hT hS (fun q h => ⟨by rw [(Hall.out q h).1]; congr, (Hall.out q h).2⟩) Hfit.out Hq.out
        have hmF := hm5.set4 (z := w.heap.size + 1 + 1) (by omega) (.int .i64 1) (.int .i64 p.length) (.string ⟨#[]⟩) (.slice none 0 0)
        have hb5 : But mb w w5 := (But.of_below (b := mb) (HB0.out.trans (HB4.out.mono (by omega))) (Nat.le_refl _)).trans ⟨Hg5.out.os, Hg5.out.tape, Hg5.out.output, Hg5.out.size, fun j hj hjb => Hg5.out.block j hj (by simpa using hjb)⟩
        have hbF := hb5.set4 (z := w.heap.size + 1 + 1) (by omega) (.int .i64 1) (.int .i64 p.length) (.string ⟨#[]⟩) (.slice none 0 0)
        refine bodyPost_ret (v := .agg #[.int .i64 1, .int .i64 p.length, .string ⟨#[]⟩, .slice none 0 0]) ?_ rfl (R := RetG mb w R) ⟨none, 0, by rw [Hgen2.out]; rfl, by rw [Hgen2.out]; show (⟨#[]⟩ : ByteArray).size ≤ _; decide, by rw [Hgen2.out]; exact TmC.nil _ _ (by omega) (fun _ => rfl), by rw [Hgen2.out]; exact hmF, hbF⟩
        generalize (World.setCell _ ⟨w.heap.size + 1 + 1, 3, none⟩ _) = WF at q0 q1 q2 q3 ⊢
        clear hF hmF hbF hb5 hm5
        simp [results, Try.results92, go_sem, q0, q1, q2, q3]
    have dhk : (t.k == u.k) = true := by simpa using hk
    have Hhk := Lib.hid hk; clear hk
    by_cases hk1 : t.k ≠ 1
    case neg =>
      have Hgl := Lib.hid (show R = (Tm.va (pidx p (t, u)), padd p (t, u)) from by rw [Hgen.out, if_neg (fun h => hk1 h.2.1)])
      have dhk1 : (t.k != 1) = false := by simpa using hk1
      clear hk1
      clear a0 a1 a2 a3 b0 b1 b2 b3
      go_enter Try.func92, Try.ntmps92
      go_wp2_with fail
      rw [← HW.out]
      refine HC1.out.mono ?_
      rintro e w1 ⟨rfl, hl1, hb1, -⟩
      have hb1 : Below (w.heap.size + 1 + 1 + 1) W0 w1 := ((Below.refl _ W0).alloc (by have := HsW.out; omega) _).trans hb1
      obtain ⟨⟨b0, b1, b2, b3⟩, -⟩ := (HY0.out.below hb1 (by omega)).four
      have hs1 := hb1.size
      rw [HsW.out] at hs1
      have HB1 := Lib.hid hb1; clear hb1
      have HL1 := Lib.hid hl1; clear hl1
      go_wp2_with fail
      refine (HC2.out w1 HB1.out HL1.out).mono ?_
      rintro e w2 ⟨rfl, hl2, hb2, -⟩
      have HB2 := Lib.hid (HB1.out.trans hb2); clear hb2
      have HL2 := Lib.hid hl2; clear hl2
      have Hst := Lib.hid (string_calls (w.heap.size + 1 + 1 + 1) (w.heap.size + 1 + 1 + 1) (t.txt ++ u.txt) w2 HL2.out (by have := HB2.out.size; have := HsW.out; omega))
      go_wp2_with fail
      refine Hst.out.mono ?_
      rintro e w3 ⟨rfl, hl3, hb3, -⟩
      have HB3 := Lib.hid (HB2.out.trans hb3); clear hb3
      have HL3 := Lib.hid hl3; clear hl3 b0 b1 b2 b3
      have hs3 : w.heap.size + 1 + 1 + 1 ≤ w3.heap.size := by have := HB3.out.size; have := HsW.out; omega
      obtain ⟨D, hown, hT, hS, hall⟩ := Hm0.out.below HB3.out (by omega)
      obtain ⟨ky, hky⟩ : ∃ ky, ky = pkey (t, u) := ⟨_, rfl⟩
      have hkl : (t.txt ++ u.txt) = ky := by rw [hky]; rfl
      have hkey : keyOf Try.prog 9 (.string ⟨ky.toArray⟩) = some (.string ky) := by
        have h1 : (⟨ky.toArray⟩ : ByteArray).size = ky.length := by simp [ByteArray.size]
        have h2 := WideMaps.keyOf_string_mk (P := Try.prog) (k := 9) Try.underlying9 (s := ⟨ky.toArray⟩) (by rw [h1, ← hkl, List.length_append]; have := Htl.out; simp only [maxLen]; omega)
        simpa using h2
      rw [hkl]
      have Hky := Lib.hid hky; clear hky hkl
      by_cases hq : (t, u) ∈ p
      · have hhas : Maps.has D (.string ky) = true := by rw [Hky.out, (hall _ Hfit.out).1]; simpa using hq
        have hat0 := (hall _ Hfit.out).2 hq
        rw [← Hky.out] at hat0
        have Hgen2 := Lib.hid (show R = (Tm.va (pidx p (t, u)), p) from by rw [Hgl.out]; unfold padd; rw [if_pos hq])
        obtain ⟨⟨z0, z1, z2, z3⟩, ⟨f0, f1, f2, f3⟩⟩ := (HZ0.out.below HB3.out (by omega)).four
        have HZ3 := Lib.hid (HZ0.out.below HB3.out (by omega))
        go_wp2_with (at_lookup; refine wpList_lookup_own_ok_int _ rfl _ _ 108 rfl 9 3 .i64 (Maps.string_keyed Try.underlying9) Try.underlying108 Try.underlying3 (Try.zeroValue3 _) mb p.length D rfl hown (.string ⟨ky.toArray⟩) (.string ky) rfl hkey ?_; intro cc hat hwc; rw [hhas]; rw [hat0] at hat; have hcc := lit_inj hat; subst hcc; clear hat hwc)
        have hF := ((((HZ3.out.set_ 0 (.int .i64 1)).set_ 1 (.int .i64 (pidx p (t, u)))).set_ 2 (.string ⟨#[]⟩)).set_ 3 (.slice none 0 0))
        obtain ⟨⟨q0, q1, q2, q3⟩, -⟩ := hF.four
        have hF := ((((HZ3.out.set_ 0 (.int .i64 1)).set_ 1 (.int .i64 (pidx p (t, u)))).set_ 2 (.string ⟨#[]⟩)).set_ 3 (.slice none 0 0))
        obtain ⟨⟨q0, q1, q2, q3⟩, -⟩ := hF.four
        have hmF := (Hm0.out.below HB3.out (by omega)).set4 (z := w.heap.size + 1 + 1) (by omega) (.int .i64 1) (.int .i64 (pidx p (t, u))) (.string ⟨#[]⟩) (.slice none 0 0)
        have hbF := (But.of_below (b := mb) (HB0.out.trans (HB3.out.mono (by omega))) (Nat.le_refl _)).set4 (z := w.heap.size + 1 + 1) (by omega) (.int .i64 1) (.int .i64 (pidx p (t, u))) (.string ⟨#[]⟩) (.slice none 0 0)
        refine bodyPost_ret (v := .agg #[.int .i64 1, .int .i64 (pidx p (t, u)), .string ⟨#[]⟩, .slice none 0 0]) ?_ rfl (R := RetG mb w R) ⟨none, 0, by rw [Hgen2.out]; rfl, by rw [Hgen2.out]; show (⟨#[]⟩ : ByteArray).size ≤ _; decide, by rw [Hgen2.out]; exact TmC.nil _ _ (by omega) (fun _ => rfl), by rw [Hgen2.out]; exact hmF, hbF⟩
        generalize (World.setCell _ ⟨w.heap.size + 1 + 1, 3, none⟩ _) = WF at q0 q1 q2 q3 ⊢
        clear hF hmF hbF
        simp [results, Try.results92, go_sem, q0, q1, q2, q3]
      · have hhas : Maps.has D (.string ky) = false := by rw [Hky.out, (hall _ Hfit.out).1]; simpa using hq
        have Hgen2 := Lib.hid (show R = (Tm.va p.length, p ++ [(t, u)]) from by rw [Hgl.out, pidx_not hq]; unfold padd; rw [if_neg hq])
        have Hq := Lib.hid hq; clear hq
        have hwk : (Lit.int .i64 (p.length : Int)).wf = true := by
          unfold Lit.wf
          simp [IntKind.min, IntKind.max, IntKind.bits, IntKind.signed]
          omega
        have Hst2 := Lib.hid (string_calls (w.heap.size + 1 + 1 + 1) (w.heap.size + 1 + 1 + 1) (t.txt ++ u.txt) w3 HL3.out hs3)
        have Hall := Lib.hid hall; clear hall
        go_wp2_with (first
          | (at_lookup; refine wpList_lookup_own_ok_int _ rfl _ _ 108 rfl 9 3 .i64 (Maps.string_keyed Try.underlying9) Try.underlying108 Try.underlying3 (Try.zeroValue3 _) mb p.length D rfl hown (.string ⟨ky.toArray⟩) (.string ky) rfl hkey ?_; intro cc hat hwc; rw [hhas]; clear hat hwc)
          | (at_len; refine wpList_len_own _ rfl _ 108 rfl 9 3 Try.underlying108 _ mb p.length D rfl hown ?_; rw [hS]))
        refine Hst2.out.mono ?_
        rintro e w4 ⟨rfl, hl4, hb4, -⟩
        have hown4 := ownsMap_below hown hb4 (by omega)
        have HB4 := Lib.hid (HB3.out.trans hb4)
        have hkl : (t.txt ++ u.txt) = ky := by rw [Hky.out]; rfl
        rw [hkl]
        clear hl4 hb4 hown hkl
        have hZ4 := HZ0.out.below HB4.out (by omega)
        have hs4 : w.heap.size + 1 + 1 + 1 ≤ w4.heap.size := by have := HB4.out.size; have := HsW.out; omega
        have HZ4 := Lib.hid hZ4; clear hZ4
        have hz5 : ∀ w5, w4.grownBy w5 (some mb) → Blk w5 (w.heap.size + 1 + 1) 25 #[.int .i64 0, .int .i64 0, .string ⟨#[]⟩, .slice none 0 0] := fun w5 h => HZ4.out.grown h (by simp; omega)
        have Hz5 := Lib.hid hz5; clear hz5
        go_wp2_with (at_mapUpdate; refine wpList_mapUpdate_own _ rfl _ _ _ 108 rfl 9 3 (Maps.string_keyed Try.underlying9) Try.underlying108 _ mb p.length D rfl hown4 (by simp only [maxLen]; omega) (.string ⟨ky.toArray⟩) (.int .i64 p.length) (.string ky) rfl rfl hkey _ [] (plainElem_int Try.underlying3 hwk) ?_; intro w5 hown5 hg5; have hZ5 := Hz5.out w5 hg5; have hs5 := hg5.size; obtain ⟨⟨z0, z1, z2, z3⟩, ⟨f0, f1, f2, f3⟩⟩ := hZ5.four; have HZ5 := Lib.hid hZ5; clear hZ5; have Hown5 := Lib.hid hown5; clear hown5; have Hg5 := Lib.hid hg5; clear hg5)
        have hF := ((((HZ5.out.set_ 0 (.int .i64 1)).set_ 1 (.int .i64 p.length)).set_ 2 (.string ⟨#[]⟩)).set_ 3 (.slice none 0 0))
        obtain ⟨⟨q0, q1, q2, q3⟩, -⟩ := hF.four
        have hm5 : MapP w5 mb (p ++ [(t, u)]) := MapP.put (w := w5) (by have := Hown5.out; rw [Hky.out] at this; exact this) hT hS (fun q h => ⟨by rw [(Hall.out q h).1]; congr, (Hall.out q h).2⟩) Hfit.out Hq.out
        have hmF := hm5.set4 (z := w.heap.size + 1 + 1) (by omega) (.int .i64 1) (.int .i64 p.length) (.string ⟨#[]⟩) (.slice none 0 0)
        have hb5 : But mb w w5 := (But.of_below (b := mb) (HB0.out.trans (HB4.out.mono (by omega))) (Nat.le_refl _)).trans ⟨Hg5.out.os, Hg5.out.tape, Hg5.out.output, Hg5.out.size, fun j hj hjb => Hg5.out.block j hj (by simpa using hjb)⟩
        have hbF := hb5.set4 (z := w.heap.size + 1 + 1) (by omega) (.int .i64 1) (.int .i64 p.length) (.string ⟨#[]⟩) (.slice none 0 0)
        refine bodyPost_ret (v := .agg #[.int .i64 1, .int .i64 p.length, .string ⟨#[]⟩, .slice none 0 0]) ?_ rfl (R := RetG mb w R) ⟨none, 0, by rw [Hgen2.out]; rfl, by rw [Hgen2.out]; show (⟨#[]⟩ : ByteArray).size ≤ _; decide, by rw [Hgen2.out]; exact TmC.nil _ _ (by omega) (fun _ => rfl), by rw [Hgen2.out]; exact hmF, hbF⟩
        generalize (World.setCell _ ⟨w.heap.size + 1 + 1, 3, none⟩ _) = WF at q0 q1 q2 q3 ⊢
        clear hF hmF hbF hb5 hm5
        simp [results, Try.results92, go_sem, q0, q1, q2, q3]
    have dhk1 : (t.k != 1) = true := by simpa using hk1
    have Hhk1 := Lib.hid hk1; clear hk1
    by_cases hn : t.n = u.n
    case neg =>
      have Hgl := Lib.hid (show R = (Tm.va (pidx p (t, u)), padd p (t, u)) from by rw [Hgen.out, if_neg (fun h => hn h.2.2.1)])
      have dhn : (t.n == u.n) = false := by simpa using hn
      clear hn
      clear a0 a1 a2 a3 b0 b1 b2 b3
      go_enter Try.func92, Try.ntmps92
      go_wp2_with fail
      rw [← HW.out]
      refine HC1.out.mono ?_
      rintro e w1 ⟨rfl, hl1, hb1, -⟩
      have hb1 : Below (w.heap.size + 1 + 1 + 1) W0 w1 := ((Below.refl _ W0).alloc (by have := HsW.out; omega) _).trans hb1
      obtain ⟨⟨b0, b1, b2, b3⟩, -⟩ := (HY0.out.below hb1 (by omega)).four
      have hs1 := hb1.size
      rw [HsW.out] at hs1
      have HB1 := Lib.hid hb1; clear hb1
      have HL1 := Lib.hid hl1; clear hl1
      go_wp2_with fail
      refine (HC2.out w1 HB1.out HL1.out).mono ?_
      rintro e w2 ⟨rfl, hl2, hb2, -⟩
      have HB2 := Lib.hid (HB1.out.trans hb2); clear hb2
      have HL2 := Lib.hid hl2; clear hl2
      have Hst := Lib.hid (string_calls (w.heap.size + 1 + 1 + 1) (w.heap.size + 1 + 1 + 1) (t.txt ++ u.txt) w2 HL2.out (by have := HB2.out.size; have := HsW.out; omega))
      go_wp2_with fail
      refine Hst.out.mono ?_
      rintro e w3 ⟨rfl, hl3, hb3, -⟩
      have HB3 := Lib.hid (HB2.out.trans hb3); clear hb3
      have HL3 := Lib.hid hl3; clear hl3 b0 b1 b2 b3
      have hs3 : w.heap.size + 1 + 1 + 1 ≤ w3.heap.size := by have := HB3.out.size; have := HsW.out; omega
      obtain ⟨D, hown, hT, hS, hall⟩ := Hm0.out.below HB3.out (by omega)
      obtain ⟨ky, hky⟩ : ∃ ky, ky = pkey (t, u) := ⟨_, rfl⟩
      have hkl : (t.txt ++ u.txt) = ky := by rw [hky]; rfl
      have hkey : keyOf Try.prog 9 (.string ⟨ky.toArray⟩) = some (.string ky) := by
        have h1 : (⟨ky.toArray⟩ : ByteArray).size = ky.length := by simp [ByteArray.size]
        have h2 := WideMaps.keyOf_string_mk (P := Try.prog) (k := 9) Try.underlying9 (s := ⟨ky.toArray⟩) (by rw [h1, ← hkl, List.length_append]; have := Htl.out; simp only [maxLen]; omega)
        simpa using h2
      rw [hkl]
      have Hky := Lib.hid hky; clear hky hkl
      by_cases hq : (t, u) ∈ p
      · have hhas : Maps.has D (.string ky) = true := by rw [Hky.out, (hall _ Hfit.out).1]; simpa using hq
        have hat0 := (hall _ Hfit.out).2 hq
        rw [← Hky.out] at hat0
        have Hgen2 := Lib.hid (show R = (Tm.va (pidx p (t, u)), p) from by rw [Hgl.out]; unfold padd; rw [if_pos hq])
        obtain ⟨⟨z0, z1, z2, z3⟩, ⟨f0, f1, f2, f3⟩⟩ := (HZ0.out.below HB3.out (by omega)).four
        have HZ3 := Lib.hid (HZ0.out.below HB3.out (by omega))
        go_wp2_with (at_lookup; refine wpList_lookup_own_ok_int _ rfl _ _ 108 rfl 9 3 .i64 (Maps.string_keyed Try.underlying9) Try.underlying108 Try.underlying3 (Try.zeroValue3 _) mb p.length D rfl hown (.string ⟨ky.toArray⟩) (.string ky) rfl hkey ?_; intro cc hat hwc; rw [hhas]; rw [hat0] at hat; have hcc := lit_inj hat; subst hcc; clear hat hwc)
        have hF := ((((HZ3.out.set_ 0 (.int .i64 1)).set_ 1 (.int .i64 (pidx p (t, u)))).set_ 2 (.string ⟨#[]⟩)).set_ 3 (.slice none 0 0))
        obtain ⟨⟨q0, q1, q2, q3⟩, -⟩ := hF.four
        have hF := ((((HZ3.out.set_ 0 (.int .i64 1)).set_ 1 (.int .i64 (pidx p (t, u)))).set_ 2 (.string ⟨#[]⟩)).set_ 3 (.slice none 0 0))
        obtain ⟨⟨q0, q1, q2, q3⟩, -⟩ := hF.four
        have hmF := (Hm0.out.below HB3.out (by omega)).set4 (z := w.heap.size + 1 + 1) (by omega) (.int .i64 1) (.int .i64 (pidx p (t, u))) (.string ⟨#[]⟩) (.slice none 0 0)
        have hbF := (But.of_below (b := mb) (HB0.out.trans (HB3.out.mono (by omega))) (Nat.le_refl _)).set4 (z := w.heap.size + 1 + 1) (by omega) (.int .i64 1) (.int .i64 (pidx p (t, u))) (.string ⟨#[]⟩) (.slice none 0 0)
        refine bodyPost_ret (v := .agg #[.int .i64 1, .int .i64 (pidx p (t, u)), .string ⟨#[]⟩, .slice none 0 0]) ?_ rfl (R := RetG mb w R) ⟨none, 0, by rw [Hgen2.out]; rfl, by rw [Hgen2.out]; show (⟨#[]⟩ : ByteArray).size ≤ _; decide, by rw [Hgen2.out]; exact TmC.nil _ _ (by omega) (fun _ => rfl), by rw [Hgen2.out]; exact hmF, hbF⟩
        generalize (World.setCell _ ⟨w.heap.size + 1 + 1, 3, none⟩ _) = WF at q0 q1 q2 q3 ⊢
        clear hF hmF hbF
        simp [results, Try.results92, go_sem, q0, q1, q2, q3]
      · have hhas : Maps.has D (.string ky) = false := by rw [Hky.out, (hall _ Hfit.out).1]; simpa using hq
        have Hgen2 := Lib.hid (show R = (Tm.va p.length, p ++ [(t, u)]) from by rw [Hgl.out, pidx_not hq]; unfold padd; rw [if_neg hq])
        have Hq := Lib.hid hq; clear hq
        have hwk : (Lit.int .i64 (p.length : Int)).wf = true := by
          unfold Lit.wf
          simp [IntKind.min, IntKind.max, IntKind.bits, IntKind.signed]
          omega
        have Hst2 := Lib.hid (string_calls (w.heap.size + 1 + 1 + 1) (w.heap.size + 1 + 1 + 1) (t.txt ++ u.txt) w3 HL3.out hs3)
        have Hall := Lib.hid hall; clear hall
        go_wp2_with (first
          | (at_lookup; refine wpList_lookup_own_ok_int _ rfl _ _ 108 rfl 9 3 .i64 (Maps.string_keyed Try.underlying9) Try.underlying108 Try.underlying3 (Try.zeroValue3 _) mb p.length D rfl hown (.string ⟨ky.toArray⟩) (.string ky) rfl hkey ?_; intro cc hat hwc; rw [hhas]; clear hat hwc)
          | (at_len; refine wpList_len_own _ rfl _ 108 rfl 9 3 Try.underlying108 _ mb p.length D rfl hown ?_; rw [hS]))
        refine Hst2.out.mono ?_
        rintro e w4 ⟨rfl, hl4, hb4, -⟩
        have hown4 := ownsMap_below hown hb4 (by omega)
        have HB4 := Lib.hid (HB3.out.trans hb4)
        have hkl : (t.txt ++ u.txt) = ky := by rw [Hky.out]; rfl
        rw [hkl]
        clear hl4 hb4 hown hkl
        have hZ4 := HZ0.out.below HB4.out (by omega)
        have hs4 : w.heap.size + 1 + 1 + 1 ≤ w4.heap.size := by have := HB4.out.size; have := HsW.out; omega
        have HZ4 := Lib.hid hZ4; clear hZ4
        have hz5 : ∀ w5, w4.grownBy w5 (some mb) → Blk w5 (w.heap.size + 1 + 1) 25 #[.int .i64 0, .int .i64 0, .string ⟨#[]⟩, .slice none 0 0] := fun w5 h => HZ4.out.grown h (by simp; omega)
        have Hz5 := Lib.hid hz5; clear hz5
        go_wp2_with (at_mapUpdate; refine wpList_mapUpdate_own _ rfl _ _ _ 108 rfl 9 3 (Maps.string_keyed Try.underlying9) Try.underlying108 _ mb p.length D rfl hown4 (by simp only [maxLen]; omega) (.string ⟨ky.toArray⟩) (.int .i64 p.length) (.string ky) rfl rfl hkey _ [] (plainElem_int Try.underlying3 hwk) ?_; intro w5 hown5 hg5; have hZ5 := Hz5.out w5 hg5; have hs5 := hg5.size; obtain ⟨⟨z0, z1, z2, z3⟩, ⟨f0, f1, f2, f3⟩⟩ := hZ5.four; have HZ5 := Lib.hid hZ5; clear hZ5; have Hown5 := Lib.hid hown5; clear hown5; have Hg5 := Lib.hid hg5; clear hg5)
        have hF := ((((HZ5.out.set_ 0 (.int .i64 1)).set_ 1 (.int .i64 p.length)).set_ 2 (.string ⟨#[]⟩)).set_ 3 (.slice none 0 0))
        obtain ⟨⟨q0, q1, q2, q3⟩, -⟩ := hF.four
        have hm5 : MapP w5 mb (p ++ [(t, u)]) := MapP.put (w := w5) (by have := Hown5.out; rw [Hky.out] at this; exact this) hT hS (fun q h => ⟨by rw [(Hall.out q h).1]; congr, (Hall.out q h).2⟩) Hfit.out Hq.out
        have hmF := hm5.set4 (z := w.heap.size + 1 + 1) (by omega) (.int .i64 1) (.int .i64 p.length) (.string ⟨#[]⟩) (.slice none 0 0)
        have hb5 : But mb w w5 := (But.of_below (b := mb) (HB0.out.trans (HB4.out.mono (by omega))) (Nat.le_refl _)).trans ⟨Hg5.out.os, Hg5.out.tape, Hg5.out.output, Hg5.out.size, fun j hj hjb => Hg5.out.block j hj (by simpa using hjb)⟩
        have hbF := hb5.set4 (z := w.heap.size + 1 + 1) (by omega) (.int .i64 1) (.int .i64 p.length) (.string ⟨#[]⟩) (.slice none 0 0)
        refine bodyPost_ret (v := .agg #[.int .i64 1, .int .i64 p.length, .string ⟨#[]⟩, .slice none 0 0]) ?_ rfl (R := RetG mb w R) ⟨none, 0, by rw [Hgen2.out]; rfl, by rw [Hgen2.out]; show (⟨#[]⟩ : ByteArray).size ≤ _; decide, by rw [Hgen2.out]; exact TmC.nil _ _ (by omega) (fun _ => rfl), by rw [Hgen2.out]; exact hmF, hbF⟩
        generalize (World.setCell _ ⟨w.heap.size + 1 + 1, 3, none⟩ _) = WF at q0 q1 q2 q3 ⊢
        clear hF hmF hbF hb5 hm5
        simp [results, Try.results92, go_sem, q0, q1, q2, q3]
    have dhn : (t.n == u.n) = true := by simpa using hn
    have Hhn := Lib.hid hn; clear hn
    by_cases hss : t.s.toList = u.s.toList
    case neg =>
      have Hgl := Lib.hid (show R = (Tm.va (pidx p (t, u)), padd p (t, u)) from by rw [Hgen.out, if_neg (fun h => hss h.2.2.2.1)])
      clear a0 a1 a2 a3 b0 b1 b2 b3
      go_enter Try.func92, Try.ntmps92
      go_wp2_with fail
      rw [← HW.out]
      refine HC1.out.mono ?_
      rintro e w1 ⟨rfl, hl1, hb1, -⟩
      have hb1 : Below (w.heap.size + 1 + 1 + 1) W0 w1 := ((Below.refl _ W0).alloc (by have := HsW.out; omega) _).trans hb1
      obtain ⟨⟨b0, b1, b2, b3⟩, -⟩ := (HY0.out.below hb1 (by omega)).four
      have hs1 := hb1.size
      rw [HsW.out] at hs1
      have HB1 := Lib.hid hb1; clear hb1
      have HL1 := Lib.hid hl1; clear hl1
      go_wp2_with fail
      refine (HC2.out w1 HB1.out HL1.out).mono ?_
      rintro e w2 ⟨rfl, hl2, hb2, -⟩
      have HB2 := Lib.hid (HB1.out.trans hb2); clear hb2
      have HL2 := Lib.hid hl2; clear hl2
      have Hst := Lib.hid (string_calls (w.heap.size + 1 + 1 + 1) (w.heap.size + 1 + 1 + 1) (t.txt ++ u.txt) w2 HL2.out (by have := HB2.out.size; have := HsW.out; omega))
      go_wp2_with fail
      refine Hst.out.mono ?_
      rintro e w3 ⟨rfl, hl3, hb3, -⟩
      have HB3 := Lib.hid (HB2.out.trans hb3); clear hb3
      have HL3 := Lib.hid hl3; clear hl3 b0 b1 b2 b3
      have hs3 : w.heap.size + 1 + 1 + 1 ≤ w3.heap.size := by have := HB3.out.size; have := HsW.out; omega
      obtain ⟨D, hown, hT, hS, hall⟩ := Hm0.out.below HB3.out (by omega)
      obtain ⟨ky, hky⟩ : ∃ ky, ky = pkey (t, u) := ⟨_, rfl⟩
      have hkl : (t.txt ++ u.txt) = ky := by rw [hky]; rfl
      have hkey : keyOf Try.prog 9 (.string ⟨ky.toArray⟩) = some (.string ky) := by
        have h1 : (⟨ky.toArray⟩ : ByteArray).size = ky.length := by simp [ByteArray.size]
        have h2 := WideMaps.keyOf_string_mk (P := Try.prog) (k := 9) Try.underlying9 (s := ⟨ky.toArray⟩) (by rw [h1, ← hkl, List.length_append]; have := Htl.out; simp only [maxLen]; omega)
        simpa using h2
      rw [hkl]
      have Hky := Lib.hid hky; clear hky hkl
      by_cases hq : (t, u) ∈ p
      · have hhas : Maps.has D (.string ky) = true := by rw [Hky.out, (hall _ Hfit.out).1]; simpa using hq
        have hat0 := (hall _ Hfit.out).2 hq
        rw [← Hky.out] at hat0
        have Hgen2 := Lib.hid (show R = (Tm.va (pidx p (t, u)), p) from by rw [Hgl.out]; unfold padd; rw [if_pos hq])
        obtain ⟨⟨z0, z1, z2, z3⟩, ⟨f0, f1, f2, f3⟩⟩ := (HZ0.out.below HB3.out (by omega)).four
        have HZ3 := Lib.hid (HZ0.out.below HB3.out (by omega))
        go_wp2_with (at_lookup; refine wpList_lookup_own_ok_int _ rfl _ _ 108 rfl 9 3 .i64 (Maps.string_keyed Try.underlying9) Try.underlying108 Try.underlying3 (Try.zeroValue3 _) mb p.length D rfl hown (.string ⟨ky.toArray⟩) (.string ky) rfl hkey ?_; intro cc hat hwc; rw [hhas]; rw [hat0] at hat; have hcc := lit_inj hat; subst hcc; clear hat hwc)
        have hF := ((((HZ3.out.set_ 0 (.int .i64 1)).set_ 1 (.int .i64 (pidx p (t, u)))).set_ 2 (.string ⟨#[]⟩)).set_ 3 (.slice none 0 0))
        obtain ⟨⟨q0, q1, q2, q3⟩, -⟩ := hF.four
        have hF := ((((HZ3.out.set_ 0 (.int .i64 1)).set_ 1 (.int .i64 (pidx p (t, u)))).set_ 2 (.string ⟨#[]⟩)).set_ 3 (.slice none 0 0))
        obtain ⟨⟨q0, q1, q2, q3⟩, -⟩ := hF.four
        have hmF := (Hm0.out.below HB3.out (by omega)).set4 (z := w.heap.size + 1 + 1) (by omega) (.int .i64 1) (.int .i64 (pidx p (t, u))) (.string ⟨#[]⟩) (.slice none 0 0)
        have hbF := (But.of_below (b := mb) (HB0.out.trans (HB3.out.mono (by omega))) (Nat.le_refl _)).set4 (z := w.heap.size + 1 + 1) (by omega) (.int .i64 1) (.int .i64 (pidx p (t, u))) (.string ⟨#[]⟩) (.slice none 0 0)
        refine bodyPost_ret (v := .agg #[.int .i64 1, .int .i64 (pidx p (t, u)), .string ⟨#[]⟩, .slice none 0 0]) ?_ rfl (R := RetG mb w R) ⟨none, 0, by rw [Hgen2.out]; rfl, by rw [Hgen2.out]; show (⟨#[]⟩ : ByteArray).size ≤ _; decide, by rw [Hgen2.out]; exact TmC.nil _ _ (by omega) (fun _ => rfl), by rw [Hgen2.out]; exact hmF, hbF⟩
        generalize (World.setCell _ ⟨w.heap.size + 1 + 1, 3, none⟩ _) = WF at q0 q1 q2 q3 ⊢
        clear hF hmF hbF
        simp [results, Try.results92, go_sem, q0, q1, q2, q3]
      · have hhas : Maps.has D (.string ky) = false := by rw [Hky.out, (hall _ Hfit.out).1]; simpa using hq
        have Hgen2 := Lib.hid (show R = (Tm.va p.length, p ++ [(t, u)]) from by rw [Hgl.out, pidx_not hq]; unfold padd; rw [if_neg hq])
        have Hq := Lib.hid hq; clear hq
        have hwk : (Lit.int .i64 (p.length : Int)).wf = true := by
          unfold Lit.wf
          simp [IntKind.min, IntKind.max, IntKind.bits, IntKind.signed]
          omega
        have Hst2 := Lib.hid (string_calls (w.heap.size + 1 + 1 + 1) (w.heap.size + 1 + 1 + 1) (t.txt ++ u.txt) w3 HL3.out hs3)
        have Hall := Lib.hid hall; clear hall
        go_wp2_with (first
          | (at_lookup; refine wpList_lookup_own_ok_int _ rfl _ _ 108 rfl 9 3 .i64 (Maps.string_keyed Try.underlying9) Try.underlying108 Try.underlying3 (Try.zeroValue3 _) mb p.length D rfl hown (.string ⟨ky.toArray⟩) (.string ky) rfl hkey ?_; intro cc hat hwc; rw [hhas]; clear hat hwc)
          | (at_len; refine wpList_len_own _ rfl _ 108 rfl 9 3 Try.underlying108 _ mb p.length D rfl hown ?_; rw [hS]))
        refine Hst2.out.mono ?_
        rintro e w4 ⟨rfl, hl4, hb4, -⟩
        have hown4 := ownsMap_below hown hb4 (by omega)
        have HB4 := Lib.hid (HB3.out.trans hb4)
        have hkl : (t.txt ++ u.txt) = ky := by rw [Hky.out]; rfl
        rw [hkl]
        clear hl4 hb4 hown hkl
        have hZ4 := HZ0.out.below HB4.out (by omega)
        have hs4 : w.heap.size + 1 + 1 + 1 ≤ w4.heap.size := by have := HB4.out.size; have := HsW.out; omega
        have HZ4 := Lib.hid hZ4; clear hZ4
        have hz5 : ∀ w5, w4.grownBy w5 (some mb) → Blk w5 (w.heap.size + 1 + 1) 25 #[.int .i64 0, .int .i64 0, .string ⟨#[]⟩, .slice none 0 0] := fun w5 h => HZ4.out.grown h (by simp; omega)
        have Hz5 := Lib.hid hz5; clear hz5
        go_wp2_with (at_mapUpdate; refine wpList_mapUpdate_own _ rfl _ _ _ 108 rfl 9 3 (Maps.string_keyed Try.underlying9) Try.underlying108 _ mb p.length D rfl hown4 (by simp only [maxLen]; omega) (.string ⟨ky.toArray⟩) (.int .i64 p.length) (.string ky) rfl rfl hkey _ [] (plainElem_int Try.underlying3 hwk) ?_; intro w5 hown5 hg5; have hZ5 := Hz5.out w5 hg5; have hs5 := hg5.size; obtain ⟨⟨z0, z1, z2, z3⟩, ⟨f0, f1, f2, f3⟩⟩ := hZ5.four; have HZ5 := Lib.hid hZ5; clear hZ5; have Hown5 := Lib.hid hown5; clear hown5; have Hg5 := Lib.hid hg5; clear hg5)
        have hF := ((((HZ5.out.set_ 0 (.int .i64 1)).set_ 1 (.int .i64 p.length)).set_ 2 (.string ⟨#[]⟩)).set_ 3 (.slice none 0 0))
        obtain ⟨⟨q0, q1, q2, q3⟩, -⟩ := hF.four
        have hm5 : MapP w5 mb (p ++ [(t, u)]) := MapP.put (w := w5) (by have := Hown5.out; rw [Hky.out] at this; exact this) hT hS (fun q h => ⟨by rw [(Hall.out q h).1]; congr, (Hall.out q h).2⟩) Hfit.out Hq.out
        have hmF := hm5.set4 (z := w.heap.size + 1 + 1) (by omega) (.int .i64 1) (.int .i64 p.length) (.string ⟨#[]⟩) (.slice none 0 0)
        have hb5 : But mb w w5 := (But.of_below (b := mb) (HB0.out.trans (HB4.out.mono (by omega))) (Nat.le_refl _)).trans ⟨Hg5.out.os, Hg5.out.tape, Hg5.out.output, Hg5.out.size, fun j hj hjb => Hg5.out.block j hj (by simpa using hjb)⟩
        have hbF := hb5.set4 (z := w.heap.size + 1 + 1) (by omega) (.int .i64 1) (.int .i64 p.length) (.string ⟨#[]⟩) (.slice none 0 0)
        refine bodyPost_ret (v := .agg #[.int .i64 1, .int .i64 p.length, .string ⟨#[]⟩, .slice none 0 0]) ?_ rfl (R := RetG mb w R) ⟨none, 0, by rw [Hgen2.out]; rfl, by rw [Hgen2.out]; show (⟨#[]⟩ : ByteArray).size ≤ _; decide, by rw [Hgen2.out]; exact TmC.nil _ _ (by omega) (fun _ => rfl), by rw [Hgen2.out]; exact hmF, hbF⟩
        generalize (World.setCell _ ⟨w.heap.size + 1 + 1, 3, none⟩ _) = WF at q0 q1 q2 q3 ⊢
        clear hF hmF hbF hb5 hm5
        simp [results, Try.results92, go_sem, q0, q1, q2, q3]
    by_cases hll : t.l.length = u.l.length
    case neg =>
      have Hgl := Lib.hid (show R = (Tm.va (pidx p (t, u)), padd p (t, u)) from by rw [Hgen.out, if_neg (fun h => hll h.2.2.2.2)])
      have dhll : ((t.l.length : Int) == u.l.length) = false := by rw [beq_eq_false_iff_ne]; intro e; exact hll (by omega)
      clear hll
      clear a0 a1 a2 a3 b0 b1 b2 b3
      go_enter Try.func92, Try.ntmps92
      go_wp2_with fail
      rw [← HW.out]
      refine HC1.out.mono ?_
      rintro e w1 ⟨rfl, hl1, hb1, -⟩
      have hb1 : Below (w.heap.size + 1 + 1 + 1) W0 w1 := ((Below.refl _ W0).alloc (by have := HsW.out; omega) _).trans hb1
      obtain ⟨⟨b0, b1, b2, b3⟩, -⟩ := (HY0.out.below hb1 (by omega)).four
      have hs1 := hb1.size
      rw [HsW.out] at hs1
      have HB1 := Lib.hid hb1; clear hb1
      have HL1 := Lib.hid hl1; clear hl1
      go_wp2_with fail
      refine (HC2.out w1 HB1.out HL1.out).mono ?_
      rintro e w2 ⟨rfl, hl2, hb2, -⟩
      have HB2 := Lib.hid (HB1.out.trans hb2); clear hb2
      have HL2 := Lib.hid hl2; clear hl2
      have Hst := Lib.hid (string_calls (w.heap.size + 1 + 1 + 1) (w.heap.size + 1 + 1 + 1) (t.txt ++ u.txt) w2 HL2.out (by have := HB2.out.size; have := HsW.out; omega))
      go_wp2_with fail
      refine Hst.out.mono ?_
      rintro e w3 ⟨rfl, hl3, hb3, -⟩
      have HB3 := Lib.hid (HB2.out.trans hb3); clear hb3
      have HL3 := Lib.hid hl3; clear hl3 b0 b1 b2 b3
      have hs3 : w.heap.size + 1 + 1 + 1 ≤ w3.heap.size := by have := HB3.out.size; have := HsW.out; omega
      obtain ⟨D, hown, hT, hS, hall⟩ := Hm0.out.below HB3.out (by omega)
      obtain ⟨ky, hky⟩ : ∃ ky, ky = pkey (t, u) := ⟨_, rfl⟩
      have hkl : (t.txt ++ u.txt) = ky := by rw [hky]; rfl
      have hkey : keyOf Try.prog 9 (.string ⟨ky.toArray⟩) = some (.string ky) := by
        have h1 : (⟨ky.toArray⟩ : ByteArray).size = ky.length := by simp [ByteArray.size]
        have h2 := WideMaps.keyOf_string_mk (P := Try.prog) (k := 9) Try.underlying9 (s := ⟨ky.toArray⟩) (by rw [h1, ← hkl, List.length_append]; have := Htl.out; simp only [maxLen]; omega)
        simpa using h2
      rw [hkl]
      have Hky := Lib.hid hky; clear hky hkl
      by_cases hq : (t, u) ∈ p
      · have hhas : Maps.has D (.string ky) = true := by rw [Hky.out, (hall _ Hfit.out).1]; simpa using hq
        have hat0 := (hall _ Hfit.out).2 hq
        rw [← Hky.out] at hat0
        have Hgen2 := Lib.hid (show R = (Tm.va (pidx p (t, u)), p) from by rw [Hgl.out]; unfold padd; rw [if_pos hq])
        obtain ⟨⟨z0, z1, z2, z3⟩, ⟨f0, f1, f2, f3⟩⟩ := (HZ0.out.below HB3.out (by omega)).four
        have HZ3 := Lib.hid (HZ0.out.below HB3.out (by omega))
        go_wp2_with (at_lookup; refine wpList_lookup_own_ok_int _ rfl _ _ 108 rfl 9 3 .i64 (Maps.string_keyed Try.underlying9) Try.underlying108 Try.underlying3 (Try.zeroValue3 _) mb p.length D rfl hown (.string ⟨ky.toArray⟩) (.string ky) rfl hkey ?_; intro cc hat hwc; rw [hhas]; rw [hat0] at hat; have hcc := lit_inj hat; subst hcc; clear hat hwc)
        have hF := ((((HZ3.out.set_ 0 (.int .i64 1)).set_ 1 (.int .i64 (pidx p (t, u)))).set_ 2 (.string ⟨#[]⟩)).set_ 3 (.slice none 0 0))
        obtain ⟨⟨q0, q1, q2, q3⟩, -⟩ := hF.four
        have hF := ((((HZ3.out.set_ 0 (.int .i64 1)).set_ 1 (.int .i64 (pidx p (t, u)))).set_ 2 (.string ⟨#[]⟩)).set_ 3 (.slice none 0 0))
        obtain ⟨⟨q0, q1, q2, q3⟩, -⟩ := hF.four
        have hmF := (Hm0.out.below HB3.out (by omega)).set4 (z := w.heap.size + 1 + 1) (by omega) (.int .i64 1) (.int .i64 (pidx p (t, u))) (.string ⟨#[]⟩) (.slice none 0 0)
        have hbF := (But.of_below (b := mb) (HB0.out.trans (HB3.out.mono (by omega))) (Nat.le_refl _)).set4 (z := w.heap.size + 1 + 1) (by omega) (.int .i64 1) (.int .i64 (pidx p (t, u))) (.string ⟨#[]⟩) (.slice none 0 0)
        refine bodyPost_ret (v := .agg #[.int .i64 1, .int .i64 (pidx p (t, u)), .string ⟨#[]⟩, .slice none 0 0]) ?_ rfl (R := RetG mb w R) ⟨none, 0, by rw [Hgen2.out]; rfl, by rw [Hgen2.out]; show (⟨#[]⟩ : ByteArray).size ≤ _; decide, by rw [Hgen2.out]; exact TmC.nil _ _ (by omega) (fun _ => rfl), by rw [Hgen2.out]; exact hmF, hbF⟩
        generalize (World.setCell _ ⟨w.heap.size + 1 + 1, 3, none⟩ _) = WF at q0 q1 q2 q3 ⊢
        clear hF hmF hbF
        simp [results, Try.results92, go_sem, q0, q1, q2, q3]
      · have hhas : Maps.has D (.string ky) = false := by rw [Hky.out, (hall _ Hfit.out).1]; simpa using hq
        have Hgen2 := Lib.hid (show R = (Tm.va p.length, p ++ [(t, u)]) from by rw [Hgl.out, pidx_not hq]; unfold padd; rw [if_neg hq])
        have Hq := Lib.hid hq; clear hq
        have hwk : (Lit.int .i64 (p.length : Int)).wf = true := by
          unfold Lit.wf
          simp [IntKind.min, IntKind.max, IntKind.bits, IntKind.signed]
          omega
        have Hst2 := Lib.hid (string_calls (w.heap.size + 1 + 1 + 1) (w.heap.size + 1 + 1 + 1) (t.txt ++ u.txt) w3 HL3.out hs3)
        have Hall := Lib.hid hall; clear hall
        go_wp2_with (first
          | (at_lookup; refine wpList_lookup_own_ok_int _ rfl _ _ 108 rfl 9 3 .i64 (Maps.string_keyed Try.underlying9) Try.underlying108 Try.underlying3 (Try.zeroValue3 _) mb p.length D rfl hown (.string ⟨ky.toArray⟩) (.string ky) rfl hkey ?_; intro cc hat hwc; rw [hhas]; clear hat hwc)
          | (at_len; refine wpList_len_own _ rfl _ 108 rfl 9 3 Try.underlying108 _ mb p.length D rfl hown ?_; rw [hS]))
        refine Hst2.out.mono ?_
        rintro e w4 ⟨rfl, hl4, hb4, -⟩
        have hown4 := ownsMap_below hown hb4 (by omega)
        have HB4 := Lib.hid (HB3.out.trans hb4)
        have hkl : (t.txt ++ u.txt) = ky := by rw [Hky.out]; rfl
        rw [hkl]
        clear hl4 hb4 hown hkl
        have hZ4 := HZ0.out.below HB4.out (by omega)
        have hs4 : w.heap.size + 1 + 1 + 1 ≤ w4.heap.size := by have := HB4.out.size; have := HsW.out; omega
        have HZ4 := Lib.hid hZ4; clear hZ4
        have hz5 : ∀ w5, w4.grownBy w5 (some mb) → Blk w5 (w.heap.size + 1 + 1) 25 #[.int .i64 0, .int .i64 0, .string ⟨#[]⟩, .slice none 0 0] := fun w5 h => HZ4.out.grown h (by simp; omega)
        have Hz5 := Lib.hid hz5; clear hz5
        go_wp2_with (at_mapUpdate; refine wpList_mapUpdate_own _ rfl _ _ _ 108 rfl 9 3 (Maps.string_keyed Try.underlying9) Try.underlying108 _ mb p.length D rfl hown4 (by simp only [maxLen]; omega) (.string ⟨ky.toArray⟩) (.int .i64 p.length) (.string ky) rfl rfl hkey _ [] (plainElem_int Try.underlying3 hwk) ?_; intro w5 hown5 hg5; have hZ5 := Hz5.out w5 hg5; have hs5 := hg5.size; obtain ⟨⟨z0, z1, z2, z3⟩, ⟨f0, f1, f2, f3⟩⟩ := hZ5.four; have HZ5 := Lib.hid hZ5; clear hZ5; have Hown5 := Lib.hid hown5; clear hown5; have Hg5 := Lib.hid hg5; clear hg5)
        have hF := ((((HZ5.out.set_ 0 (.int .i64 1)).set_ 1 (.int .i64 p.length)).set_ 2 (.string ⟨#[]⟩)).set_ 3 (.slice none 0 0))
        obtain ⟨⟨q0, q1, q2, q3⟩, -⟩ := hF.four
        have hm5 : MapP w5 mb (p ++ [(t, u)]) := MapP.put (w := w5) (by have := Hown5.out; rw [Hky.out] at this; exact this) hT hS (fun q h => ⟨by rw [(Hall.out q h).1]; congr, (Hall.out q h).2⟩) Hfit.out Hq.out
        have hmF := hm5.set4 (z := w.heap.size + 1 + 1) (by omega) (.int .i64 1) (.int .i64 p.length) (.string ⟨#[]⟩) (.slice none 0 0)
        have hb5 : But mb w w5 := (But.of_below (b := mb) (HB0.out.trans (HB4.out.mono (by omega))) (Nat.le_refl _)).trans ⟨Hg5.out.os, Hg5.out.tape, Hg5.out.output, Hg5.out.size, fun j hj hjb => Hg5.out.block j hj (by simpa using hjb)⟩
        have hbF := hb5.set4 (z := w.heap.size + 1 + 1) (by omega) (.int .i64 1) (.int .i64 p.length) (.string ⟨#[]⟩) (.slice none 0 0)
        refine bodyPost_ret (v := .agg #[.int .i64 1, .int .i64 p.length, .string ⟨#[]⟩, .slice none 0 0]) ?_ rfl (R := RetG mb w R) ⟨none, 0, by rw [Hgen2.out]; rfl, by rw [Hgen2.out]; show (⟨#[]⟩ : ByteArray).size ≤ _; decide, by rw [Hgen2.out]; exact TmC.nil _ _ (by omega) (fun _ => rfl), by rw [Hgen2.out]; exact hmF, hbF⟩
        generalize (World.setCell _ ⟨w.heap.size + 1 + 1, 3, none⟩ _) = WF at q0 q1 q2 q3 ⊢
        clear hF hmF hbF hb5 hm5
        simp [results, Try.results92, go_sem, q0, q1, q2, q3]
    have dhll : ((t.l.length : Int) == u.l.length) = true := by rw [hll]; simp
    have Hgen2 := Lib.hid (show R = (.mk t.k t.n t.s (Tm.gens t.l u.l p).1, (Tm.gens t.l u.l p).2) from by rw [Hgen.out, if_pos ⟨Hhk.out, Hhk1.out, Hhn.out, hss, hll⟩])
    have Hll := Lib.hid hll; clear hll
    go_enter Try.func92, Try.ntmps92
    go_wp2
    rw [← HW.out]
    obtain ⟨N0, hN0⟩ : ∃ N0, N0 = w.heap.size + 1 + 1 + 1 := ⟨_, rfl⟩
    have HN0 := Lib.hid (show N0 = W0.heap.size from by rw [HsW.out, hN0])
    have hml : mb < N0 := by omega
    have HN1 := Lib.hid hN0
    have hx1 : w.heap.size < N0 := by omega
    have hx2 : w.heap.size + 1 < N0 := by omega
    have hx3 : w.heap.size + 1 + 1 < N0 := by omega
    have hm1 : w.heap.size ≠ mb := by omega
    have hm2 : w.heap.size + 1 ≠ mb := by omega
    have hm3 : w.heap.size + 1 + 1 ≠ mb := by omega
    clear hN0 a0 a1 a2 a3 b0 b1 b2 b3
    go_loopw [7, 48] (fun v7 i wr => ∃ k : Nat, k ≤ t.l.length ∧ i = .int .i64 k ∧ Hid (RowT N0 (N0 ≤ ·) wr v7 (Tm.gens (t.l.take k) (u.l.take k) p).1) ∧ Hid (MapP wr mb (Tm.gens (t.l.take k) (u.l.take k) p).2) ∧ Hid (But mb W0 wr)) (fun _ i _ => t.l.length - (intOf i).toNat)
    case atStart => exact ⟨0, Nat.zero_le _, rfl, Lib.hid (by rw [List.take_zero, Tm.gens_nil]; exact RowT.nil _ _ _), by rw [List.take_zero, Tm.gens_nil]; exact Hm0, Lib.hid (But.refl _ _)⟩
    case round =>
      obtain ⟨k, hk, rfl, Hrw, Hmp, HB⟩ := hrel
      have HX := Lib.hid (HX0.out.but HB.out hm1)
      have HY := Lib.hid (HY0.out.but HB.out hm2)
      have HZ := Lib.hid (HZ0.out.but HB.out hm3)
      obtain ⟨⟨a0, a1, a2, a3⟩, ⟨u0, u1, u2, u3⟩⟩ := HX.out.four
      obtain ⟨⟨b0, b1, b2, b3⟩, -⟩ := HY.out.four
      have hNr : N0 ≤ wr.heap.size := by rw [HN0.out]; exact HB.out.size
      by_cases hlt : k < t.l.length
      · obtain ⟨x, hx⟩ : ∃ x, t.l[k]? = some x := ⟨_, List.getElem?_eq_getElem hlt⟩
        obtain ⟨y, hy⟩ : ∃ y, u.l[k]? = some y := ⟨_, List.getElem?_eq_getElem (by rw [← Hll.out]; exact hlt)⟩
        have hltu : k < u.l.length := by rw [← Hll.out]; exact hlt
        obtain ⟨ga, oa, Ax, cx, rfl, hPg, ⟨e0, e1, e2, e3⟩, hxs, hxc⟩ := (Hc.out.but HB.out (fun g h => HP.out g h.1)).at_ hx
        obtain ⟨gb, ob, Ay, cy, rfl, hQg, ⟨f0, f1, f2, f3⟩, hys, hyc⟩ := (Hd.out.but HB.out (fun g h => HQ.out g h.1)).at_ hy
        have hna : ga ≠ mb := HP.out ga hPg.1
        have hnb : gb ≠ mb := HQ.out gb hQg.1
        have hla : ga < N0 := by have := hPg.2; omega
        have hlb : gb < N0 := by have := hQg.2; omega
        have hxm := List.mem_of_getElem? hx
        have hym := List.mem_of_getElem? hy
        obtain ⟨pk, hpk⟩ : ∃ pk, pk = (Tm.gens (t.l.take k) (u.l.take k) p).2 := ⟨_, rfl⟩
        obtain ⟨zs, hzs⟩ : ∃ zs, zs = (Tm.gens (t.l.take k) (u.l.take k) p).1 := ⟨_, rfl⟩
        have hzl : zs.length = k := by rw [hzs, Tm.gens_len (by rw [List.length_take, List.length_take, Hll.out])]; rw [List.length_take]; omega
        have htk : Tm.gens (t.l.take (k + 1)) (u.l.take (k + 1)) p = (zs ++ [(x.gen y pk).1], (x.gen y pk).2) := by
          rw [take_snoc hx, take_snoc hy, Tm.gens_snoc (by rw [List.length_take, List.length_take, Hll.out]), ← hpk, ← hzs]
        rw [← hpk] at Hmp
        rw [← hzs] at Hrw
        have hnk : pk.Nodup ∧ pk.length + x.size ≤ 1000000 := by
          have h1 := (Tm.gen_pairs (fun _ => True) (Tm.sizes (t.l.take k))).2 (t.l.take k) (u.l.take k) p (Nat.le_refl _) (fun _ _ => trivial) (fun _ _ => trivial) Hnd.out (fun _ _ => ⟨fun _ _ => trivial, fun _ _ => trivial⟩)
          rw [← hpk] at h1
          have h2 := sizes_take_le (k + 1) t.l
          rw [take_snoc hx, sizes_append] at h2
          simp only [Tm.sizes] at h2
          have h3 := t.size_eq
          exact ⟨h1.2.1, by omega⟩
        obtain ⟨r, hr⟩ : ∃ r, r = x.gen y pk := ⟨_, rfl⟩
        rw [← hr] at htk
        have hcall := Ih.out x hxm (fun g => P g ∧ g < w.heap.size) (fun g => Q g ∧ g < w.heap.size) wr.drew _ _ y mb pk ⟨Ax, cx, rfl, hxs, hxc.kept (fun _ _ _ => rfl)⟩ ⟨Ay, cy, rfl, hys, hyc.kept (fun _ _ _ => rfl)⟩ (Hmp.out.same rfl) (fun g h => HP.out g h.1) (fun g h => HQ.out g h.1) ⟨fun z hz => Hfit.out.1 z (pre_mem hxm hz), fun z hz => Hfit.out.2 z (pre_mem hym hz)⟩ hnk.1 hnk.2 (by have := Tm.txt_child hxm; have := Tm.txt_child hym; have := Htl.out; omega)
        rw [← hr] at hcall
        have Hcall := Lib.hid hcall; clear hcall hr hpk hzs hnk
        have Htk := Lib.hid htk; clear htk hx hy hxc hyc hxm hym
        have hkc : (0 : Int) ≤ (k : Int) := by omega
        have hkt : (k : Int) < (t.l.length : Int) := by omega
        have hku : (k : Int) < (u.l.length : Int) := by omega
        have hcc : ∀ (es : List EV) (W : World) (ob : Obj), zs.length = es.length → wr.heap.size ≤ W.heap.size → es.length + 1 ≤ maxLen ∧ (es.length + 1) * 56 ≤ 140737488355328 ∧ N0 ≤ (W.alloc ob).heap.size := fun es W ob h1 h2 => by
          have := t.size_eq
          have := len_le_sizes t.l
          rw [World.size_alloc]
          simp only [maxLen]
          omega
        have HCC := Lib.hid hcc; clear hcc
        have hPb : ∀ g, N0 ≤ g → g ≠ mb := fun g h => by omega
        have hone : ∀ v ∈ [Value.int .i64 r.1.k, .int .i64 r.1.n, .string r.1.s], v.oneCell' = true := by simp [Value.oneCell']
        have hone4 : ∀ A c, ∀ v ∈ [Value.int .i64 r.1.k, .int .i64 r.1.n, .string r.1.s, .slice A r.1.l.length c], v.oneCell' = true := fun A c => by simp [Value.oneCell']
        have HONE := Lib.hid hone4; clear hone hone4
        have hlm2 : ∀ es : List EV, zs = es.map (fun e => e.1) → zs.length = es.length := fun es h => by rw [h, List.length_map]
        have HLM := Lib.hid hlm2; clear hlm2
        have harm : ∀ (w2 : World) (A2 : Option Addr) (c2 : Nat), But mb wr.drew w2 → ∃ es : List EV, Hid (zs = es.map (fun e => e.1)) ∧ Hid ((w2.alloc (.cells #[.int .i64 r.1.k, .int .i64 r.1.n, .string r.1.s, .slice A2 r.1.l.length c2] 25)).ownsRow N0 25 4 u7 es.length (es.flatMap encE)) ∧
            Hid (∀ e ∈ es, e.1.s.size ≤ 9223372036854775807 ∧ TmC (fun g => (N0 ≤ g) ∧ some g ≠ u7.ownBlock ∧ g < (w2.alloc (.cells #[.int .i64 r.1.k, .int .i64 r.1.n, .string r.1.s, .slice A2 r.1.l.length c2] 25)).heap.size) (w2.alloc (.cells #[.int .i64 r.1.k, .int .i64 r.1.n, .string r.1.s, .slice A2 r.1.l.length c2] 25)) e.2.1 e.2.2 e.1.l) ∧
            Hid (Blk (w2.alloc (.cells #[.int .i64 r.1.k, .int .i64 r.1.n, .string r.1.s, .slice A2 r.1.l.length c2] 25)) w2.heap.size 25 #[.int .i64 r.1.k, .int .i64 r.1.n, .string r.1.s, .slice A2 r.1.l.length c2]) ∧ wr.heap.size ≤ w2.heap.size ∧ zs.length = es.length ∧
            Hid (es.length + 1 ≤ maxLen ∧ (es.length + 1) * 56 ≤ 140737488355328 ∧ N0 ≤ (w2.alloc (.cells #[.int .i64 r.1.k, .int .i64 r.1.n, .string r.1.s, .slice A2 r.1.l.length c2] 25)).heap.size) ∧ Hid (But mb wr w2) := fun w2 A2 c2 hb2 => by
          have hrw2 := (Hrw.out.butN (show But mb wr w2 from ⟨hb2.os, hb2.tape, hb2.output, hb2.size, hb2.block⟩) hml hPb).below ((Below.refl _ _).alloc (Nat.le_refl _) (.cells #[.int .i64 r.1.k, .int .i64 r.1.n, .string r.1.s, .slice A2 r.1.l.length c2] 25)) (Nat.le_refl _)
          obtain ⟨es, hes, hrow, hch⟩ := hrw2
          exact ⟨es, Lib.hid hes, Lib.hid hrow, Lib.hid hch, Lib.hid (Blk.new _ _ _), hb2.size, HLM.out es hes, Lib.hid (HCC.out es w2 _ (HLM.out es hes) hb2.size), Lib.hid ⟨hb2.os, hb2.tape, hb2.output, hb2.size, hb2.block⟩⟩
        have HARM := Lib.hid harm; clear harm
        have hzk : zs.length ≤ 1000000 := by have := t.size_eq; have := len_le_sizes t.l; omega
        go_wp2_with fail
        go_region_held3 (fun W => W.cell? ⟨w.heap.size, 3, none⟩ = some (.slice (some ⟨ga, oa, none⟩) t.l.length c) ∧ W.cell? ⟨w.heap.size + 1, 3, none⟩ = some (.slice (some ⟨gb, ob, none⟩) u.l.length d) ∧
            W.cell? ⟨ga, oa + k * 4, none⟩ = some (.int .i64 x.k) ∧ W.cell? ⟨ga, oa + k * 4 + 1, none⟩ = some (.int .i64 x.n) ∧ W.cell? ⟨ga, oa + k * 4 + 2, none⟩ = some (.string x.s) ∧ W.cell? ⟨ga, oa + k * 4 + 3, none⟩ = some (.slice Ax x.l.length cx) ∧
            W.cell? ⟨gb, ob + k * 4, none⟩ = some (.int .i64 y.k) ∧ W.cell? ⟨gb, ob + k * 4 + 1, none⟩ = some (.int .i64 y.n) ∧ W.cell? ⟨gb, ob + k * 4 + 2, none⟩ = some (.string y.s) ∧ W.cell? ⟨gb, ob + k * 4 + 3, none⟩ = some (.slice Ay y.l.length cy))
          (first
            | exact ⟨a3, b3, e0, e1, e2, e3, f0, f1, f2, f3⟩
            | exact ⟨j0, j1, j2, j3, j4, j5, j6, j7, j8, j9⟩
            | (go_split_ands; refine ⟨?_, ?_, ?_, ?_, ?_, ?_, ?_, ?_, ?_, ?_⟩ <;> exact but_cell hb2 (by assumption) (by assumption))
            | go_keep)
          (first
            | (go_at_call 92; refine Hcall.out.mono ?_; rintro e w2 ⟨A2, c2, rfl, hs2, hx2, hm2', hb2⟩; obtain ⟨es, Hes, Hrow, Hch, Hbk, hsw2, hel, Hcc, Hb2⟩ := HARM.out w2 A2 c2 hb2; have Hm2 := Lib.hid hm2'; have Hx2 := Lib.hid hx2; clear hm2' hx2)
            | (refine step_append_lies _ (by rfl) (.tmp 51) (.tmp 64) 22 (by rfl) N0 25 i0 _ 4 56 Try.underlying22 Hi.out.1 Hi.out.2.1 Hi.out.2.2.1 Hi.out.2.2.2 (by rfl) (by decide) u7 es.length (es.flatMap encE) (by rfl) Hrow.out ⟨w2.heap.size, 0, none⟩ 1 1 [.int .i64 r.1.k, .int .i64 r.1.n, .string r.1.s, .slice A2 r.1.l.length c2] (by rfl) (by rfl) (World.news_of_block Hbk.out) (HONE.out A2 c2) (by decide) Hcc.out.1 Hcc.out.2.1 Hcc.out.2.2 (w2.heap.size + 1) (by simp) ?_; intro g3 cap3 w4 hown hg hat hlt3; have Hown := Lib.hid hown; have Hg := Lib.hid hg; have Hat := Lib.hid hat; have hB4 : Below N0 (w2.alloc (.cells #[.int .i64 r.1.k, .int .i64 r.1.n, .string r.1.s, .slice A2 r.1.l.length c2] 25)) w4 := (Below.refl _ _).grown hg Hcc.out.2.2 (fun j hj => (Hrow.out.lt j hj).1); have j0 := keepAll Hb2.out hB4 hm1 hx1 a3; have j1 := keepAll Hb2.out hB4 hm2 hx2 b3; have j2 := keepAll Hb2.out hB4 hna hla e0; have j3 := keepAll Hb2.out hB4 hna hla e1; have j4 := keepAll Hb2.out hB4 hna hla e2; have j5 := keepAll Hb2.out hB4 hna hla e3; have j6 := keepAll Hb2.out hB4 hnb hlb f0; have j7 := keepAll Hb2.out hB4 hnb hlb f1; have j8 := keepAll Hb2.out hB4 hnb hlb f2; have j9 := keepAll Hb2.out hB4 hnb hlb f3; have HB4 := Lib.hid hB4; clear hB4; clear hown hg hat))
        have hnew : RowT N0 (N0 ≤ ·) w4 (.slice (some ⟨g3, 0, none⟩) (es.length + 1) cap3) (Tm.gens (t.l.take (k + 1)) (u.l.take (k + 1)) p).1 := by
          rw [Htk.out]
          refine RowT.push es Hes.out Hch.out hs2 (Hx2.out.stay ((Below.refl _ _).alloc (Nat.le_refl _) _) (Nat.le_refl _)) (fun g hg => ?_) Hown.out Hg.out ?_
          · have hg' : wr.heap.size ≤ g := hg
            refine ⟨by omega, fun e => ?_⟩
            obtain ⟨es', h1, h2, h3⟩ := Hrw.out
            have := (h2.lt g e.symm).2
            omega
          · rcases Hat.out with h | h
            · exact Or.inl (by rw [h]; rfl)
            · exact Or.inr (by rw [h]; simp [Value.ownBlock])
        have Hnew := Lib.hid hnew; clear hnew
        have Hmp4 := Lib.hid (show MapP w4 mb (Tm.gens (t.l.take (k + 1)) (u.l.take (k + 1)) p).2 from by rw [Htk.out]; exact ((Hm2.out.below ((Below.refl _ _).alloc (Nat.le_refl _) _) Hm2.out.lt).below HB4.out hml))
        have HB5 := Lib.hid (show But mb W0 w4 from (HB.out.trans (Hb2.out.alloc _)).thenBelow HB4.out (by rw [HN0.out]; exact Nat.le_refl _))
        go_wp2
        go_roundw
        case rel => exact ⟨k + 1, by omega, by go_num, Hnew, Hmp4, HB5⟩
        case measure => simp [intOf]; omega
      · have hke : k = t.l.length := by omega
        subst hke
        obtain ⟨zs, hzs⟩ : ∃ zs, zs = (Tm.gens t.l u.l p).1 := ⟨_, rfl⟩
        have hzl : zs.length = t.l.length := by rw [hzs, Tm.gens_len Hll.out]
        rw [List.take_length, Hll.out, List.take_length, ← hzs] at Hrw
        rw [List.take_length, Hll.out, List.take_length] at Hmp
        have Hgen3 := Lib.hid (show R = (.mk t.k t.n t.s zs, (Tm.gens t.l u.l p).2) from by rw [Hgen2.out, hzs])
        have Hzs := Lib.hid hzs; clear hzs
        obtain ⟨A2, c2, rfl, h2⟩ := Hrw.out.toC
        have hob : ∀ g, (N0 ≤ g ∨ some g = (Value.slice A2 zs.length c2).ownBlock) → N0 ≤ g := fun g hg => by
          rcases hg with h | h
          · exact h
          · obtain ⟨es, h3, h4, h5⟩ := Hrw.out
            exact (h4.lt g h.symm).1
        have H2 := Lib.hid (h2.mono hob); clear h2 hob
        obtain ⟨⟨z0, z1, z2, z3⟩, ⟨zf0, zf1, zf2, zf3⟩⟩ := HZ.out.four
        have hlx := HX.out.lt
        have hlz := HZ.out.lt
        go_wp2
        have hF := (((((HZ.out.far (p := ⟨w.heap.size, 3, none⟩) (by show w.heap.size + 1 + 1 ≠ w.heap.size; omega) (.slice A2 t.l.length c2)).set_ 0 (.int .i64 t.k)).set_ 1 (.int .i64 t.n)).set_ 2 (.string t.s)).set_ 3 (.slice A2 t.l.length c2))
        have hT := ((((H2.out.setCell ⟨w.heap.size, 3, none⟩ (.slice A2 t.l.length c2) (fun g h e => by simp at e; omega)).setCell ⟨w.heap.size + 1 + 1, 0, none⟩ (.int .i64 t.k) (fun g h e => by simp at e; omega)).setCell ⟨w.heap.size + 1 + 1, 1, none⟩ (.int .i64 t.n) (fun g h e => by simp at e; omega)).setCell ⟨w.heap.size + 1 + 1, 2, none⟩ (.string t.s) (fun g h e => by simp at e; omega)).setCell ⟨w.heap.size + 1 + 1, 3, none⟩ (.slice A2 t.l.length c2) (fun g h e => by simp at e; omega)
        have hM1 : MapP (wr.setCell ⟨w.heap.size, 3, none⟩ (.slice A2 t.l.length c2)) mb (Tm.gens t.l u.l p).2 := Hmp.out.same (Below.heap_setCell _ _ _ _ (fun e => hm1 e.symm))
        have hmF := hM1.set4 (z := w.heap.size + 1 + 1) (fun e => hm3 e.symm) (.int .i64 t.k) (.int .i64 t.n) (.string t.s) (.slice A2 t.l.length c2)
        have hbF := ((((But.of_below (b := mb) HB0.out (Nat.le_refl _)).trans HB.out).setCellFar ⟨w.heap.size, 3, none⟩ (Nat.le_refl _) (.slice A2 t.l.length c2))).set4 (z := w.heap.size + 1 + 1) (by omega) (.int .i64 t.k) (.int .i64 t.n) (.string t.s) (.slice A2 t.l.length c2)
        obtain ⟨⟨q0, q1, q2, q3⟩, -⟩ := hF.four
        refine bodyPost_ret (v := .agg #[.int .i64 t.k, .int .i64 t.n, .string t.s, .slice A2 t.l.length c2]) ?_ rfl (R := RetG mb w R) (by rw [Hgen3.out]; exact ⟨A2, c2, by rw [← hzl]; rfl, hs, hT.mono (fun g h => by omega), hmF, hbF⟩)
        generalize (World.setCell _ ⟨w.heap.size + 1 + 1, 3, none⟩ _) = WF at q0 q1 q2 q3 ⊢
        clear hF hT hmF hbF hM1
        simp [results, Try.results92, go_sem, q0, q1, q2, q3]
end Go.Proofs.Ytfhgknmkpegpbaa

set_option linter.unusedVariables false
set_option linter.unusedSimpArgs false
namespace Go.Proofs.Ytfhgknmkpegpbaa
open Go.RowKit

theorem empty_size {s : ByteArray} (h : s.toList = []) : s.size = 0 := by
  have : s = ⟨#[]⟩ := bytes_ext (by rw [h]; exact empty_toList.symm)
  rw [this]; rfl
theorem node_fit {t : Tm} (h : nodeB t = true) : (1 ≤ t.k ∧ t.k ≤ 6) ∧ (-2147483647 ≤ t.n ∧ t.n ≤ 2147483647) ∧ t.s.size ≤ 255 ∧ t.l.length ≤ 64 := by
  refine ⟨node_kind h, ?_⟩
  unfold nodeB at h
  have es : ∀ {a b c : Bool}, bareB t a b c = true → (a = true ∨ t.n = 0) ∧ (b = true ∨ t.s.size = 0) ∧ (c = true ∨ t.l.length = 0) := fun {a b c} h => by
    unfold bareB at h
    simp only [Bool.and_eq_true, Bool.or_eq_true, decide_eq_true_eq] at h
    refine ⟨?_, ?_, ?_⟩
    · rcases h.1.1 with h | h
      · exact Or.inl h
      · exact Or.inr (by simpa using h)
    · rcases h.1.2 with h | h
      · exact Or.inl h
      · exact Or.inr (empty_size (by simpa using h))
    · rcases h.2 with h | h
      · exact Or.inl h
      · exact Or.inr (by simpa using h)
  have nm : nameB t.s = true → t.s.size ≤ 32 := fun h => by
    unfold nameB at h
    simp only [Bool.and_eq_true, decide_eq_true_eq] at h
    exact h.1.2
  have bd : false = true → False := fun e => by cases e
  split at h
  · simp only [Bool.and_eq_true, decide_eq_true_eq] at h
    have h1 := (es h.1.1).2.1.resolve_left bd
    have h2 := (es h.1.1).2.2.resolve_left bd
    omega
  split at h
  · simp only [Bool.and_eq_true, decide_eq_true_eq] at h
    have h1 := (es h.1.1).2.1.resolve_left bd
    have h2 := (es h.1.1).2.2.resolve_left bd
    omega
  split at h
  · simp only [Bool.and_eq_true, decide_eq_true_eq] at h
    have h1 := (es h.1).1.resolve_left bd
    have h2 := (es h.1).2.2.resolve_left bd
    have h3 := nm h.2
    omega
  split at h
  · simp only [Bool.and_eq_true, decide_eq_true_eq] at h
    have h1 := (es h.1).1.resolve_left bd
    have h2 := (es h.1).2.2.resolve_left bd
    omega
  split at h
  · simp only [Bool.and_eq_true, decide_eq_true_eq] at h
    have h1 := (es h.1.1.1).1.resolve_left bd
    have h3 := nm h.1.1.2
    omega
  split at h
  · simp only [Bool.and_eq_true, decide_eq_true_eq] at h
    have h1 := (es h.1).1.resolve_left bd
    have h2 := (es h.1).2.1.resolve_left bd
    omega
  · cases h
theorem okB_node {t : Tm} (h : t.okB = true) : nodeB t = true := by rw [Tm.okB_eq, Bool.and_eq_true] at h; exact h.1
theorem okB_fit {t : Tm} (h : t.okB = true) : ∀ x ∈ t.pre, fitN x := fun x hx => by
  have := node_fit (okB_node (okB_pre t h x hx))
  unfold fitN
  omega
theorem txt_size (N : Nat) : (∀ t : Tm, t.size ≤ N → t.okB = true → t.txt.length ≤ 300 * t.size) ∧ (∀ l : List Tm, Tm.sizes l ≤ N → Tm.okBs l = true → (Tm.txts l).length ≤ 300 * Tm.sizes l) := by
  induction N with
  | zero =>
    refine ⟨fun t h => by have := t.size_pos; omega, fun l h _ => ?_⟩
    cases l with
    | nil => simp [Tm.txts]
    | cons a l => rw [Tm.sizes] at h; have := a.size_pos; omega
  | succ n ih =>
    have h1 : ∀ t : Tm, t.size ≤ n + 1 → t.okB = true → t.txt.length ≤ 300 * t.size := fun t h ho => by
      have h2 := node_fit (okB_node ho)
      rw [Tm.okB_eq, Bool.and_eq_true] at ho
      rw [t.size_eq] at h ⊢
      have h3 := ih.2 t.l (by omega) ho.2
      rw [t.txt_eq]
      simp only [List.length_append, b8_len]
      have h4 : t.s.data.toList.length = t.s.size := Array.length_toList ..
      omega
    refine ⟨h1, fun l => ?_⟩
    induction l with
    | nil => intro _ _; simp [Tm.txts]
    | cons a l ihl =>
      intro h ho
      rw [Tm.sizes] at h ⊢
      rw [Tm.okBs, Bool.and_eq_true] at ho
      rw [Tm.txts, List.length_append]
      have := h1 a (by omega) ho.1
      have := ihl (by omega) ho.2
      omega
theorem gen_size (N : Nat) : (∀ (t u : Tm) (p : List (Tm × Tm)), t.size ≤ N → (t.gen u p).1.size ≤ t.size) ∧ (∀ (xs ys : List Tm) (p : List (Tm × Tm)), Tm.sizes xs ≤ N → Tm.sizes (Tm.gens xs ys p).1 ≤ Tm.sizes xs) := by
  induction N with
  | zero =>
    refine ⟨fun t u p h => by have := t.size_pos; omega, fun xs ys p h => ?_⟩
    cases xs with
    | nil => rw [Tm.gens_nil]; exact Nat.le_refl _
    | cons a l => rw [Tm.sizes] at h; have := a.size_pos; omega
  | succ n ih =>
    have h1 : ∀ (t u : Tm) (p : List (Tm × Tm)), t.size ≤ n + 1 → (t.gen u p).1.size ≤ t.size := fun t u p h => by
      have hs := t.size_eq
      rw [Tm.gen_eq]
      split
      · simp only
        rw [Tm.size]
        have := ih.2 t.l u.l p (by omega)
        omega
      · show (1 : Nat) + 0 ≤ _
        omega
    refine ⟨h1, fun xs => ?_⟩
    induction xs with
    | nil => intro ys p _; rw [Tm.gens_nil]; exact Nat.le_refl _
    | cons a l ihl =>
      intro ys p h
      rw [Tm.sizes] at h ⊢
      cases ys with
      | nil => rw [Tm.gens]; exact Nat.zero_le _
      | cons y ys =>
        rw [Tm.gens_cons]
        simp only
        rw [Tm.sizes]
        have := h1 a y p (by omega)
        have := ihl ys (a.gen y p).2 (by omega)
        omega
end Go.Proofs.Ytfhgknmkpegpbaa
