/- Going backward over a row of trees: functions 103 and 136. -/
import Derived.Test.YtfhgknmkpegpbaaM3
set_option linter.unusedVariables false
set_option linter.unusedSimpArgs false
namespace Go.Proofs.Ytfhgknmkpegpbaa
open Go.RowKit Go.Shelf
attribute [local go_sem] Oper.semAt_some

/-- An element that is given out, with its index and where its elements lie. -/
abbrev EBk (n₀ : Nat) (w0 : World) := {x : Nat × EV // x.2.1.s.size ≤ 9223372036854775807 ∧ TmC (· < n₀) w0 x.2.2.1 x.2.2.2 x.2.1.l}
def EBk.tm {n₀ : Nat} {w0 : World} (x : EBk n₀ w0) : Tm := x.1.2.1
def EBk.encs {n₀ : Nat} {w0 : World} (x : EBk n₀ w0) : Array Value := #[.int .i64 x.1.1, .agg #[.int .i64 x.1.2.1.k, .int .i64 x.1.2.1.n, .string x.1.2.1.s, .slice x.1.2.2.1 x.1.2.1.l.length x.1.2.2.2]]
/-- What a round keeps. -/
def KpL (n₀ : Nat) (W W' : World) : Prop := Below n₀ W W' ∧ ∀ g v, Blk W g 22 #[v] → Blk W' g 22 #[v]
theorem KpL.trans {n₀ : Nat} {A B C : World} (h : KpL n₀ A B) (k : KpL n₀ B C) : KpL n₀ A C := ⟨h.1.trans k.1, fun g cs hb => k.2 g cs (h.2 g cs hb)⟩
theorem KpL.refl (n₀ : Nat) (W : World) : KpL n₀ W W := ⟨Below.refl _ _, fun _ _ h => h⟩
theorem kpL_b {n₀ : Nat} {B : Nat} (hn : n₀ ≤ B) (W : World) (l : Nat) (o o' : Obj) (hl : B ≤ l) (h : W.heap[l]? = some o) (hc : o.isCells = false) (hw : o.isWalk = false) : KpL n₀ W (W.putObj l o') := by
  refine ⟨Below.putObj_ hn W l o o' hl, fun g cs hb => ?_⟩
  have hne : g ≠ l := fun e => by
    subst e
    have h1 : W.heap[g]? = some (.cells #[cs] 22 (0, 0)) := hb
    rw [h] at h1
    injection h1 with h1
    subst h1
    simp [Obj.isCells] at hc
  exact (World.putObj_heap_other (fun e => hne e)).trans hb

set_option maxRecDepth 100000 in
set_option maxHeartbeats 4000000 in
theorem back1_in (F : Fence) (hd : F.depth = none) (n : Nat) (h136 : F.fn 136) (hro : F.round = none) (l Bt n₀ c : Nat) (A : Option Addr) (w0 : World) (ts : List Tm) (J Jx : List (EBk n₀ w0) → World → Prop)
    (W : World) (hc : TmC (· < n₀) w0 A c ts)
    (hY : ∀ pre x W, J pre W → pre.length < ts.length → YieldAt F (n - 1) Try.prog l (EBk.encs x) W fun e W' =>
      (e = .returned (.bool true) ∧ J (pre ++ [x]) W' ∧ KpL n₀ W W') ∨ (e = .returned (.bool false) ∧ Jx (pre ++ [x]) W'))
    (hBt : Blk W Bt 22 #[.slice A ts.length c]) (hb0 : Below n₀ w0 W) (h0 : J [] W) :
    CallsIn F n Try.prog 136 #[.func (.yield l) #[] #[], .pointer (some ⟨Bt, 0, none⟩)] W fun e W' => (∃ v, e = .returned v) ∧
      ((∃ ys : List (EBk n₀ w0), ys.map EBk.tm = ts.reverse ∧ J ys W') ∨ (∃ pre : List (EBk n₀ w0), pre.map EBk.tm <+: ts.reverse ∧ Jx pre W')) := by
  have hdd : ∀ k : Nat, (F.depth.isSome = true → 1 ≤ k) := fun k h => by rw [hd] at h; cases h
  have hlc := hc.len.1
  have hlm := hc.len.2.1
  have HY := Lib.hid hY; clear hY
  have Hc := Lib.hid hc; clear hc
  have hbx : Boxed W Bt 22 (.slice A ts.length c) := hBt
  have cv := hbx.cell
  refine callsIn_of_wp Try.func136 rfl h136 ?_ hro
  simp only [Try.ntmps136, List.size_toArray, List.length_cons, List.length_nil, Nat.reduceAdd, Nat.reduceSub, Array.replicate_succ, Array.replicate_zero, List.push_toArray, List.append_toArray, List.nil_append, List.cons_append]
  gi_wp2
  refine wpIn_loop (fun a' W' => ∃ (k : Nat) (u7 u8 u9 u10 u11 u12 u13 u14 u15 u16 u17 u18 : Value) (ys : List (EBk n₀ w0)), k ≤ ts.length ∧ Hid (ys.map EBk.tm = (ts.drop k).reverse) ∧ Hid (J ys W') ∧ Hid (Blk W' Bt 22 #[.slice A ts.length c]) ∧ Hid (Below n₀ w0 W') ∧
    a' = { tmps := #[.func (.yield l) #[] #[], .pointer (some ⟨Bt, 0, none⟩), undef, .int .i64 ((k : Int) - 1), .slice A ts.length c, .int .i64 ts.length, .int .i64 ((ts.length : Int) - 1), u7, u8, u9, u10, u11, u12, u13, u14, u15, u16, u17, u18], defers := [] })
    (fun a' _ => (intOf (a'.tmps.getD 3 undef) + 1).toNat) ?start ?round
  case start => exact ⟨ts.length, undef, undef, undef, undef, undef, undef, undef, undef, undef, undef, undef, undef, [], Nat.le_refl _, Lib.hid (by simp), Lib.hid h0, Lib.hid hBt, Lib.hid hb0, rfl⟩
  case round =>
    rintro _ wr ⟨k, u7, u8, u9, u10, u11, u12, u13, u14, u15, u16, u17, u18, ys, hk, Hys, HJ, HBt, HB, rfl⟩
    by_cases hk0 : k = 0
    · subst hk0
      have Hfin := Lib.hid (show ys.map EBk.tm = ts.reverse from by rw [Hys.out]; simp)
      gi_wp2
      go_end0
      exact ⟨⟨_, rfl⟩, .inl ⟨ys, Hfin.out, HJ.out⟩⟩
    · obtain ⟨m, rfl⟩ : ∃ m, k = m + 1 := ⟨k - 1, by omega⟩
      have hcast : ((m + 1 : Nat) : Int) - 1 = (m : Int) := by omega
      rw [hcast]
      clear hcast
      obtain ⟨x, hx⟩ : ∃ x, ts[m]? = some x := ⟨_, List.getElem?_eq_getElem (by omega)⟩
      obtain ⟨g, off, Ai, ci, rfl, hPg, ⟨c0, c1, c2, c3⟩, hxs, hxc⟩ := Hc.out.at_ hx
      have e0 := (HB.out.cell (p := ⟨g, off + m * 4, none⟩) hPg).trans c0
      have e1 := (HB.out.cell (p := ⟨g, off + m * 4 + 1, none⟩) hPg).trans c1
      have e2 := (HB.out.cell (p := ⟨g, off + m * 4 + 2, none⟩) hPg).trans c2
      have e3 := (HB.out.cell (p := ⟨g, off + m * 4 + 3, none⟩) hPg).trans c3
      clear c0 c1 c2 c3
      have hylen : ys.length < ts.length := by
        have := congrArg List.length Hys.out
        simp at this; omega
      obtain ⟨xe, hxe⟩ : ∃ xe : EBk n₀ w0, xe.1 = (m, x, Ai, ci) := ⟨⟨(m, x, Ai, ci), hxs, hxc⟩, rfl⟩
      have hyy := HY.out ys xe wr HJ.out hylen
      have Hys2 := Lib.hid (show (ys ++ [xe]).map EBk.tm = (ts.drop m).reverse from by
        have hd2 : ts.drop m = x :: ts.drop (m + 1) := by
          have h1 := List.drop_eq_getElem_cons (l := ts) (i := m) (by omega)
          rw [h1]
          have := List.getElem?_eq_getElem (show m < ts.length by omega)
          rw [hx] at this; injection this with this; rw [← this]
        rw [List.map_append, Hys.out, hd2, List.reverse_cons]
        simp [EBk.tm, hxe])
      obtain ⟨fn, tmps, assign, body, hy, hR⟩ := hyy
      simp only [EBk.encs, hxe] at hy
      have hbx2 : Boxed wr Bt 22 (.slice (some ⟨g, off, none⟩) ts.length c) := HBt.out
      have cv2 := hbx2.cell
      have hmi : (0 : Int) ≤ (m : Int) := by omega
      have hml : (m : Int) < (ts.length : Int) := by omega
      clear hx hxc hxs hxe hbx2
      gi_wp2_with fail
      refine hR.mono ?_
      clear hR hy
      rintro e W1 (⟨rfl, hJ2, hk1⟩ | ⟨rfl, hJx⟩)
      case inr =>
        gi_wp2
        refine bodyPost_ret (results_none rfl _ _ _) rfl ?_
        exact ⟨⟨_, rfl⟩, .inr ⟨ys ++ [xe], by rw [Hys2.out]; refine ⟨(ts.take m).reverse, ?_⟩; rw [← List.reverse_append, List.take_append_drop], hJx⟩⟩
      have HJ2 := Lib.hid hJ2
      have HBt2 := Lib.hid (hk1.2 _ _ HBt.out)
      have HB2 := Lib.hid (HB.out.trans hk1.1)
      clear hJ2 hk1 e0 e1 e2 e3
      gi_wp2
      exact ⟨⟨m, _, _, _, _, _, _, _, _, _, _, _, _, ys ++ [xe], by omega, Hys2, HJ2, HBt2, HB2, rfl⟩, by simp [intOf]⟩

set_option maxHeartbeats 1000000 in
theorem back_in (F : Fence) (n : Nat) (h103 : F.fn 103) (hro : F.round = none) (A : Option Addr) (len c : Nat) (w : World) :
    CallsIn F n Try.prog 103 #[.slice A len c] w fun e w' => e = .returned (.func (.func 136) #[] #[.pointer (some ⟨w.heap.size, 0, none⟩)]) ∧ w' = w.alloc (.cells #[.slice A len c] 22) := by
  refine callsIn_of_wp Try.func103 rfl h103 ?_ hro
  simp only [Try.ntmps103, List.size_toArray, List.length_cons, List.length_nil, Nat.reduceAdd, Nat.reduceSub, Array.replicate_succ, Array.replicate_zero, List.push_toArray, List.append_toArray, List.nil_append, List.cons_append]
  gi_wp2
  go_ret
  exact ⟨rfl, rfl⟩

theorem back_stops (F : Fence) (hd : F.depth = none) (n : Nat) (h136 : F.fn 136) (hro : F.round = none) (Bt n₀ c : Nat) (A : Option Addr) (w0 : World) (ts : List Tm) (w : World) (hn₀ : n₀ ≤ w.heap.size) (hc : TmC (· < n₀) w0 A c ts) (hb0 : Below n₀ w0 w)
    (hBt : Blk w Bt 22 #[.slice A ts.length c]) :
    SeqStopsK F n Try.prog 136 #[.pointer (some ⟨Bt, 0, none⟩)] (EBk.encs (n₀ := n₀) (w0 := w0)) (KpL n₀) (fun ys => ys.map EBk.tm = ts.reverse) (fun pre => pre.map EBk.tm <+: ts.reverse) ts.length w := fun l J Jx W hW hJ _ hY h0 =>
  back1_in F hd n h136 hro l Bt n₀ c A w0 ts J Jx W hc hY (hBt.below hW hBt.lt) (hb0.trans (hW.mono hn₀)) h0
end Go.Proofs.Ytfhgknmkpegpbaa
