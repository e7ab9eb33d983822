/- Layer 1, part 11 of the base: the walks and plain facts named in NOTES.md as T49, T50, U4, G20, G21, G22, T68. -/
import Derived.Test.YtfhgknmkpegpbaaM3
import Derived.Test.YtfhgknmkpegpbaaM10
import Derived.Test.YtfhgknmkpegpbaaM6
import Derived.Test.YtfhgknmkpegpbaaM9
import Derived.Test.YtfhgknmkpegpbaaM1

/- Going backward over a row of trees: functions 103 and 136. -/
set_option linter.unusedVariables false
set_option linter.unusedSimpArgs false
namespace Go.Proofs.Ytfhgknmkpegpbaa
open Go.RowKit Go.Shelf
attribute [local go_sem] Oper.semAt_some

/-- An element that is given out, with its index and where its elements lie. -/
abbrev EBk (n₀ : Nat) (w0 : World) := {x : Nat × EV // x.2.1.s.size ≤ 9223372036854775807 ∧ TmC (· < n₀) w0 x.2.2.1 x.2.2.2 x.2.1.l}
def EBk.tm {n₀ : Nat} {w0 : World} (x : EBk n₀ w0) : Tm := x.1.2.1
def EBk.encs {n₀ : Nat} {w0 : World} (x : EBk n₀ w0) : Array Value := #[.int .i64 x.1.1, .agg #[.int .i64 x.1.2.1.k, .int .i64 x.1.2.1.n, .string x.1.2.1.s, .slice x.1.2.2.1 x.1.2.1.l.length x.1.2.2.2]]
/-- What a round keeps. -/
def KpL (n₀ : Nat) (W W' : World) : Prop := Below n₀ W W' ∧ ∀ g v, Blk W g 22 #[v] → Blk W' g 22 #[v]
theorem KpL.trans {n₀ : Nat} {A B C : World} (h : KpL n₀ A B) (k : KpL n₀ B C) : KpL n₀ A C := ⟨h.1.trans k.1, fun g cs hb => k.2 g cs (h.2 g cs hb)⟩
theorem KpL.refl (n₀ : Nat) (W : World) : KpL n₀ W W := ⟨Below.refl _ _, fun _ _ h => h⟩
theorem kpL_b {n₀ : Nat} {B : Nat} (hn : n₀ ≤ B) (W : World) (l : Nat) (o o' : Obj) (hl : B ≤ l) (h : W.heap[l]? = some o) (hc : o.isCells = false) (hw : o.isWalk = false) : KpL n₀ W (W.putObj l o') := by
  refine ⟨Below.putObj_ hn W l o o' hl, fun g cs hb => ?_⟩
  have hne : g ≠ l := fun e => by
    subst e
    have h1 : W.heap[g]? = some (.cells #[cs] 22 (0, 0)) := hb
    rw [h] at h1
    injection h1 with h1
    subst h1
    simp [Obj.isCells] at hc
  exact (World.putObj_heap_other (fun e => hne e)).trans hb

set_option maxRecDepth 100000 in
set_option maxHeartbeats 4000000 in
theorem back1_in (F : Fence) (hd : F.depth = none) (n : Nat) (h136 : F.fn 136) (hro : F.round = none) (l Bt n₀ c : Nat) (A : Option Addr) (w0 : World) (ts : List Tm) (J Jx : List (EBk n₀ w0) → World → Prop)
    (W : World) (hc : TmC (· < n₀) w0 A c ts)
    (hY : ∀ pre x W, J pre W → pre.length < ts.length → YieldAt F (n - 1) Try.prog l (EBk.encs x) W fun e W' =>
      (e = .returned (.bool true) ∧ J (pre ++ [x]) W' ∧ KpL n₀ W W') ∨ (e = .returned (.bool false) ∧ Jx (pre ++ [x]) W'))
    (hBt : Blk W Bt 22 #[.slice A ts.length c]) (hb0 : Below n₀ w0 W) (h0 : J [] W) :
    CallsIn F n Try.prog 136 #[.func (.yield l) #[] #[], .pointer (some ⟨Bt, 0, none⟩)] W fun e W' => (∃ v, e = .returned v) ∧
      ((∃ ys : List (EBk n₀ w0), ys.map EBk.tm = ts.reverse ∧ J ys W') ∨ (∃ pre : List (EBk n₀ w0), pre.map EBk.tm <+: ts.reverse ∧ Jx pre W')) := by
  have hdd : ∀ k : Nat, (F.depth.isSome = true → 1 ≤ k) := fun k h => by rw [hd] at h; cases h
  have hlc := hc.len.1
  have hlm := hc.len.2.1
  have HY := Lib.hid hY; clear hY
  have Hc := Lib.hid hc; clear hc
  have hbx : Boxed W Bt 22 (.slice A ts.length c) := hBt
  have cv := hbx.cell
  refine callsIn_of_wp Try.func136 rfl h136 ?_ hro
  simp only [Try.ntmps136, List.size_toArray, List.length_cons, List.length_nil, Nat.reduceAdd, Nat.reduceSub, Array.replicate_succ, Array.replicate_zero, List.push_toArray, List.append_toArray, List.nil_append, List.cons_append]
  gi_wp2
  refine wpIn_loop (fun a' W' => ∃ (k : Nat) (u7 u8 u9 u10 u11 u12 u13 u14 u15 u16 u17 u18 : Value) (ys : List (EBk n₀ w0)), k ≤ ts.length ∧ Hid (ys.map EBk.tm = (ts.drop k).reverse) ∧ Hid (J ys W') ∧ Hid (Blk W' Bt 22 #[.slice A ts.length c]) ∧ Hid (Below n₀ w0 W') ∧
    a' = { tmps := #[.func (.yield l) #[] #[], .pointer (some ⟨Bt, 0, none⟩), undef, .int .i64 ((k : Int) - 1), .slice A ts.length c, .int .i64 ts.length, .int .i64 ((ts.length : Int) - 1), u7, u8, u9, u10, u11, u12, u13, u14, u15, u16, u17, u18], defers := [] })
    (fun a' _ => (intOf (a'.tmps.getD 3 undef) + 1).toNat) ?start ?round
  case start => exact ⟨ts.length, undef, undef, undef, undef, undef, undef, undef, undef, undef, undef, undef, undef, [], Nat.le_refl _, Lib.hid (by simp), Lib.hid h0, Lib.hid hBt, Lib.hid hb0, rfl⟩
  case round =>
    rintro _ wr ⟨k, u7, u8, u9, u10, u11, u12, u13, u14, u15, u16, u17, u18, ys, hk, Hys, HJ, HBt, HB, rfl⟩
    by_cases hk0 : k = 0
    · subst hk0
      have Hfin := Lib.hid (show ys.map EBk.tm = ts.reverse from by rw [Hys.out]; simp)
      gi_wp2
      go_end0
      exact ⟨⟨_, rfl⟩, .inl ⟨ys, Hfin.out, HJ.out⟩⟩
    · obtain ⟨m, rfl⟩ : ∃ m, k = m + 1 := ⟨k - 1, by omega⟩
      have hcast : ((m + 1 : Nat) : Int) - 1 = (m : Int) := by omega
      rw [hcast]
      clear hcast
      obtain ⟨x, hx⟩ : ∃ x, ts[m]? = some x := ⟨_, List.getElem?_eq_getElem (by omega)⟩
      obtain ⟨g, off, Ai, ci, rfl, hPg, ⟨c0, c1, c2, c3⟩, hxs, hxc⟩ := Hc.out.at_ hx
      have e0 := (HB.out.cell (p := ⟨g, off + m * 4, none⟩) hPg).trans c0
      have e1 := (HB.out.cell (p := ⟨g, off + m * 4 + 1, none⟩) hPg).trans c1
      have e2 := (HB.out.cell (p := ⟨g, off + m * 4 + 2, none⟩) hPg).trans c2
      have e3 := (HB.out.cell (p := ⟨g, off + m * 4 + 3, none⟩) hPg).trans c3
      clear c0 c1 c2 c3
      have hylen : ys.length < ts.length := by
        have := congrArg List.length Hys.out
        simp at this; omega
      obtain ⟨xe, hxe⟩ : ∃ xe : EBk n₀ w0, xe.1 = (m, x, Ai, ci) := ⟨⟨(m, x, Ai, ci), hxs, hxc⟩, rfl⟩
      have hyy := HY.out ys xe wr HJ.out hylen
      have Hys2 := Lib.hid (show (ys ++ [xe]).map EBk.tm = (ts.drop m).reverse from by
        have hd2 : ts.drop m = x :: ts.drop (m + 1) := by
          have h1 := List.drop_eq_getElem_cons (l := ts) (i := m) (by omega)
          rw [h1]
          have := List.getElem?_eq_getElem (show m < ts.length by omega)
          rw [hx] at this; injection this with this; rw [← this]
        rw [List.map_append, Hys.out, hd2, List.reverse_cons]
        simp [EBk.tm, hxe])
      obtain ⟨fn, tmps, assign, body, hy, hR⟩ := hyy
      simp only [EBk.encs, hxe] at hy
      have hbx2 : Boxed wr Bt 22 (.slice (some ⟨g, off, none⟩) ts.length c) := HBt.out
      have cv2 := hbx2.cell
      have hmi : (0 : Int) ≤ (m : Int) := by omega
      have hml : (m : Int) < (ts.length : Int) := by omega
      clear hx hxc hxs hxe hbx2
      gi_wp2_with fail
      refine hR.mono ?_
      clear hR hy
      rintro e W1 (⟨rfl, hJ2, hk1⟩ | ⟨rfl, hJx⟩)
      case inr =>
        gi_wp2
        refine bodyPost_ret (results_none rfl _ _ _) rfl ?_
        exact ⟨⟨_, rfl⟩, .inr ⟨ys ++ [xe], by rw [Hys2.out]; refine ⟨(ts.take m).reverse, ?_⟩; rw [← List.reverse_append, List.take_append_drop], hJx⟩⟩
      have HJ2 := Lib.hid hJ2
      have HBt2 := Lib.hid (hk1.2 _ _ HBt.out)
      have HB2 := Lib.hid (HB.out.trans hk1.1)
      clear hJ2 hk1 e0 e1 e2 e3
      gi_wp2
      exact ⟨⟨m, _, _, _, _, _, _, _, _, _, _, _, _, ys ++ [xe], by omega, Hys2, HJ2, HBt2, HB2, rfl⟩, by simp [intOf]⟩

set_option maxHeartbeats 1000000 in
theorem back_in (F : Fence) (n : Nat) (h103 : F.fn 103) (hro : F.round = none) (A : Option Addr) (len c : Nat) (w : World) :
    CallsIn F n Try.prog 103 #[.slice A len c] w fun e w' => e = .returned (.func (.func 136) #[] #[.pointer (some ⟨w.heap.size, 0, none⟩)]) ∧ w' = w.alloc (.cells #[.slice A len c] 22) := by
  refine callsIn_of_wp Try.func103 rfl h103 ?_ hro
  simp only [Try.ntmps103, List.size_toArray, List.length_cons, List.length_nil, Nat.reduceAdd, Nat.reduceSub, Array.replicate_succ, Array.replicate_zero, List.push_toArray, List.append_toArray, List.nil_append, List.cons_append]
  gi_wp2
  go_ret
  exact ⟨rfl, rfl⟩

theorem back_stops (F : Fence) (hd : F.depth = none) (n : Nat) (h136 : F.fn 136) (hro : F.round = none) (Bt n₀ c : Nat) (A : Option Addr) (w0 : World) (ts : List Tm) (w : World) (hn₀ : n₀ ≤ w.heap.size) (hc : TmC (· < n₀) w0 A c ts) (hb0 : Below n₀ w0 w)
    (hBt : Blk w Bt 22 #[.slice A ts.length c]) :
    SeqStopsK F n Try.prog 136 #[.pointer (some ⟨Bt, 0, none⟩)] (EBk.encs (n₀ := n₀) (w0 := w0)) (KpL n₀) (fun ys => ys.map EBk.tm = ts.reverse) (fun pre => pre.map EBk.tm <+: ts.reverse) ts.length w := fun l J Jx W hW hJ _ hY h0 =>
  back1_in F hd n h136 hro l Bt n₀ c A w0 ts J Jx W hc hY (hBt.below hW hBt.lt) (hb0.trans (hW.mono hn₀)) h0
end Go.Proofs.Ytfhgknmkpegpbaa

/- The list of items with a tail: function 58. -/
set_option linter.unusedVariables false
set_option linter.unusedSimpArgs false
namespace Go.Proofs.Ytfhgknmkpegpbaa
open Go.RowKit Go.Shelf
attribute [local go_sem] Oper.semAt_some

theorem cells_of_cell {w : World} {a : Addr} {v : Value} (h : w.cell? a = some v) : ∃ o : Obj, w.heap[a.block]? = some o ∧ o.isCells = true := by
  obtain ⟨b, o, s⟩ := a
  unfold World.cell? at h
  cases hh : w.heap[b]? with
  | none => rw [hh] at h; cases h
  | some o =>
    rw [hh] at h
    refine ⟨o, rfl, ?_⟩
    cases o <;> first | rfl | (cases s <;> simp at h)
/-- Where all blocks of cells stay. -/
theorem TmC.keptCells {P : Nat → Prop} {w w' : World} {A : Option Addr} {c : Nat} {l : List Tm} (h : TmC P w A c l) (hk : ∀ (g : Nat) (o : Obj), w.heap[g]? = some o → o.isCells = true → w'.heap[g]? = some o) : TmC P w' A c l := by
  induction h with
  | mk es he hl hc hn hP hr hs hrec ih =>
    refine .mk es he hl hc hn hP (fun hne => ?_) hs ih
    obtain ⟨g, off, hA, hcell⟩ := hr hne
    refine ⟨g, off, hA, fun j v hj => ?_⟩
    have h1 := hcell j v hj
    obtain ⟨o, h2, h3⟩ := cells_of_cell h1
    rw [cell_of_heap ((hk g o h2 h3).trans h2.symm)]; exact h1
theorem own_cells {B : Nat} {X Y : World} {row : Option Nat} (hg : X.grownBy Y row) (hr : ∀ r, row = some r → B ≤ r ∧ ∃ o : Obj, X.heap[r]? = some o ∧ o.isCells = false) : ∀ (g : Nat) (o : Obj), X.heap[g]? = some o → o.isCells = true → Y.heap[g]? = some o := fun g o h hc =>
  (hg.block g (Array.getElem?_eq_some_iff.1 h).1 (fun e => by
    obtain ⟨-, o', ho, hc'⟩ := hr g e.symm
    rw [h] at ho; injection ho with ho; subst ho; rw [hc] at hc'; cases hc')).trans h
theorem put_cells {X : World} {D : Nat} {o1 o' : Obj} (hD : X.heap[D]? = some o1) (h1 : o1.isCells = false) : ∀ (g : Nat) (o : Obj), X.heap[g]? = some o → o.isCells = true → (X.putObj D o').heap[g]? = some o := fun g o h hc =>
  (World.putObj_heap_other (fun e => by subst e; rw [h] at hD; injection hD with hD; subst hD; rw [hc] at h1; cases h1)).trans h

theorem Blk.new' {W : World} {g : Nat} {t : TypeId} {cs : Array Value} (h : g = W.heap.size) : Blk (W.alloc (.cells cs t)) g t cs := by rw [h]; exact Blk.new _ _ _
/-- The list of items with a tail. -/
def listT (l : List Tm) (tail : Tm) : Tm := l.foldr (fun x t => .mk 5 0 ⟨#[46]⟩ [x, t]) tail
theorem listT_depth (tail : Tm) : ∀ l : List Tm, l.length + tail.depth ≤ (listT l tail).depth
  | [] => by simp [listT]
  | x :: l => by
    have := listT_depth tail l
    show (x :: l).length + tail.depth ≤ (Tm.mk 5 0 ⟨#[46]⟩ [x, listT l tail]).depth
    rw [Tm.depth_eq (Tm.mk 5 0 ⟨#[46]⟩ [x, listT l tail])]
    simp only [Tm.l, Tm.depths, List.length_cons]
    omega
theorem foldl_listT (l : List Tm) (tail : Tm) : l.reverse.foldl (fun t x => Tm.mk 5 0 ⟨#[46]⟩ [x, t]) tail = listT l tail := by rw [List.foldl_reverse]; rfl
def lstOk (l : List Tm) (tail : Tm) : Bool := allB l && isB tail
def listR (l : List Tm) (tail : Tm) : Option Tm := if lstOk l tail = true ∧ isB (listT l tail) = true then some (listT l tail) else none
/-- What stands behind List's last step. -/
def LEnd (w : World) (r : Option Tm) (er : Int) (W : World) : Prop :=
  ∃ A c, Blk W (w.heap.size + 1) 25 #[.int .i64 (r.getD Tm.zero).k, .int .i64 (r.getD Tm.zero).n, .string (r.getD Tm.zero).s, .slice A (r.getD Tm.zero).l.length c] ∧ (r.getD Tm.zero).s.size ≤ 9223372036854775807 ∧ TmC (w.heap.size ≤ ·) W A c (r.getD Tm.zero).l ∧ Below w.heap.size w W
theorem LEnd.put {w W : World} {r : Option Tm} {er : Int} {D : Nat} (h : LEnd w r er W) (hD : w.heap.size + 2 ≤ D) (hk : W.heap[D]? = some (.deferred (some []))) : LEnd w r er (W.putObj D (.deferred none)) := by
  obtain ⟨A, c, h1, h2, h3, h4⟩ := h
  exact ⟨A, c, put_cells hk rfl _ _ h1 rfl, h2, h3.keptCells (put_cells hk rfl), h4.trans (Below.putObj_ (Nat.le_refl _) _ _ (.deferred none) _ (by omega))⟩
theorem LEnd.res {w W : World} {r : Option Tm} {er : Int} (h : LEnd w r er W) {fn : Func} (hf : fn.results = #[.cell 4 25, .tmp 5]) {tmps : Array Value} (h4 : tmps.getD 4 undef = .pointer (some ⟨w.heap.size + 1, 0, none⟩)) (h5 : tmps.getD 5 undef = .int .i64 (if r.isSome then 0 else er)) : ∃ v, (results fn tmps).run Try.prog W = .ok v W ∧ RetME w r er (.returned v) W := by
  obtain ⟨A, c, h1, h2, h3, h6⟩ := h
  obtain ⟨⟨b0, b1, b2, b3⟩, -⟩ := h1.four
  have h4' : tmps[4]?.getD undef = .pointer (some ⟨w.heap.size + 1, 0, none⟩) := by simpa using h4
  have h5' : tmps[5]?.getD undef = .int .i64 (if r.isSome then 0 else er) := by simpa using h5
  exact ⟨.tuple #[.agg #[.int .i64 (r.getD Tm.zero).k, .int .i64 (r.getD Tm.zero).n, .string (r.getD Tm.zero).s, .slice A (r.getD Tm.zero).l.length c], .int .i64 (if r.isSome then 0 else er)], by simp [results, hf, go_sem, h4', h5', b0, b1, b2, b3], A, c, rfl, h2, h3, h6⟩

set_option maxRecDepth 100000 in
set_option maxHeartbeats 4000000 in
theorem list_calls (l : List Tm) (t : Tm) (P Q : Nat → Prop) (w : World) (v : Value) (A : Option Addr) (c : Nat) (hl : TmC P w A c l) (hv : TmV Q w v t) : Calls Try.prog 58 #[.slice A l.length c, v] w (RetME w (listR l t) (if lstOk l t = true then 2 else 3)) := by
  refine (callsIn_wide (n := 5)).1 ?_
  obtain ⟨B, d, rfl, hs, ht⟩ := hv
  obtain ⟨W0, hW0⟩ : ∃ W0, W0 = (w.alloc (.cells #[.int .i64 t.k, .int .i64 t.n, .string t.s, .slice B t.l.length d] 25)).alloc (.cells #[.int .i64 0, .int .i64 0, .string ⟨#[]⟩, .slice none 0 0] 25) := ⟨_, rfl⟩
  have hB0 : Below w.heap.size w W0 := by rw [hW0]; exact ((Below.refl _ _).alloc (Nat.le_refl _) _).alloc (by simp) _
  have HX0 := Lib.hid (show Blk W0 w.heap.size 25 #[.int .i64 t.k, .int .i64 t.n, .string t.s, .slice B t.l.length d] from by rw [hW0]; exact (Blk.new w 25 _).alloc _)
  have HY0 := Lib.hid (show Blk W0 (w.heap.size + 1) 25 #[.int .i64 0, .int .i64 0, .string ⟨#[]⟩, .slice none 0 0] from by
    rw [hW0]
    have := Blk.new (w.alloc (.cells #[.int .i64 t.k, .int .i64 t.n, .string t.s, .slice B t.l.length d] 25)) 25 #[.int .i64 0, .int .i64 0, .string ⟨#[]⟩, .slice none 0 0]
    rwa [World.size_alloc] at this)
  have hlc := hl.len.1
  have hlm := hl.len.2.1
  have Hl := Lib.hid (hl.inside.mono (Q := (· < w.heap.size)) (fun g h => h.2))
  have Hl0 := Lib.hid (Hl.out.stay hB0 (Nat.le_refl _))
  have Ht0 := Lib.hid ((ht.inside.mono (Q := (· < w.heap.size)) (fun g h => h.2)).stay hB0 (Nat.le_refl _))
  clear hl ht
  obtain ⟨R, hR⟩ : ∃ R, R = listR l t := ⟨_, rfl⟩
  obtain ⟨ok, hok⟩ : ∃ ok, ok = lstOk l t := ⟨_, rfl⟩
  rw [← hR, ← hok]
  obtain ⟨er, her⟩ : ∃ er : Int, er = if ok = true then 2 else 3 := ⟨_, rfl⟩
  rw [← her]
  unfold listR at hR
  rw [← hok] at hR
  unfold lstOk at hok
  obtain ⟨a, ha⟩ : ∃ a, a = allB l := ⟨_, rfl⟩
  obtain ⟨b, hb⟩ : ∃ b, b = isB t := ⟨_, rfl⟩
  have hcall := (callsIn_wide (n := 4)).2 (checkAll_calls l _ A c W0 Hl0.out)
  rw [← ha] at hcall hok
  have hcall2 : ∀ W, Below W0.heap.size W0 W → CallsIn Fence.wide 4 Try.prog 22 #[.agg #[.int .i64 t.k, .int .i64 t.n, .string t.s, .slice B t.l.length d]] W (RetN W (errT b)) := fun W hb' => by
    rw [hb]; exact (callsIn_wide (n := 4)).2 (check_calls t _ W _ ⟨B, d, rfl, hs, Ht0.out.stay hb' (Nat.le_refl _)⟩)
  rw [← hb] at hok
  have HR := Lib.hid hR; have Hok := Lib.hid hok; have Her := Lib.hid her; have Hb := Lib.hid hb; have Ha := Lib.hid ha
  have Hcall := Lib.hid hcall; have Hcall2 := Lib.hid hcall2
  clear hcall hcall2 hR hok her hb ha
  have HB0 := Lib.hid hB0; clear hB0
  have HW := Lib.hid hW0; clear hW0
  refine callsIn_of_wp_marks Try.func58 rfl trivial ?_ rfl
  simp only [Try.ntmps58, List.size_toArray, List.length_cons, List.length_nil, Nat.reduceAdd, Nat.reduceSub, Array.replicate_succ, Array.replicate_zero, List.push_toArray, List.append_toArray, List.nil_append, List.cons_append]
  gi_wp2_with fail
  rw [← HW.out]
  refine ⟨trivial, ?_⟩
  refine Hcall.out.mono ?_
  rintro e w1 ⟨rfl, hb1⟩
  have HX1 := Lib.hid (HX0.out.below hb1 HX0.out.lt)
  have HY1 := Lib.hid (HY0.out.below hb1 HY0.out.lt)
  have HB1 := Lib.hid (HB0.out.trans (hb1.mono HB0.out.size))
  have Ht1 := Lib.hid (Ht0.out.stay hb1 (Nat.le_refl _))
  have HC2 := Lib.hid (Hcall2.out w1 hb1)
  clear hb1 Hcall Hcall2 HX0 HY0 HB0 Ht0 Hl0
  cases a
  case false =>
    have he : errT false = 3 := rfl
    have hok : ok = false := by rw [Hok.out]; rfl
    have hrr : R = none := by rw [HR.out, hok, if_neg (by simp)]
    have her : er = 3 := by rw [Her.out, hok]; rfl
    subst hrr
    subst her
    have hE : LEnd w none 3 ((((w1.setCell ⟨w.heap.size + 1, 0, none⟩ (.int .i64 0)).setCell ⟨w.heap.size + 1, 1, none⟩ (.int .i64 0)).setCell ⟨w.heap.size + 1, 2, none⟩ (.string ⟨#[]⟩)).setCell ⟨w.heap.size + 1, 3, none⟩ (.slice none 0 0)) :=
      ⟨none, 0, set4_at w1 (w.heap.size + 1) _ 25 HY1.out rfl _ _ _ _, by show (0 : Nat) ≤ _; omega, TmC.nil _ _ (by omega) (fun _ => rfl), ((((HB1.out.setCell (p := ⟨w.heap.size + 1, 0, none⟩) (by simp) _).setCell (p := ⟨w.heap.size + 1, 1, none⟩) (by simp) _).setCell (p := ⟨w.heap.size + 1, 2, none⟩) (by simp) _).setCell (p := ⟨w.heap.size + 1, 3, none⟩) (by simp) _)⟩
    have HE := Lib.hid hE; clear hE
    have ly := HY1.out.lt
    obtain ⟨⟨d0, d1, d2, d3⟩, ⟨g0, g1, g2, g3⟩⟩ := HY1.out.four
    clear Hok HR Her
    rw [he]
    gi_wp2
    refine leaves_marks (N := w.heap.size + 2) (fun W' => LEnd w none 3 W') (fun W5 D5 h1 hD5 hk5 => h1.put hD5 hk5) (fun W5 h1 => h1.res rfl rfl rfl) [] _ trivial HE.out
  have he : errT true = 0 := rfl
  obtain ⟨⟨a0, a1, a2, a3⟩, -⟩ := HX1.out.four
  have lx := HX1.out.lt
  rw [he]
  gi_wp2_with fail
  refine ⟨trivial, ?_⟩
  refine HC2.out.mono ?_
  rintro e w2 ⟨rfl, hb2⟩
  have HX2 := Lib.hid (HX1.out.below hb2 HX1.out.lt)
  have HY2 := Lib.hid (HY1.out.below hb2 HY1.out.lt)
  have HB2 := Lib.hid (HB1.out.trans (hb2.mono HB1.out.size))
  have Ht2 := Lib.hid (Ht1.out.stay hb2 (Nat.le_refl _))
  clear hb2 HC2 HX1 HY1 HB1 Ht1 a0 a1 a2 a3 lx
  have ly := HY2.out.lt
  cases b
  case false =>
    have he : errT false = 3 := rfl
    have hok : ok = false := by rw [Hok.out]; rfl
    have hrr : R = none := by rw [HR.out, hok, if_neg (by simp)]
    have her : er = 3 := by rw [Her.out, hok]; rfl
    subst hrr
    subst her
    have hE : LEnd w none 3 ((((w2.setCell ⟨w.heap.size + 1, 0, none⟩ (.int .i64 0)).setCell ⟨w.heap.size + 1, 1, none⟩ (.int .i64 0)).setCell ⟨w.heap.size + 1, 2, none⟩ (.string ⟨#[]⟩)).setCell ⟨w.heap.size + 1, 3, none⟩ (.slice none 0 0)) :=
      ⟨none, 0, set4_at w2 (w.heap.size + 1) _ 25 HY2.out rfl _ _ _ _, by show (0 : Nat) ≤ _; omega, TmC.nil _ _ (by omega) (fun _ => rfl), ((((HB2.out.setCell (p := ⟨w.heap.size + 1, 0, none⟩) (by simp) _).setCell (p := ⟨w.heap.size + 1, 1, none⟩) (by simp) _).setCell (p := ⟨w.heap.size + 1, 2, none⟩) (by simp) _).setCell (p := ⟨w.heap.size + 1, 3, none⟩) (by simp) _)⟩
    have HE := Lib.hid hE; clear hE
    obtain ⟨⟨d0, d1, d2, d3⟩, ⟨g0, g1, g2, g3⟩⟩ := HY2.out.four
    clear Hok HR Her
    rw [he]
    gi_wp2
    refine leaves_marks (N := w.heap.size + 2) (fun W' => LEnd w none 3 W') (fun W5 D5 h1 hD5 hk5 => h1.put hD5 hk5) (fun W5 h1 => h1.res rfl rfl rfl) [] _ trivial HE.out
  have hok : ok = true := by rw [Hok.out]; rfl
  have her : er = 2 := by rw [Her.out, hok]; rfl
  have hrr : R = if isB (listT l t) = true then some (listT l t) else none := by rw [HR.out, hok]; simp
  subst her
  have HR2 := Lib.hid hrr
  clear hrr hok HR Hok Her
  rw [he]
  by_cases hbig : l.length ≤ 600
  case neg =>
    have hrr : R = none := by
      rw [HR2.out, if_neg (fun h => ?_)]
      have h1 := (isB_iff.1 h).2.2
      have h2 := listT_depth t l
      omega
    subst hrr
    have hE : LEnd w none 2 ((((w2.setCell ⟨w.heap.size + 1, 0, none⟩ (.int .i64 0)).setCell ⟨w.heap.size + 1, 1, none⟩ (.int .i64 0)).setCell ⟨w.heap.size + 1, 2, none⟩ (.string ⟨#[]⟩)).setCell ⟨w.heap.size + 1, 3, none⟩ (.slice none 0 0)) :=
      ⟨none, 0, set4_at w2 (w.heap.size + 1) _ 25 HY2.out rfl _ _ _ _, by show (0 : Nat) ≤ _; omega, TmC.nil _ _ (by omega) (fun _ => rfl), ((((HB2.out.setCell (p := ⟨w.heap.size + 1, 0, none⟩) (by simp) _).setCell (p := ⟨w.heap.size + 1, 1, none⟩) (by simp) _).setCell (p := ⟨w.heap.size + 1, 2, none⟩) (by simp) _).setCell (p := ⟨w.heap.size + 1, 3, none⟩) (by simp) _)⟩
    have HE := Lib.hid hE; clear hE
    obtain ⟨⟨d0, d1, d2, d3⟩, ⟨g0, g1, g2, g3⟩⟩ := HY2.out.four
    have dl : decide ((600 : Int) < (l.length : Int)) = true := decide_eq_true (by omega)
    have dl2 : decide (600 < l.length) = true := decide_eq_true (by omega)
    clear HR2
    gi_wp2
    refine leaves_marks (N := w.heap.size + 2) (fun W' => LEnd w none 2 W') (fun W5 D5 h1 hD5 hk5 => h1.put hD5 hk5) (fun W5 h1 => h1.res rfl rfl rfl) [] _ trivial HE.out
  have dl : decide ((600 : Int) < (l.length : Int)) = false := decide_eq_false (by omega)
  have dl2 : decide (600 < l.length) = false := decide_eq_false (by omega)
  gi_wp2_with fail
  refine ⟨trivial, ?_⟩
  refine (back_in Fence.wide _ trivial rfl A l.length c w2).mono ?_
  rintro e w3 ⟨rfl, rfl⟩
  gi_wp2_with fail
  obtain ⟨W3, hW3⟩ : ∃ W3, W3 = w2.alloc (.cells #[.slice A l.length c] 22) := ⟨_, rfl⟩
  rw [← hW3]
  have hb3 : Below w2.heap.size w2 W3 := by rw [hW3]; exact (Below.refl _ _).alloc (Nat.le_refl _) _
  have hBt : Blk W3 w2.heap.size 22 #[.slice A l.length c] := by rw [hW3]; exact Blk.new _ _ _
  have HX3 := Lib.hid (HX2.out.below hb3 HX2.out.lt)
  have HY3 := Lib.hid (HY2.out.below hb3 HY2.out.lt)
  have HB3 := Lib.hid (HB2.out.trans (hb3.mono HB2.out.size))
  have Ht3 := Lib.hid (Ht2.out.stay hb3 (Nat.le_refl _))
  have hsz3 : w.heap.size + 2 ≤ W3.heap.size := by have := hb3.size; omega
  have hseq := back_stops Fence.wide rfl (5 - 1) trivial rfl w2.heap.size w.heap.size c A w l W3 (by omega) Hl.out HB3.out hBt
  clear hW3 hb3 hBt HX2 HY2 HB2 Ht2
  obtain ⟨I, hIdef⟩ : ∃ I : List (EBk w.heap.size w) → World → Prop, I = fun ys W => ∃ (u : Tm) (Au : Option Addr) (cu : Nat), u = (ys.map EBk.tm).foldl (fun t x => Tm.mk 5 0 ⟨#[46]⟩ [x, t]) t ∧ Blk W w.heap.size 25 #[.int .i64 u.k, .int .i64 u.n, .string u.s, .slice Au u.l.length cu] ∧ u.s.size ≤ 9223372036854775807 ∧ TmC (· ≠ w.heap.size) W Au cu u.l ∧
      Blk W (w.heap.size + 1) 25 #[.int .i64 0, .int .i64 0, .string ⟨#[]⟩, .slice none 0 0] ∧ Below w.heap.size w W ∧ W3.heap.size ≤ W.heap.size := ⟨_, rfl⟩
  have hIown : OwnFrom W3.heap.size I := by
    intro ys X Y row h hg hr
    rw [hIdef] at h ⊢
    obtain ⟨u, Au, cu, h1, h2, h3, h4, h5, h6, h7⟩ := h
    have hk := own_cells hg hr
    exact ⟨u, Au, cu, h1, hk _ _ h2 rfl, h3, h4.keptCells hk, hk _ _ h5 rfl, h6.grown hg h6.size (fun r e => by have := (hr r e).1; omega), Nat.le_trans h7 hg.size⟩
  have hI0 : I [] W3 := by rw [hIdef]; exact ⟨t, B, d, rfl, HX3.out, hs, Ht3.out.mono (fun g hg => by have : g < w.heap.size := hg; omega), HY3.out, HB3.out, Nat.le_refl _⟩
  have HIdef := Lib.hid hIdef; clear hIdef
  refine wpIn_rangeFunc_ownH rfl (by decide) (gf := 136) (lb := #[.pointer (some ⟨w2.heap.size, 0, none⟩)]) rfl trivial (enters_of Try.func136 (by kernel_rfl) rfl) hseq KpL.trans (fun W l o o' h1 h2 h3 h4 => kpL_b (B := W3.heap.size) (by omega) W l o o' h1 h2 h3 h4) (Below.refl _ _) (fun _ => rfl)
    I (fun _ _ _ => False) hIown (fun _ _ _ _ _ hs _ _ => hs) hI0
    (fun y a' W => ∃ Bx, W3.heap.size ≤ Bx ∧ Blk W Bx 25 #[.int .i64 y.1.2.1.k, .int .i64 y.1.2.1.n, .string y.1.2.1.s, .slice y.1.2.2.1 y.1.2.1.l.length y.1.2.2.2] ∧ a' = { tmps := #[.slice A l.length c, .agg #[.int .i64 t.k, .int .i64 t.n, .string t.s, .slice B t.l.length d], undef, .pointer (some ⟨w.heap.size, 0, none⟩), .pointer (some ⟨w.heap.size + 1, 0, none⟩), .int .i64 0, .int .i64 0, .int .i64 0, undef, .pointer (some ⟨Bx, 0, none⟩), .slice A l.length c, .int .i64 0, .int .i64 0, .bool false, undef, undef, .agg #[.int .i64 t.k, .int .i64 t.n, .string t.s, .slice B t.l.length d], .int .i64 0, .int .i64 0, .bool false, undef, undef, .slice A l.length c, .int .i64 l.length, .bool false, undef, .slice A l.length c, .func (.func 136) #[] #[.pointer (some ⟨w2.heap.size, 0, none⟩)], .int .i64 y.1.1, .agg #[.int .i64 y.1.2.1.k, .int .i64 y.1.2.1.n, .string y.1.2.1.s, .slice y.1.2.2.1 y.1.2.1.l.length y.1.2.2.2], undef, undef, undef, undef, undef, undef, undef, undef], defers := [] })
    (fun y a' _ X Y row hs hg hr => by
      obtain ⟨Bx, h1, h2, h3⟩ := hs
      exact ⟨Bx, h1, own_cells hg hr _ _ h2 rfl, h3⟩)
    ?assign ?body ?done ?stop
  case assign =>
    rintro l2 pre y W K hI hK
    simp only [EBk.encs]
    have hsW : W3.heap.size ≤ W.heap.size := by have h := hI; rw [HIdef.out] at h; obtain ⟨u, Au, cu, h1, h2, h3, h4, h5, h6, h7⟩ := h; exact h7
    gi_wp2
    exact hK _ _ ((KeepsOthers.alloc _ _).from _) ⟨(Below.refl _ _).alloc (by omega) _, fun g v hb => hb.alloc _⟩ (hIown.alloc _ hI) ⟨W.heap.size, hsW, Blk.new _ _ _, rfl⟩
  case body =>
    rintro l2 pre y a' W hl2 ⟨r, hr⟩ hI ⟨Bx, hBx, hbx, rfl⟩ hlt
    rw [HIdef.out] at hI
    obtain ⟨u, Au, cu, hu, hux, hus, huc, huy, huB, huS⟩ := hI
    obtain ⟨⟨x0, x1, x2, x3⟩, -⟩ := hbx.four
    obtain ⟨⟨y0, y1, y2, y3⟩, ⟨z0, z1, z2, z3⟩⟩ := hux.four
    have hlx := hux.lt
    have hlbx := hbx.lt
    have HU := Lib.hid hu; clear hu
    have Huc := Lib.hid huc; clear huc
    obtain ⟨W5, hW5⟩ : ∃ W5, W5 = (((W.setCell ⟨w.heap.size, 0, none⟩ (.int .i64 5)).setCell ⟨w.heap.size, 1, none⟩ (.int .i64 0)).setCell ⟨w.heap.size, 2, none⟩ (.string ⟨#[46]⟩)).setCell ⟨w.heap.size, 3, none⟩ (.slice (some ⟨W.heap.size, 0, none⟩) 2 2) := ⟨_, rfl⟩
    have hs5 : W.heap.size = W5.heap.size := by rw [hW5]; simp
    have hbut : But w.heap.size W W5 := by rw [hW5]; exact ((((But.refl _ _).setCell 0 _).setCell 1 _).setCell 2 _).setCell 3 _
    have hx5 : Blk W5 w.heap.size 25 #[.int .i64 5, .int .i64 0, .string ⟨#[46]⟩, .slice (some ⟨W.heap.size, 0, none⟩) 2 2] := by rw [hW5]; exact set4_at W w.heap.size _ 25 hux rfl _ _ _ _
    have hk5 : KeepsOthers W W5 := by rw [hW5]; exact ((((KeepsOthers.setCell _ _ _).trans (KeepsOthers.setCell _ _ _)).trans (KeepsOthers.setCell _ _ _)).trans (KeepsOthers.setCell _ _ _))
    obtain ⟨W4, hW4⟩ : ∃ W4, W4 = W5.alloc (.cells #[.int .i64 y.1.2.1.k, .int .i64 y.1.2.1.n, .string y.1.2.1.s, .slice y.1.2.2.1 y.1.2.1.l.length y.1.2.2.2, .int .i64 u.k, .int .i64 u.n, .string u.s, .slice Au u.l.length cu] 25) := ⟨_, rfl⟩
    have HW4 := Lib.hid hW4; have HW5 := Lib.hid hW5
    have hb4 : Below W5.heap.size W5 W4 := by rw [hW4]; exact (Below.refl _ _).alloc (Nat.le_refl _) _
    have hB5 : Below w.heap.size W W5 := hbut.below (Nat.le_refl _) (by have := huB.size; omega)
    have hT4 : TmC (· ≠ w.heap.size) W4 (some ⟨W.heap.size, 0, none⟩) 2 [y.1.2.1, u] := by
      rw [hW4]
      refine TmC.lit [(y.1.2.1, y.1.2.2.1, y.1.2.2.2), (u, Au, cu)] (fun e he => ?_) (Blk.new' hs5) (by omega) (by simp)
      simp only [List.mem_cons, List.not_mem_nil, or_false] at he
      rcases he with rfl | rfl
      · exact ⟨y.2.1, (((y.2.2.belowP (huB.trans hB5) (fun g hg => hg)).mono (fun g hg => by have : g < w.heap.size := hg; omega)).stay ((Below.refl _ _).alloc (Nat.le_refl _) _) (Nat.le_refl _))⟩
      · exact ⟨hus, (Huc.out.but hbut (fun g hg => hg)).stay ((Below.refl _ _).alloc (Nat.le_refl _) _) (Nat.le_refl _)⟩
    have hx4 := hx5.below hb4 hx5.lt
    have hy5 : Blk W5 (w.heap.size + 1) 25 #[.int .i64 0, .int .i64 0, .string ⟨#[]⟩, .slice none 0 0] := (hbut.block _ huy.lt (by omega)).trans huy
    have hy4 := hy5.below hb4 hy5.lt
    have HT4 := Lib.hid hT4; have HX4 := Lib.hid hx4; have HY4 := Lib.hid hy4; have Hb4 := Lib.hid hb4
    have HuB := Lib.hid (huB.trans (hB5.trans (hb4.mono (by have := huB.size; omega))))
    have HB45 := Lib.hid (hB5.trans (hb4.mono (by have := huB.size; omega)))
    have Hk5 := Lib.hid hk5
    have Hbut := Lib.hid hbut
    have Hu25 := Lib.hid hux
    have HS := Lib.hid (show W3.heap.size ≤ W4.heap.size from by have := hb4.size; omega)
    clear hT4 hx4 hy4 hb4 huB hux huy hW4 hW5 hx5 hy5 hB5 hk5 hbut hs5
    gi_wp2
    rw [← HW5.out, ← HW4.out]
    refine ⟨?_, ⟨HB45.out, ?_⟩, ?_⟩
    · rw [HW4.out]
      exact (Hk5.out.trans (KeepsOthers.alloc _ _)).from _
    · intro g v hb
      have hne : g ≠ w.heap.size := fun e => by subst e; exact absurd rfl (Blk.ne_ hb Hu25.out (by decide))
      have hbb : Blk W5 g 22 #[v] := (Hbut.out.block g hb.lt hne).trans hb
      exact hbb.below Hb4.out hbb.lt
    · rw [HIdef.out]
      exact ⟨.mk 5 0 ⟨#[46]⟩ [y.1.2.1, u], some ⟨W.heap.size, 0, none⟩, 2, by rw [List.map_append, List.foldl_append, ← HU.out]; rfl, HX4.out, by show (1 : Nat) ≤ _; omega, HT4.out, HY4.out, HuB.out, HS.out⟩
  case done =>
    rintro D ys W hD hys hI hDk
    rw [HIdef.out] at hI
    obtain ⟨u, Au, cu, hu, hux, hus, huc, huy, huB, huS⟩ := hI
    rw [hys, foldl_listT] at hu
    rw [← hu] at HR2
    have hcall := (callsIn_wide (n := 4)).2 (limited_calls u _ W _ ⟨Au, cu, rfl, hus, huc⟩)
    rw [← HR2.out] at hcall
    have Hcall := Lib.hid hcall; clear hcall
    obtain ⟨⟨y0, y1, y2, y3⟩, ⟨z0, z1, z2, z3⟩⟩ := hux.four
    have hlx := hux.lt
    have Huy := Lib.hid huy; have HuB := Lib.hid huB
    clear huc huy huB hux hu hys
    gi_wp2_with fail
    refine ⟨trivial, ?_⟩
    refine Hcall.out.mono ?_
    rintro e w5 ⟨A5, c5, rfl, hs5, hc5, hb5⟩
    have hY5 := Huy.out.below hb5 Huy.out.lt
    have hB5 := HuB.out.trans (hb5.mono HuB.out.size)
    have hDl : D < W.heap.size := (Array.getElem?_eq_some_iff.1 hDk).1
    have hD5 : w5.heap[D]? = some (.deferred (some [])) := (hb5.block D hDl).trans hDk
    have hl5 := hY5.lt
    obtain ⟨⟨k0, k1, k2, k3⟩, ⟨m0, m1, m2, m3⟩⟩ := hY5.four
    obtain ⟨rt, hrt⟩ : ∃ rt, rt = R.getD Tm.zero := ⟨_, rfl⟩
    have hE : LEnd w R 2 ((((w5.setCell ⟨w.heap.size + 1, 0, none⟩ (.int .i64 rt.k)).setCell ⟨w.heap.size + 1, 1, none⟩ (.int .i64 rt.n)).setCell ⟨w.heap.size + 1, 2, none⟩ (.string rt.s)).setCell ⟨w.heap.size + 1, 3, none⟩ (.slice A5 rt.l.length c5)) := by
      unfold LEnd
      rw [← hrt] at hs5 hc5 ⊢
      exact ⟨A5, c5, set4_at w5 (w.heap.size + 1) _ 25 hY5 rfl _ _ _ _, hs5, (hc5.but (((((But.refl (w.heap.size + 1) w5).setCell 0 _).setCell 1 _).setCell 2 _).setCell 3 _) (fun g hg => by omega)).mono (fun g hg => by omega),
        ((((hB5.setCell (p := ⟨w.heap.size + 1, 0, none⟩) (by simp) _).setCell (p := ⟨w.heap.size + 1, 1, none⟩) (by simp) _).setCell (p := ⟨w.heap.size + 1, 2, none⟩) (by simp) _).setCell (p := ⟨w.heap.size + 1, 3, none⟩) (by simp) _)⟩
    have hD6 : (((((w5.setCell ⟨w.heap.size + 1, 0, none⟩ (.int .i64 rt.k)).setCell ⟨w.heap.size + 1, 1, none⟩ (.int .i64 rt.n)).setCell ⟨w.heap.size + 1, 2, none⟩ (.string rt.s)).setCell ⟨w.heap.size + 1, 3, none⟩ (.slice A5 rt.l.length c5))).heap[D]? = some (.deferred (some [])) :=
      ((((((But.refl (w.heap.size + 1) w5).setCell 0 (.int .i64 rt.k)).setCell 1 (.int .i64 rt.n)).setCell 2 (.string rt.s)).setCell 3 (.slice A5 rt.l.length c5)).block D (Array.getElem?_eq_some_iff.1 hD5).1 (by omega)).trans hD5
    have HE := Lib.hid hE; have HD6 := Lib.hid hD6
    obtain ⟨q, hq⟩ : ∃ q : Int, q = if R.isSome then 0 else 2 := ⟨_, rfl⟩
    rw [← hrt, ← hq]
    have Hq := Lib.hid hq
    clear hE hD6 hD5 hY5 hB5 hc5 hs5 hq hb5 hrt
    gi_wp2
    refine leaves_marks (N := w.heap.size + 2) (fun W' => LEnd w R 2 W') (fun W5 D5 h1 hD5 hk5 => h1.put hD5 hk5) (fun W5 h1 => h1.res rfl rfl (by rw [← Hq.out]; rfl)) [{ target := .collected D, args := #[] }] _ ⟨⟨D, rfl, by omega, HD6.out, fun e he => by simp at he⟩, trivial⟩ HE.out
  case stop =>
    rintro D c2 pre W' _ _ h _
    exact h.elim
end Go.Proofs.Ytfhgknmkpegpbaa

/- Layer 1 by the pure model, 4: contracts that were proved before, in the words of the model. -/
set_option linter.unusedVariables false
set_option linter.unusedSimpArgs false
namespace Go.Proofs.Ytfhgknmkpegpbaa
open Go Go.Abs Go.Proofs Go.RowKit
theorem bridge {P : Program} {f : FuncId} (he : Abs.Enters P f) {args : List AV} {r : AV} (h : ∀ (E : En) (w : World) (vs : Array Value), All2 (Rv w E) args vs.toList →
    Calls P f vs w fun e w' => ∃ v, e = .returned v ∧ Below w.heap.size w w' ∧ ∀ E' : En, (∀ g, E.F g → E'.F g) → (∀ g, w.heap.size ≤ g → g < w'.heap.size → E'.F g) → Rv w' E' r v) : ACall P f args [] r [] := by
  refine ⟨he, Nat.le_refl _, fun E w vs hvs _ _ _ hfr hFF => (h E w vs hvs).mono ?_⟩
  rintro e w' ⟨v, rfl, hb, hv⟩
  refine ⟨v, ⟨fun g => E.F g ∨ (w.heap.size ≤ g ∧ g < w'.heap.size), E.m⟩, rfl, hv _ (fun g h => .inl h) (fun g h1 h2 => .inr ⟨h1, h2⟩), ⟨⟨fun g h => .inl h, fun _ _ _ h => h⟩, fun g hg => ?_, hb.os, hb.tape, hb.output, hb.size, fun g hg _ => hb.block g hg, fun b hb => rfl, fun b n hb => rfl, fun b hb => by simp at hb, fun b hb => by simp at hb, fun b hb => by simp at hb, fun b hb => by simp at hb⟩⟩
  rcases hg with hg | hg
  · exact .inl hg
  · exact .inr (.inl hg)
theorem _root_.Go.Abs.Rv.ofTup {w : World} {E : En} {l : List AV} {vs : Array Value} (h : All2 (Rv w E) l vs.toList) : Rv w E (.tup l) (.tuple vs) := by
  refine .tup (fun j => vs.getD j undef) (by simpa using h.1) (fun j c hj => ?_) (fun j c hj => ?_)
  · obtain ⟨u, h1, h2⟩ := h.2 j c hj
    have h1' : vs[j]? = some u := by simpa using h1
    simp [Array.getD_eq_getD_getElem?, h1']
  · obtain ⟨u, h1, h2⟩ := h.2 j c hj
    have h1' : vs[j]? = some u := by simpa using h1
    simpa [Array.getD_eq_getD_getElem?, h1'] using h2
section
variable {E : En} {w : World} {vs : Array Value}
theorem args1 {x : AV} (h : All2 (Rv w E) [x] vs.toList) : ∃ v, vs = #[v] ∧ Rv w E x v := by
  obtain ⟨v, h1, h2⟩ := h.2 0 x rfl
  refine ⟨v, ?_, h2⟩
  have hl : vs.toList.length = 1 := h.1
  apply Array.toList_inj.1
  match hvs : vs.toList, hl with
  | [u], _ => rw [hvs] at h1; simp at h1; rw [h1]
theorem args2 {x y : AV} (h : All2 (Rv w E) [x, y] vs.toList) : ∃ v u, vs = #[v, u] ∧ Rv w E x v ∧ Rv w E y u := by
  obtain ⟨v, h1, h2⟩ := h.2 0 x rfl
  obtain ⟨u, h3, h4⟩ := h.2 1 y rfl
  refine ⟨v, u, ?_, h2, h4⟩
  have hl : vs.toList.length = 2 := h.1
  apply Array.toList_inj.1
  match hvs : vs.toList, hl with
  | [a, b], _ => rw [hvs] at h1 h3; simp at h1 h3; rw [h1, h3]
end
abbrev vI (n : Int) : AV := .val (.int .i64 n)
abbrev vB (b : Bool) : AV := .val (.bool b)
theorem newP {P : Nat → Prop} {w w' : World} {A : Option Addr} {c : Nat} {l : List Tm} (h : TmC P w' A c l) {E' : En} (hP : ∀ g, P g → w.heap.size ≤ g) (h2 : ∀ g, w.heap.size ≤ g → g < w'.heap.size → E'.F g) : Rv w' E' (tsA l) (.slice A l.length c) :=
  TmC.toRv h.inside fun g hg => h2 g (hP g hg.1) hg.2
theorem newPT {P : Nat → Prop} {w w' : World} {A : Option Addr} {c : Nat} {t : Tm} (hs : t.s.size ≤ 9223372036854775807) (h : TmC P w' A c t.l) {E' : En} (hP : ∀ g, P g → w.heap.size ≤ g) (h2 : ∀ g, w.heap.size ≤ g → g < w'.heap.size → E'.F g) :
    Rv w' E' (tA t) (.agg #[.int .i64 t.k, .int .i64 t.n, .string t.s, .slice A t.l.length c]) := TmC.toRvT hs h.inside fun g hg => h2 g (hP g hg.1) hg.2
theorem enters {n : Nat} {fn : Func} (h : Try.prog.funcs[n]? = some fn) (h1 : (fn.name == "runtime.NumGoroutine") = false) (h2 : fn.body.isNone = false) : Abs.Enters Try.prog n := ⟨fn, h, h1, h2⟩

theorem check_ok (t : Tm) : ACall Try.prog 22 [tA t] [] (vI (errT (isB t))) [] := bridge (enters Try.func22 (by decide) rfl) fun E w vs hvs => by
  obtain ⟨v, rfl, hv⟩ := args1 hvs
  exact (check_calls t _ w v hv.toTmV).mono fun e w' ⟨he, hb⟩ => ⟨_, he, hb, fun _ _ _ => .val rfl⟩
theorem refCheck_ok (t : Tm) (hsz : t.size ≤ 1000000) : ACall Try.prog 23 [tA t] [] (vI (errT (isB t))) [] := bridge (enters Try.func23 (by decide) rfl) fun E w vs hvs => by
  obtain ⟨v, rfl, hv⟩ := args1 hvs
  exact (refCheck_calls t _ w v hv.toTmV hsz).mono fun e w' ⟨he, hb⟩ => ⟨_, he, hb, fun _ _ _ => .val rfl⟩
theorem checkAll_ok (l : List Tm) : ACall Try.prog 18 [tsA l] [] (vI (errT (allB l))) [] := bridge (enters Try.func18 (by decide) rfl) fun E w vs hvs => by
  obtain ⟨v, rfl, hv⟩ := args1 hvs
  obtain ⟨A, c, rfl, hc⟩ := hv.toTmC
  exact (checkAll_calls l _ A c w hc).mono fun e w' ⟨he, hb⟩ => ⟨_, he, hb, fun _ _ _ => .val rfl⟩
theorem refCheckAll_ok (l : List Tm) (hsz : Tm.sizes l ≤ 1000000) : ACall Try.prog 19 [tsA l] [] (vI (errT (allB l))) [] := bridge (enters Try.func19 (by decide) rfl) fun E w vs hvs => by
  obtain ⟨v, rfl, hv⟩ := args1 hvs
  obtain ⟨A, c, rfl, hc⟩ := hv.toTmC
  exact (refCheckAll_calls l _ A c w hc hsz).mono fun e w' ⟨he, hb⟩ => ⟨_, he, hb, fun _ _ _ => .val rfl⟩
theorem checked_ok (l : List Tm) : ACall Try.prog 83 [tsA l] [] (vI (errT (allIs l))) [] := bridge (enters Try.func83 (by decide) rfl) fun E w vs hvs => by
  obtain ⟨v, rfl, hv⟩ := args1 hvs
  obtain ⟨A, c, rfl, hc⟩ := hv.toTmC
  exact (checked_calls l _ A c w hc).mono fun e w' ⟨he, hb⟩ => ⟨_, he, hb, fun _ _ _ => .val rfl⟩
theorem same_ok (t u : Tm) : ACall Try.prog 24 [tA t, tA u] [] (vB (sameB t u)) [] := bridge (enters Try.func24 (by decide) rfl) fun E w vs hvs => by
  obtain ⟨v, v2, rfl, hv, hv2⟩ := args2 hvs
  exact (same_calls t _ _ w v v2 u hv.toTmV hv2.toTmV).mono fun e w' ⟨he, hb⟩ => ⟨_, he, hb, fun _ _ _ => .val rfl⟩
theorem refSame_ok (t u : Tm) : ACall Try.prog 25 [tA t, tA u] [] (vB (sameB t u)) [] := bridge (enters Try.func25 (by decide) rfl) fun E w vs hvs => by
  obtain ⟨v, v2, rfl, hv, hv2⟩ := args2 hvs
  exact (refSame_calls t _ _ w v v2 u hv.toTmV hv2.toTmV).mono fun e w' ⟨he, hb⟩ => ⟨_, he, hb, fun _ _ _ => .val rfl⟩
theorem sameAll_ok (xs ys : List Tm) : ACall Try.prog 33 [tsA xs, tsA ys] [] (vB (sameL xs ys)) [] := bridge (enters Try.func33 (by decide) rfl) fun E w vs hvs => by
  obtain ⟨v, v2, rfl, hv, hv2⟩ := args2 hvs
  obtain ⟨A, c, rfl, hc⟩ := hv.toTmC
  obtain ⟨B, d, rfl, hd⟩ := hv2.toTmC
  exact (sameAll_calls xs ys A c B d _ _ w hc hd).mono fun e w' ⟨he, hb⟩ => ⟨_, he, hb, fun _ _ _ => .val rfl⟩
theorem small_ok (l : List Tm) : ACall Try.prog 28 [tsA l] [] (vB (smallB l)) [] := bridge (enters Try.func28 (by decide) rfl) fun E w vs hvs => by
  obtain ⟨v, rfl, hv⟩ := args1 hvs
  obtain ⟨A, c, rfl, hc⟩ := hv.toTmC
  exact (small_calls l _ A c w hc).mono fun e w' ⟨he, hb⟩ => ⟨_, he, hb, fun _ _ _ => .val rfl⟩
theorem sane_ok : ACall Try.prog 16 [] [] (vB true) [] := bridge (enters Try.func16 (by decide) rfl) fun E w vs hvs => by
  have : vs = #[] := by
    have h := hvs.1
    simp at h
    exact h
  subst this
  exact (sane_calls w).mono fun e w' ⟨he, hb⟩ => ⟨_, he, hb, fun _ _ _ => .val rfl⟩
/-- A tree and an error. -/
abbrev tE (t : Tm) (e : Int) : AV := .tup [tA t, vI e]
theorem rv_tE {w' : World} {E' : En} {t : Tm} {e : Int} {v : Value} (h : Rv w' E' (tA t) v) : Rv w' E' (tE t e) (.tuple #[v, .int .i64 e]) := Rv.ofTup (All2.cons h (All2.cons (.val rfl) (All2.nil _)))
theorem general_ok' (t u : Tm) : ACall Try.prog 37 [tA t, tA u] [] (tE (if allIs [t, u] = true then genR t u else Tm.zero) (if allIs [t, u] = true then 0 else 3)) [] := bridge (enters Try.func37 (by decide) rfl) fun E w vs hvs => by
  obtain ⟨v, v2, rfl, hv, hv2⟩ := args2 hvs
  refine (generalTop_calls t u _ _ w v v2 hv.toTmV hv2.toTmV).mono fun e w' ⟨A, c, he, hs, ht, hb⟩ => ⟨_, he, hb, fun E' h1 h2 => ?_⟩
  cases hb : allIs [t, u] <;> simp only [hb, Bool.false_eq_true, if_false, if_true, Option.getD_none, Option.getD_some, Option.isSome] at hs ht ⊢ <;> exact rv_tE (newPT hs ht (fun g h => h) h2)
theorem list_ok' (l : List Tm) (t : Tm) : ACall Try.prog 58 [tsA l, tA t] [] (tE ((listR l t).getD Tm.zero) (if (listR l t).isSome then 0 else if lstOk l t = true then 2 else 3)) [] := bridge (enters Try.func58 (by decide) rfl) fun E w vs hvs => by
  obtain ⟨v, v2, rfl, hv, hv2⟩ := args2 hvs
  obtain ⟨A, c, rfl, hc⟩ := hv.toTmC
  exact (list_calls l t _ _ w v2 A c hc hv2.toTmV).mono fun e w' ⟨B, d, he, hs, ht, hb⟩ => ⟨_, he, hb, fun E' h1 h2 => rv_tE (newPT hs ht (fun g h => h) h2)⟩
theorem items_ok' (t : Tm) : ACall Try.prog 60 [tA t] [] (.tup [tsA (itR t).1, tA (itR t).2, vI (errT (isB t))]) [] := bridge (enters Try.func60 (by decide) rfl) fun E w vs hvs => by
  obtain ⟨v, rfl, hv⟩ := args1 hvs
  exact (items_calls t _ w v hv.toTmV).mono fun e w' ⟨A, c, B, d, he, ht, hs, ht2, hb⟩ => ⟨_, he, hb, fun E' h1 h2 => Rv.ofTup (All2.cons (newP ht (fun g h => h) h2) (All2.cons (newPT hs ht2 (fun g h => h) h2) (All2.cons (.val rfl) (All2.nil _))))⟩
end Go.Proofs.Ytfhgknmkpegpbaa

/- A pure model of Go code, 20: a contract for an own slice serves where the nil slice lies. -/
set_option linter.unusedVariables false
set_option linter.unusedSimpArgs false
namespace Go.Abs
open Go.RowKit

theorem ACall.nilB {P : Program} {f : FuncId} {args : List AV} {hs hs1 hs' : List AB} {r : AV} (h : ACall P f args hs1 r hs') (b off ty0 ty sz : Nat) {l : List AC} (hb : hs[b]? = some (.box ty0 l)) (hl : l[off]? = some (.f (.v (.slice none 0 0))))
    (h1 : hs1 = hs.set b (.box ty0 (l.set off (.row hs.length 0))) ++ [.row ty sz []]) : ACall P f args hs r hs' := by
  have hbl := (List.getElem?_eq_some_iff.1 hb).1
  have hol := (List.getElem?_eq_some_iff.1 hl).1
  have hlen1 : hs1.length = hs.length + 1 := by rw [h1]; simp
  refine ⟨h.1, by have := h.2.1; omega, fun E w vs hvs hblk hsep hown hfresh hFF => ?_⟩
  have hgb : hs1[b]? = some (.box ty0 (l.set off (.row hs.length 0))) := by
    rw [h1, List.getElem?_append_left (by simpa using hbl), List.getElem?_set_self hbl]
  have hgn : hs1[hs.length]? = some (.row ty sz []) := by
    rw [h1, List.getElem?_append_right (by simp)]; simp
  have hgo : ∀ j, j ≠ b → j ≠ hs.length → hs1[j]? = hs[j]? := fun j hj hj2 => by
    rcases Nat.lt_or_ge j hs.length with hlt | hge
    · rw [h1, List.getElem?_append_left (by simpa using hlt), List.getElem?_set_ne (fun e => hj e.symm)]
    · rw [h1, List.getElem?_append_right (by simpa using hge), List.getElem?_eq_none (by simp; omega), List.getElem?_eq_none hge]
  let E1 := E.set hs.length 0 (.slice none 0 0)
  have le : E.le E1 := En.set_le (hfresh hs.length 0 (Nat.le_refl _))
  have hm : ∀ j n, j ≠ hs.length → E1.m j n = E.m j n := fun j n hj => En.set_out _ _ _ _ hj
  have hnown : ∀ g, ¬ owns E1 hs.length (.row ty sz []) g := fun g ⟨n, c, hg⟩ => by
    rw [List.length_nil] at hg
    have : E1.m hs.length 0 = some (.slice none 0 0) := En.set_at _ _ _ _
    rw [this] at hg; simp at hg
  -- the owners are the same
  have back : ∀ j x g, hs1[j]? = some x → owns E1 j x g → ∃ x0, hs[j]? = some x0 ∧ owns E j x0 g := fun j x g hx ho => by
    by_cases e : j = hs.length
    · subst e; rw [hgn] at hx; injection hx with hx; subst hx; exact absurd ho (hnown g)
    · by_cases e2 : j = b
      · subst e2; rw [hgb] at hx; injection hx with hx; subst hx
        exact ⟨_, hb, by simp only [owns, hm j _ e] at ho ⊢; exact ho⟩
      · rw [hgo j e2 e] at hx
        exact ⟨x, hx, (owns_out (fun n => hm j n e) x g).1 ho⟩
  have forth : ∀ j x g, hs[j]? = some x → owns E j x g → ∃ x1, hs1[j]? = some x1 ∧ owns E1 j x1 g := fun j x g hx ho => by
    have e : j ≠ hs.length := fun e => by have := (List.getElem?_eq_some_iff.1 hx).1; omega
    by_cases e2 : j = b
    · subst e2; rw [hb] at hx; injection hx with hx; subst hx
      exact ⟨_, hgb, by simp only [owns, hm j _ e] at ho ⊢; exact ho⟩
    · exact ⟨x, by rw [hgo j e2 e]; exact hx, (owns_out (fun n => hm j n e) x g).2 ho⟩
  refine (h.2.2 E1 w vs ⟨hvs.1, fun j x hj => let ⟨u, q1, q2⟩ := hvs.2 j x hj; ⟨u, q1, q2.mono le (Agree.refl _ _)⟩⟩ (fun j x hx => ?_) (fun j j' x x' g hx hx' ho ho' => ?_) (fun j x g hx ho => ?_) (fun j n hj => ?_) hFF).mono ?_
  · by_cases e : j = hs.length
    · subst e; rw [hgn] at hx; injection hx with hx; subst hx
      exact ⟨_, [], En.set_at _ _ _ _, ⟨by simp, .inl ⟨rfl, rfl⟩⟩, by simp, by simp, fun n hn => by
        have : E1.m hs.length n = E.m hs.length n := En.set_ne _ _ _ (by simp at hn; omega)
        rw [this]; exact hfresh _ n (Nat.le_refl _)⟩
    · by_cases e2 : j = b
      · subst e2; rw [hgb] at hx; injection hx with hx; subst hx
        obtain ⟨g, vs', q1, q2, q3, q4⟩ := hblk j _ hb
        refine ⟨g, vs', le.m _ _ _ q1, q2, by simpa using q3, fun i c hi => ?_⟩
        by_cases e3 : off = i
        · subst e3
          rw [List.getElem?_set_self hol] at hi
          simp only [Option.some.injEq] at hi; subst hi
          obtain ⟨u, q5, q6⟩ := q4 off _ hl
          have : u = .slice none 0 0 := by cases q6 with | f q6 => cases q6 with | v => rfl
          subst this
          exact ⟨_, q5, .row (En.set_at _ _ _ _)⟩
        · rw [List.getElem?_set_ne e3] at hi
          obtain ⟨u, q5, q6⟩ := q4 i c hi
          exact ⟨u, q5, q6.mono le (Agree.refl _ _)⟩
      · rw [hgo j e2 e] at hx
        exact (hblk j x hx).mono le (fun n => hm j n e) (Agree.refl _ _) (fun _ _ => rfl)
  · obtain ⟨x0, q1, q2⟩ := back j x g hx ho
    obtain ⟨x0', q1', q2'⟩ := back j' x' g hx' ho'
    exact hsep j j' x0 x0' g q1 q1' q2 q2'
  · obtain ⟨x0, q1, q2⟩ := back j x g hx ho
    exact hown j x0 g q1 q2
  · rw [hm j n (by omega)]; exact hfresh j n (by omega)
  · rintro e w' ⟨v, E', rfl, hv, u⟩
    have hle := h.2.1
    refine ⟨v, E', rfl, hv, ⟨le.trans u.le, fun g hg => ?_, u.os, u.tape, u.output, u.grow, fun g hg hk => u.kept g hg fun j hj x hx ho => ?_, fun j hj => ?_, fun j n hj => ?_, u.blk, fun j hj x g hx ho => ?_, u.sep, u.live⟩⟩
    · rcases u.F g hg with q | q | ⟨q, j, hj, x, hx, ho⟩
      · exact .inl q
      · exact .inr (.inl q)
      · obtain ⟨x0, q1, q2⟩ := back j x g hx ho
        exact .inr (.inr ⟨q, j, hj, x0, q1, q2⟩)
    · obtain ⟨x0, q1, q2⟩ := back j x g hx ho
      exact hk j hj x0 q1 q2
    · simp at hj
      rw [List.getElem?_eq_none hj, List.getElem?_eq_none (by omega)]
    · rw [u.out j n hj]; simp at hj; exact hm j n (by omega)
    · obtain ⟨q1, q2, q3⟩ := u.own j hj x g hx ho
      refine ⟨?_, q2, q3⟩
      rcases q1 with q1 | ⟨j', hj', x', hx', ho'⟩
      · exact .inl q1
      · obtain ⟨x0, q4, q5⟩ := back j' x' g hx' ho'
        exact .inr ⟨j', hj', x0, q4, q5⟩
end Go.Abs

/- A pure model of Go code, 21: own rows as arguments of a function that only reads them and gives a plain value. -/
set_option linter.unusedVariables false
set_option linter.unusedSimpArgs false
namespace Go.Abs
open Go.RowKit

theorem ACall.rows {P : Program} {f : FuncId} {args args1 : List AV} {hs : List AB} {x : Value} (h : ACall P f args [] (.val x) []) (ha : AV.frzs (enumL 0 hs) (List.range hs.length) (fun _ => false) args1 = some args) : ACall P f args1 hs (.val x) hs := by
  refine ⟨h.1, Nat.le_refl _, fun E w vs hvs hblk hsep hown hfresh hFF => ?_⟩
  let E1 : En := ⟨fun g => E.F g ∨ ∃ b y, hs[b]? = some y ∧ owns E b y g, fun _ _ => none⟩
  have hlk : ∀ b y, look (enumL 0 hs) b = some y → hs[b]? = some y := fun b y hy => by rw [look_enum] at hy; simpa using hy
  have key := Rvs.frz (w := w) (E := E) (E' := E1) (fz := List.range hs.length) (live := fun _ => false) (q := enumL 0 hs) (fun b y hy => hblk b y (hlk b y hy)) (fun g hg => .inl hg) (fun b n hb => by cases hb) (fun b hb y hy g hg => .inr ⟨b, y, hlk b y hy, hg⟩) args1 args ha
  refine (h.2.2 E1 w vs ⟨by rw [hvs.1, key.1], fun j c hj => ?_⟩ (fun b y hy => by simp at hy) (fun b b' y y' g hy => by simp at hy) (fun b y g hy => by simp at hy) (fun b n hb => rfl) (fun g hg => ?_)).mono ?_
  · obtain ⟨c0, h1, h2⟩ := key.2 j c hj
    obtain ⟨u, h3, h4⟩ := hvs.2 j c0 h1
    exact ⟨u, h3, h2 u h4⟩
  · rcases hg with hg | ⟨b, y, hy, hg⟩
    · exact hFF g hg
    · exact (hown b y g hy hg).2
  · rintro e w' ⟨v, E', rfl, hv, u⟩
    have hk : ∀ g, g < w.heap.size → w'.heap[g]? = w.heap[g]? := fun g hg => u.kept g hg (fun b hb => by simp at hb)
    have hx := hv
    have := hv.val_inv
    subst this
    have hag : Agree E.F w w' := fun g hg => hk g (hFF g hg)
    refine ⟨_, E, rfl, ?_, ⟨En.le.refl E, fun g hg => .inl hg, u.os, u.tape, u.output, u.grow, fun g hg hn => hk g hg, fun b hb => rfl, fun b n hb => rfl, fun b hb y hy => ?_, fun b hb y g hy hg => ⟨.inr ⟨b, hb, y, hy, hg⟩, (hown b y g hy hg).1, Nat.lt_of_lt_of_le (hown b y g hy hg).2 u.grow⟩, fun b hb b' hb' y y' g hy hy' ho ho' => hsep b b' y y' g hy hy' ho ho', fun b hb => by have := List.mem_range.1 hb; simp; omega⟩⟩
    · cases hx with | one h => cases h with | f h => cases h with | v _ ho => exact .one (.f (.v _ ho))
    · exact (hblk b y hy).mono (En.le.refl E) (fun n => rfl) hag (fun g hg => hk g (hown b y g hy hg).2)
end Go.Abs

/- A pure model of Go code, 22: one rule for every plain operation, one for every pure call. -/
set_option linter.unusedVariables false
set_option linter.unusedSimpArgs false
namespace Go.Abs
open Go.RowKit

section
variable {P : Program} {nx i d : Nat} {ops rest : List Oper} {o : Oper} {T T' : TL} {H H' : HL} {cs : List Chk}
theorem RunS.any {K : TL → HL → Prop} {x : Option AV} {ws : HL} (hg : gOf ops.toArray (look T) o = some true) (hp : pl P (look T) (look H) (nx + i) o.op = some (x, ws)) (hf : look H (nx + i) = none) (hs : setT T o.dst x = T' ∧ puts H ws = H') (h : RunS P nx ops (i + 1) rest T' H' K) : RunS P nx ops i (o :: rest) T H K :=
  runO_pl hg hp hf (by obtain ⟨rfl, rfl⟩ := hs; exact h)
theorem RunD.any {K : TL → HL → List Chk → Prop} {x : Option AV} {ws : HL} (hg : gOf ops.toArray (look T) o = some true) (hp : pl P (look T) (look H) (nx + i) o.op = some (x, ws)) (hf : look H (nx + i) = none) (hs : setT T o.dst x = T' ∧ puts H ws = H') (h : RunD P nx ops (i + 1) rest T' H' (cs ++ [⟨o.dst, ws.map (·.1), gRd ops.toArray o ++ rdT o.op, rdB (look T) o.op, [nx + i]⟩]) K) : RunD P nx ops i (o :: rest) T H cs K :=
  runO_pl hg hp hf (by obtain ⟨rfl, rfl⟩ := hs; exact h)
theorem RunS.callQ {K : TL → HL → Prop} (hg : gOf ops.toArray (look T) o = some true) {fid : FuncId} {cargs : List AV} {res : AV} {args : List Operand} {tys : Array TypeId} (ho : o.op = .call ⟨.value (.func fid), args.toArray, tys⟩)
    (hx : evArgs (look T) args = some cargs) (hc : ACall P fid cargs [] res []) (hd : o.dst = some d) (hl : cargs.all (·.lt 0) = true) (hr : res.lt 0 = true) (h : RunS P nx ops (i + 1) rest ((d, res) :: T) H K) : RunS P nx ops i (o :: rest) T H K :=
  RunS.callP hd hg hc ho hx hl hr h
theorem RunD.callQ {K : TL → HL → List Chk → Prop} (hg : gOf ops.toArray (look T) o = some true) {fid : FuncId} {cargs : List AV} {res : AV} {args : List Operand} {tys : Array TypeId} (ho : o.op = .call ⟨.value (.func fid), args.toArray, tys⟩)
    (hx : evArgs (look T) args = some cargs) (hc : ACall P fid cargs [] res []) (hd : o.dst = some d) (hl : cargs.all (·.lt 0) = true) (hr : res.lt 0 = true) (h : RunD P nx ops (i + 1) rest ((d, res) :: T) H (cs ++ [⟨some d, [], gRd ops.toArray o ++ rdT o.op, [], []⟩]) K) : RunD P nx ops i (o :: rest) T H cs K :=
  RunD.callP hd hg hc ho hx hl hr h
end
end Go.Abs

/- The reference's Variable: function 101. -/
set_option linter.unusedVariables false
set_option linter.unusedSimpArgs false
namespace Go.Proofs.Ytfhgknmkpegpbaa
open Go.RowKit
set_option maxRecDepth 100000 in
set_option maxHeartbeats 4000000 in
theorem refVariable_calls (n : Int) (w : World) : Calls Try.prog 101 #[.int .i64 n] w (RetA w (vV n)) := by
  go_enter Try.func101, Try.ntmps101
  go_wp2
  refine bodyPost_ret (v := vV n) (by simp [results, Try.results101, go_sem, vV]) rfl (R := RetA w _) ⟨rfl, ?_⟩
  exact (Below.refl _ _).alloc (Nat.le_refl _) _
end Go.Proofs.Ytfhgknmkpegpbaa
