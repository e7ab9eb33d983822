/- The list of items with a tail: function 58. -/
import Derived.Test.YtfhgknmkpegpbaaCT49
import Derived.Test.YtfhgknmkpegpbaaCT48
import Derived.Test.YtfhgknmkpegpbaaM6
set_option linter.unusedVariables false
set_option linter.unusedSimpArgs false
namespace Go.Proofs.Ytfhgknmkpegpbaa
open Go.RowKit Go.Shelf
attribute [local go_sem] Oper.semAt_some

theorem cells_of_cell {w : World} {a : Addr} {v : Value} (h : w.cell? a = some v) : ∃ o : Obj, w.heap[a.block]? = some o ∧ o.isCells = true := by
  obtain ⟨b, o, s⟩ := a
  unfold World.cell? at h
  cases hh : w.heap[b]? with
  | none => rw [hh] at h; cases h
  | some o =>
    rw [hh] at h
    refine ⟨o, rfl, ?_⟩
    cases o <;> first | rfl | (cases s <;> simp at h)
/-- Where all blocks of cells stay. -/
theorem TmC.keptCells {P : Nat → Prop} {w w' : World} {A : Option Addr} {c : Nat} {l : List Tm} (h : TmC P w A c l) (hk : ∀ (g : Nat) (o : Obj), w.heap[g]? = some o → o.isCells = true → w'.heap[g]? = some o) : TmC P w' A c l := by
  induction h with
  | mk es he hl hc hn hP hr hs hrec ih =>
    refine .mk es he hl hc hn hP (fun hne => ?_) hs ih
    obtain ⟨g, off, hA, hcell⟩ := hr hne
    refine ⟨g, off, hA, fun j v hj => ?_⟩
    have h1 := hcell j v hj
    obtain ⟨o, h2, h3⟩ := cells_of_cell h1
    rw [cell_of_heap ((hk g o h2 h3).trans h2.symm)]; exact h1
theorem own_cells {B : Nat} {X Y : World} {row : Option Nat} (hg : X.grownBy Y row) (hr : ∀ r, row = some r → B ≤ r ∧ ∃ o : Obj, X.heap[r]? = some o ∧ o.isCells = false) : ∀ (g : Nat) (o : Obj), X.heap[g]? = some o → o.isCells = true → Y.heap[g]? = some o := fun g o h hc =>
  (hg.block g (Array.getElem?_eq_some_iff.1 h).1 (fun e => by
    obtain ⟨-, o', ho, hc'⟩ := hr g e.symm
    rw [h] at ho; injection ho with ho; subst ho; rw [hc] at hc'; cases hc')).trans h
theorem put_cells {X : World} {D : Nat} {o1 o' : Obj} (hD : X.heap[D]? = some o1) (h1 : o1.isCells = false) : ∀ (g : Nat) (o : Obj), X.heap[g]? = some o → o.isCells = true → (X.putObj D o').heap[g]? = some o := fun g o h hc =>
  (World.putObj_heap_other (fun e => by subst e; rw [h] at hD; injection hD with hD; subst hD; rw [hc] at h1; cases h1)).trans h

theorem Blk.new' {W : World} {g : Nat} {t : TypeId} {cs : Array Value} (h : g = W.heap.size) : Blk (W.alloc (.cells cs t)) g t cs := by rw [h]; exact Blk.new _ _ _
/-- The list of items with a tail. -/
def listT (l : List Tm) (tail : Tm) : Tm := l.foldr (fun x t => .mk 5 0 ⟨#[46]⟩ [x, t]) tail
theorem listT_depth (tail : Tm) : ∀ l : List Tm, l.length + tail.depth ≤ (listT l tail).depth
  | [] => by simp [listT]
  | x :: l => by
    have := listT_depth tail l
    show (x :: l).length + tail.depth ≤ (Tm.mk 5 0 ⟨#[46]⟩ [x, listT l tail]).depth
    rw [Tm.depth_eq (Tm.mk 5 0 ⟨#[46]⟩ [x, listT l tail])]
    simp only [Tm.l, Tm.depths, List.length_cons]
    omega
theorem foldl_listT (l : List Tm) (tail : Tm) : l.reverse.foldl (fun t x => Tm.mk 5 0 ⟨#[46]⟩ [x, t]) tail = listT l tail := by rw [List.foldl_reverse]; rfl
def lstOk (l : List Tm) (tail : Tm) : Bool := allB l && isB tail
def listR (l : List Tm) (tail : Tm) : Option Tm := if lstOk l tail = true ∧ isB (listT l tail) = true then some (listT l tail) else none
/-- What stands behind List's last step. -/
def LEnd (w : World) (r : Option Tm) (er : Int) (W : World) : Prop :=
  ∃ A c, Blk W (w.heap.size + 1) 25 #[.int .i64 (r.getD Tm.zero).k, .int .i64 (r.getD Tm.zero).n, .string (r.getD Tm.zero).s, .slice A (r.getD Tm.zero).l.length c] ∧ (r.getD Tm.zero).s.size ≤ 9223372036854775807 ∧ TmC (w.heap.size ≤ ·) W A c (r.getD Tm.zero).l ∧ Below w.heap.size w W
theorem LEnd.put {w W : World} {r : Option Tm} {er : Int} {D : Nat} (h : LEnd w r er W) (hD : w.heap.size + 2 ≤ D) (hk : W.heap[D]? = some (.deferred (some []))) : LEnd w r er (W.putObj D (.deferred none)) := by
  obtain ⟨A, c, h1, h2, h3, h4⟩ := h
  exact ⟨A, c, put_cells hk rfl _ _ h1 rfl, h2, h3.keptCells (put_cells hk rfl), h4.trans (Below.putObj_ (Nat.le_refl _) _ _ (.deferred none) _ (by omega))⟩
theorem LEnd.res {w W : World} {r : Option Tm} {er : Int} (h : LEnd w r er W) {fn : Func} (hf : fn.results = #[.cell 4 25, .tmp 5]) {tmps : Array Value} (h4 : tmps.getD 4 undef = .pointer (some ⟨w.heap.size + 1, 0, none⟩)) (h5 : tmps.getD 5 undef = .int .i64 (if r.isSome then 0 else er)) : ∃ v, (results fn tmps).run Try.prog W = .ok v W ∧ RetME w r er (.returned v) W := by
  obtain ⟨A, c, h1, h2, h3, h6⟩ := h
  obtain ⟨⟨b0, b1, b2, b3⟩, -⟩ := h1.four
  have h4' : tmps[4]?.getD undef = .pointer (some ⟨w.heap.size + 1, 0, none⟩) := by simpa using h4
  have h5' : tmps[5]?.getD undef = .int .i64 (if r.isSome then 0 else er) := by simpa using h5
  exact ⟨.tuple #[.agg #[.int .i64 (r.getD Tm.zero).k, .int .i64 (r.getD Tm.zero).n, .string (r.getD Tm.zero).s, .slice A (r.getD Tm.zero).l.length c], .int .i64 (if r.isSome then 0 else er)], by simp [results, hf, go_sem, h4', h5', b0, b1, b2, b3], A, c, rfl, h2, h3, h6⟩

set_option maxRecDepth 100000 in
set_option maxHeartbeats 4000000 in
theorem list_calls (l : List Tm) (t : Tm) (P Q : Nat → Prop) (w : World) (v : Value) (A : Option Addr) (c : Nat) (hl : TmC P w A c l) (hv : TmV Q w v t) : Calls Try.prog 58 #[.slice A l.length c, v] w (RetME w (listR l t) (if lstOk l t = true then 2 else 3)) := by
  refine (callsIn_wide (n := 5)).1 ?_
  obtain ⟨B, d, rfl, hs, ht⟩ := hv
  obtain ⟨W0, hW0⟩ : ∃ W0, W0 = (w.alloc (.cells #[.int .i64 t.k, .int .i64 t.n, .string t.s, .slice B t.l.length d] 25)).alloc (.cells #[.int .i64 0, .int .i64 0, .string ⟨#[]⟩, .slice none 0 0] 25) := ⟨_, rfl⟩
  have hB0 : Below w.heap.size w W0 := by rw [hW0]; exact ((Below.refl _ _).alloc (Nat.le_refl _) _).alloc (by simp) _
  have HX0 := Lib.hid (show Blk W0 w.heap.size 25 #[.int .i64 t.k, .int .i64 t.n, .string t.s, .slice B t.l.length d] from by rw [hW0]; exact (Blk.new w 25 _).alloc _)
  have HY0 := Lib.hid (show Blk W0 (w.heap.size + 1) 25 #[.int .i64 0, .int .i64 0, .string ⟨#[]⟩, .slice none 0 0] from by
    rw [hW0]
    have := Blk.new (w.alloc (.cells #[.int .i64 t.k, .int .i64 t.n, .string t.s, .slice B t.l.length d] 25)) 25 #[.int .i64 0, .int .i64 0, .string ⟨#[]⟩, .slice none 0 0]
    rwa [World.size_alloc] at this)
  have hlc := hl.len.1
  have hlm := hl.len.2.1
  have Hl := Lib.hid (hl.inside.mono (Q := (· < w.heap.size)) (fun g h => h.2))
  have Hl0 := Lib.hid (Hl.out.stay hB0 (Nat.le_refl _))
  have Ht0 := Lib.hid ((ht.inside.mono (Q := (· < w.heap.size)) (fun g h => h.2)).stay hB0 (Nat.le_refl _))
  clear hl ht
  obtain ⟨R, hR⟩ : ∃ R, R = listR l t := ⟨_, rfl⟩
  obtain ⟨ok, hok⟩ : ∃ ok, ok = lstOk l t := ⟨_, rfl⟩
  rw [← hR, ← hok]
  obtain ⟨er, her⟩ : ∃ er : Int, er = if ok = true then 2 else 3 := ⟨_, rfl⟩
  rw [← her]
  unfold listR at hR
  rw [← hok] at hR
  unfold lstOk at hok
  obtain ⟨a, ha⟩ : ∃ a, a = allB l := ⟨_, rfl⟩
  obtain ⟨b, hb⟩ : ∃ b, b = isB t := ⟨_, rfl⟩
  have hcall := (callsIn_wide (n := 4)).2 (checkAll_calls l _ A c W0 Hl0.out)
  rw [← ha] at hcall hok
  have hcall2 : ∀ W, Below W0.heap.size W0 W → CallsIn Fence.wide 4 Try.prog 22 #[.agg #[.int .i64 t.k, .int .i64 t.n, .string t.s, .slice B t.l.length d]] W (RetN W (errT b)) := fun W hb' => by
    rw [hb]; exact (callsIn_wide (n := 4)).2 (check_calls t _ W _ ⟨B, d, rfl, hs, Ht0.out.stay hb' (Nat.le_refl _)⟩)
  rw [← hb] at hok
  have HR := Lib.hid hR; have Hok := Lib.hid hok; have Her := Lib.hid her; have Hb := Lib.hid hb; have Ha := Lib.hid ha
  have Hcall := Lib.hid hcall; have Hcall2 := Lib.hid hcall2
  clear hcall hcall2 hR hok her hb ha
  have HB0 := Lib.hid hB0; clear hB0
  have HW := Lib.hid hW0; clear hW0
  refine callsIn_of_wp_marks Try.func58 rfl trivial ?_ rfl
  simp only [Try.ntmps58, List.size_toArray, List.length_cons, List.length_nil, Nat.reduceAdd, Nat.reduceSub, Array.replicate_succ, Array.replicate_zero, List.push_toArray, List.append_toArray, List.nil_append, List.cons_append]
  gi_wp2_with fail
  rw [← HW.out]
  refine ⟨trivial, ?_⟩
  refine Hcall.out.mono ?_
  rintro e w1 ⟨rfl, hb1⟩
  have HX1 := Lib.hid (HX0.out.below hb1 HX0.out.lt)
  have HY1 := Lib.hid (HY0.out.below hb1 HY0.out.lt)
  have HB1 := Lib.hid (HB0.out.trans (hb1.mono HB0.out.size))
  have Ht1 := Lib.hid (Ht0.out.stay hb1 (Nat.le_refl _))
  have HC2 := Lib.hid (Hcall2.out w1 hb1)
  clear hb1 Hcall Hcall2 HX0 HY0 HB0 Ht0 Hl0
  cases a
  case false =>
    have he : errT false = 3 := rfl
    have hok : ok = false := by rw [Hok.out]; rfl
    have hrr : R = none := by rw [HR.out, hok, if_neg (by simp)]
    have her : er = 3 := by rw [Her.out, hok]; rfl
    subst hrr
    subst her
    have hE : LEnd w none 3 ((((w1.setCell ⟨w.heap.size + 1, 0, none⟩ (.int .i64 0)).setCell ⟨w.heap.size + 1, 1, none⟩ (.int .i64 0)).setCell ⟨w.heap.size + 1, 2, none⟩ (.string ⟨#[]⟩)).setCell ⟨w.heap.size + 1, 3, none⟩ (.slice none 0 0)) :=
      ⟨none, 0, set4_at w1 (w.heap.size + 1) _ 25 HY1.out rfl _ _ _ _, by show (0 : Nat) ≤ _; omega, TmC.nil _ _ (by omega) (fun _ => rfl), ((((HB1.out.setCell (p := ⟨w.heap.size + 1, 0, none⟩) (by simp) _).setCell (p := ⟨w.heap.size + 1, 1, none⟩) (by simp) _).setCell (p := ⟨w.heap.size + 1, 2, none⟩) (by simp) _).setCell (p := ⟨w.heap.size + 1, 3, none⟩) (by simp) _)⟩
    have HE := Lib.hid hE; clear hE
    have ly := HY1.out.lt
    obtain ⟨⟨d0, d1, d2, d3⟩, ⟨g0, g1, g2, g3⟩⟩ := HY1.out.four
    clear Hok HR Her
    rw [he]
    gi_wp2
    refine leaves_marks (N := w.heap.size + 2) (fun W' => LEnd w none 3 W') (fun W5 D5 h1 hD5 hk5 => h1.put hD5 hk5) (fun W5 h1 => h1.res rfl rfl rfl) [] _ trivial HE.out
  have he : errT true = 0 := rfl
  obtain ⟨⟨a0, a1, a2, a3⟩, -⟩ := HX1.out.four
  have lx := HX1.out.lt
  rw [he]
  gi_wp2_with fail
  refine ⟨trivial, ?_⟩
  refine HC2.out.mono ?_
  rintro e w2 ⟨rfl, hb2⟩
  have HX2 := Lib.hid (HX1.out.below hb2 HX1.out.lt)
  have HY2 := Lib.hid (HY1.out.below hb2 HY1.out.lt)
  have HB2 := Lib.hid (HB1.out.trans (hb2.mono HB1.out.size))
  have Ht2 := Lib.hid (Ht1.out.stay hb2 (Nat.le_refl _))
  clear hb2 HC2 HX1 HY1 HB1 Ht1 a0 a1 a2 a3 lx
  have ly := HY2.out.lt
  cases b
  case false =>
    have he : errT false = 3 := rfl
    have hok : ok = false := by rw [Hok.out]; rfl
    have hrr : R = none := by rw [HR.out, hok, if_neg (by simp)]
    have her : er = 3 := by rw [Her.out, hok]; rfl
    subst hrr
    subst her
    have hE : LEnd w none 3 ((((w2.setCell ⟨w.heap.size + 1, 0, none⟩ (.int .i64 0)).setCell ⟨w.heap.size + 1, 1, none⟩ (.int .i64 0)).setCell ⟨w.heap.size + 1, 2, none⟩ (.string ⟨#[]⟩)).setCell ⟨w.heap.size + 1, 3, none⟩ (.slice none 0 0)) :=
      ⟨none, 0, set4_at w2 (w.heap.size + 1) _ 25 HY2.out rfl _ _ _ _, by show (0 : Nat) ≤ _; omega, TmC.nil _ _ (by omega) (fun _ => rfl), ((((HB2.out.setCell (p := ⟨w.heap.size + 1, 0, none⟩) (by simp) _).setCell (p := ⟨w.heap.size + 1, 1, none⟩) (by simp) _).setCell (p := ⟨w.heap.size + 1, 2, none⟩) (by simp) _).setCell (p := ⟨w.heap.size + 1, 3, none⟩) (by simp) _)⟩
    have HE := Lib.hid hE; clear hE
    obtain ⟨⟨d0, d1, d2, d3⟩, ⟨g0, g1, g2, g3⟩⟩ := HY2.out.four
    clear Hok HR Her
    rw [he]
    gi_wp2
    refine leaves_marks (N := w.heap.size + 2) (fun W' => LEnd w none 3 W') (fun W5 D5 h1 hD5 hk5 => h1.put hD5 hk5) (fun W5 h1 => h1.res rfl rfl rfl) [] _ trivial HE.out
  have hok : ok = true := by rw [Hok.out]; rfl
  have her : er = 2 := by rw [Her.out, hok]; rfl
  have hrr : R = if isB (listT l t) = true then some (listT l t) else none := by rw [HR.out, hok]; simp
  subst her
  have HR2 := Lib.hid hrr
  clear hrr hok HR Hok Her
  rw [he]
  by_cases hbig : l.length ≤ 600
  case neg =>
    have hrr : R = none := by
      rw [HR2.out, if_neg (fun h => ?_)]
      have h1 := (isB_iff.1 h).2.2
      have h2 := listT_depth t l
      omega
    subst hrr
    have hE : LEnd w none 2 ((((w2.setCell ⟨w.heap.size + 1, 0, none⟩ (.int .i64 0)).setCell ⟨w.heap.size + 1, 1, none⟩ (.int .i64 0)).setCell ⟨w.heap.size + 1, 2, none⟩ (.string ⟨#[]⟩)).setCell ⟨w.heap.size + 1, 3, none⟩ (.slice none 0 0)) :=
      ⟨none, 0, set4_at w2 (w.heap.size + 1) _ 25 HY2.out rfl _ _ _ _, by show (0 : Nat) ≤ _; omega, TmC.nil _ _ (by omega) (fun _ => rfl), ((((HB2.out.setCell (p := ⟨w.heap.size + 1, 0, none⟩) (by simp) _).setCell (p := ⟨w.heap.size + 1, 1, none⟩) (by simp) _).setCell (p := ⟨w.heap.size + 1, 2, none⟩) (by simp) _).setCell (p := ⟨w.heap.size + 1, 3, none⟩) (by simp) _)⟩
    have HE := Lib.hid hE; clear hE
    obtain ⟨⟨d0, d1, d2, d3⟩, ⟨g0, g1, g2, g3⟩⟩ := HY2.out.four
    have dl : decide ((600 : Int) < (l.length : Int)) = true := decide_eq_true (by omega)
    have dl2 : decide (600 < l.length) = true := decide_eq_true (by omega)
    clear HR2
    gi_wp2
    refine leaves_marks (N := w.heap.size + 2) (fun W' => LEnd w none 2 W') (fun W5 D5 h1 hD5 hk5 => h1.put hD5 hk5) (fun W5 h1 => h1.res rfl rfl rfl) [] _ trivial HE.out
  have dl : decide ((600 : Int) < (l.length : Int)) = false := decide_eq_false (by omega)
  have dl2 : decide (600 < l.length) = false := decide_eq_false (by omega)
  gi_wp2_with fail
  refine ⟨trivial, ?_⟩
  refine (back_in Fence.wide _ trivial rfl A l.length c w2).mono ?_
  rintro e w3 ⟨rfl, rfl⟩
  gi_wp2_with fail
  obtain ⟨W3, hW3⟩ : ∃ W3, W3 = w2.alloc (.cells #[.slice A l.length c] 22) := ⟨_, rfl⟩
  rw [← hW3]
  have hb3 : Below w2.heap.size w2 W3 := by rw [hW3]; exact (Below.refl _ _).alloc (Nat.le_refl _) _
  have hBt : Blk W3 w2.heap.size 22 #[.slice A l.length c] := by rw [hW3]; exact Blk.new _ _ _
  have HX3 := Lib.hid (HX2.out.below hb3 HX2.out.lt)
  have HY3 := Lib.hid (HY2.out.below hb3 HY2.out.lt)
  have HB3 := Lib.hid (HB2.out.trans (hb3.mono HB2.out.size))
  have Ht3 := Lib.hid (Ht2.out.stay hb3 (Nat.le_refl _))
  have hsz3 : w.heap.size + 2 ≤ W3.heap.size := by have := hb3.size; omega
  have hseq := back_stops Fence.wide rfl (5 - 1) trivial rfl w2.heap.size w.heap.size c A w l W3 (by omega) Hl.out HB3.out hBt
  clear hW3 hb3 hBt HX2 HY2 HB2 Ht2
  obtain ⟨I, hIdef⟩ : ∃ I : List (EBk w.heap.size w) → World → Prop, I = fun ys W => ∃ (u : Tm) (Au : Option Addr) (cu : Nat), u = (ys.map EBk.tm).foldl (fun t x => Tm.mk 5 0 ⟨#[46]⟩ [x, t]) t ∧ Blk W w.heap.size 25 #[.int .i64 u.k, .int .i64 u.n, .string u.s, .slice Au u.l.length cu] ∧ u.s.size ≤ 9223372036854775807 ∧ TmC (· ≠ w.heap.size) W Au cu u.l ∧
      Blk W (w.heap.size + 1) 25 #[.int .i64 0, .int .i64 0, .string ⟨#[]⟩, .slice none 0 0] ∧ Below w.heap.size w W ∧ W3.heap.size ≤ W.heap.size := ⟨_, rfl⟩
  have hIown : OwnFrom W3.heap.size I := by
    intro ys X Y row h hg hr
    rw [hIdef] at h ⊢
    obtain ⟨u, Au, cu, h1, h2, h3, h4, h5, h6, h7⟩ := h
    have hk := own_cells hg hr
    exact ⟨u, Au, cu, h1, hk _ _ h2 rfl, h3, h4.keptCells hk, hk _ _ h5 rfl, h6.grown hg h6.size (fun r e => by have := (hr r e).1; omega), Nat.le_trans h7 hg.size⟩
  have hI0 : I [] W3 := by rw [hIdef]; exact ⟨t, B, d, rfl, HX3.out, hs, Ht3.out.mono (fun g hg => by have : g < w.heap.size := hg; omega), HY3.out, HB3.out, Nat.le_refl _⟩
  have HIdef := Lib.hid hIdef; clear hIdef
  refine wpIn_rangeFunc_ownH rfl (by decide) (gf := 136) (lb := #[.pointer (some ⟨w2.heap.size, 0, none⟩)]) rfl trivial (enters_of Try.func136 (by kernel_rfl) rfl) hseq KpL.trans (fun W l o o' h1 h2 h3 h4 => kpL_b (B := W3.heap.size) (by omega) W l o o' h1 h2 h3 h4) (Below.refl _ _) (fun _ => rfl)
    I (fun _ _ _ => False) hIown (fun _ _ _ _ _ hs _ _ => hs) hI0
    (fun y a' W => ∃ Bx, W3.heap.size ≤ Bx ∧ Blk W Bx 25 #[.int .i64 y.1.2.1.k, .int .i64 y.1.2.1.n, .string y.1.2.1.s, .slice y.1.2.2.1 y.1.2.1.l.length y.1.2.2.2] ∧ a' = { tmps := #[.slice A l.length c, .agg #[.int .i64 t.k, .int .i64 t.n, .string t.s, .slice B t.l.length d], undef, .pointer (some ⟨w.heap.size, 0, none⟩), .pointer (some ⟨w.heap.size + 1, 0, none⟩), .int .i64 0, .int .i64 0, .int .i64 0, undef, .pointer (some ⟨Bx, 0, none⟩), .slice A l.length c, .int .i64 0, .int .i64 0, .bool false, undef, undef, .agg #[.int .i64 t.k, .int .i64 t.n, .string t.s, .slice B t.l.length d], .int .i64 0, .int .i64 0, .bool false, undef, undef, .slice A l.length c, .int .i64 l.length, .bool false, undef, .slice A l.length c, .func (.func 136) #[] #[.pointer (some ⟨w2.heap.size, 0, none⟩)], .int .i64 y.1.1, .agg #[.int .i64 y.1.2.1.k, .int .i64 y.1.2.1.n, .string y.1.2.1.s, .slice y.1.2.2.1 y.1.2.1.l.length y.1.2.2.2], undef, undef, undef, undef, undef, undef, undef, undef], defers := [] })
    (fun y a' _ X Y row hs hg hr => by
      obtain ⟨Bx, h1, h2, h3⟩ := hs
      exact ⟨Bx, h1, own_cells hg hr _ _ h2 rfl, h3⟩)
    ?assign ?body ?done ?stop
  case assign =>
    rintro l2 pre y W K hI hK
    simp only [EBk.encs]
    have hsW : W3.heap.size ≤ W.heap.size := by have h := hI; rw [HIdef.out] at h; obtain ⟨u, Au, cu, h1, h2, h3, h4, h5, h6, h7⟩ := h; exact h7
    gi_wp2
    exact hK _ _ ((KeepsOthers.alloc _ _).from _) ⟨(Below.refl _ _).alloc (by omega) _, fun g v hb => hb.alloc _⟩ (hIown.alloc _ hI) ⟨W.heap.size, hsW, Blk.new _ _ _, rfl⟩
  case body =>
    rintro l2 pre y a' W hl2 ⟨r, hr⟩ hI ⟨Bx, hBx, hbx, rfl⟩ hlt
    rw [HIdef.out] at hI
    obtain ⟨u, Au, cu, hu, hux, hus, huc, huy, huB, huS⟩ := hI
    obtain ⟨⟨x0, x1, x2, x3⟩, -⟩ := hbx.four
    obtain ⟨⟨y0, y1, y2, y3⟩, ⟨z0, z1, z2, z3⟩⟩ := hux.four
    have hlx := hux.lt
    have hlbx := hbx.lt
    have HU := Lib.hid hu; clear hu
    have Huc := Lib.hid huc; clear huc
    obtain ⟨W5, hW5⟩ : ∃ W5, W5 = (((W.setCell ⟨w.heap.size, 0, none⟩ (.int .i64 5)).setCell ⟨w.heap.size, 1, none⟩ (.int .i64 0)).setCell ⟨w.heap.size, 2, none⟩ (.string ⟨#[46]⟩)).setCell ⟨w.heap.size, 3, none⟩ (.slice (some ⟨W.heap.size, 0, none⟩) 2 2) := ⟨_, rfl⟩
    have hs5 : W.heap.size = W5.heap.size := by rw [hW5]; simp
    have hbut : But w.heap.size W W5 := by rw [hW5]; exact ((((But.refl _ _).setCell 0 _).setCell 1 _).setCell 2 _).setCell 3 _
    have hx5 : Blk W5 w.heap.size 25 #[.int .i64 5, .int .i64 0, .string ⟨#[46]⟩, .slice (some ⟨W.heap.size, 0, none⟩) 2 2] := by rw [hW5]; exact set4_at W w.heap.size _ 25 hux rfl _ _ _ _
    have hk5 : KeepsOthers W W5 := by rw [hW5]; exact ((((KeepsOthers.setCell _ _ _).trans (KeepsOthers.setCell _ _ _)).trans (KeepsOthers.setCell _ _ _)).trans (KeepsOthers.setCell _ _ _))
    obtain ⟨W4, hW4⟩ : ∃ W4, W4 = W5.alloc (.cells #[.int .i64 y.1.2.1.k, .int .i64 y.1.2.1.n, .string y.1.2.1.s, .slice y.1.2.2.1 y.1.2.1.l.length y.1.2.2.2, .int .i64 u.k, .int .i64 u.n, .string u.s, .slice Au u.l.length cu] 25) := ⟨_, rfl⟩
    have HW4 := Lib.hid hW4; have HW5 := Lib.hid hW5
    have hb4 : Below W5.heap.size W5 W4 := by rw [hW4]; exact (Below.refl _ _).alloc (Nat.le_refl _) _
    have hB5 : Below w.heap.size W W5 := hbut.below (Nat.le_refl _) (by have := huB.size; omega)
    have hT4 : TmC (· ≠ w.heap.size) W4 (some ⟨W.heap.size, 0, none⟩) 2 [y.1.2.1, u] := by
      rw [hW4]
      refine TmC.lit [(y.1.2.1, y.1.2.2.1, y.1.2.2.2), (u, Au, cu)] (fun e he => ?_) (Blk.new' hs5) (by omega) (by simp)
      simp only [List.mem_cons, List.not_mem_nil, or_false] at he
      rcases he with rfl | rfl
      · exact ⟨y.2.1, (((y.2.2.belowP (huB.trans hB5) (fun g hg => hg)).mono (fun g hg => by have : g < w.heap.size := hg; omega)).stay ((Below.refl _ _).alloc (Nat.le_refl _) _) (Nat.le_refl _))⟩
      · exact ⟨hus, (Huc.out.but hbut (fun g hg => hg)).stay ((Below.refl _ _).alloc (Nat.le_refl _) _) (Nat.le_refl _)⟩
    have hx4 := hx5.below hb4 hx5.lt
    have hy5 : Blk W5 (w.heap.size + 1) 25 #[.int .i64 0, .int .i64 0, .string ⟨#[]⟩, .slice none 0 0] := (hbut.block _ huy.lt (by omega)).trans huy
    have hy4 := hy5.below hb4 hy5.lt
    have HT4 := Lib.hid hT4; have HX4 := Lib.hid hx4; have HY4 := Lib.hid hy4; have Hb4 := Lib.hid hb4
    have HuB := Lib.hid (huB.trans (hB5.trans (hb4.mono (by have := huB.size; omega))))
    have HB45 := Lib.hid (hB5.trans (hb4.mono (by have := huB.size; omega)))
    have Hk5 := Lib.hid hk5
    have Hbut := Lib.hid hbut
    have Hu25 := Lib.hid hux
    have HS := Lib.hid (show W3.heap.size ≤ W4.heap.size from by have := hb4.size; omega)
    clear hT4 hx4 hy4 hb4 huB hux huy hW4 hW5 hx5 hy5 hB5 hk5 hbut hs5
    gi_wp2
    rw [← HW5.out, ← HW4.out]
    refine ⟨?_, ⟨HB45.out, ?_⟩, ?_⟩
    · rw [HW4.out]
      exact (Hk5.out.trans (KeepsOthers.alloc _ _)).from _
    · intro g v hb
      have hne : g ≠ w.heap.size := fun e => by subst e; exact absurd rfl (Blk.ne_ hb Hu25.out (by decide))
      have hbb : Blk W5 g 22 #[v] := (Hbut.out.block g hb.lt hne).trans hb
      exact hbb.below Hb4.out hbb.lt
    · rw [HIdef.out]
      exact ⟨.mk 5 0 ⟨#[46]⟩ [y.1.2.1, u], some ⟨W.heap.size, 0, none⟩, 2, by rw [List.map_append, List.foldl_append, ← HU.out]; rfl, HX4.out, by show (1 : Nat) ≤ _; omega, HT4.out, HY4.out, HuB.out, HS.out⟩
  case done =>
    rintro D ys W hD hys hI hDk
    rw [HIdef.out] at hI
    obtain ⟨u, Au, cu, hu, hux, hus, huc, huy, huB, huS⟩ := hI
    rw [hys, foldl_listT] at hu
    rw [← hu] at HR2
    have hcall := (callsIn_wide (n := 4)).2 (limited_calls u _ W _ ⟨Au, cu, rfl, hus, huc⟩)
    rw [← HR2.out] at hcall
    have Hcall := Lib.hid hcall; clear hcall
    obtain ⟨⟨y0, y1, y2, y3⟩, ⟨z0, z1, z2, z3⟩⟩ := hux.four
    have hlx := hux.lt
    have Huy := Lib.hid huy; have HuB := Lib.hid huB
    clear huc huy huB hux hu hys
    gi_wp2_with fail
    refine ⟨trivial, ?_⟩
    refine Hcall.out.mono ?_
    rintro e w5 ⟨A5, c5, rfl, hs5, hc5, hb5⟩
    have hY5 := Huy.out.below hb5 Huy.out.lt
    have hB5 := HuB.out.trans (hb5.mono HuB.out.size)
    have hDl : D < W.heap.size := (Array.getElem?_eq_some_iff.1 hDk).1
    have hD5 : w5.heap[D]? = some (.deferred (some [])) := (hb5.block D hDl).trans hDk
    have hl5 := hY5.lt
    obtain ⟨⟨k0, k1, k2, k3⟩, ⟨m0, m1, m2, m3⟩⟩ := hY5.four
    obtain ⟨rt, hrt⟩ : ∃ rt, rt = R.getD Tm.zero := ⟨_, rfl⟩
    have hE : LEnd w R 2 ((((w5.setCell ⟨w.heap.size + 1, 0, none⟩ (.int .i64 rt.k)).setCell ⟨w.heap.size + 1, 1, none⟩ (.int .i64 rt.n)).setCell ⟨w.heap.size + 1, 2, none⟩ (.string rt.s)).setCell ⟨w.heap.size + 1, 3, none⟩ (.slice A5 rt.l.length c5)) := by
      unfold LEnd
      rw [← hrt] at hs5 hc5 ⊢
      exact ⟨A5, c5, set4_at w5 (w.heap.size + 1) _ 25 hY5 rfl _ _ _ _, hs5, (hc5.but (((((But.refl (w.heap.size + 1) w5).setCell 0 _).setCell 1 _).setCell 2 _).setCell 3 _) (fun g hg => by omega)).mono (fun g hg => by omega),
        ((((hB5.setCell (p := ⟨w.heap.size + 1, 0, none⟩) (by simp) _).setCell (p := ⟨w.heap.size + 1, 1, none⟩) (by simp) _).setCell (p := ⟨w.heap.size + 1, 2, none⟩) (by simp) _).setCell (p := ⟨w.heap.size + 1, 3, none⟩) (by simp) _)⟩
    have hD6 : (((((w5.setCell ⟨w.heap.size + 1, 0, none⟩ (.int .i64 rt.k)).setCell ⟨w.heap.size + 1, 1, none⟩ (.int .i64 rt.n)).setCell ⟨w.heap.size + 1, 2, none⟩ (.string rt.s)).setCell ⟨w.heap.size + 1, 3, none⟩ (.slice A5 rt.l.length c5))).heap[D]? = some (.deferred (some [])) :=
      ((((((But.refl (w.heap.size + 1) w5).setCell 0 (.int .i64 rt.k)).setCell 1 (.int .i64 rt.n)).setCell 2 (.string rt.s)).setCell 3 (.slice A5 rt.l.length c5)).block D (Array.getElem?_eq_some_iff.1 hD5).1 (by omega)).trans hD5
    have HE := Lib.hid hE; have HD6 := Lib.hid hD6
    obtain ⟨q, hq⟩ : ∃ q : Int, q = if R.isSome then 0 else 2 := ⟨_, rfl⟩
    rw [← hrt, ← hq]
    have Hq := Lib.hid hq
    clear hE hD6 hD5 hY5 hB5 hc5 hs5 hq hb5 hrt
    gi_wp2
    refine leaves_marks (N := w.heap.size + 2) (fun W' => LEnd w R 2 W') (fun W5 D5 h1 hD5 hk5 => h1.put hD5 hk5) (fun W5 h1 => h1.res rfl rfl (by rw [← Hq.out]; rfl)) [{ target := .collected D, args := #[] }] _ ⟨⟨D, rfl, by omega, HD6.out, fun e he => by simp at he⟩, trivial⟩ HE.out
  case stop =>
    rintro D c2 pre W' _ _ h _
    exact h.elim
end Go.Proofs.Ytfhgknmkpegpbaa
