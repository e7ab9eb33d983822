/- The items of a list and its tail: function 60. -/
import Derived.Test.YtfhgknmkpegpbaaCT47
set_option linter.unusedVariables false
set_option linter.unusedSimpArgs false
namespace Go.Proofs.Ytfhgknmkpegpbaa
open Go.RowKit

theorem cellB_iff {t : Tm} : cellB t = true ↔ t.k = 5 ∧ t.s.toList = [46] ∧ t.l.length = 2 := by
  simp only [cellB, Bool.and_eq_true, decide_eq_true_eq, and_assoc]
/-- Items and tail, up to a number of cells. -/
def Tm.itemsN : Nat → Tm → List Tm × Tm
  | 0, t => ([], t)
  | n + 1, t => if cellB t = true then (t.l.head?.getD Tm.zero :: (Tm.itemsN n ((t.l[1]?).getD Tm.zero)).1, (Tm.itemsN n ((t.l[1]?).getD Tm.zero)).2) else ([], t)
def Tm.items (t : Tm) : List Tm × Tm := Tm.itemsN t.size t
theorem itemsN_more : ∀ (n m : Nat) (t : Tm), t.size ≤ n → t.size ≤ m → Tm.itemsN n t = Tm.itemsN m t
  | 0, m, t, h, _ => by have := t.size_pos; omega
  | n + 1, 0, t, _, h => by have := t.size_pos; omega
  | n + 1, m + 1, t, h1, h2 => by
    rw [Tm.itemsN, Tm.itemsN]
    by_cases hc : cellB t = true
    · rw [if_pos hc, if_pos hc]
      obtain ⟨h3, h4, h5⟩ := cellB_iff.1 hc
      have hx : ∃ y, t.l[1]? = some y := ⟨_, List.getElem?_eq_getElem (by omega)⟩
      obtain ⟨y, hy⟩ := hx
      have hz := Tm.size_child (List.mem_of_getElem? hy)
      rw [hy, Option.getD_some, itemsN_more n m y (by omega) (by omega)]
    · rw [if_neg hc, if_neg hc]
theorem items_cell {t x y : Tm} (hc : cellB t = true) (hx : t.l[0]? = some x) (hy : t.l[1]? = some y) : t.items = (x :: y.items.1, y.items.2) := by
  unfold Tm.items
  have hz := Tm.size_child (List.mem_of_getElem? hy)
  have hp := t.size_pos
  obtain ⟨n, hn⟩ : ∃ n, t.size = n + 1 := ⟨t.size - 1, by omega⟩
  rw [hn, Tm.itemsN, if_pos hc, List.head?_eq_getElem?, hx, hy, Option.getD_some, Option.getD_some, itemsN_more n y.size y (by omega) (Nat.le_refl _)]
theorem items_stop {t : Tm} (hc : cellB t = false) : t.items = ([], t) := by
  unfold Tm.items
  have hp := t.size_pos
  obtain ⟨n, hn⟩ : ∃ n, t.size = n + 1 := ⟨t.size - 1, by omega⟩
  rw [hn, Tm.itemsN, if_neg (by rw [hc]; simp)]
/-- What Items gives. -/
def RetIt (w : World) (r : List Tm × Tm) (er : Int) (e : Ending) (w' : World) : Prop :=
  ∃ A c B d, e = .returned (.tuple #[.slice A r.1.length c, .agg #[.int .i64 r.2.k, .int .i64 r.2.n, .string r.2.s, .slice B r.2.l.length d], .int .i64 er]) ∧ TmC (w.heap.size ≤ ·) w' A c r.1 ∧ r.2.s.size ≤ 9223372036854775807 ∧ TmC (w.heap.size ≤ ·) w' B d r.2.l ∧ Below w.heap.size w w'
def lenOf : Value → Nat | .slice _ n _ => n | _ => 0
def itR (t : Tm) : List Tm × Tm := if isB t = true then t.items else ([], Tm.zero)
theorem set4_at (W : World) (g : Nat) (cs : Array Value) (T : TypeId) (h : Blk W g T cs) (hc : cs.size = 4) (a b c d : Value) : Blk ((((W.setCell ⟨g, 0, none⟩ a).setCell ⟨g, 1, none⟩ b).setCell ⟨g, 2, none⟩ c).setCell ⟨g, 3, none⟩ d) g T #[a, b, c, d] := by
  have h1 := (((h.set_ 0 a).set_ 1 b).set_ 2 c).set_ 3 d
  obtain ⟨l⟩ := cs
  match l, hc with
  | [_, _, _, _], _ => exact h1

theorem cell_grown_of {w w' : World} {row : Option Nat} {g o : Nat} {v : Value} (hg : w.grownBy w' row) (hn : row ≠ some g) (h : w.cell? ⟨g, o, none⟩ = some v) : w'.cell? ⟨g, o, none⟩ = some v := by
  have hlt := World.block_lt_of_cell? w _ h
  rw [World.cell?_of_block (hg.block g hlt (fun e => hn e.symm))]
  exact h

set_option maxRecDepth 100000 in
set_option maxHeartbeats 4000000 in
theorem items_calls (t : Tm) (P : Nat → Prop) (w : World) (v : Value) (hv : TmV P w v t) : Calls Try.prog 60 #[v] w (RetIt w (itR t) (errT (isB t))) := by
  obtain ⟨A, c, rfl, hs, hc⟩ := hv
  obtain ⟨i0, hi0⟩ := info25
  have Hi := Lib.hid hi0; clear hi0
  obtain ⟨W0, hW0⟩ : ∃ W0, W0 = (w.alloc (.cells #[.int .i64 t.k, .int .i64 t.n, .string t.s, .slice A t.l.length c] 25)).alloc (.cells #[.int .i64 0, .int .i64 0, .string ⟨#[]⟩, .slice none 0 0] 25) := ⟨_, rfl⟩
  have hB0 : Below w.heap.size w W0 := by rw [hW0]; exact ((Below.refl _ _).alloc (Nat.le_refl _) _).alloc (by simp) _
  have hX0 : Blk W0 w.heap.size 25 #[.int .i64 t.k, .int .i64 t.n, .string t.s, .slice A t.l.length c] := by rw [hW0]; exact (Blk.new w 25 _).alloc _
  have hY0 : Blk W0 (w.heap.size + 1) 25 #[.int .i64 0, .int .i64 0, .string ⟨#[]⟩, .slice none 0 0] := by
    rw [hW0]
    have := Blk.new (w.alloc (.cells #[.int .i64 t.k, .int .i64 t.n, .string t.s, .slice A t.l.length c] 25)) 25 #[.int .i64 0, .int .i64 0, .string ⟨#[]⟩, .slice none 0 0]
    rwa [World.size_alloc] at this
  have ly0 := hY0.lt
  have hlc := hc.len.1
  have hlm := hc.len.2.1
  have hc0 : TmC (· < w.heap.size) W0 A c t.l := (hc.inside.mono (Q := (· < w.heap.size)) (fun g h => h.2)).stay hB0 (Nat.le_refl _)
  have Hc := Lib.hid hc0; clear hc0 hc
  have HX0 := Lib.hid hX0; clear hX0
  have HY0 := Lib.hid hY0; clear hY0
  have HB0 := Lib.hid hB0; clear hB0
  have HW := Lib.hid hW0; clear hW0
  obtain ⟨⟨a0, a1, a2, a3⟩, -⟩ := HX0.out.four
  obtain ⟨r, hr⟩ : ∃ r, r = itR t := ⟨_, rfl⟩
  rw [← hr]
  unfold itR at hr
  have hcall := check_calls t _ W0 _ ⟨A, c, rfl, hs, Hc.out⟩
  obtain ⟨b, hb⟩ : ∃ b, b = isB t := ⟨_, rfl⟩
  rw [← hb] at hcall hr ⊢
  have Hcall := Lib.hid hcall; clear hcall
  have Hr0 := Lib.hid hr; have Hb := Lib.hid hb; clear hr hb
  go_enter Try.func60, Try.ntmps60
  go_wp2_with fail
  rw [← HW.out]
  refine Hcall.out.mono ?_
  rintro e w1 ⟨rfl, hb1⟩
  have HX1 := Lib.hid (HX0.out.below hb1 HX0.out.lt)
  have HY1 := Lib.hid (HY0.out.below hb1 HY0.out.lt)
  have HB1 := Lib.hid (HB0.out.trans (hb1.mono HB0.out.size))
  have Hc1 := Lib.hid (Hc.out.stay hb1 (Nat.le_refl _))
  have hs1 := hb1.size
  clear hb1 a0 a1 a2 a3 Hcall Hc HX0 HY0 HB0
  have HS1 := Lib.hid (show w.heap.size + 2 ≤ w1.heap.size from by omega)
  cases b
  case false =>
    have he : errT false = 3 := rfl
    have hrr : r = ([], Tm.zero) := by rw [Hr0.out, if_neg (by simp)]
    subst hrr
    have ly := HY1.out.lt
    obtain ⟨⟨d0, d1, d2, d3⟩, ⟨g0, g1, g2, g3⟩⟩ := HY1.out.four
    rw [he]
    go_wp2
    refine bodyPost_ret (v := .tuple #[.slice none 0 0, .agg #[.int .i64 0, .int .i64 0, .string ⟨#[]⟩, .slice none 0 0], .int .i64 3]) ?_ rfl (R := RetIt w ([], Tm.zero) 3) ⟨none, 0, none, 0, rfl, TmC.nil _ _ (by omega) (fun _ => rfl), by show (0 : Nat) ≤ _; omega, TmC.nil _ _ (by omega) (fun _ => rfl), ?_⟩
    · simp [results, Try.results60, go_sem, d0, d1, d2, d3]
    · exact ((((HB1.out.setCell (p := ⟨w.heap.size + 1, 0, none⟩) (by simp) _).setCell (p := ⟨w.heap.size + 1, 1, none⟩) (by simp) _).setCell (p := ⟨w.heap.size + 1, 2, none⟩) (by simp) _).setCell (p := ⟨w.heap.size + 1, 3, none⟩) (by simp) _)
  have he : errT true = 0 := rfl
  have hr : r = t.items := by rw [Hr0.out, if_pos rfl]
  have hsz := (isB_iff.1 Hb.out.symm).2.1
  have Hr := Lib.hid hr; clear hr Hr0
  rw [he]
  go_wp2
  go_loopw [6] (fun v6 wr => ∃ (u : Tm) (Au : Option Addr) (cu : Nat) (xs : List Tm), Hid (t.items = (xs ++ u.items.1, u.items.2)) ∧ xs.length + u.size ≤ 4000 ∧ u.s.size ≤ 9223372036854775807 ∧ Hid (TmC (· < w.heap.size) wr Au cu u.l) ∧ lenOf v6 = xs.length ∧ RowT (w.heap.size + 2) (w.heap.size + 2 ≤ ·) wr v6 xs ∧
      Hid (Blk wr w.heap.size 25 #[.int .i64 u.k, .int .i64 u.n, .string u.s, .slice Au u.l.length cu]) ∧ Hid (Blk wr (w.heap.size + 1) 25 #[.int .i64 0, .int .i64 0, .string ⟨#[]⟩, .slice none 0 0]) ∧ Hid (Below w.heap.size w wr)) (fun v6 _ => 5000 - lenOf v6)
  case atStart => exact ⟨t, A, c, [], Lib.hid (by simp), by simpa using hsz, hs, Hc1, rfl, RowT.nil _ _ _, HX1, HY1, HB1⟩
  case round =>
    obtain ⟨u, Au, cu, xs, Hit, hxl, hus, HC, hlo, hrw, HX, HY, HB⟩ := hrel
    have Hrw := Lib.hid hrw; clear hrw
    obtain ⟨⟨a0, a1, a2, a3⟩, ⟨f0, f1, f2, f3⟩⟩ := HX.out.four
    have lx := HX.out.lt
    have ly := HY.out.lt
    have hul := HC.out.len.2.1
    have hulc := HC.out.len.1
    obtain ⟨q, hq⟩ : ∃ q, q = cellB u := ⟨_, rfl⟩
    have hcall := cell_calls u _ wr _ ⟨Au, cu, rfl, hus, HC.out⟩
    rw [← hq] at hcall
    have Hcall := Lib.hid hcall; clear hcall
    go_wp2_with fail
    refine Hcall.out.mono ?_
    rintro e w2 ⟨rfl, hb2⟩
    have HX2 := Lib.hid (HX.out.below hb2 lx)
    have HY2 := Lib.hid (HY.out.below hb2 ly)
    have HB2 := Lib.hid (HB.out.trans (hb2.mono HB.out.size))
    have HC2 := Lib.hid (HC.out.stay hb2 (Nat.le_refl _))
    have Hrw2 := Lib.hid (Hrw.out.below hb2 (Nat.le_refl _))
    have hs2 := hb2.size
    clear hb2 Hcall HX HY HB HC Hrw a0 a1 a2 a3 f0 f1 f2 f3 lx ly
    have lx := HX2.out.lt
    have ly := HY2.out.lt
    obtain ⟨⟨a0, a1, a2, a3⟩, ⟨f0, f1, f2, f3⟩⟩ := HX2.out.four
    cases q
    case false =>
      have hfin : t.items = (xs, u) := by rw [Hit.out, items_stop hq.symm]; simp
      rw [hfin] at Hr
      have hrr := Hr.out; subst hrr
      have hus2 : u.size ≤ 1000000 := by omega
      have hcall := copied_calls u _ w2 _ ⟨Au, cu, rfl, hus, HC2.out⟩ hus2
      have Hcall := Lib.hid hcall; clear hcall
      clear hq hfin
      go_wp2_with fail
      refine Hcall.out.mono ?_
      rintro e w3 ⟨A3, c3, rfl, -, h3, hb3⟩
      have HY3 := Lib.hid (HY2.out.below hb3 ly)
      have HB3 := Lib.hid (HB2.out.trans (hb3.mono HB2.out.size))
      have hrw3 := Hrw2.out.below hb3 (Nat.le_refl _)
      have H3 := Lib.hid (h3.mono (Q := (w.heap.size + 2 ≤ ·)) (fun g hg => by omega))
      have hs3 := hb3.size
      obtain ⟨A4, c4, rfl, h4⟩ := hrw3.toC
      have H4 := Lib.hid (show TmC (w.heap.size + 2 ≤ ·) w3 A4 c4 xs from h4.mono (fun g hg => by
        rcases hg with h | h
        · exact h
        · obtain ⟨es, h5, h6, h7⟩ := hrw3
          exact (h6.lt g h.symm).1))
      clear h4 hrw3 hb3 h3 Hcall
      have ly3 := HY3.out.lt
      obtain ⟨⟨d0, d1, d2, d3⟩, ⟨g0, g1, g2, g3⟩⟩ := HY3.out.four
      clear a0 a1 a2 a3 f0 f1 f2 f3
      go_wp2
      have hF := set4_at w3 (w.heap.size + 1) _ 25 HY3.out rfl (.int .i64 u.k) (.int .i64 u.n) (.string u.s) (.slice A3 u.l.length c3)
      have sc : ∀ {A : Option Addr} {c : Nat} {l : List Tm}, TmC (w.heap.size + 2 ≤ ·) w3 A c l → TmC (w.heap.size + 2 ≤ ·) ((((w3.setCell ⟨w.heap.size + 1, 0, none⟩ (.int .i64 u.k)).setCell ⟨w.heap.size + 1, 1, none⟩ (.int .i64 u.n)).setCell ⟨w.heap.size + 1, 2, none⟩ (.string u.s)).setCell ⟨w.heap.size + 1, 3, none⟩ (.slice A3 u.l.length c3)) A c l := fun h => (((h.setCell ⟨w.heap.size + 1, 0, none⟩ (.int .i64 u.k) (fun g h e => by simp at e; omega)).setCell ⟨w.heap.size + 1, 1, none⟩ (.int .i64 u.n) (fun g h e => by simp at e; omega)).setCell ⟨w.heap.size + 1, 2, none⟩ (.string u.s) (fun g h e => by simp at e; omega)).setCell ⟨w.heap.size + 1, 3, none⟩ (.slice A3 u.l.length c3) (fun g h e => by simp at e; omega)
      have hT := sc H3.out
      have hL := sc H4.out
      have hBF := (((HB3.out.setCell (p := ⟨w.heap.size + 1, 0, none⟩) (by simp) (.int .i64 u.k)).setCell (p := ⟨w.heap.size + 1, 1, none⟩) (by simp) (.int .i64 u.n)).setCell (p := ⟨w.heap.size + 1, 2, none⟩) (by simp) (.string u.s)).setCell (p := ⟨w.heap.size + 1, 3, none⟩) (by simp) (.slice A3 u.l.length c3)
      obtain ⟨⟨q0, q1, q2, q3⟩, -⟩ := hF.four
      refine bodyPost_ret (v := .tuple #[.slice A4 xs.length c4, .agg #[.int .i64 u.k, .int .i64 u.n, .string u.s, .slice A3 u.l.length c3], .int .i64 0]) ?_ rfl (R := RetIt w (xs, u) 0) ⟨A4, c4, A3, c3, rfl, hL.mono (fun g h => by omega), hus, hT.mono (fun g h => by omega), hBF⟩
      generalize (World.setCell _ ⟨w.heap.size + 1, 3, none⟩ _) = WF at q0 q1 q2 q3 ⊢
      clear hF hT hBF hL sc
      simp [results, Try.results60, go_sem, q0, q1, q2, q3]
    case true =>
      obtain ⟨hk5, hdot, hl2⟩ := cellB_iff.1 hq.symm
      obtain ⟨x, hx⟩ : ∃ x, u.l[0]? = some x := ⟨_, List.getElem?_eq_getElem (by omega)⟩
      obtain ⟨y, hy⟩ : ∃ y, u.l[1]? = some y := ⟨_, List.getElem?_eq_getElem (by omega)⟩
      have Hic := Lib.hid (items_cell hq.symm hx hy)
      have hxz := Tm.size_child (List.mem_of_getElem? hx)
      have hyz := Tm.size_child (List.mem_of_getElem? hy)
      obtain ⟨g, off, Ax, cx, rfl, hPg, ⟨e0, e1, e2, e3⟩, hxs, hxc⟩ := HC2.out.at_ hx
      obtain ⟨g', off', Ay, cy, he2, -, ⟨k0, k1, k2, k3⟩, hys, hyc⟩ := HC2.out.at_ hy
      injection he2 with he2; injection he2 with he3 he4; subst he3; subst he4
      have Hxc := Lib.hid hxc; have Hyc := Lib.hid hyc; clear hxc hyc
      have hx6 : x.size ≤ 1000000 := by omega
      have hcall := copied_calls x _ w2 _ ⟨Ax, cx, rfl, hxs, Hxc.out⟩ hx6
      have Hcall := Lib.hid hcall; clear hcall
      have hl0 : (0 : Int) < (u.l.length : Int) := by omega
      have hl1 : (1 : Int) < (u.l.length : Int) := by omega
      rw [show off + 0 * 4 = off from by omega] at e0 e1 e2 e3
      rw [show off + 1 * 4 = off + 4 from by omega] at k0 k1 k2 k3
      clear hq hx hy hdot
      go_wp2_with fail
      refine Hcall.out.mono ?_
      rintro e w3 ⟨A3, c3, rfl, -, hx3, hb3⟩
      have hbr2 : Below w2.heap.size w2 (w3.alloc (.cells #[.int .i64 x.k, .int .i64 x.n, .string x.s, .slice A3 x.l.length c3] 25)) := hb3.alloc hb3.size _
      have hrw3 := Hrw2.out.below hbr2 (Nat.le_refl _)
      have hx4 := hx3.stay ((Below.refl _ _).alloc (Nat.le_refl _) (.cells #[.int .i64 x.k, .int .i64 x.n, .string x.s, .slice A3 x.l.length c3] 25)) (Nat.le_refl _)
      have hob : ∀ g, w2.heap.size ≤ g → w.heap.size + 2 ≤ g ∧ some g ≠ u6.ownBlock := fun g hg => by
        refine ⟨by have := HB2.out.size; omega, fun e => ?_⟩
        obtain ⟨es, h1, h2, h3⟩ := Hrw2.out
        have := (h2.lt g e.symm).2
        omega
      obtain ⟨es, hes, hrow, hch⟩ := hrw3
      have hel : es.length = xs.length := by rw [hes, List.length_map]
      have HX4 := Lib.hid (HX2.out.below hbr2 lx)
      have HY4 := Lib.hid (HY2.out.below hbr2 ly)
      have Hx4 := Lib.hid hx4; clear hx4 hx3
      have Hob := Lib.hid hob; clear hob
      have Hch := Lib.hid hch
      have Hrow := Lib.hid hrow
      have HB4 := Lib.hid (HB2.out.trans (hbr2.mono HB2.out.size))
      have Hyc4 := Lib.hid (Hyc.out.stay hbr2 (Nat.le_refl _))
      have r0 := keep_cell hbr2 k0; have r1 := keep_cell hbr2 k1; have r2 := keep_cell hbr2 k2; have r3 := keep_cell hbr2 k3
      have HZ4 := Lib.hid (show w.heap.size + 2 ≤ (w3.alloc (.cells #[.int .i64 x.k, .int .i64 x.n, .string x.s, .slice A3 x.l.length c3] 25)).heap.size from Nat.le_trans ly hbr2.size)
      clear hbr2 hb3
      have Hes := Lib.hid hes
      have Hel := Lib.hid hel
      have hs4 := HB4.out.size
      clear hrow hch hes hel e0 e1 e2 e3 k0 k1 k2 k3 a0 a1 a2 a3 f0 f1 f2 f3
      go_wp2_with (at_builtin; refine wpList_append_own_at _ rfl (.tmp 19) (.tmp 25) 22 rfl (w.heap.size + 2) 25 i0 _ 4 56 Try.underlying22 Hi.out.1 Hi.out.2.1 Hi.out.2.2.1 Hi.out.2.2.2 rfl (by decide) u6 es.length (es.flatMap encE) rfl Hrow.out ⟨w3.heap.size, 0, none⟩ 1 1 [.int .i64 x.k, .int .i64 x.n, .string x.s, .slice A3 x.l.length c3] rfl rfl ?c1 ?c2 ?c3 ?c4 ?c5 ?_)
      case c1 =>
        intro j u hu
        rw [add_lit0, (Blk.new w3 25 _).cell j]
        simpa using hu
      case c2 => simp [Value.oneCell']
      case c3 => rw [Hel.out]; simp only [maxLen]; omega
      case c4 => rw [Hel.out]; omega
      case c5 => exact HZ4.out
      intro v' w4 hown hg _ hbk
      have hnew : RowT (w.heap.size + 2) (w.heap.size + 2 ≤ ·) w4 v' (xs ++ [x]) := RowT.push es Hes.out Hch.out hxs Hx4.out (fun g hg' => Hob.out g (by have : w2.heap.size ≤ g := hg'; exact this)) hown hg (by simpa using hbk)
      have hrl : ∀ g, u6.ownBlock = some g → w.heap.size + 2 ≤ g := fun g h => (Hrow.out.lt g h).1
      have hB5 : Below w.heap.size w w4 := HB4.out.grown hg HB4.out.size (fun k hk => by have := hrl k hk; omega)
      have hlt3 : w.heap.size + 2 ≤ (w3.alloc (.cells #[.int .i64 x.k, .int .i64 x.n, .string x.s, .slice A3 x.l.length c3] 25)).heap.size := HZ4.out
      have hX5 := HX4.out.grown hg (fun e => by have := hrl _ e.symm; omega)
      have hY5 := HY4.out.grown hg (fun e => by have := hrl _ e.symm; omega)
      have hyc5 := Hyc4.out.grown hg (fun g hg' e => by have := hrl _ e; omega)
      have lx5 := hX5.lt
      have ly5 := hY5.lt
      have hgr : u6.ownBlock ≠ some g := fun e => by have := hrl _ e; omega
      have t0 := cell_grown_of hg hgr r0; have t1 := cell_grown_of hg hgr r1; have t2 := cell_grown_of hg hgr r2; have t3 := cell_grown_of hg hgr r3
      obtain ⟨⟨p0, p1, p2, p3⟩, ⟨z0, z1, z2, z3⟩⟩ := hX5.four
      have Hnew := Lib.hid hnew; have HB5 := Lib.hid hB5; have HX5 := Lib.hid hX5; have HY5 := Lib.hid hY5; have Hyc5 := Lib.hid hyc5
      obtain ⟨A5, c5, rfl⟩ := own_slice hown
      clear hnew hB5 hX5 hY5 hyc5 hown hg hbk hrl r0 r1 r2 r3
      have hgx : g ≠ w.heap.size := by omega
      have hgl : g < w4.heap.size := by omega
      have HF := Lib.hid (set4_at w4 w.heap.size _ 25 HX5.out rfl (.int .i64 y.k) (.int .i64 y.n) (.string y.s) (.slice Ay y.l.length cy))
      have hbut : But w.heap.size w4 ((((w4.setCell ⟨w.heap.size, 0, none⟩ (.int .i64 y.k)).setCell ⟨w.heap.size, 1, none⟩ (.int .i64 y.n)).setCell ⟨w.heap.size, 2, none⟩ (.string y.s)).setCell ⟨w.heap.size, 3, none⟩ (.slice Ay y.l.length cy)) := ((((But.refl _ _).setCell 0 _).setCell 1 _).setCell 2 _).setCell 3 _
      have HN := Lib.hid (Hnew.out.butN hbut (by omega) (fun g hg => by omega))
      have HY6 := Lib.hid ((((HY5.out.far (p := ⟨w.heap.size, 0, none⟩) (by show w.heap.size + 1 ≠ w.heap.size; omega) (.int .i64 y.k)).far (p := ⟨w.heap.size, 1, none⟩) (by show w.heap.size + 1 ≠ w.heap.size; omega) (.int .i64 y.n)).far (p := ⟨w.heap.size, 2, none⟩) (by show w.heap.size + 1 ≠ w.heap.size; omega) (.string y.s)).far (p := ⟨w.heap.size, 3, none⟩) (by show w.heap.size + 1 ≠ w.heap.size; omega) (.slice Ay y.l.length cy))
      have HB6 := Lib.hid ((((HB5.out.setCell (p := ⟨w.heap.size, 0, none⟩) (Nat.le_refl _) (.int .i64 y.k)).setCell (p := ⟨w.heap.size, 1, none⟩) (Nat.le_refl _) (.int .i64 y.n)).setCell (p := ⟨w.heap.size, 2, none⟩) (Nat.le_refl _) (.string y.s)).setCell (p := ⟨w.heap.size, 3, none⟩) (Nat.le_refl _) (.slice Ay y.l.length cy))
      have HC6 := Lib.hid (Hyc5.out.but hbut (fun g hg => by have : g < w.heap.size := hg; omega))
      have Hit2 := Lib.hid (show t.items = ((xs ++ [x]) ++ y.items.1, y.items.2) from by rw [Hit.out, Hic.out]; simp)
      have Hln := Lib.hid (show es.length + 1 = (xs ++ [x]).length from by rw [Hel.out]; simp)
      have hxl2 : (xs ++ [x]).length + y.size ≤ 4000 := by rw [List.length_append]; simp; omega
      clear hbut
      go_wp2
      go_roundw
      case rel => exact ⟨y, Ay, cy, xs ++ [x], Hit2, hxl2, hys, HC6, Hln.out, HN.out, HF, HY6, HB6⟩
      case measure => rw [hlo]; show 5000 - (es.length + 1) < 5000 - xs.length; rw [Hel.out]; omega
end Go.Proofs.Ytfhgknmkpegpbaa
