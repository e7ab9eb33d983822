import Derived.Test.YthdlmnkefheliaaD23
set_option linter.unusedVariables false
set_option linter.unusedSimpArgs false
namespace Go.Proofs.Ythdlmnkefheliaa
open Go.RowKit

theorem equalLr_calls (r : Bool) (n m : Nat) (xs ys : List (Int × Int × Int)) (A A' : Option Addr) (c c' : Nat) (w : World) (hrr : r = decide (xs = ys)) (hn : n = xs.length) (hm : m = ys.length) (hx : xs.length ≤ 20000000) (hy : ys.length ≤ 20000000) (hr : Rd w A (xs.flatMap encL)) (hr' : Rd w A' (ys.flatMap encL)) :
    Calls Try.prog 50 #[.slice A n c, .slice A' m c'] w fun e w' => e = .returned (.bool r) ∧ Below w.heap.size w w' := by
  subst hrr hn hm; exact equalL_calls xs ys A A' c c' w hx hy hr hr'
theorem equalPr_calls (r : Bool) (n m : Nat) (xs ys : List (Int × Int)) (A A' : Option Addr) (c c' : Nat) (w : World) (hrr : r = decide (xs = ys)) (hn : n = xs.length) (hm : m = ys.length) (hx : xs.length ≤ 20000000) (hy : ys.length ≤ 20000000) (hr : Rd w A (xs.flatMap encH)) (hr' : Rd w A' (ys.flatMap encH)) :
    Calls Try.prog 27 #[.slice A n c, .slice A' m c'] w fun e w' => e = .returned (.bool r) ∧ Below w.heap.size w w' := by
  subst hrr hn hm; exact equalP_calls xs ys A A' c c' w hx hy hr hr'
theorem BoxT.below {w w1 : World} {b B B1 : Nat} {t : Thr} (h : BoxT w b B t) (hb : Below B1 w w1) (hB : w.heap.size ≤ B1) : BoxT w1 b B t := by
  obtain ⟨A1, c1, A2, c2, h1, h2, h3⟩ := h
  exact ⟨A1, c1, A2, c2, h1.below (hb.mono hB) h1.lt, own_below h2 hb hB, own_below h3 hb hB⟩
def saneCs : List (Int × Int × Int) := [(4, 0, 0), (1, 0, 0), (3, 0, 1), (2, 0, 0), (4, 1, 0), (4, 0, 0), (2, 1, 0)]
def saneT (k : Nat) : Thr := [(⟨4, 4, [(0, 0), (0, 0)], [(1, 0, 4)], false⟩ : Thr), ⟨4, 4, [(1, 4), (0, 0)], [], false⟩, ⟨4, 4, [(2, 4), (0, 0)], [], false⟩, ⟨4, 4, [(1, 2), (0, 0)], [(1, 1, 2)], false⟩,
  ⟨4, 4, [(0, 0), (0, 0)], [(1, 1, 2), (2, 0, 2)], false⟩, ⟨4, 2, [(0, 0), (0, 0)], [(1, 1, 2)], false⟩, ⟨4, 2, [(0, 0), (1, 2)], [], false⟩, ⟨4, 2, [(0, 0), (0, 0)], [(2, 0, 2)], false⟩].getD k Thr.zero
theorem sane_new : newM 2 4 = (⟨4, 0, [(0, 0), (0, 0)], [], false⟩, 0) := by rfl
theorem sane_start : startM ⟨4, 0, [(0, 0), (0, 0)], [], false⟩ 0 = (saneT 0, 0) := by rfl
theorem sane_step : ∀ (k : Nat) (x : Int × Int × Int), saneCs[k]? = some x → doM x.1 x.2.1 x.2.2 (saneT k) = (saneT (k + 1), 0) ∧ (saneT (k + 1)).check = 0 ∧ (saneT (k + 1)).ended = false ∧ (saneT k).Lens ∧ (saneT (k + 1)).Lens := by
  intro k x hx
  match k with
  | 0 => injection hx with hx; subst hx; exact ⟨by rfl, by rfl, by rfl, ⟨by decide, by decide⟩, ⟨by decide, by decide⟩⟩
  | 1 => injection hx with hx; subst hx; exact ⟨by rfl, by rfl, by rfl, ⟨by decide, by decide⟩, ⟨by decide, by decide⟩⟩
  | 2 => injection hx with hx; subst hx; exact ⟨by rfl, by rfl, by rfl, ⟨by decide, by decide⟩, ⟨by decide, by decide⟩⟩
  | 3 => injection hx with hx; subst hx; exact ⟨by rfl, by rfl, by rfl, ⟨by decide, by decide⟩, ⟨by decide, by decide⟩⟩
  | 4 => injection hx with hx; subst hx; exact ⟨by rfl, by rfl, by rfl, ⟨by decide, by decide⟩, ⟨by decide, by decide⟩⟩
  | 5 => injection hx with hx; subst hx; exact ⟨by rfl, by rfl, by rfl, ⟨by decide, by decide⟩, ⟨by decide, by decide⟩⟩
  | 6 => injection hx with hx; subst hx; exact ⟨by rfl, by rfl, by rfl, ⟨by decide, by decide⟩, ⟨by decide, by decide⟩⟩
  | k + 7 => simp [saneCs] at hx
theorem sane_deliver : deliverM (saneT 7) 0 = (⟨4, 0, [(0, 0), (0, 0)], [], true⟩, 0) := by rfl
theorem sane_plan : planM [5, 1, 0] = ([(0, 2), (0, 1), (0, 2)], 0) := by rfl

set_option maxRecDepth 100000 in
set_option maxHeartbeats 4000000 in
theorem sane_calls (w : World) : Calls Try.prog 15 #[] w fun e w' => e = .returned (.bool true) ∧ Below w.heap.size w w' := by
  have hnew := new_calls 2 4 w
  rw [sane_new] at hnew
  have Hnew := Lib.hid hnew; clear hnew
  go_enter Try.func15, Try.ntmps15
  go_wp2_with fail
  refine Hnew.out.mono ?_
  rintro e w1 ⟨v1, rfl, hv1, hb1⟩
  simp only at hv1
  have hv1' := hv1
  obtain ⟨A1, c1, A2, c2, rfl, -, -⟩ := hv1'
  simp only [List.length_cons, List.length_nil, Nat.zero_add, Nat.reduceAdd] at hv1 ⊢
  have hst := start_calls _ _ 0 (w1.alloc (.cells #[.int .i64 4, .int .i64 0, .slice A1 2 c1, .slice A2 0 c2, .bool false] 25)) (hv1.alloc _).val ⟨by decide, by decide⟩
  rw [sane_start] at hst
  have Hst := Lib.hid hst; clear hst
  have Hb1 := Lib.hid hb1; clear hb1
  have hbk := Blk.new w1 25 #[.int .i64 4, .int .i64 0, .slice A1 2 c1, .slice A2 0 c2, .bool false]
  have hbl := hbk.lt
  have Hbk := Lib.hid hbk; clear hbk
  clear hv1
  go_wp2_with fail
  refine Hst.out.mono ?_
  rintro e w2 ⟨v2, rfl, hv2, hb2⟩
  simp only at hv2
  have hv2' := hv2
  obtain ⟨B1, d1, B2, d2, rfl, -, -⟩ := hv2'
  obtain ⟨bx, hbx⟩ : ∃ bx, bx = w1.heap.size := ⟨_, rfl⟩
  have hblk2 := Hbk.out.below hb2 hbl
  obtain ⟨⟨b0, b1, b2, b3, b4⟩, ⟨f0, f1, f2, f3, f4⟩⟩ := hblk2.five
  have hlt2 := hblk2.lt
  have hwb : w.heap.size ≤ w1.heap.size := Hb1.out.size
  have hwb2 : w.heap.size ≤ (w1.alloc (.cells #[.int .i64 4, .int .i64 0, .slice A1 2 c1, .slice A2 0 c2, .bool false] 25)).heap.size := Nat.le_trans hwb (by simp)
  have hbox := BoxT.store (t := saneT 0) hblk2 (hv2.lower hwb2)
  have hbel := (Hb1.out.alloc Hb1.out.size (.cells #[.int .i64 4, .int .i64 0, .slice A1 2 c1, .slice A2 0 c2, .bool false] 25)).trans (hb2.mono hwb2)
  have Hbel2 := Lib.hid (below_set5 hbel hwb (.int .i64 4) (.int .i64 4) (.slice B1 2 d1) (.slice B2 1 d2) (.bool false))
  have hset := (hv2.lower hwb2).set5 hblk2 (.int .i64 4) (.int .i64 4) (.slice B1 2 d1) (.slice B2 1 d2) (.bool false)
  have Hbox := Lib.hid hbox
  obtain ⟨WS, hWS⟩ : ∃ WS, WS = (((((w2.setCell ⟨w1.heap.size, 0, none⟩ (.int .i64 4)).setCell ⟨w1.heap.size, 1, none⟩ (.int .i64 4)).setCell ⟨w1.heap.size, 2, none⟩ (.slice B1 2 d1)).setCell ⟨w1.heap.size, 3, none⟩ (.slice B2 1 d2)).setCell ⟨w1.heap.size, 4, none⟩ (.bool false)) := ⟨_, rfl⟩
  have HbelS : Hid (Below w.heap.size w WS) := Lib.hid (by rw [hWS]; exact Hbel2.out)
  have HboxS : Hid (BoxT WS w1.heap.size w.heap.size (saneT 0)) := Lib.hid (by rw [hWS]; exact Hbox.out)
  have hmail : Rd WS B2 ([((1 : Int), (0 : Int), (4 : Int))].flatMap encL) := by rw [hWS]; exact own_rd hset.rows.2
  have hszS : WS.heap.size = w2.heap.size := by rw [hWS]; simp
  have hrd2 : Rd (WS.alloc (.cells #[.int .i64 1, .int .i64 0, .int .i64 4] 54)) (some ⟨w2.heap.size, 0, none⟩) ([((1 : Int), (0 : Int), (4 : Int))].flatMap encL) := fun _ => ⟨_, _, rfl, fun j u hu => by
    rw [Nat.zero_add, ← hszS, (Blk.new WS 54 #[.int .i64 1, .int .i64 0, .int .i64 4]).cell j]
    simpa [encL] using hu⟩
  have heq := equalLr_calls true 1 1 [((1 : Int), (0 : Int), (4 : Int))] [((1 : Int), (0 : Int), (4 : Int))] B2 (some ⟨w2.heap.size, 0, none⟩) d2 1 (WS.alloc (.cells #[.int .i64 1, .int .i64 0, .int .i64 4] 54)) (by decide) rfl rfl (by decide) (by decide) (hmail.below ((Below.refl _ WS).alloc (Nat.le_refl _) _) (Nat.le_refl _)) hrd2
  have Heq := Lib.hid heq
  have HWS := Lib.hid hWS
  clear hbox hbel hv2 hb2 hblk2 hwb2 hset hmail hszS hrd2 heq hWS
  simp only [saneT, List.getD_cons_zero, List.length_cons, List.length_nil, Nat.zero_add, Nat.reduceAdd]
  go_wp2_with fail
  rw [← HWS.out]
  refine Heq.out.mono ?_
  rintro e w3 ⟨rfl, hb3⟩
  have hb3' : Below WS.heap.size WS w3 := ((Below.refl _ WS).alloc (Nat.le_refl _) _).trans (hb3.mono (by simp))
  have HbelT := Lib.hid (HbelS.out.trans (hb3'.mono HbelS.out.size))
  have HboxT := Lib.hid (HboxS.out.below hb3' (Nat.le_refl _))
  clear hb3 hb3'
  clear b0 b1 b2 b3 b4 f0 f1 f2 f3 f4
  go_wp2_with fail
  have hneb : w3.heap.size ≠ w1.heap.size := by
    obtain ⟨_, _, _, _, hq, _⟩ := HboxT.out
    have := hq.lt
    omega
  have Hneb := Lib.hid hneb; clear hneb
  have hcb : Blk (w3.alloc (.cells #[.int .i64 4, .int .i64 0, .int .i64 0, .int .i64 1, .int .i64 0, .int .i64 0, .int .i64 3, .int .i64 0, .int .i64 1, .int .i64 2, .int .i64 0, .int .i64 0, .int .i64 4, .int .i64 1, .int .i64 0, .int .i64 4, .int .i64 0, .int .i64 0, .int .i64 2, .int .i64 1, .int .i64 0] 47)) w3.heap.size 47 (saneCs.flatMap encL).toArray := Blk.new _ _ _
  have Hcb := Lib.hid hcb; clear hcb
  go_loopw [2, 42] (fun _ i wr => ∃ k : Nat, k ≤ 7 ∧ i = .int .i64 k ∧ BoxT wr w1.heap.size w.heap.size (saneT k) ∧ Below w.heap.size w wr ∧ Blk wr w3.heap.size 47 (saneCs.flatMap encL).toArray) (fun _ i _ => 7 - (intOf i).toNat)
  case atStart => exact ⟨0, Nat.zero_le _, rfl, HboxT.out.alloc _, HbelT.out.alloc HbelT.out.size _, Hcb.out⟩
  case round =>
    obtain ⟨k, hk, rfl, hbx, hbr, hcb⟩ := hrel
    have Hbr := Lib.hid hbr; clear hbr
    have hrdc : Rd wr (some ⟨w3.heap.size, 0, none⟩) (saneCs.flatMap encL) := fun _ => ⟨_, _, rfl, fun j u hu => by rw [Nat.zero_add, hcb.cell j]; simpa using hu⟩
    have Hcb := Lib.hid hcb; clear hcb
    by_cases hlt : k < 7
    · obtain ⟨x, hx⟩ : ∃ x, saneCs[k]? = some x := ⟨_, List.getElem?_eq_getElem hlt⟩
      obtain ⟨g', off', hg', e0, e1, e2⟩ := Rd.atL hrdc hx
      injection hg' with hg'
      injection hg' with hg1 hg2 _
      subst hg1 hg2
      rw [Nat.zero_add] at e0 e1 e2
      obtain ⟨hdo, hck, hen, hl1, hl2⟩ := sane_step k x hx
      clear hrdc hx
      obtain ⟨x0, x1, x2⟩ := x
      obtain ⟨t, ht⟩ : ∃ t, t = saneT k := ⟨_, rfl⟩
      obtain ⟨t2, ht2⟩ : ∃ t2, t2 = saneT (k + 1) := ⟨_, rfl⟩
      rw [← ht] at hdo hl1 hbx
      rw [← ht2] at hdo hck hen hl2
      simp only at hdo e0 e1 e2
      have Ht2 := Lib.hid ht2; clear ht ht2
      obtain ⟨D1, d1', D2, d2', hblk, ho1, ho2⟩ := hbx
      have hF : ThrF w.heap.size wr (.agg #[.int .i64 t.grain, .int .i64 t.out, .slice D1 t.procs.length d1', .slice D2 t.mail.length d2', .bool t.ended]) t := ⟨_, _, _, _, rfl, ho1, ho2⟩
      obtain ⟨⟨b0, b1, b2, b3, b4⟩, ⟨f0, f1, f2, f3, f4⟩⟩ := hblk.five
      have hblt := hblk.lt
      have hcall := do_calls x0 x1 x2 t _ (wr.alloc (.cells #[.int .i64 x0, .int .i64 x1, .int .i64 x2] 47)) (hF.alloc _).val hl1
      rw [hdo] at hcall
      have Hcall := Lib.hid hcall
      have Hblk := Lib.hid hblk
      have Hck := Lib.hid hck
      have Hl2 := Lib.hid hl2
      clear hcall hblk hck hl2 hF ho1 ho2 hdo hl1
      obtain ⟨gr2, ou2, ps2, ms2, en2⟩ := t2
      simp only at hen
      subst hen
      go_wp2_with fail
      refine Hcall.out.mono ?_
      rintro e w4 ⟨v4, rfl, hv4, hb4⟩
      simp only at hv4
      have hv4' := hv4
      obtain ⟨G1, g1, G2, g2, rfl, -, -⟩ := hv4'
      simp only at hv4
      have hb4' : Below wr.heap.size wr w4 := ((Below.refl _ wr).alloc (Nat.le_refl _) _).trans (hb4.mono (by simp))
      have hblk4 := Hblk.out.below hb4' Hblk.out.lt
      have hcb4 := Hcb.out.below hb4' Hcb.out.lt
      have hbr4 := Hbr.out.trans (hb4'.mono Hbr.out.size)
      have hv5 := hv4.lower (B' := w.heap.size) (Nat.le_trans Hbr.out.size (by simp))
      obtain ⟨⟨b0, b1, b2, b3, b4⟩, ⟨f0, f1, f2, f3, f4⟩⟩ := hblk4.five
      have hlt4 := hblk4.lt
      have hbox5 := BoxT.store (t := ⟨gr2, ou2, ps2, ms2, false⟩) hblk4 hv5
      have hF5 := hv5.set5 hblk4 (.int .i64 gr2) (.int .i64 ou2) (.slice G1 ps2.length g1) (.slice G2 ms2.length g2) (.bool false)
      have hbel5 := below_set5 hbr4 hwb (.int .i64 gr2) (.int .i64 ou2) (.slice G1 ps2.length g1) (.slice G2 ms2.length g2) (.bool false)
      have hcb5 := ((((hcb4.far (p := ⟨w1.heap.size, 0, none⟩) Hneb.out (.int .i64 gr2)).far (p := ⟨w1.heap.size, 1, none⟩) Hneb.out (.int .i64 ou2)).far (p := ⟨w1.heap.size, 2, none⟩) Hneb.out (.slice G1 ps2.length g1)).far (p := ⟨w1.heap.size, 3, none⟩) Hneb.out (.slice G2 ms2.length g2)).far (p := ⟨w1.heap.size, 4, none⟩) Hneb.out (.bool false)
      simp only at hbox5
      obtain ⟨WT, hWT⟩ : ∃ WT, WT = (((((w4.setCell ⟨w1.heap.size, 0, none⟩ (.int .i64 gr2)).setCell ⟨w1.heap.size, 1, none⟩ (.int .i64 ou2)).setCell ⟨w1.heap.size, 2, none⟩ (.slice G1 ps2.length g1)).setCell ⟨w1.heap.size, 3, none⟩ (.slice G2 ms2.length g2)).setCell ⟨w1.heap.size, 4, none⟩ (.bool false)) := ⟨_, rfl⟩
      rw [← hWT] at hbox5 hF5 hbel5 hcb5
      have hchk := check_calls ⟨gr2, ou2, ps2, ms2, false⟩ _ WT hF5.val Hl2.out
      rw [Hck.out] at hchk
      have HWT := Lib.hid hWT
      have Hbox5 := Lib.hid hbox5
      have Hbel5 := Lib.hid hbel5
      have Hcb5 := Lib.hid hcb5
      have Hchk := Lib.hid hchk
      clear hWT hbox5 hbel5 hcb5 hchk hF5 hv5 hbr4 hcb4 hblk4 hb4' hb4 hv4
      go_wp2_with fail
      rw [← HWT.out]
      refine Hchk.out.mono ?_
      rintro e w6 ⟨rfl, hb6⟩
      have hbox6 := Hbox5.out.below hb6 (Nat.le_refl _)
      obtain ⟨D3, d3, D4, d4, hblk6, -, -⟩ := hbox6
      have hb0 := hblk6.five.1
      obtain ⟨b0, b1, b2, b3, b4⟩ := hb0
      have Hbox6 := Lib.hid (Hbox5.out.below hb6 (Nat.le_refl _))
      have Hbel6 := Lib.hid (Hbel5.out.trans (hb6.mono Hbel5.out.size))
      have Hcb6 := Lib.hid (Hcb5.out.below hb6 Hcb5.out.lt)
      clear hblk6 hb6
      clear f0 f1 f2 f3 f4
      go_wp2
      go_roundw
      case rel => exact ⟨k + 1, by omega, by go_num, by rw [← Ht2.out]; exact Hbox6.out, Hbel6.out, Hcb6.out⟩
      case measure => simp [intOf]; omega
    · have hk7 : k = 7 := by omega
      subst hk7
      obtain ⟨D1, d1', D2, d2', hblk, ho1, ho2⟩ := hbx
      have hF : ThrF w.heap.size wr (.agg #[.int .i64 (saneT 7).grain, .int .i64 (saneT 7).out, .slice D1 (saneT 7).procs.length d1', .slice D2 (saneT 7).mail.length d2', .bool (saneT 7).ended]) (saneT 7) := ⟨_, _, _, _, rfl, ho1, ho2⟩
      have hdel := deliver_calls (saneT 7) _ 0 wr hF.val ⟨by decide, by decide⟩
      rw [sane_deliver] at hdel
      have Hdel := Lib.hid hdel
      obtain ⟨⟨b0, b1, b2, b3, b4⟩, ⟨f0, f1, f2, f3, f4⟩⟩ := hblk.five
      have hblt := hblk.lt
      have Hblk := Lib.hid hblk
      clear hdel hblk ho1 ho2 hF hrdc
      go_wp2_with fail
      refine Hdel.out.mono ?_
      rintro e w4 ⟨v4, rfl, hv4, hb4⟩
      simp only [List.length_cons, List.length_nil, Nat.zero_add, Nat.reduceAdd] at hv4
      have hv4' := hv4
      obtain ⟨G1, g1, G2, g2, rfl, -, -⟩ := hv4'
      simp only [List.length_cons, List.length_nil, Nat.zero_add, Nat.reduceAdd] at hv4 ⊢
      have hblk4 := Hblk.out.below hb4 Hblk.out.lt
      have hbr4 := Hbr.out.trans (hb4.mono Hbr.out.size)
      obtain ⟨⟨b0, b1, b2, b3, b4⟩, ⟨f0, f1, f2, f3, f4⟩⟩ := hblk4.five
      have hlt4 := hblk4.lt
      have hbel5 := below_set5 hbr4 hwb (.int .i64 4) (.int .i64 0) (.slice G1 2 g1) (.slice G2 0 g2) (.bool true)
      have hbk5 := BoxT.store (t := ⟨4, 0, [(0, 0), (0, 0)], [], true⟩) hblk4 (hv4.lower (B' := w.heap.size) Hbr.out.size)
      simp only [List.length_cons, List.length_nil, Nat.zero_add, Nat.reduceAdd] at hbk5
      obtain ⟨WT, hWT⟩ : ∃ WT, WT = (((((w4.setCell ⟨w1.heap.size, 0, none⟩ (.int .i64 4)).setCell ⟨w1.heap.size, 1, none⟩ (.int .i64 0)).setCell ⟨w1.heap.size, 2, none⟩ (.slice G1 2 g1)).setCell ⟨w1.heap.size, 3, none⟩ (.slice G2 0 g2)).setCell ⟨w1.heap.size, 4, none⟩ (.bool true)) := ⟨_, rfl⟩
      rw [← hWT] at hbel5 hbk5
      have hszT : WT.heap.size = w4.heap.size := by rw [hWT]; simp
      have hrdp : Rd (WT.alloc (.cells #[.int .i64 5, .int .i64 1, .int .i64 0] 3)) (some ⟨w4.heap.size, 0, none⟩) ([(5 : Int), 1, 0].flatMap encI) := fun _ => ⟨_, _, rfl, fun j u hu => by
        rw [Nat.zero_add, ← hszT, (Blk.new WT 3 #[.int .i64 5, .int .i64 1, .int .i64 0]).cell j]
        simpa [encI] using hu⟩
      have hpl := plan_calls [5, 1, 0] (some ⟨w4.heap.size, 0, none⟩) 3 (WT.alloc (.cells #[.int .i64 5, .int .i64 1, .int .i64 0] 3)) (by decide) (by decide) (fun h => by cases h) hrdp
      rw [sane_plan] at hpl
      have Hpl := Lib.hid hpl
      have HWT := Lib.hid hWT
      have Hbel5 := Lib.hid hbel5
      have Hbk5 := Lib.hid hbk5
      clear hpl hrdp hszT hWT hbel5 hbk5 hbr4 hblk4 hv4 hb4
      go_wp2_with fail
      rw [← HWT.out]
      refine Hpl.out.mono ?_
      rintro e w5 ⟨v5, rfl, hv5, hb5⟩
      simp only [List.length_cons, List.length_nil, Nat.zero_add, Nat.reduceAdd] at hv5
      obtain ⟨P1, p1, rfl⟩ := own_slice hv5
      have hbT : Below WT.heap.size WT w5 := ((Below.refl _ WT).alloc (Nat.le_refl _) _).trans (hb5.mono (by simp))
      have hbk6 := Hbk5.out.below hbT (Nat.le_refl _)
      obtain ⟨D3, d3, D4, d4, hblk6, -, -⟩ := hbk6
      obtain ⟨⟨b0, b1, b2, b3, b4⟩, -⟩ := hblk6.five
      have Hbel6 := Lib.hid (Hbel5.out.trans (hbT.mono Hbel5.out.size))
      have hlt6 := hblk6.lt
      have hrdq : Rd (w5.alloc (.cells #[.int .i64 0, .int .i64 2, .int .i64 0, .int .i64 1, .int .i64 0, .int .i64 2] 42)) (some ⟨w5.heap.size, 0, none⟩) ([((0 : Int), (2 : Int)), (0, 1), (0, 2)].flatMap encH) := fun _ => ⟨_, _, rfl, fun j u hu => by
        rw [Nat.zero_add, (Blk.new w5 42 #[.int .i64 0, .int .i64 2, .int .i64 0, .int .i64 1, .int .i64 0, .int .i64 2]).cell j]
        simpa [encH] using hu⟩
      have heq := equalPr_calls true 3 3 [((0 : Int), (2 : Int)), (0, 1), (0, 2)] [((0 : Int), (2 : Int)), (0, 1), (0, 2)] P1 (some ⟨w5.heap.size, 0, none⟩) p1 3 (w5.alloc (.cells #[.int .i64 0, .int .i64 2, .int .i64 0, .int .i64 1, .int .i64 0, .int .i64 2] 42)) (by decide) rfl rfl (by decide) (by decide) (own_rd (hv5.alloc _)) hrdq
      have Heq := Lib.hid heq
      clear heq hrdq hblk6 hbT hb5 hv5 f0 f1 f2 f3 f4
      go_wp2_with fail
      refine Heq.out.mono ?_
      rintro e w6 ⟨rfl, hb6⟩
      have Hb6 := Lib.hid ((Hbel6.out.alloc Hbel6.out.size (.cells #[.int .i64 0, .int .i64 2, .int .i64 0, .int .i64 1, .int .i64 0, .int .i64 2] 42)).trans (hb6.mono (Nat.le_trans Hbel6.out.size (by simp))))
      clear hb6
      go_wp2
      go_ret
      exact ⟨rfl, Hb6.out⟩
end Go.Proofs.Ythdlmnkefheliaa
