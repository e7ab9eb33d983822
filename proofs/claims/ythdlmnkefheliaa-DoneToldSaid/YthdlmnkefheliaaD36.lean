import Derived.Test.YthdlmnkefheliaaD35
import Derived.Test.YthdlmnkefheliaaP7
set_option linter.unusedVariables false
set_option linter.unusedSimpArgs false
namespace Go.Proofs.Ythdlmnkefheliaa
open Go.RowKit

theorem quietr_calls (b : Bool) (t : Thr) (v : Value) (w : World) (hb : quietM t = (b, 0)) (hv : ThrV w v t) (hl : t.Lens) : Calls Try.prog 40 #[v] w fun e w' => e = .returned (.tuple #[.bool b, .int .i64 0]) ∧ Below w.heap.size w w' := by
  have := quiet_calls t v w hv hl
  rw [hb] at this; exact this
set_option maxRecDepth 100000 in
set_option maxHeartbeats 8000000 in
theorem told_law_calls (procs grain : Int) (cs : List (Int × Int × Int)) (A : Option Addr) (c : Nat) (ch : List Int) (A' : Option Addr) (c' : Nat) (w : World) (hr : Rd w A (cs.flatMap encL)) (hlm : cs.length ≤ 9223372036854775807)
    (hr' : Rd w A' (ch.flatMap encI)) (hlm' : ch.length ≤ 9223372036854775807) :
    Calls Try.prog 13 #[.int .i64 procs, .int .i64 grain, .slice A cs.length c, .slice A' ch.length c'] w fun e w' => e = .returned (.bool true) ∧ Below w.heap.size w w' := by
  have Hr := Lib.hid hr; clear hr
  have Hrc := Lib.hid hr'; clear hr'
  go_enter Try.func13, Try.ntmps13
  go_wp2_with fail
  refine (sane_calls _).mono ?_
  rintro e w1 ⟨rfl, hb1⟩
  have Hb1 := Lib.hid hb1; clear hb1
  go_wp2_with fail
  refine (new_calls procs grain _).mono ?_
  obtain ⟨r, hr⟩ : ∃ r, r = newM procs grain := ⟨_, rfl⟩
  rw [← hr]
  have hnc := newM_cases procs grain
  rw [← hr] at hnc
  have Hr' := Lib.hid hr; clear hr
  obtain ⟨⟨gr, ou, ps, ms, en⟩, n⟩ := r
  rintro e w2 ⟨v2, rfl, hv2, hb2⟩
  simp only at hv2 hnc
  have hv2' := hv2
  obtain ⟨A1, c1, A2, c2, rfl, -, -⟩ := hv2'
  have Hb2 := Lib.hid (Hb1.out.trans (hb2.mono Hb1.out.size)); clear hb2
  have Hv2 := Lib.hid (hv2.lower (B' := w.heap.size) Hb1.out.size); clear hv2
  rcases hnc with hn | hn
  case inr =>
    simp only [Prod.mk.injEq] at hn
    obtain ⟨-, rfl⟩ := hn
    go_wp2
    go_ret
    exact ⟨rfl, Hb2.out.alloc Hb2.out.size _⟩
  subst hn
  have hz := Inv.start (p := procs) (g := grain) (by rw [← Hr'.out])
  rw [← Hr'.out] at hz
  have Hz := Lib.hid hz; clear hz
  by_cases hs : cs.length ≤ 60
  case neg =>
    go_wp2_with fail
    refine (short_calls false _ _ _ _ (by simp; omega) hlm).mono ?_
    rintro e w3 ⟨rfl, rfl⟩
    go_wp2
    go_ret
    exact ⟨rfl, Hb2.out.alloc Hb2.out.size _⟩
  by_cases hch : 1000 < ch.length
  · have hcb : decide (1000 < ch.length) = true := decide_eq_true hch
    have hcb2 : decide ((1000 : Int) < (ch.length : Int)) = true := decide_eq_true (by omega)
    go_wp2_with fail
    refine (short_calls true _ _ _ _ (by simp; omega) hlm).mono ?_
    rintro e w3 ⟨rfl, rfl⟩
    go_wp2
    go_ret
    exact ⟨rfl, Hb2.out.alloc Hb2.out.size _⟩
  have hcb : decide (1000 < ch.length) = false := decide_eq_false hch
  have hcb2 : decide ((1000 : Int) < (ch.length : Int)) = false := decide_eq_false (by omega)
  go_wp2_with fail
  refine (short_calls true _ _ _ _ (by simp; omega) hlm).mono ?_
  rintro e w3 ⟨rfl, rfl⟩
  have hbox := BoxT.new (t := ⟨gr, ou, ps, ms, en⟩) Hv2.out
  have Hbox := Lib.hid hbox; clear hbox
  have Hw2 := Lib.hid Hb2.out.size
  go_wp2_with fail
  go_loopw [11, 45] (fun s i wr => ∃ (k : Nat) (t : Thr) (st : Bool), k ≤ cs.length ∧ i = .int .i64 k ∧ s = .bool st ∧ BoxT wr w2.heap.size w.heap.size t ∧ Below w.heap.size w wr ∧ Inv k t st) (fun _ i _ => cs.length - (intOf i).toNat)
  case atStart => exact ⟨0, _, false, Nat.zero_le _, rfl, rfl, Hbox.out, Hb2.out.alloc Hb2.out.size _, Hz.out⟩
  case round =>
    obtain ⟨k, t, st, hk, rfl, rfl, hbx, hbr, hinv⟩ := hrel
    have Hbr := Lib.hid hbr; clear hbr
    by_cases hlt : k < cs.length
    case neg =>
      have hke : k = cs.length := by omega
      subst hke
      clear hbx
      go_wp2
      go_ret
      exact ⟨rfl, Hbr.out⟩
    obtain ⟨x, hx⟩ : ∃ x, cs[k]? = some x := ⟨_, List.getElem?_eq_getElem hlt⟩
    obtain ⟨g, off, rfl, e0, e1, e2⟩ := Rd.atL (Hr.out.below Hbr.out (Nat.le_refl _)) hx
    clear hx
    obtain ⟨x0, x1, x2⟩ := x
    simp only at e0 e1 e2
    obtain ⟨D1, d1, D2, d2, hblk, hF⟩ := hbx.open_
    have Hbx := Lib.hid hbx; clear hbx
    obtain ⟨⟨b0, b1, b2, b3, b4⟩, -⟩ := hblk.five
    have hblt := hblk.lt
    have Hblk := Lib.hid hblk; clear hblk
    have hlens := ok_lens hinv.ok
    have Hinv := Lib.hid hinv
    have Hst := Lib.hid (hinv.step (k := x0) (a := x1) (b := x2))
    have hcall := do_calls x0 x1 x2 t _ (wr.alloc (.cells #[.int .i64 x0, .int .i64 x1, .int .i64 x2] 47)) (hF.alloc _).val hlens
    obtain ⟨r, hr⟩ : ∃ r, r = doM x0 x1 x2 t := ⟨_, rfl⟩
    rw [← hr] at hcall
    have Hcall := Lib.hid hcall
    have Hrr := Lib.hid hr
    clear hcall hr hF hlens hinv
    go_wp2_with fail
    refine Hcall.out.mono ?_
    obtain ⟨⟨gr2, ou2, ps2, ms2, en2⟩, n2⟩ := r
    rintro e w4 ⟨v4, rfl, hv4, hb4⟩
    simp only at hv4
    have hv4' := hv4
    obtain ⟨G1, g1, G2, g2, rfl, -, -⟩ := hv4'
    have hwr : wr.heap.size ≤ (wr.alloc (.cells #[.int .i64 x0, .int .i64 x1, .int .i64 x2] 47)).heap.size := by simp
    have hb4' : Below wr.heap.size wr w4 := ((Below.refl _ wr).alloc (Nat.le_refl _) _).trans (hb4.mono hwr)
    have Hxb := Lib.hid ((Blk.new wr 47 #[.int .i64 x0, .int .i64 x1, .int .i64 x2]).below hb4 (Blk.new wr 47 #[.int .i64 x0, .int .i64 x1, .int .i64 x2]).lt)
    have Hblk4 := Lib.hid (Hblk.out.below hb4' Hblk.out.lt)
    have Hbx4 := Lib.hid (Hbx.out.below hb4' (Nat.le_refl _))
    have Hbr4 := Lib.hid (Hbr.out.trans (hb4'.mono Hbr.out.size))
    have Hv5 := Lib.hid (hv4.lower (B' := w.heap.size) (Nat.le_trans Hbr.out.size hwr))
    clear hv4 hb4 hb4' hwr b0 b1 b2 b3 b4 e0 e1 e2
    by_cases hn2 : n2 = 0
    case neg =>
      have hnb : (n2 != 0) = true := by simpa using hn2
      clear hn2
      go_wp2
      go_roundw
      case rel => exact ⟨k + 1, t, st, by omega, by go_num, rfl, Hbx4.out.alloc _, Hbr4.out.alloc Hbr4.out.size _, Hinv.out.more⟩
      case measure => simp [intOf]; omega
    subst hn2
    have hinv2 := Hst.out (by rw [← Hrr.out])
    rw [← Hrr.out] at hinv2
    simp only at hinv2
    have Hinv2 := Lib.hid hinv2
    have hok2 := hinv2.ok
    have Hgd2 := Lib.hid (Thr.good_iff.1 hok2)
    have Hlens2 := Lib.hid (ok_lens hok2)
    have hqg := quiet_goals hok2
    have heg := ended_goals hok2
    have hqm : ∀ b, quietB ⟨gr2, ou2, ps2, ms2, en2⟩ = b → quietM ⟨gr2, ou2, ps2, ms2, en2⟩ = (b, 0) := fun b hb => by rw [quietM, if_pos hok2, hb]
    obtain ⟨qb, hqb⟩ : ∃ qb, quietB ⟨gr2, ou2, ps2, ms2, en2⟩ = qb := ⟨_, rfl⟩
    have Hqm := Lib.hid (hqm qb hqb)
    rw [hqb] at hqg
    have hgb := Hgd2.out.gls.bd
    obtain ⟨hg0, -⟩ := hgb
    obtain ⟨G, hG⟩ : ∃ G, Thr.goals ⟨gr2, ou2, ps2, ms2, en2⟩ = G := ⟨_, rfl⟩
    rw [hG] at hqg heg hg0
    have HG := Lib.hid hG
    have Heg := Lib.hid heg
    have Hqg := Lib.hid hqg
    clear hinv2 hok2 hqm hqb hG heg hqg
    obtain ⟨⟨b0, b1, b2, b3, b4⟩, ⟨f0, f1, f2, f3, f4⟩⟩ := Hblk4.out.five
    have hlt4 := Hblk4.out.lt
    have hxl := Hxb.out.lt
    have q0 : w4.cell? ⟨wr.heap.size, 0, none⟩ = some (.int .i64 x0) := by rw [Hxb.out.cell 0]; rfl
    have hne : wr.heap.size ≠ w2.heap.size := by omega
    have hne2 : w4.heap.size ≠ w2.heap.size := by omega
    obtain ⟨WS, hWS⟩ : ∃ WS, WS = (((((w4.setCell ⟨w2.heap.size, 0, none⟩ (.int .i64 gr2)).setCell ⟨w2.heap.size, 1, none⟩ (.int .i64 ou2)).setCell ⟨w2.heap.size, 2, none⟩ (.slice G1 ps2.length g1)).setCell ⟨w2.heap.size, 3, none⟩ (.slice G2 ms2.length g2)).setCell ⟨w2.heap.size, 4, none⟩ (.bool en2)).alloc (.cells #[.int .i64 gr2, .int .i64 ou2, .slice G1 ps2.length g1, .slice G2 ms2.length g2, .bool en2] 25) := ⟨_, rfl⟩
    have HboxS : Hid (BoxT WS w2.heap.size w.heap.size ⟨gr2, ou2, ps2, ms2, en2⟩) := Lib.hid (by rw [hWS]; exact (BoxT.store (t := ⟨gr2, ou2, ps2, ms2, en2⟩) Hblk4.out Hv5.out).alloc _)
    have HbelS : Hid (Below w.heap.size w WS) := Lib.hid (by rw [hWS]; exact (below_set5 Hbr4.out Hw2.out _ _ _ _ _).alloc (below_set5 Hbr4.out Hw2.out _ _ _ _ _).size _)
    have HFS : Hid (ThrF w.heap.size WS (.agg #[.int .i64 gr2, .int .i64 ou2, .slice G1 ps2.length g1, .slice G2 ms2.length g2, .bool en2]) ⟨gr2, ou2, ps2, ms2, en2⟩) := Lib.hid (by rw [hWS]; exact (Hv5.out.set5 Hblk4.out _ _ _ _ _).alloc _)
    have HuS : Hid (Blk WS w4.heap.size 25 #[.int .i64 gr2, .int .i64 ou2, .slice G1 ps2.length g1, .slice G2 ms2.length g2, .bool en2]) := Lib.hid (by
      rw [hWS]
      have := Blk.new (((((w4.setCell ⟨w2.heap.size, 0, none⟩ (.int .i64 gr2)).setCell ⟨w2.heap.size, 1, none⟩ (.int .i64 ou2)).setCell ⟨w2.heap.size, 2, none⟩ (.slice G1 ps2.length g1)).setCell ⟨w2.heap.size, 3, none⟩ (.slice G2 ms2.length g2)).setCell ⟨w2.heap.size, 4, none⟩ (.bool en2)) 25 #[.int .i64 gr2, .int .i64 ou2, .slice G1 ps2.length g1, .slice G2 ms2.length g2, .bool en2]
      simpa using this)
    have HbkS : Hid (Blk WS w2.heap.size 25 #[.int .i64 gr2, .int .i64 ou2, .slice G1 ps2.length g1, .slice G2 ms2.length g2, .bool en2]) := Lib.hid (by rw [hWS]; exact (Hblk4.out.five5).alloc _)
    have HWS := Lib.hid hWS; clear hWS
    cases st
    case true =>
      rw [Bool.true_or] at Hinv2
      cases qb
      · have hgn : G ≠ 0 := by have := Hqg.out; simpa using this
        cases en2
        case true => exact absurd (Heg.out rfl) hgn
        have hgf : (G == 0) = false := beq_eq_false_iff_ne.2 hgn
        clear hgn
        go_wp2_with fail
        rw [← HWS.out]
        refine (quietr_calls false ⟨gr2, ou2, ps2, ms2, false⟩ _ _ Hqm.out HFS.out.val Hlens2.out).mono ?_
        rintro e w6 ⟨rfl, hb6⟩
        have HboxB := Lib.hid (HboxS.out.below hb6 (Nat.le_refl _))
        have HFB := Lib.hid (HFS.out.below hb6 (Nat.le_refl _))
        have HuB := Lib.hid (HuS.out.below hb6 HuS.out.lt)
        have HbkB := Lib.hid (HbkS.out.below hb6 HbkS.out.lt)
        have HbelB := Lib.hid (HbelS.out.trans (hb6.mono HbelS.out.size))
        have HrB := Lib.hid (show Below WS.heap.size WS _ from hb6)

        clear hb6 b0 b1 b2 b3 b4 f0 f1 f2 f3 f4
        obtain ⟨⟨b0, b1, b2, b3, b4⟩, ⟨f0, f1, f2, f3, f4⟩⟩ := HbkB.out.five
        have lb := HbkB.out.lt
        go_wp2_with fail
        refine (goalsr_calls G ⟨gr2, ou2, ps2, ms2, false⟩ _ _ HG.out.symm HFB.out.val Hgd2.out.gls).mono ?_
        rintro e w7 ⟨rfl, hb7⟩
        have HboxC := Lib.hid (HboxB.out.below hb7 (Nat.le_refl _))
        have HFC := Lib.hid (HFB.out.below hb7 (Nat.le_refl _))
        have HuC := Lib.hid (HuB.out.below hb7 HuB.out.lt)
        have HbkC := Lib.hid (HbkB.out.below hb7 HbkB.out.lt)
        have HbelC := Lib.hid (HbelB.out.trans (hb7.mono HbelB.out.size))
        have HrC := Lib.hid (show Below WS.heap.size WS _ from HrB.out.trans (hb7.mono HrB.out.size))

        clear hb7 b0 b1 b2 b3 b4 f0 f1 f2 f3 f4
        obtain ⟨⟨b0, b1, b2, b3, b4⟩, ⟨f0, f1, f2, f3, f4⟩⟩ := HbkC.out.five
        have lc := HbkC.out.lt
        go_wp2
        go_roundw
        case rel => exact ⟨k + 1, ⟨gr2, ou2, ps2, ms2, false⟩, true, by omega, by go_num, rfl, HboxC.out, HbelC.out, Hinv2.out⟩
        case measure => simp [intOf]; omega
      · have hgz : G = 0 := by have := Hqg.out; simpa using this
        have HG0 := Lib.hid (hgz.symm.trans HG.out.symm)
        clear hgz
        cases en2
        · skip
          go_wp2_with fail
          rw [← HWS.out]
          refine (quietr_calls true ⟨gr2, ou2, ps2, ms2, false⟩ _ _ Hqm.out HFS.out.val Hlens2.out).mono ?_
          rintro e w6 ⟨rfl, hb6⟩
          have HboxB := Lib.hid (HboxS.out.below hb6 (Nat.le_refl _))
          have HFB := Lib.hid (HFS.out.below hb6 (Nat.le_refl _))
          have HuB := Lib.hid (HuS.out.below hb6 HuS.out.lt)
          have HbkB := Lib.hid (HbkS.out.below hb6 HbkS.out.lt)
          have HbelB := Lib.hid (HbelS.out.trans (hb6.mono HbelS.out.size))
          have HrB := Lib.hid (show Below WS.heap.size WS _ from hb6)

          clear hb6 b0 b1 b2 b3 b4 f0 f1 f2 f3 f4
          obtain ⟨⟨b0, b1, b2, b3, b4⟩, ⟨f0, f1, f2, f3, f4⟩⟩ := HbkB.out.five
          have lb := HbkB.out.lt
          go_wp2_with fail
          refine (goalsr_calls 0 ⟨gr2, ou2, ps2, ms2, false⟩ _ _ HG0.out HFB.out.val Hgd2.out.gls).mono ?_
          rintro e w7 ⟨rfl, hb7⟩
          have HboxC := Lib.hid (HboxB.out.below hb7 (Nat.le_refl _))
          have HFC := Lib.hid (HFB.out.below hb7 (Nat.le_refl _))
          have HuC := Lib.hid (HuB.out.below hb7 HuB.out.lt)
          have HbkC := Lib.hid (HbkB.out.below hb7 HbkB.out.lt)
          have HbelC := Lib.hid (HbelB.out.trans (hb7.mono HbelB.out.size))
          have HrC := Lib.hid (show Below WS.heap.size WS _ from HrB.out.trans (hb7.mono HrB.out.size))

          clear hb7 b0 b1 b2 b3 b4 f0 f1 f2 f3 f4
          obtain ⟨⟨b0, b1, b2, b3, b4⟩, ⟨f0, f1, f2, f3, f4⟩⟩ := HbkC.out.five
          have lc := HbkC.out.lt
          obtain ⟨nn, hset, hend, hout⟩ := Inv.told Hinv2.out (by omega) HG0.out.symm ch
          have hcall := settle_calls ⟨gr2, ou2, ps2, ms2, false⟩ _ ch A' c' w7 HFC.out.val Hlens2.out (Hrc.out.below HbelC.out (Nat.le_refl _)) (by omega)
          rw [hset] at hcall
          obtain ⟨te, hte⟩ : ∃ te, te = Thr.endsAt ⟨gr2, ou2, ps2, ms2, false⟩ := ⟨_, rfl⟩
          rw [← hte] at hcall hend hout
          have Hcall9 := Lib.hid hcall
          clear hset hcall hte
          obtain ⟨gre, oue, pse, mse, ene⟩ := te
          simp only at hend hout
          subst hend hout
          obtain ⟨⟨c0, c1', c2', c3', c4⟩, ⟨k0, k1, k2, k3, k4⟩⟩ := HuC.out.five
          have lu := HuC.out.lt
          go_wp2_with fail
          refine Hcall9.out.mono ?_
          rintro e w8 ⟨v8, rfl, hv8, hb8⟩
          simp only at hv8
          have hv8' := hv8
          obtain ⟨I1, i1, I2, i2, rfl, -, -⟩ := hv8'
          have HboxD := Lib.hid (HboxC.out.below hb8 (Nat.le_refl _))
          have HFD := Lib.hid (HFC.out.below hb8 (Nat.le_refl _))
          have HuD := Lib.hid (HuC.out.below hb8 HuC.out.lt)
          have HbkD := Lib.hid (HbkC.out.below hb8 HbkC.out.lt)
          have HbelD := Lib.hid (HbelC.out.trans (hb8.mono HbelC.out.size))
          have HrD := Lib.hid (show Below WS.heap.size WS _ from HrC.out.trans (hb8.mono HrC.out.size))

          clear hb8 b0 b1 b2 b3 b4 f0 f1 f2 f3 f4 c0 c1' c2' c3' c4 k0 k1 k2 k3 k4
          obtain ⟨⟨c0, c1', c2', c3', c4⟩, ⟨k0, k1, k2, k3, k4⟩⟩ := HuD.out.five
          have lu8 := HuD.out.lt
          have hbs := HboxD.out.set5 HuD.out hne2.symm (.int .i64 gre) (.int .i64 0) (.slice I1 pse.length i1) (.slice I2 mse.length i2) (.bool true)
          have hbl := below_set5 HbelD.out (show w.heap.size ≤ w4.heap.size from Hbr4.out.size) (.int .i64 gre) (.int .i64 0) (.slice I1 pse.length i1) (.slice I2 mse.length i2) (.bool true)
          have Hbs := Lib.hid hbs
          have Hbl := Lib.hid hbl
          clear hbs hbl hv8
          go_wp2
          go_roundw
          case rel => exact ⟨k + 1, ⟨gr2, ou2, ps2, ms2, false⟩, true, by omega, by go_num, rfl, Hbs.out, Hbl.out, Hinv2.out⟩
          case measure => simp [intOf]; omega
        · skip
          go_wp2_with fail
          rw [← HWS.out]
          refine (goalsr_calls 0 ⟨gr2, ou2, ps2, ms2, true⟩ _ _ HG0.out HFS.out.val Hgd2.out.gls).mono ?_
          rintro e w5 ⟨rfl, hb5⟩
          have HboxA := Lib.hid (HboxS.out.below hb5 (Nat.le_refl _))
          have HFA := Lib.hid (HFS.out.below hb5 (Nat.le_refl _))
          have HuA := Lib.hid (HuS.out.below hb5 HuS.out.lt)
          have HbkA := Lib.hid (HbkS.out.below hb5 HbkS.out.lt)
          have HbelA := Lib.hid (HbelS.out.trans (hb5.mono HbelS.out.size))
          have HrA := Lib.hid (show Below WS.heap.size WS _ from hb5)

          clear hb5 b0 b1 b2 b3 b4 f0 f1 f2 f3 f4
          obtain ⟨⟨b0, b1, b2, b3, b4⟩, ⟨f0, f1, f2, f3, f4⟩⟩ := HbkA.out.five
          have la := HbkA.out.lt
          go_wp2_with fail
          refine (quietr_calls true ⟨gr2, ou2, ps2, ms2, true⟩ _ _ Hqm.out HFA.out.val Hlens2.out).mono ?_
          rintro e w6 ⟨rfl, hb6⟩
          have HboxB := Lib.hid (HboxA.out.below hb6 (Nat.le_refl _))
          have HFB := Lib.hid (HFA.out.below hb6 (Nat.le_refl _))
          have HuB := Lib.hid (HuA.out.below hb6 HuA.out.lt)
          have HbkB := Lib.hid (HbkA.out.below hb6 HbkA.out.lt)
          have HbelB := Lib.hid (HbelA.out.trans (hb6.mono HbelA.out.size))
          have HrB := Lib.hid (show Below WS.heap.size WS _ from HrA.out.trans (hb6.mono HrA.out.size))

          clear hb6 b0 b1 b2 b3 b4 f0 f1 f2 f3 f4
          obtain ⟨⟨b0, b1, b2, b3, b4⟩, ⟨f0, f1, f2, f3, f4⟩⟩ := HbkB.out.five
          have lb := HbkB.out.lt
          go_wp2_with fail
          refine (goalsr_calls 0 ⟨gr2, ou2, ps2, ms2, true⟩ _ _ HG0.out HFB.out.val Hgd2.out.gls).mono ?_
          rintro e w7 ⟨rfl, hb7⟩
          have HboxC := Lib.hid (HboxB.out.below hb7 (Nat.le_refl _))
          have HFC := Lib.hid (HFB.out.below hb7 (Nat.le_refl _))
          have HuC := Lib.hid (HuB.out.below hb7 HuB.out.lt)
          have HbkC := Lib.hid (HbkB.out.below hb7 HbkB.out.lt)
          have HbelC := Lib.hid (HbelB.out.trans (hb7.mono HbelB.out.size))
          have HrC := Lib.hid (show Below WS.heap.size WS _ from HrB.out.trans (hb7.mono HrB.out.size))

          clear hb7 b0 b1 b2 b3 b4 f0 f1 f2 f3 f4
          obtain ⟨⟨b0, b1, b2, b3, b4⟩, ⟨f0, f1, f2, f3, f4⟩⟩ := HbkC.out.five
          have lc := HbkC.out.lt
          obtain ⟨nn, hset, hend, hout⟩ := Inv.told Hinv2.out (by omega) HG0.out.symm ch
          have hcall := settle_calls ⟨gr2, ou2, ps2, ms2, true⟩ _ ch A' c' w7 HFC.out.val Hlens2.out (Hrc.out.below HbelC.out (Nat.le_refl _)) (by omega)
          rw [hset] at hcall
          obtain ⟨te, hte⟩ : ∃ te, te = Thr.endsAt ⟨gr2, ou2, ps2, ms2, true⟩ := ⟨_, rfl⟩
          rw [← hte] at hcall hend hout
          have Hcall9 := Lib.hid hcall
          clear hset hcall hte
          obtain ⟨gre, oue, pse, mse, ene⟩ := te
          simp only at hend hout
          subst hend hout
          obtain ⟨⟨c0, c1', c2', c3', c4⟩, ⟨k0, k1, k2, k3, k4⟩⟩ := HuC.out.five
          have lu := HuC.out.lt
          go_wp2_with fail
          refine Hcall9.out.mono ?_
          rintro e w8 ⟨v8, rfl, hv8, hb8⟩
          simp only at hv8
          have hv8' := hv8
          obtain ⟨I1, i1, I2, i2, rfl, -, -⟩ := hv8'
          have HboxD := Lib.hid (HboxC.out.below hb8 (Nat.le_refl _))
          have HFD := Lib.hid (HFC.out.below hb8 (Nat.le_refl _))
          have HuD := Lib.hid (HuC.out.below hb8 HuC.out.lt)
          have HbkD := Lib.hid (HbkC.out.below hb8 HbkC.out.lt)
          have HbelD := Lib.hid (HbelC.out.trans (hb8.mono HbelC.out.size))
          have HrD := Lib.hid (show Below WS.heap.size WS _ from HrC.out.trans (hb8.mono HrC.out.size))

          clear hb8 b0 b1 b2 b3 b4 f0 f1 f2 f3 f4 c0 c1' c2' c3' c4 k0 k1 k2 k3 k4
          obtain ⟨⟨c0, c1', c2', c3', c4⟩, ⟨k0, k1, k2, k3, k4⟩⟩ := HuD.out.five
          have lu8 := HuD.out.lt
          have hbs := HboxD.out.set5 HuD.out hne2.symm (.int .i64 gre) (.int .i64 0) (.slice I1 pse.length i1) (.slice I2 mse.length i2) (.bool true)
          have hbl := below_set5 HbelD.out (show w.heap.size ≤ w4.heap.size from Hbr4.out.size) (.int .i64 gre) (.int .i64 0) (.slice I1 pse.length i1) (.slice I2 mse.length i2) (.bool true)
          have Hbs := Lib.hid hbs
          have Hbl := Lib.hid hbl
          clear hbs hbl hv8
          go_wp2
          go_roundw
          case rel => exact ⟨k + 1, ⟨gr2, ou2, ps2, ms2, true⟩, true, by omega, by go_num, rfl, Hbs.out, Hbl.out, Hinv2.out⟩
          case measure => simp [intOf]; omega
    by_cases hx0 : x0 = 0
    · subst hx0
      rw [show (false || ((0 : Int) == 0)) = true from rfl] at Hinv2
      cases qb
      · have hgn : G ≠ 0 := by have := Hqg.out; simpa using this
        cases en2
        case true => exact absurd (Heg.out rfl) hgn
        have hgf : (G == 0) = false := beq_eq_false_iff_ne.2 hgn
        clear hgn
        go_wp2_with fail
        rw [← HWS.out]
        refine (quietr_calls false ⟨gr2, ou2, ps2, ms2, false⟩ _ _ Hqm.out HFS.out.val Hlens2.out).mono ?_
        rintro e w6 ⟨rfl, hb6⟩
        have HboxB := Lib.hid (HboxS.out.below hb6 (Nat.le_refl _))
        have HFB := Lib.hid (HFS.out.below hb6 (Nat.le_refl _))
        have HuB := Lib.hid (HuS.out.below hb6 HuS.out.lt)
        have HbkB := Lib.hid (HbkS.out.below hb6 HbkS.out.lt)
        have HbelB := Lib.hid (HbelS.out.trans (hb6.mono HbelS.out.size))
        have HrB := Lib.hid (show Below WS.heap.size WS _ from hb6)

        clear hb6 b0 b1 b2 b3 b4 f0 f1 f2 f3 f4
        obtain ⟨⟨b0, b1, b2, b3, b4⟩, ⟨f0, f1, f2, f3, f4⟩⟩ := HbkB.out.five
        have lb := HbkB.out.lt
        go_wp2_with fail
        refine (goalsr_calls G ⟨gr2, ou2, ps2, ms2, false⟩ _ _ HG.out.symm HFB.out.val Hgd2.out.gls).mono ?_
        rintro e w7 ⟨rfl, hb7⟩
        have HboxC := Lib.hid (HboxB.out.below hb7 (Nat.le_refl _))
        have HFC := Lib.hid (HFB.out.below hb7 (Nat.le_refl _))
        have HuC := Lib.hid (HuB.out.below hb7 HuB.out.lt)
        have HbkC := Lib.hid (HbkB.out.below hb7 HbkB.out.lt)
        have HbelC := Lib.hid (HbelB.out.trans (hb7.mono HbelB.out.size))
        have HrC := Lib.hid (show Below WS.heap.size WS _ from HrB.out.trans (hb7.mono HrB.out.size))

        clear hb7 b0 b1 b2 b3 b4 f0 f1 f2 f3 f4
        obtain ⟨⟨b0, b1, b2, b3, b4⟩, ⟨f0, f1, f2, f3, f4⟩⟩ := HbkC.out.five
        have lc := HbkC.out.lt
        go_wp2
        go_roundw
        case rel => exact ⟨k + 1, ⟨gr2, ou2, ps2, ms2, false⟩, true, by omega, by go_num, rfl, HboxC.out, HbelC.out, Hinv2.out⟩
        case measure => simp [intOf]; omega
      · have hgz : G = 0 := by have := Hqg.out; simpa using this
        have HG0 := Lib.hid (hgz.symm.trans HG.out.symm)
        clear hgz
        cases en2
        · skip
          go_wp2_with fail
          rw [← HWS.out]
          refine (quietr_calls true ⟨gr2, ou2, ps2, ms2, false⟩ _ _ Hqm.out HFS.out.val Hlens2.out).mono ?_
          rintro e w6 ⟨rfl, hb6⟩
          have HboxB := Lib.hid (HboxS.out.below hb6 (Nat.le_refl _))
          have HFB := Lib.hid (HFS.out.below hb6 (Nat.le_refl _))
          have HuB := Lib.hid (HuS.out.below hb6 HuS.out.lt)
          have HbkB := Lib.hid (HbkS.out.below hb6 HbkS.out.lt)
          have HbelB := Lib.hid (HbelS.out.trans (hb6.mono HbelS.out.size))
          have HrB := Lib.hid (show Below WS.heap.size WS _ from hb6)

          clear hb6 b0 b1 b2 b3 b4 f0 f1 f2 f3 f4
          obtain ⟨⟨b0, b1, b2, b3, b4⟩, ⟨f0, f1, f2, f3, f4⟩⟩ := HbkB.out.five
          have lb := HbkB.out.lt
          go_wp2_with fail
          refine (goalsr_calls 0 ⟨gr2, ou2, ps2, ms2, false⟩ _ _ HG0.out HFB.out.val Hgd2.out.gls).mono ?_
          rintro e w7 ⟨rfl, hb7⟩
          have HboxC := Lib.hid (HboxB.out.below hb7 (Nat.le_refl _))
          have HFC := Lib.hid (HFB.out.below hb7 (Nat.le_refl _))
          have HuC := Lib.hid (HuB.out.below hb7 HuB.out.lt)
          have HbkC := Lib.hid (HbkB.out.below hb7 HbkB.out.lt)
          have HbelC := Lib.hid (HbelB.out.trans (hb7.mono HbelB.out.size))
          have HrC := Lib.hid (show Below WS.heap.size WS _ from HrB.out.trans (hb7.mono HrB.out.size))

          clear hb7 b0 b1 b2 b3 b4 f0 f1 f2 f3 f4
          obtain ⟨⟨b0, b1, b2, b3, b4⟩, ⟨f0, f1, f2, f3, f4⟩⟩ := HbkC.out.five
          have lc := HbkC.out.lt
          obtain ⟨nn, hset, hend, hout⟩ := Inv.told Hinv2.out (by omega) HG0.out.symm ch
          have hcall := settle_calls ⟨gr2, ou2, ps2, ms2, false⟩ _ ch A' c' w7 HFC.out.val Hlens2.out (Hrc.out.below HbelC.out (Nat.le_refl _)) (by omega)
          rw [hset] at hcall
          obtain ⟨te, hte⟩ : ∃ te, te = Thr.endsAt ⟨gr2, ou2, ps2, ms2, false⟩ := ⟨_, rfl⟩
          rw [← hte] at hcall hend hout
          have Hcall9 := Lib.hid hcall
          clear hset hcall hte
          obtain ⟨gre, oue, pse, mse, ene⟩ := te
          simp only at hend hout
          subst hend hout
          obtain ⟨⟨c0, c1', c2', c3', c4⟩, ⟨k0, k1, k2, k3, k4⟩⟩ := HuC.out.five
          have lu := HuC.out.lt
          go_wp2_with fail
          refine Hcall9.out.mono ?_
          rintro e w8 ⟨v8, rfl, hv8, hb8⟩
          simp only at hv8
          have hv8' := hv8
          obtain ⟨I1, i1, I2, i2, rfl, -, -⟩ := hv8'
          have HboxD := Lib.hid (HboxC.out.below hb8 (Nat.le_refl _))
          have HFD := Lib.hid (HFC.out.below hb8 (Nat.le_refl _))
          have HuD := Lib.hid (HuC.out.below hb8 HuC.out.lt)
          have HbkD := Lib.hid (HbkC.out.below hb8 HbkC.out.lt)
          have HbelD := Lib.hid (HbelC.out.trans (hb8.mono HbelC.out.size))
          have HrD := Lib.hid (show Below WS.heap.size WS _ from HrC.out.trans (hb8.mono HrC.out.size))

          clear hb8 b0 b1 b2 b3 b4 f0 f1 f2 f3 f4 c0 c1' c2' c3' c4 k0 k1 k2 k3 k4
          obtain ⟨⟨c0, c1', c2', c3', c4⟩, ⟨k0, k1, k2, k3, k4⟩⟩ := HuD.out.five
          have lu8 := HuD.out.lt
          have hbs := HboxD.out.set5 HuD.out hne2.symm (.int .i64 gre) (.int .i64 0) (.slice I1 pse.length i1) (.slice I2 mse.length i2) (.bool true)
          have hbl := below_set5 HbelD.out (show w.heap.size ≤ w4.heap.size from Hbr4.out.size) (.int .i64 gre) (.int .i64 0) (.slice I1 pse.length i1) (.slice I2 mse.length i2) (.bool true)
          have Hbs := Lib.hid hbs
          have Hbl := Lib.hid hbl
          clear hbs hbl hv8
          go_wp2
          go_roundw
          case rel => exact ⟨k + 1, ⟨gr2, ou2, ps2, ms2, false⟩, true, by omega, by go_num, rfl, Hbs.out, Hbl.out, Hinv2.out⟩
          case measure => simp [intOf]; omega
        · skip
          go_wp2_with fail
          rw [← HWS.out]
          refine (goalsr_calls 0 ⟨gr2, ou2, ps2, ms2, true⟩ _ _ HG0.out HFS.out.val Hgd2.out.gls).mono ?_
          rintro e w5 ⟨rfl, hb5⟩
          have HboxA := Lib.hid (HboxS.out.below hb5 (Nat.le_refl _))
          have HFA := Lib.hid (HFS.out.below hb5 (Nat.le_refl _))
          have HuA := Lib.hid (HuS.out.below hb5 HuS.out.lt)
          have HbkA := Lib.hid (HbkS.out.below hb5 HbkS.out.lt)
          have HbelA := Lib.hid (HbelS.out.trans (hb5.mono HbelS.out.size))
          have HrA := Lib.hid (show Below WS.heap.size WS _ from hb5)

          clear hb5 b0 b1 b2 b3 b4 f0 f1 f2 f3 f4
          obtain ⟨⟨b0, b1, b2, b3, b4⟩, ⟨f0, f1, f2, f3, f4⟩⟩ := HbkA.out.five
          have la := HbkA.out.lt
          go_wp2_with fail
          refine (quietr_calls true ⟨gr2, ou2, ps2, ms2, true⟩ _ _ Hqm.out HFA.out.val Hlens2.out).mono ?_
          rintro e w6 ⟨rfl, hb6⟩
          have HboxB := Lib.hid (HboxA.out.below hb6 (Nat.le_refl _))
          have HFB := Lib.hid (HFA.out.below hb6 (Nat.le_refl _))
          have HuB := Lib.hid (HuA.out.below hb6 HuA.out.lt)
          have HbkB := Lib.hid (HbkA.out.below hb6 HbkA.out.lt)
          have HbelB := Lib.hid (HbelA.out.trans (hb6.mono HbelA.out.size))
          have HrB := Lib.hid (show Below WS.heap.size WS _ from HrA.out.trans (hb6.mono HrA.out.size))

          clear hb6 b0 b1 b2 b3 b4 f0 f1 f2 f3 f4
          obtain ⟨⟨b0, b1, b2, b3, b4⟩, ⟨f0, f1, f2, f3, f4⟩⟩ := HbkB.out.five
          have lb := HbkB.out.lt
          go_wp2_with fail
          refine (goalsr_calls 0 ⟨gr2, ou2, ps2, ms2, true⟩ _ _ HG0.out HFB.out.val Hgd2.out.gls).mono ?_
          rintro e w7 ⟨rfl, hb7⟩
          have HboxC := Lib.hid (HboxB.out.below hb7 (Nat.le_refl _))
          have HFC := Lib.hid (HFB.out.below hb7 (Nat.le_refl _))
          have HuC := Lib.hid (HuB.out.below hb7 HuB.out.lt)
          have HbkC := Lib.hid (HbkB.out.below hb7 HbkB.out.lt)
          have HbelC := Lib.hid (HbelB.out.trans (hb7.mono HbelB.out.size))
          have HrC := Lib.hid (show Below WS.heap.size WS _ from HrB.out.trans (hb7.mono HrB.out.size))

          clear hb7 b0 b1 b2 b3 b4 f0 f1 f2 f3 f4
          obtain ⟨⟨b0, b1, b2, b3, b4⟩, ⟨f0, f1, f2, f3, f4⟩⟩ := HbkC.out.five
          have lc := HbkC.out.lt
          obtain ⟨nn, hset, hend, hout⟩ := Inv.told Hinv2.out (by omega) HG0.out.symm ch
          have hcall := settle_calls ⟨gr2, ou2, ps2, ms2, true⟩ _ ch A' c' w7 HFC.out.val Hlens2.out (Hrc.out.below HbelC.out (Nat.le_refl _)) (by omega)
          rw [hset] at hcall
          obtain ⟨te, hte⟩ : ∃ te, te = Thr.endsAt ⟨gr2, ou2, ps2, ms2, true⟩ := ⟨_, rfl⟩
          rw [← hte] at hcall hend hout
          have Hcall9 := Lib.hid hcall
          clear hset hcall hte
          obtain ⟨gre, oue, pse, mse, ene⟩ := te
          simp only at hend hout
          subst hend hout
          obtain ⟨⟨c0, c1', c2', c3', c4⟩, ⟨k0, k1, k2, k3, k4⟩⟩ := HuC.out.five
          have lu := HuC.out.lt
          go_wp2_with fail
          refine Hcall9.out.mono ?_
          rintro e w8 ⟨v8, rfl, hv8, hb8⟩
          simp only at hv8
          have hv8' := hv8
          obtain ⟨I1, i1, I2, i2, rfl, -, -⟩ := hv8'
          have HboxD := Lib.hid (HboxC.out.below hb8 (Nat.le_refl _))
          have HFD := Lib.hid (HFC.out.below hb8 (Nat.le_refl _))
          have HuD := Lib.hid (HuC.out.below hb8 HuC.out.lt)
          have HbkD := Lib.hid (HbkC.out.below hb8 HbkC.out.lt)
          have HbelD := Lib.hid (HbelC.out.trans (hb8.mono HbelC.out.size))
          have HrD := Lib.hid (show Below WS.heap.size WS _ from HrC.out.trans (hb8.mono HrC.out.size))

          clear hb8 b0 b1 b2 b3 b4 f0 f1 f2 f3 f4 c0 c1' c2' c3' c4 k0 k1 k2 k3 k4
          obtain ⟨⟨c0, c1', c2', c3', c4⟩, ⟨k0, k1, k2, k3, k4⟩⟩ := HuD.out.five
          have lu8 := HuD.out.lt
          have hbs := HboxD.out.set5 HuD.out hne2.symm (.int .i64 gre) (.int .i64 0) (.slice I1 pse.length i1) (.slice I2 mse.length i2) (.bool true)
          have hbl := below_set5 HbelD.out (show w.heap.size ≤ w4.heap.size from Hbr4.out.size) (.int .i64 gre) (.int .i64 0) (.slice I1 pse.length i1) (.slice I2 mse.length i2) (.bool true)
          have Hbs := Lib.hid hbs
          have Hbl := Lib.hid hbl
          clear hbs hbl hv8
          go_wp2
          go_roundw
          case rel => exact ⟨k + 1, ⟨gr2, ou2, ps2, ms2, true⟩, true, by omega, by go_num, rfl, Hbs.out, Hbl.out, Hinv2.out⟩
          case measure => simp [intOf]; omega
    have hx0b : (x0 == 0) = false := by simpa using hx0
    rw [hx0b, Bool.or_false] at Hinv2
    clear hx0
    cases qb
    · have hgn : G ≠ 0 := by have := Hqg.out; simpa using this
      cases en2
      case true => exact absurd (Heg.out rfl) hgn
      have hgf : (G == 0) = false := beq_eq_false_iff_ne.2 hgn
      clear hgn
      go_wp2_with fail
      rw [← HWS.out]
      refine (quietr_calls false ⟨gr2, ou2, ps2, ms2, false⟩ _ _ Hqm.out HFS.out.val Hlens2.out).mono ?_
      rintro e w6 ⟨rfl, hb6⟩
      have HboxB := Lib.hid (HboxS.out.below hb6 (Nat.le_refl _))
      have HFB := Lib.hid (HFS.out.below hb6 (Nat.le_refl _))
      have HuB := Lib.hid (HuS.out.below hb6 HuS.out.lt)
      have HbkB := Lib.hid (HbkS.out.below hb6 HbkS.out.lt)
      have HbelB := Lib.hid (HbelS.out.trans (hb6.mono HbelS.out.size))
      have HrB := Lib.hid (show Below WS.heap.size WS _ from hb6)

      clear hb6 b0 b1 b2 b3 b4 f0 f1 f2 f3 f4
      obtain ⟨⟨b0, b1, b2, b3, b4⟩, ⟨f0, f1, f2, f3, f4⟩⟩ := HbkB.out.five
      have lb := HbkB.out.lt
      go_wp2_with fail
      refine (goalsr_calls G ⟨gr2, ou2, ps2, ms2, false⟩ _ _ HG.out.symm HFB.out.val Hgd2.out.gls).mono ?_
      rintro e w7 ⟨rfl, hb7⟩
      have HboxC := Lib.hid (HboxB.out.below hb7 (Nat.le_refl _))
      have HFC := Lib.hid (HFB.out.below hb7 (Nat.le_refl _))
      have HuC := Lib.hid (HuB.out.below hb7 HuB.out.lt)
      have HbkC := Lib.hid (HbkB.out.below hb7 HbkB.out.lt)
      have HbelC := Lib.hid (HbelB.out.trans (hb7.mono HbelB.out.size))
      have HrC := Lib.hid (show Below WS.heap.size WS _ from HrB.out.trans (hb7.mono HrB.out.size))

      clear hb7 b0 b1 b2 b3 b4 f0 f1 f2 f3 f4
      obtain ⟨⟨b0, b1, b2, b3, b4⟩, ⟨f0, f1, f2, f3, f4⟩⟩ := HbkC.out.five
      have lc := HbkC.out.lt
      go_wp2
      go_roundw
      case rel => exact ⟨k + 1, ⟨gr2, ou2, ps2, ms2, false⟩, false, by omega, by go_num, rfl, HboxC.out, HbelC.out, Hinv2.out⟩
      case measure => simp [intOf]; omega
    · have hgz : G = 0 := by have := Hqg.out; simpa using this
      have HG0 := Lib.hid (hgz.symm.trans HG.out.symm)
      clear hgz
      cases en2
      · skip
        go_wp2_with fail
        rw [← HWS.out]
        refine (quietr_calls true ⟨gr2, ou2, ps2, ms2, false⟩ _ _ Hqm.out HFS.out.val Hlens2.out).mono ?_
        rintro e w6 ⟨rfl, hb6⟩
        have HboxB := Lib.hid (HboxS.out.below hb6 (Nat.le_refl _))
        have HFB := Lib.hid (HFS.out.below hb6 (Nat.le_refl _))
        have HuB := Lib.hid (HuS.out.below hb6 HuS.out.lt)
        have HbkB := Lib.hid (HbkS.out.below hb6 HbkS.out.lt)
        have HbelB := Lib.hid (HbelS.out.trans (hb6.mono HbelS.out.size))
        have HrB := Lib.hid (show Below WS.heap.size WS _ from hb6)

        clear hb6 b0 b1 b2 b3 b4 f0 f1 f2 f3 f4
        obtain ⟨⟨b0, b1, b2, b3, b4⟩, ⟨f0, f1, f2, f3, f4⟩⟩ := HbkB.out.five
        have lb := HbkB.out.lt
        go_wp2_with fail
        refine (goalsr_calls 0 ⟨gr2, ou2, ps2, ms2, false⟩ _ _ HG0.out HFB.out.val Hgd2.out.gls).mono ?_
        rintro e w7 ⟨rfl, hb7⟩
        have HboxC := Lib.hid (HboxB.out.below hb7 (Nat.le_refl _))
        have HFC := Lib.hid (HFB.out.below hb7 (Nat.le_refl _))
        have HuC := Lib.hid (HuB.out.below hb7 HuB.out.lt)
        have HbkC := Lib.hid (HbkB.out.below hb7 HbkB.out.lt)
        have HbelC := Lib.hid (HbelB.out.trans (hb7.mono HbelB.out.size))
        have HrC := Lib.hid (show Below WS.heap.size WS _ from HrB.out.trans (hb7.mono HrB.out.size))

        clear hb7 b0 b1 b2 b3 b4 f0 f1 f2 f3 f4
        obtain ⟨⟨b0, b1, b2, b3, b4⟩, ⟨f0, f1, f2, f3, f4⟩⟩ := HbkC.out.five
        have lc := HbkC.out.lt
        go_wp2
        go_roundw
        case rel => exact ⟨k + 1, ⟨gr2, ou2, ps2, ms2, false⟩, false, by omega, by go_num, rfl, HboxC.out, HbelC.out, Hinv2.out⟩
        case measure => simp [intOf]; omega
      · skip
        go_wp2_with fail
        rw [← HWS.out]
        refine (goalsr_calls 0 ⟨gr2, ou2, ps2, ms2, true⟩ _ _ HG0.out HFS.out.val Hgd2.out.gls).mono ?_
        rintro e w5 ⟨rfl, hb5⟩
        have HboxA := Lib.hid (HboxS.out.below hb5 (Nat.le_refl _))
        have HFA := Lib.hid (HFS.out.below hb5 (Nat.le_refl _))
        have HuA := Lib.hid (HuS.out.below hb5 HuS.out.lt)
        have HbkA := Lib.hid (HbkS.out.below hb5 HbkS.out.lt)
        have HbelA := Lib.hid (HbelS.out.trans (hb5.mono HbelS.out.size))
        have HrA := Lib.hid (show Below WS.heap.size WS _ from hb5)

        clear hb5 b0 b1 b2 b3 b4 f0 f1 f2 f3 f4
        obtain ⟨⟨b0, b1, b2, b3, b4⟩, ⟨f0, f1, f2, f3, f4⟩⟩ := HbkA.out.five
        have la := HbkA.out.lt
        go_wp2_with fail
        refine (quietr_calls true ⟨gr2, ou2, ps2, ms2, true⟩ _ _ Hqm.out HFA.out.val Hlens2.out).mono ?_
        rintro e w6 ⟨rfl, hb6⟩
        have HboxB := Lib.hid (HboxA.out.below hb6 (Nat.le_refl _))
        have HFB := Lib.hid (HFA.out.below hb6 (Nat.le_refl _))
        have HuB := Lib.hid (HuA.out.below hb6 HuA.out.lt)
        have HbkB := Lib.hid (HbkA.out.below hb6 HbkA.out.lt)
        have HbelB := Lib.hid (HbelA.out.trans (hb6.mono HbelA.out.size))
        have HrB := Lib.hid (show Below WS.heap.size WS _ from HrA.out.trans (hb6.mono HrA.out.size))

        clear hb6 b0 b1 b2 b3 b4 f0 f1 f2 f3 f4
        obtain ⟨⟨b0, b1, b2, b3, b4⟩, ⟨f0, f1, f2, f3, f4⟩⟩ := HbkB.out.five
        have lb := HbkB.out.lt
        go_wp2_with fail
        refine (goalsr_calls 0 ⟨gr2, ou2, ps2, ms2, true⟩ _ _ HG0.out HFB.out.val Hgd2.out.gls).mono ?_
        rintro e w7 ⟨rfl, hb7⟩
        have HboxC := Lib.hid (HboxB.out.below hb7 (Nat.le_refl _))
        have HFC := Lib.hid (HFB.out.below hb7 (Nat.le_refl _))
        have HuC := Lib.hid (HuB.out.below hb7 HuB.out.lt)
        have HbkC := Lib.hid (HbkB.out.below hb7 HbkB.out.lt)
        have HbelC := Lib.hid (HbelB.out.trans (hb7.mono HbelB.out.size))
        have HrC := Lib.hid (show Below WS.heap.size WS _ from HrB.out.trans (hb7.mono HrB.out.size))

        clear hb7 b0 b1 b2 b3 b4 f0 f1 f2 f3 f4
        obtain ⟨⟨b0, b1, b2, b3, b4⟩, ⟨f0, f1, f2, f3, f4⟩⟩ := HbkC.out.five
        have lc := HbkC.out.lt
        go_wp2
        go_roundw
        case rel => exact ⟨k + 1, ⟨gr2, ou2, ps2, ms2, true⟩, false, by omega, by go_num, rfl, HboxC.out, HbelC.out, Hinv2.out⟩
        case measure => simp [intOf]; omega
end Go.Proofs.Ythdlmnkefheliaa
