import Derived.Test.YthdlmnkefheliaaD30
import Derived.Deep.RegionHeld3
import Derived.Deep.DrawnRows
set_option linter.unusedVariables false
set_option linter.unusedSimpArgs false
namespace Go.Proofs.Ythdlmnkefheliaa
open Go.RowKit
attribute [local go_sem ↓] Go.wp_at_zero Go.wp_at_succ

theorem lawWeightsr_calls (r : Int) (t : Thr) (v : Value) (w : World) (hr : t.wsum = r) (hv : ThrV w v t) (hw : t.Wts) :
    Calls Try.prog 30 #[v] w fun e w' => e = .returned (.int .i64 r) ∧ Below w.heap.size w w' := by subst hr; exact lawWeights_calls t v w hv hw
theorem checkr_calls (r : Int) (t : Thr) (v : Value) (w : World) (hr : t.check = r) (hv : ThrV w v t) (hl : t.Lens) :
    Calls Try.prog 20 #[v] w fun e w' => e = .returned (.int .i64 r) ∧ Below w.heap.size w w' := by subst hr; exact check_calls t v w hv hl
theorem keep_cell {W W' : World} {a : Addr} {v : Value} (hb : Below W.heap.size W W') (h : W.cell? a = some v) : W'.cell? a = some v :=
  (hb.cell (World.block_lt_of_cell? W a h)).trans h
theorem keep_thrF {W W' : World} {B : Nat} {v : Value} {t : Thr} (hb : Below W.heap.size W W') (h : Hid (ThrF B W v t)) : Hid (ThrF B W' v t) := Lib.hid (h.out.below hb (Nat.le_refl _))
theorem keep_box {W W' : World} {b B : Nat} {t : Thr} (hb : Below W.heap.size W W') (h : Hid (BoxT W b B t)) : Hid (BoxT W' b B t) := Lib.hid (h.out.below hb (Nat.le_refl _))
theorem keep_blk {W W' : World} {b T : Nat} {cs : Array Value} (hb : Below W.heap.size W W') (h : Hid (Blk W b T cs)) : Hid (Blk W' b T cs) := Lib.hid (h.out.below hb h.out.lt)
theorem keep_below {W0 W W' : World} (hb : Below W.heap.size W W') (h : Hid (Below W0.heap.size W0 W)) : Hid (Below W0.heap.size W0 W') := Lib.hid (h.out.trans (hb.mono h.out.size))
theorem hid_thrF_drew {W : World} {B : Nat} {v : Value} {t : Thr} (h : Hid (ThrF B W v t)) : Hid (ThrF B W.drew v t) := h
theorem hid_box_drew {W : World} {b B : Nat} {t : Thr} (h : Hid (BoxT W b B t)) : Hid (BoxT W.drew b B t) := h
theorem hid_blk_drew {W : World} {b T : Nat} {cs : Array Value} (h : Hid (Blk W b T cs)) : Hid (Blk W.drew b T cs) := h
theorem hid_below_drew {B : Nat} {W0 W : World} (h : Hid (Below B W0 W)) : Hid (Below B W0 W.drew) := Lib.hid h.out.drew
theorem Thr.Good.wts {t : Thr} (h : t.Good) : t.Wts := ⟨fun x hx => ((holder_iff x).1 (h.pr x hx)).2.1, fun x hx => by
  have := (letter_iff _ _).1 (h.le x hx); omega, h.pl1, h.ml⟩
theorem newM_cases (p g : Int) : (newM p g).2 = 0 ∨ newM p g = (Thr.zero, 1) := by
  unfold newM; split
  · exact .inl rfl
  · exact .inr rfl

set_option maxRecDepth 100000 in
set_option maxHeartbeats 4000000 in
theorem invariant_calls (procs grain : Int) (cs : List (Int × Int × Int)) (A : Option Addr) (c : Nat) (w : World) (hr : Rd w A (cs.flatMap encL)) (hlm : cs.length ≤ 9223372036854775807) :
    Calls Try.prog 6 #[.int .i64 procs, .int .i64 grain, .slice A cs.length c] w fun e w' => e = .returned (.bool true) ∧ Below w.heap.size w w' := by
  have Hr := Lib.hid hr; clear hr
  go_enter Try.func6, Try.ntmps6
  go_wp2_with fail
  refine (sane_calls _).mono ?_
  rintro e w1 ⟨rfl, hb1⟩
  have Hb1 := Lib.hid hb1; clear hb1
  go_wp2_with fail
  refine (new_calls procs grain _).mono ?_
  obtain ⟨r, hr⟩ : ∃ r, r = newM procs grain := ⟨_, rfl⟩
  rw [← hr]
  have hnc := newM_cases procs grain
  rw [← hr] at hnc
  have Hr' := Lib.hid hr; clear hr
  obtain ⟨⟨gr, ou, ps, ms, en⟩, n⟩ := r
  rintro e w2 ⟨v2, rfl, hv2, hb2⟩
  simp only at hv2 hnc
  have hv2' := hv2
  obtain ⟨A1, c1, A2, c2, rfl, -, -⟩ := hv2'
  have Hb2 := Lib.hid (Hb1.out.trans (hb2.mono Hb1.out.size)); clear hb2
  have Hv2 := Lib.hid (hv2.lower (B' := w.heap.size) Hb1.out.size); clear hv2
  rcases hnc with hn | hn
  case inr =>
    simp only [Prod.mk.injEq] at hn
    obtain ⟨-, rfl⟩ := hn
    go_wp2
    go_ret
    exact ⟨rfl, Hb2.out.alloc Hb2.out.size _⟩
  subst hn
  have hz := newM_ok (p := procs) (g := grain) (by rw [← Hr'.out])
  rw [← Hr'.out] at hz
  have Hz := Lib.hid hz; clear hz
  by_cases hs : cs.length ≤ 60
  case neg =>
    go_wp2_with fail
    refine (short_calls false _ _ _ _ (by simp; omega) hlm).mono ?_
    rintro e w3 ⟨rfl, rfl⟩
    go_wp2
    go_ret
    exact ⟨rfl, Hb2.out.alloc Hb2.out.size _⟩
  go_wp2_with fail
  refine (short_calls true _ _ _ _ (by simp; omega) hlm).mono ?_
  rintro e w3 ⟨rfl, rfl⟩
  have hbox := BoxT.new (t := ⟨gr, ou, ps, ms, en⟩) Hv2.out
  have Hbox := Lib.hid hbox; clear hbox
  have Hw2 := Lib.hid Hb2.out.size
  go_wp2_with fail
  go_loopw [38] (fun i wr => ∃ (k : Nat) (t : Thr), k ≤ cs.length ∧ i = .int .i64 k ∧ BoxT wr w2.heap.size w.heap.size t ∧ Below w.heap.size w wr ∧ t.ok = true) (fun i _ => cs.length - (intOf i).toNat)
  case atStart => exact ⟨0, _, Nat.zero_le _, rfl, Hbox.out, Hb2.out.alloc Hb2.out.size _, Hz.out.1⟩
  case round =>
    obtain ⟨k, t, hk, rfl, hbx, hbr, hok⟩ := hrel
    have Hbr := Lib.hid hbr; clear hbr
    by_cases hlt : k < cs.length
    case neg =>
      have hke : k = cs.length := by omega
      subst hke
      clear hbx
      go_wp2
      go_ret
      exact ⟨rfl, Hbr.out⟩
    obtain ⟨x, hx⟩ : ∃ x, cs[k]? = some x := ⟨_, List.getElem?_eq_getElem hlt⟩
    obtain ⟨g, off, rfl, e0, e1, e2⟩ := Rd.atL (Hr.out.below Hbr.out (Nat.le_refl _)) hx
    clear hx
    obtain ⟨x0, x1, x2⟩ := x
    simp only at e0 e1 e2
    obtain ⟨D1, d1, D2, d2, hblk, hF⟩ := hbx.open_
    have Hbx := Lib.hid hbx; clear hbx
    obtain ⟨⟨b0, b1, b2, b3, b4⟩, -⟩ := hblk.five
    have hblt := hblk.lt
    have Hblk := Lib.hid hblk; clear hblk
    have hlens := ok_lens hok
    have Hst := Lib.hid (do_step x0 x1 x2 t)
    have hcall := do_calls x0 x1 x2 t _ (wr.alloc (.cells #[.int .i64 x0, .int .i64 x1, .int .i64 x2] 47)) (hF.alloc _).val hlens
    obtain ⟨r, hr⟩ : ∃ r, r = doM x0 x1 x2 t := ⟨_, rfl⟩
    rw [← hr] at hcall
    have Hcall := Lib.hid hcall
    have Hrr := Lib.hid hr
    have Hok := Lib.hid hok
    clear hcall hr hF hlens hok
    go_wp2_with fail
    refine Hcall.out.mono ?_
    obtain ⟨⟨gr2, ou2, ps2, ms2, en2⟩, n2⟩ := r
    rintro e w4 ⟨v4, rfl, hv4, hb4⟩
    simp only at hv4
    have hv4' := hv4
    obtain ⟨G1, g1, G2, g2, rfl, -, -⟩ := hv4'
    have hwr : wr.heap.size ≤ (wr.alloc (.cells #[.int .i64 x0, .int .i64 x1, .int .i64 x2] 47)).heap.size := by simp
    have hb4' : Below wr.heap.size wr w4 := ((Below.refl _ wr).alloc (Nat.le_refl _) _).trans (hb4.mono hwr)
    have Hblk4 := Lib.hid (Hblk.out.below hb4' Hblk.out.lt)
    have Hbx4 := Lib.hid (Hbx.out.below hb4' (Nat.le_refl _))
    have Hbr4 := Lib.hid (Hbr.out.trans (hb4'.mono Hbr.out.size))
    have Hv5 := Lib.hid (hv4.lower (B' := w.heap.size) (Nat.le_trans Hbr.out.size hwr))
    clear hv4 hb4 hb4' hwr b0 b1 b2 b3 b4 e0 e1 e2
    by_cases hn2 : n2 = 0
    case neg =>
      have hzz := Hst.out.1 (by rw [← Hrr.out]; exact hn2)
      rw [← Hrr.out] at hzz
      simp only [Thr.zero, Thr.mk.injEq] at hzz
      obtain ⟨rfl, rfl, rfl, rfl, rfl⟩ := hzz
      have hnb : (n2 != 0) = true := by simpa using hn2
      clear hn2
      go_wp2
      go_roundw
      case rel => exact ⟨k + 1, t, by omega, by go_num, Hbx4.out.alloc _, Hbr4.out.alloc Hbr4.out.size _, Hok.out⟩
      case measure => simp [intOf]; omega
    subst hn2
    have hstep := Hst.out.2 (by rw [← Hrr.out])
    rw [← Hrr.out] at hstep
    have Hstep := Lib.hid hstep
    have Hgd2 := Lib.hid (Thr.good_iff.1 hstep.ok)
    have hpl := hstep.pl
    have hgr := hstep.gr
    simp only at hpl hgr
    clear hstep
    subst hgr
    have hl1 : ((ps2.length : Int) != (t.procs.length : Int)) = false := by simp [hpl]
    have hl2 : (ps2.length != t.procs.length) = false := by simp [hpl]
    have Hpl := Lib.hid hpl; clear hpl
    obtain ⟨W5, hW5⟩ : ∃ W5, W5 = w4.alloc (.cells #[.int .i64 t.grain, .int .i64 ou2, .slice G1 ps2.length g1, .slice G2 ms2.length g2, .bool en2] 25) := ⟨_, rfl⟩
    have hu : Blk W5 w4.heap.size 25 #[.int .i64 t.grain, .int .i64 ou2, .slice G1 ps2.length g1, .slice G2 ms2.length g2, .bool en2] := by rw [hW5]; exact Blk.new _ _ _
    have hF5 : ThrF w.heap.size W5 (.agg #[.int .i64 t.grain, .int .i64 ou2, .slice G1 ps2.length g1, .slice G2 ms2.length g2, .bool en2]) ⟨t.grain, ou2, ps2, ms2, en2⟩ := by rw [hW5]; exact Hv5.out.alloc _
    have hbx5 : BoxT W5 w2.heap.size w.heap.size t := by rw [hW5]; exact Hbx4.out.alloc _
    have hbl5 : Blk W5 w2.heap.size 25 #[.int .i64 t.grain, .int .i64 t.out, .slice D1 t.procs.length d1, .slice D2 t.mail.length d2, .bool t.ended] := by rw [hW5]; exact Hblk4.out.alloc _
    have hbr5 : Below w.heap.size w W5 := by rw [hW5]; exact Hbr4.out.alloc Hbr4.out.size _
    obtain ⟨⟨u0, u1, u2, u3, u4⟩, -⟩ := hu.five
    obtain ⟨⟨b0, b1, b2, b3, b4⟩, -⟩ := hbl5.five
    have HF5 := Lib.hid hF5
    have Hbx5 := Lib.hid hbx5
    have Hbl5 := Lib.hid hbl5
    have Hbr5 := Lib.hid hbr5
    have Hu5 := Lib.hid hu
    have hchk := Thr.check_t (t := ⟨t.grain, ou2, ps2, ms2, en2⟩) Hstep.out.ok
    have hlens2 := ok_lens Hstep.out.ok
    have Hchk := Lib.hid hchk
    have Hlens2 := Lib.hid hlens2
    have HW5 := Lib.hid hW5
    clear hu hF5 hbx5 hbl5 hbr5 hchk hlens2 hW5
    go_wp2_with fail
    rw [← HW5.out]
    go_region_held3 (fun W => (W.cell? ⟨w4.heap.size, 0, none⟩ = some (.int .i64 t.grain) ∧ W.cell? ⟨w4.heap.size, 1, none⟩ = some (.int .i64 ou2) ∧ W.cell? ⟨w4.heap.size, 2, none⟩ = some (.slice G1 ps2.length g1) ∧ W.cell? ⟨w4.heap.size, 3, none⟩ = some (.slice G2 ms2.length g2) ∧ W.cell? ⟨w4.heap.size, 4, none⟩ = some (.bool en2)) ∧
        (W.cell? ⟨w2.heap.size, 0, none⟩ = some (.int .i64 t.grain) ∧ W.cell? ⟨w2.heap.size, 2, none⟩ = some (.slice D1 t.procs.length d1)) ∧
        Hid (ThrF w.heap.size W (.agg #[.int .i64 t.grain, .int .i64 ou2, .slice G1 ps2.length g1, .slice G2 ms2.length g2, .bool en2]) ⟨t.grain, ou2, ps2, ms2, en2⟩) ∧
        Hid (BoxT W w2.heap.size w.heap.size t) ∧ Hid (Blk W w4.heap.size 25 #[.int .i64 t.grain, .int .i64 ou2, .slice G1 ps2.length g1, .slice G2 ms2.length g2, .bool en2]) ∧ Hid (Below w.heap.size w W))
      (first
        | exact ⟨⟨u0, u1, u2, u3, u4⟩, ⟨b0, b2⟩, hid_thrF_drew HF5, hid_box_drew Hbx5, hid_blk_drew Hu5, hid_below_drew Hbr5⟩
        | (go_split_ands
           refine ⟨⟨?_, ?_, ?_, ?_, ?_⟩, ⟨?_, ?_⟩, ?_, ?_, ?_, ?_⟩ <;> first
             | exact keep_cell hb6 (by assumption)
             | exact keep_thrF hb6 (by assumption)
             | exact keep_box hb6 (by assumption)
             | exact keep_blk hb6 (by assumption)
             | exact keep_below hb6 (by assumption)))
      (first
        | (go_at_call 20; refine (checkr_calls 0 ⟨t.grain, ou2, ps2, ms2, en2⟩ _ _ Hchk.out ?_ Hlens2.out).mono ?_; (go_split_ands; exact ThrF.val (Hid.out (by assumption))); rintro e w6 ⟨rfl, hb6⟩)
        | (go_at_call 30; refine (lawWeightsr_calls ou2 ⟨t.grain, ou2, ps2, ms2, en2⟩ _ _ Hgd2.out.sum ?_ Hgd2.out.wts).mono ?_; (go_split_ands; exact ThrF.val (Hid.out (by assumption))); rintro e w6 ⟨rfl, hb6⟩))
    have HF6 : Hid (ThrF w.heap.size w6 (.agg #[.int .i64 t.grain, .int .i64 ou2, .slice G1 ps2.length g1, .slice G2 ms2.length g2, .bool en2]) ⟨t.grain, ou2, ps2, ms2, en2⟩) := by go_split_ands; assumption
    have Hbx6 : Hid (BoxT w6 w2.heap.size w.heap.size t) := by go_split_ands; assumption
    have Hu6 : Hid (Blk w6 w4.heap.size 25 #[.int .i64 t.grain, .int .i64 ou2, .slice G1 ps2.length g1, .slice G2 ms2.length g2, .bool en2]) := by go_split_ands; assumption
    have Hbr6 : Hid (Below w.heap.size w w6) := by go_split_ands; assumption
    clear u0 u1 u2 u3 u4 b0 b1 b2 b3 b4 hb6
    obtain ⟨⟨u0, u1, u2, u3, u4⟩, -⟩ := Hu6.out.five
    have hl16 := Hgd2.out.pl1
    simp only at hl16
    clear hl1 hl2
    go_wp2_with fail
    go_loopw [83] (fun i wr => ∃ j : Nat, j ≤ ps2.length ∧ i = .int .i64 j ∧ BoxT wr w2.heap.size w.heap.size t ∧ Blk wr w4.heap.size 25 #[.int .i64 t.grain, .int .i64 ou2, .slice G1 ps2.length g1, .slice G2 ms2.length g2, .bool en2] ∧
      ThrF w.heap.size wr (.agg #[.int .i64 t.grain, .int .i64 ou2, .slice G1 ps2.length g1, .slice G2 ms2.length g2, .bool en2]) ⟨t.grain, ou2, ps2, ms2, en2⟩ ∧ Below w.heap.size w wr) (fun i _ => ps2.length - (intOf i).toNat)
    case atStart => exact ⟨0, Nat.zero_le _, rfl, Hbx6.out, Hu6.out, HF6.out, Hbr6.out⟩
    case round =>
      obtain ⟨j, hj, rfl, jbx, ju, jF, jbr⟩ := hrel
      clear u0 u1 u2 u3 u4
      by_cases hjl : j < ps2.length
      case neg =>
        have hke : j = ps2.length := by omega
        subst hke
        obtain ⟨E1, e1, E2, e2, jblk, -⟩ := jbx.open_
        obtain ⟨⟨b0, b1, b2, b3, b4⟩, ⟨f0, f1, f2, f3, f4⟩⟩ := jblk.five
        have hblt6 := jblk.lt
        obtain ⟨⟨u0, u1, u2, u3, u4⟩, -⟩ := ju.five
        have hult6 := ju.lt
        have hstore := BoxT.store (t := ⟨t.grain, ou2, ps2, ms2, en2⟩) jblk jF
        have hbels := below_set5 jbr Hw2.out (.int .i64 t.grain) (.int .i64 ou2) (.slice G1 ps2.length g1) (.slice G2 ms2.length g2) (.bool en2)
        have Hstore := Lib.hid hstore
        have Hbels := Lib.hid hbels
        clear hstore hbels jblk jF jbr ju jbx
        go_wp2
        go_roundw
        case rel => exact ⟨k + 1, ⟨t.grain, ou2, ps2, ms2, en2⟩, by omega, by go_num, Hstore.out, Hbels.out, Hstep.out.ok⟩
        case measure => simp [intOf]; omega
      obtain ⟨y, hy⟩ : ∃ y, ps2[j]? = some y := ⟨_, List.getElem?_eq_getElem hjl⟩
      have hho := (holder_iff y).1 (Hgd2.out.pr y (List.mem_of_getElem? hy))
      obtain ⟨g', off', rfl, e0, e1⟩ := Rd.atH (own_rd jF.rows.1) hy
      obtain ⟨y1, y2⟩ := y
      simp only at e0 e1 hho
      obtain ⟨⟨h0, -⟩, ⟨h1, -⟩, h2⟩ := hho
      have H2 := Lib.hid h2
      have Jbx := Lib.hid jbx
      have Ju := Lib.hid ju
      have JF := Lib.hid jF
      have Jbr := Lib.hid jbr
      clear h2 jbx ju jF jbr hy
      have hd0 : decide (y1 < 0) = false := decide_eq_false (by omega)
      have hd1 : decide (y2 < 0) = false := decide_eq_false (by omega)
      by_cases hz : y1 = 0
      · have hz2 := H2.out.1 hz
        subst hz hz2
        go_wp2
        go_roundw
        case rel => exact ⟨j + 1, by omega, by go_num, Jbx.out.alloc _, Ju.out.alloc _, JF.out.alloc _, Jbr.out.alloc Jbr.out.size _⟩
        case measure => simp [intOf]; omega
      · have hz2 : y2 ≠ 0 := fun h => hz (H2.out.2 h)
        have hd2 : decide (0 < y1) = true := decide_eq_true (by omega)
        have hd3 : decide (0 < y2) = true := decide_eq_true (by omega)
        clear hz hz2
        go_wp2
        go_roundw
        case rel => exact ⟨j + 1, by omega, by go_num, Jbx.out.alloc _, Ju.out.alloc _, JF.out.alloc _, Jbr.out.alloc Jbr.out.size _⟩
        case measure => simp [intOf]; omega
end Go.Proofs.Ythdlmnkefheliaa
