import Derived.Test.YthdlmnkefheliaaX1
set_option linter.unusedVariables false
set_option linter.unusedSimpArgs false
namespace Go.Proofs.Ythdlmnkefheliaa
open Go.RowKit

theorem goalsr_calls (r : Int) (t : Thr) (v : Value) (w : World) (hr : r = t.goals) (hv : ThrV w v t) (hw : t.Gls) :
    Calls Try.prog 33 #[v] w fun e w' => e = .returned (.int .i64 r) ∧ Below w.heap.size w w' := by subst hr; exact goals_calls t v w hv hw
theorem short_calls (b : Bool) (A : Option Addr) (n c : Nat) (w : World) (hb : b = decide ((n : Int) ≤ 60)) (hn : n ≤ 9223372036854775807) :
    Calls Try.prog 28 #[.slice A n c] w fun e w' => e = .returned (.bool b) ∧ w = w' := by
  subst hb
  by_cases h : n ≤ 60
  · have hb : decide ((n : Int) ≤ 60) = true := decide_eq_true (by omega)
    have hb2 : decide (n ≤ 60) = true := decide_eq_true h
    rw [hb]
    go_enter Try.func28, Try.ntmps28
    go_wp2
    go_ret
    exact ⟨rfl, rfl⟩
  · have hb : decide ((n : Int) ≤ 60) = false := decide_eq_false (by omega)
    have hb2 : decide (n ≤ 60) = false := decide_eq_false h
    rw [hb]
    go_enter Try.func28, Try.ntmps28
    go_wp2
    go_ret
    exact ⟨rfl, rfl⟩
theorem Thr.Gls.bd {t : Thr} (h : t.Gls) : 0 ≤ t.goals ∧ t.goals ≤ 17000000 := by
  have h1 := sumTo_bd (fun x : Int × Int => x.1) t.procs 1000000 (by omega) h.p _ (Nat.le_refl _)
  have h2 := sumTo_bd gl t.mail 1 (by omega) (fun x _ => gl_bd x) _ (Nat.le_refl _)
  rw [sumTo_all _ _ _ rfl] at h1 h2
  have := h.lp
  have := h.lm
  unfold Thr.goals
  omega
/-- A state in a variable of the call's own, opened. -/
theorem BoxT.open_ {w : World} {b B : Nat} {t : Thr} (h : BoxT w b B t) : ∃ A1 c1 A2 c2, Blk w b 25 #[.int .i64 t.grain, .int .i64 t.out, .slice A1 t.procs.length c1, .slice A2 t.mail.length c2, .bool t.ended] ∧
    ThrF B w (.agg #[.int .i64 t.grain, .int .i64 t.out, .slice A1 t.procs.length c1, .slice A2 t.mail.length c2, .bool t.ended]) t := by
  obtain ⟨A1, c1, A2, c2, h1, h2, h3⟩ := h
  exact ⟨A1, c1, A2, c2, h1, A1, c1, A2, c2, rfl, h2, h3⟩
theorem BoxT.new {w : World} {B : Nat} {t : Thr} {A1 A2 : Option Addr} {c1 c2 : Nat} (h : ThrF B w (.agg #[.int .i64 t.grain, .int .i64 t.out, .slice A1 t.procs.length c1, .slice A2 t.mail.length c2, .bool t.ended]) t) :
    BoxT (w.alloc (.cells #[.int .i64 t.grain, .int .i64 t.out, .slice A1 t.procs.length c1, .slice A2 t.mail.length c2, .bool t.ended] 25)) w.heap.size B t := by
  obtain ⟨h1, h2⟩ := h.rows
  exact ⟨A1, c1, A2, c2, Blk.new _ _ _, h1.alloc _, h2.alloc _⟩
theorem BoxT.lt {w : World} {b B : Nat} {t : Thr} (h : BoxT w b B t) : b < w.heap.size := by
  obtain ⟨_, _, _, _, h1, _⟩ := h; exact h1.lt
theorem newM_ok {p g : Int} (h : (newM p g).2 = 0) : (newM p g).1.ok = true ∧ (newM p g).1.goals = 0 ∧ (newM p g).1.mail = [] ∧ (newM p g).1.out = 0 ∧ (newM p g).1.ended = false := by
  unfold newM at *
  split at h
  · rename_i c
    rw [if_pos c]
    have hk : ((p.toNat : Nat) : Int) = p := by
      have o := c
      rw [Bool.and_eq_true, bd_iff] at o
      exact Int.toNat_of_nonneg (by omega)
    refine ⟨by rw [newT, new_ok, hk]; exact c, ?_, rfl, rfl, rfl⟩
    unfold Thr.goals newT
    simp
  · simp at h

set_option maxRecDepth 100000 in
set_option maxHeartbeats 4000000 in
theorem counts_calls (procs grain : Int) (cs : List (Int × Int × Int)) (A : Option Addr) (c : Nat) (w : World) (hr : Rd w A (cs.flatMap encL)) (hlm : cs.length ≤ 9223372036854775807) :
    Calls Try.prog 9 #[.int .i64 procs, .int .i64 grain, .slice A cs.length c] w fun e w' => e = .returned (.bool true) ∧ Below w.heap.size w w' := by
  have Hr := Lib.hid hr; clear hr
  go_enter Try.func9, Try.ntmps9
  go_wp2_with fail
  refine (sane_calls _).mono ?_
  rintro e w1 ⟨rfl, hb1⟩
  have Hb1 := Lib.hid hb1; clear hb1
  go_wp2_with fail
  refine (new_calls procs grain _).mono ?_
  obtain ⟨r, hr⟩ : ∃ r, r = newM procs grain := ⟨_, rfl⟩
  rw [← hr]
  have Hr' := Lib.hid hr; clear hr
  obtain ⟨⟨gr, ou, ps, ms, en⟩, n⟩ := r
  rintro e w2 ⟨v2, rfl, hv2, hb2⟩
  simp only at hv2
  have hv2' := hv2
  obtain ⟨A1, c1, A2, c2, rfl, -, -⟩ := hv2'
  have Hb2 := Lib.hid (Hb1.out.trans (hb2.mono Hb1.out.size)); clear hb2
  have Hv2 := Lib.hid (hv2.lower (B' := w.heap.size) Hb1.out.size); clear hv2
  by_cases hn : n = 0
  case neg =>
    have hnb : (n != 0) = true := by simpa using hn
    clear hn
    go_wp2
    go_ret
    exact ⟨rfl, Hb2.out.alloc Hb2.out.size _⟩
  subst hn
  have hz := newM_ok (p := procs) (g := grain) (by rw [← Hr'.out])
  rw [← Hr'.out] at hz
  have Hz := Lib.hid hz; clear hz
  by_cases hs : cs.length ≤ 60
  case neg =>
    go_wp2_with fail
    refine (short_calls false _ _ _ _ (by simp; omega) hlm).mono ?_
    rintro e w3 ⟨rfl, rfl⟩
    go_wp2
    go_ret
    exact ⟨rfl, Hb2.out.alloc Hb2.out.size _⟩
  go_wp2_with fail
  refine (short_calls true _ _ _ _ (by simp; omega) hlm).mono ?_
  rintro e w3 ⟨rfl, rfl⟩
  obtain ⟨b, hb⟩ : ∃ b, b = w2.heap.size := ⟨_, rfl⟩
  have hbox := BoxT.new (t := ⟨gr, ou, ps, ms, en⟩) Hv2.out
  have Hbox := Lib.hid hbox; clear hbox
  have Hw2 := Lib.hid Hb2.out.size
  go_wp2_with fail
  go_loopw [9, 31] (fun n i wr => ∃ (k : Nat) (t : Thr), k ≤ cs.length ∧ i = .int .i64 k ∧ n = .int .i64 t.goals ∧ BoxT wr w2.heap.size w.heap.size t ∧ Below w.heap.size w wr ∧ t.ok = true) (fun _ i _ => cs.length - (intOf i).toNat)
  case atStart => exact ⟨0, _, Nat.zero_le _, rfl, by rw [Hz.out.2.1], Hbox.out, Hb2.out.alloc Hb2.out.size _, Hz.out.1⟩
  case round =>
    obtain ⟨k, t, hk, rfl, rfl, hbx, hbr, hok⟩ := hrel
    have Hbr := Lib.hid hbr; clear hbr
    by_cases hlt : k < cs.length
    case neg =>
      have hke : k = cs.length := by omega
      subst hke
      clear hbx
      go_wp2
      go_ret
      exact ⟨rfl, Hbr.out⟩
    obtain ⟨x, hx⟩ : ∃ x, cs[k]? = some x := ⟨_, List.getElem?_eq_getElem hlt⟩
    obtain ⟨g, off, rfl, e0, e1, e2⟩ := Rd.atL (Hr.out.below Hbr.out (Nat.le_refl _)) hx
    clear hx
    obtain ⟨x0, x1, x2⟩ := x
    simp only at e0 e1 e2
    obtain ⟨D1, d1, D2, d2, hblk, hF⟩ := hbx.open_
    have Hbx := Lib.hid hbx; clear hbx
    obtain ⟨⟨b0, b1, b2, b3, b4⟩, -⟩ := hblk.five
    have hblt := hblk.lt
    have Hblk := Lib.hid hblk; clear hblk
    have hgd := Thr.good_iff.1 hok
    have hlens := ok_lens hok
    have hgb := hgd.gls.bd
    obtain ⟨hg0, hg1⟩ := hgb
    have Hgd := Lib.hid hgd; clear hgd
    have Hst := Lib.hid (do_step x0 x1 x2 t)
    have hcall := do_calls x0 x1 x2 t _ (wr.alloc (.cells #[.int .i64 x0, .int .i64 x1, .int .i64 x2] 47)) (hF.alloc _).val hlens
    obtain ⟨r, hr⟩ : ∃ r, r = doM x0 x1 x2 t := ⟨_, rfl⟩
    rw [← hr] at hcall
    have Hcall := Lib.hid hcall
    have Hrr := Lib.hid hr
    clear hcall hr hF hlens hok
    go_wp2_with fail
    refine Hcall.out.mono ?_
    obtain ⟨⟨gr2, ou2, ps2, ms2, en2⟩, n2⟩ := r
    rintro e w4 ⟨v4, rfl, hv4, hb4⟩
    simp only at hv4
    have hv4' := hv4
    obtain ⟨G1, g1, G2, g2, rfl, -, -⟩ := hv4'
    have hwr : wr.heap.size ≤ (wr.alloc (.cells #[.int .i64 x0, .int .i64 x1, .int .i64 x2] 47)).heap.size := by simp
    have hb4' : Below wr.heap.size wr w4 := ((Below.refl _ wr).alloc (Nat.le_refl _) _).trans (hb4.mono hwr)
    have Hxb := Lib.hid ((Blk.new wr 47 #[.int .i64 x0, .int .i64 x1, .int .i64 x2]).below hb4 (Blk.new wr 47 #[.int .i64 x0, .int .i64 x1, .int .i64 x2]).lt)
    have Hblk4 := Lib.hid (Hblk.out.below hb4' Hblk.out.lt)
    have Hbx4 := Lib.hid (Hbx.out.below hb4' (Nat.le_refl _))
    have Hbr4 := Lib.hid (Hbr.out.trans (hb4'.mono Hbr.out.size))
    have Hv5 := Lib.hid (hv4.lower (B' := w.heap.size) (Nat.le_trans Hbr.out.size hwr))
    clear hv4 hb4 hb4' hwr b0 b1 b2 b3 b4 e0 e1 e2
    by_cases hn2 : n2 = 0
    case neg =>
      have hnb : (n2 != 0) = true := by simpa using hn2
      clear hn2
      go_wp2
      go_roundw
      case rel => exact ⟨k + 1, t, by omega, by go_num, rfl, Hbx4.out.alloc _, Hbr4.out.alloc Hbr4.out.size _, Thr.good_iff.2 Hgd.out⟩
      case measure => simp [intOf]; omega
    subst hn2
    have hstep := Hst.out.2 (by rw [← Hrr.out])
    rw [← Hrr.out] at hstep
    have Hstep := Lib.hid hstep
    have Hgd2 := Lib.hid (Thr.good_iff.1 hstep.ok)
    have hgs := hstep.gs
    clear hstep
    obtain ⟨⟨b0, b1, b2, b3, b4⟩, ⟨f0, f1, f2, f3, f4⟩⟩ := Hblk4.out.five
    have hlt4 := Hblk4.out.lt
    have hxl := Hxb.out.lt
    have q0 : w4.cell? ⟨wr.heap.size, 0, none⟩ = some (.int .i64 x0) := by rw [Hxb.out.cell 0]; rfl
    have hne : wr.heap.size ≠ w2.heap.size := by omega
    obtain ⟨WS, hWS⟩ : ∃ WS, WS = (((((w4.setCell ⟨w2.heap.size, 0, none⟩ (.int .i64 gr2)).setCell ⟨w2.heap.size, 1, none⟩ (.int .i64 ou2)).setCell ⟨w2.heap.size, 2, none⟩ (.slice G1 ps2.length g1)).setCell ⟨w2.heap.size, 3, none⟩ (.slice G2 ms2.length g2)).setCell ⟨w2.heap.size, 4, none⟩ (.bool en2)) := ⟨_, rfl⟩
    have HboxS : Hid (BoxT WS w2.heap.size w.heap.size ⟨gr2, ou2, ps2, ms2, en2⟩) := Lib.hid (by rw [hWS]; exact BoxT.store (t := ⟨gr2, ou2, ps2, ms2, en2⟩) Hblk4.out Hv5.out)
    have HbelS : Hid (Below w.heap.size w WS) := Lib.hid (by rw [hWS]; exact below_set5 Hbr4.out Hw2.out _ _ _ _ _)
    have HFS : Hid (ThrF w.heap.size WS (.agg #[.int .i64 gr2, .int .i64 ou2, .slice G1 ps2.length g1, .slice G2 ms2.length g2, .bool en2]) ⟨gr2, ou2, ps2, ms2, en2⟩) := Lib.hid (by rw [hWS]; exact Hv5.out.set5 Hblk4.out _ _ _ _ _)
    have HWS := Lib.hid hWS; clear hWS
    by_cases x0c : x0 = 0
    · subst x0c
      have hgs' : t.goals + 1 = Thr.goals ⟨gr2, ou2, ps2, ms2, en2⟩ := by rw [hgs]; simp [dgOf]
      have Hgs := Lib.hid hgs'; clear hgs hgs'
      have Hcg := Lib.hid (goalsr_calls (t.goals + 1) ⟨gr2, ou2, ps2, ms2, en2⟩ _ _ Hgs.out (HFS.out.alloc (.cells #[.int .i64 gr2, .int .i64 ou2, .slice G1 ps2.length g1, .slice G2 ms2.length g2, .bool en2] 25)).val Hgd2.out.gls)
      go_wp2_with fail
      rw [← HWS.out]
      refine Hcg.out.mono ?_
      rintro e w6 ⟨rfl, hb6⟩
      have hb6' := ((Below.refl _ WS).alloc (Nat.le_refl _) (.cells #[.int .i64 gr2, .int .i64 ou2, .slice G1 ps2.length g1, .slice G2 ms2.length g2, .bool en2] 25)).trans (hb6.mono (by simp))
      have Hbox6 := Lib.hid (HboxS.out.below hb6' (Nat.le_refl _))
      have Hbel6 := Lib.hid (HbelS.out.trans (hb6'.mono HbelS.out.size))
      clear hb6 hb6'
      go_wp2
      go_roundw
      case rel => exact ⟨k + 1, _, by omega, by go_num, by rw [Hgs.out], Hbox6.out, Hbel6.out, Hstep.out.ok⟩
      case measure => simp [intOf]; omega
    have n0 : (x0 == 0) = false := by simpa using x0c
    by_cases x1c : x0 = 1
    · subst x1c
      clear n0 x0c
      have hgs' : t.goals + 1 = Thr.goals ⟨gr2, ou2, ps2, ms2, en2⟩ := by rw [hgs]; simp [dgOf]
      have Hgs := Lib.hid hgs'; clear hgs hgs'
      have Hcg := Lib.hid (goalsr_calls (t.goals + 1) ⟨gr2, ou2, ps2, ms2, en2⟩ _ _ Hgs.out (HFS.out.alloc (.cells #[.int .i64 gr2, .int .i64 ou2, .slice G1 ps2.length g1, .slice G2 ms2.length g2, .bool en2] 25)).val Hgd2.out.gls)
      go_wp2_with fail
      rw [← HWS.out]
      refine Hcg.out.mono ?_
      rintro e w6 ⟨rfl, hb6⟩
      have hb6' := ((Below.refl _ WS).alloc (Nat.le_refl _) (.cells #[.int .i64 gr2, .int .i64 ou2, .slice G1 ps2.length g1, .slice G2 ms2.length g2, .bool en2] 25)).trans (hb6.mono (by simp))
      have Hbox6 := Lib.hid (HboxS.out.below hb6' (Nat.le_refl _))
      have Hbel6 := Lib.hid (HbelS.out.trans (hb6'.mono HbelS.out.size))
      clear hb6 hb6'
      go_wp2
      go_roundw
      case rel => exact ⟨k + 1, _, by omega, by go_num, by rw [Hgs.out], Hbox6.out, Hbel6.out, Hstep.out.ok⟩
      case measure => simp [intOf]; omega
    have n1 : (x0 == 1) = false := by simpa using x1c
    by_cases x2c : x0 = 2
    · subst x2c
      clear n0 x0c n1 x1c
      have hgs' : t.goals - 1 = Thr.goals ⟨gr2, ou2, ps2, ms2, en2⟩ := by rw [hgs]; simp [dgOf]; omega
      have Hgs := Lib.hid hgs'; clear hgs hgs'
      have Hcg := Lib.hid (goalsr_calls (t.goals - 1) ⟨gr2, ou2, ps2, ms2, en2⟩ _ _ Hgs.out (HFS.out.alloc (.cells #[.int .i64 gr2, .int .i64 ou2, .slice G1 ps2.length g1, .slice G2 ms2.length g2, .bool en2] 25)).val Hgd2.out.gls)
      go_wp2_with fail
      rw [← HWS.out]
      refine Hcg.out.mono ?_
      rintro e w6 ⟨rfl, hb6⟩
      have hb6' := ((Below.refl _ WS).alloc (Nat.le_refl _) (.cells #[.int .i64 gr2, .int .i64 ou2, .slice G1 ps2.length g1, .slice G2 ms2.length g2, .bool en2] 25)).trans (hb6.mono (by simp))
      have Hbox6 := Lib.hid (HboxS.out.below hb6' (Nat.le_refl _))
      have Hbel6 := Lib.hid (HbelS.out.trans (hb6'.mono HbelS.out.size))
      clear hb6 hb6'
      go_wp2
      go_roundw
      case rel => exact ⟨k + 1, _, by omega, by go_num, by rw [Hgs.out], Hbox6.out, Hbel6.out, Hstep.out.ok⟩
      case measure => simp [intOf]; omega
    have n2 : (x0 == 2) = false := by simpa using x2c
    have hdg : dgOf x0 = 0 := by rw [dgOf, if_neg (by omega), if_neg x2c]
    clear x0c x1c x2c
    rw [hdg, Int.add_zero] at hgs
    clear hdg
    have hgs' : t.goals = Thr.goals ⟨gr2, ou2, ps2, ms2, en2⟩ := hgs.symm
    have Hgs := Lib.hid hgs'; clear hgs hgs'
    have Hcg := Lib.hid (goalsr_calls (t.goals) ⟨gr2, ou2, ps2, ms2, en2⟩ _ _ Hgs.out (HFS.out.alloc (.cells #[.int .i64 gr2, .int .i64 ou2, .slice G1 ps2.length g1, .slice G2 ms2.length g2, .bool en2] 25)).val Hgd2.out.gls)
    go_wp2_with fail
    rw [← HWS.out]
    refine Hcg.out.mono ?_
    rintro e w6 ⟨rfl, hb6⟩
    have hb6' := ((Below.refl _ WS).alloc (Nat.le_refl _) (.cells #[.int .i64 gr2, .int .i64 ou2, .slice G1 ps2.length g1, .slice G2 ms2.length g2, .bool en2] 25)).trans (hb6.mono (by simp))
    have Hbox6 := Lib.hid (HboxS.out.below hb6' (Nat.le_refl _))
    have Hbel6 := Lib.hid (HbelS.out.trans (hb6'.mono HbelS.out.size))
    clear hb6 hb6'
    go_wp2
    go_roundw
    case rel => exact ⟨k + 1, _, by omega, by go_num, by rw [Hgs.out], Hbox6.out, Hbel6.out, Hstep.out.ok⟩
    case measure => simp [intOf]; omega
end Go.Proofs.Ythdlmnkefheliaa
