import Derived.Test.YthdlmnkefheliaaD31
import Derived.Test.YthdlmnkefheliaaP5
import Derived.Deep.RegionHeld3
import Derived.Deep.DrawnRows
set_option linter.unusedVariables false
set_option linter.unusedSimpArgs false
namespace Go.Proofs.Ythdlmnkefheliaa
open Go.RowKit
attribute [local go_sem ↓] Go.wp_at_zero Go.wp_at_succ

theorem BoxT.set5 {w : World} {b g B : Nat} {t : Thr} {cs : Array Value} (h : BoxT w b B t) (hg : Blk w g 25 cs) (hne : b ≠ g) (a0 a1 a2 a3 a4 : Value) :
    BoxT (((((w.setCell ⟨g, 0, none⟩ a0).setCell ⟨g, 1, none⟩ a1).setCell ⟨g, 2, none⟩ a2).setCell ⟨g, 3, none⟩ a3).setCell ⟨g, 4, none⟩ a4) b B t := by
  obtain ⟨A1, c1, A2, c2, h1, h2⟩ := h.open_
  obtain ⟨r1, r2⟩ := (h2.set5 hg a0 a1 a2 a3 a4).rows
  exact ⟨A1, c1, A2, c2, ((((h1.far (p := ⟨g, 0, none⟩) hne a0).far (p := ⟨g, 1, none⟩) hne a1).far (p := ⟨g, 2, none⟩) hne a2).far (p := ⟨g, 3, none⟩) hne a3).far (p := ⟨g, 4, none⟩) hne a4, r1, r2⟩
theorem BoxT.drewN {w : World} {b B : Nat} {t : Thr} (h : BoxT w b B t) (n : Nat) : BoxT (w.drewN n) b B t := h
theorem BoxT.drew {w : World} {b B : Nat} {t : Thr} (h : BoxT w b B t) : BoxT w.drew b B t := h
theorem Blk.five5 {w : World} {g : Nat} {u0 u1 u2 u3 u4 a0 a1 a2 a3 a4 : Value} (h : Blk w g 25 #[u0, u1, u2, u3, u4]) :
    Blk (((((w.setCell ⟨g, 0, none⟩ a0).setCell ⟨g, 1, none⟩ a1).setCell ⟨g, 2, none⟩ a2).setCell ⟨g, 3, none⟩ a3).setCell ⟨g, 4, none⟩ a4) g 25 #[a0, a1, a2, a3, a4] := by
  simpa using ((((h.set_ 0 a0).set_ 1 a1).set_ 2 a2).set_ 3 a3).set_ 4 a4
theorem exit_at {Q : Exit → Act → World → Prop} {e : Exit} {a : Act} {w : World} (I : World → Prop) (hw : I w) (h : ∀ W, I W → Q e a W) : Q e a w := h w hw
theorem Blk.far5 {w : World} {b g t : Nat} {cs : Array Value} (h : Blk w g t cs) (hne : g ≠ b) {a0 a1 a2 a3 a4 : Value} :
    Blk (((((w.setCell ⟨b, 0, none⟩ a0).setCell ⟨b, 1, none⟩ a1).setCell ⟨b, 2, none⟩ a2).setCell ⟨b, 3, none⟩ a3).setCell ⟨b, 4, none⟩ a4) g t cs :=
  ((((h.far (p := ⟨b, 0, none⟩) hne a0).far (p := ⟨b, 1, none⟩) hne a1).far (p := ⟨b, 2, none⟩) hne a2).far (p := ⟨b, 3, none⟩) hne a3).far (p := ⟨b, 4, none⟩) hne a4
/-- What is kept over the rounds: two states in variables of the call's own. -/
def Two (w W : World) (b1 b2 : Nat) (t u : Thr) : Prop := BoxT W b1 w.heap.size t ∧ BoxT W b2 w.heap.size u ∧ Below w.heap.size w W
theorem Two.below {w W W' : World} {b1 b2 : Nat} {t u : Thr} (h : Two w W b1 b2 t u) (hb : Below W.heap.size W W') : Two w W' b1 b2 t u :=
  ⟨h.1.below hb (Nat.le_refl _), h.2.1.below hb (Nat.le_refl _), h.2.2.trans (hb.mono h.2.2.size)⟩
theorem Two.alloc {w W : World} {b1 b2 : Nat} {t u : Thr} (h : Two w W b1 b2 t u) (o : Obj) : Two w (W.alloc o) b1 b2 t u := h.below ((Below.refl _ _).alloc (Nat.le_refl _) o)
theorem Two.drewN {w W : World} {b1 b2 : Nat} {t u : Thr} (h : Two w W b1 b2 t u) (n : Nat) : Two w (W.drewN n) b1 b2 t u := ⟨h.1, h.2.1, below_drewN h.2.2 n⟩
theorem Two.drew {w W : World} {b1 b2 : Nat} {t u : Thr} (h : Two w W b1 b2 t u) : Two w W.drew b1 b2 t u := ⟨h.1, h.2.1, h.2.2.drew⟩

set_option maxRecDepth 100000 in
set_option maxHeartbeats 4000000 in
theorem grains_calls (procs one two : Int) (cs : List (Int × Int × Int)) (A : Option Addr) (c : Nat) (w : World) (hr : Rd w A (cs.flatMap encL)) (hlm : cs.length ≤ 9223372036854775807) :
    Calls Try.prog 7 #[.int .i64 procs, .int .i64 one, .int .i64 two, .slice A cs.length c] w fun e w' => e = .returned (.bool true) ∧ Below w.heap.size w w' := by
  have Hr := Lib.hid hr; clear hr
  go_enter Try.func7, Try.ntmps7
  go_wp2_with fail
  refine (sane_calls _).mono ?_
  rintro e w1 ⟨rfl, hb1⟩
  have Hb1 := Lib.hid hb1; clear hb1
  go_wp2_with fail
  refine (new_calls procs one _).mono ?_
  obtain ⟨r, hr⟩ : ∃ r, r = newM procs one := ⟨_, rfl⟩
  rw [← hr]
  have hnc := newM_cases procs one
  rw [← hr] at hnc
  have Hr1 := Lib.hid hr; clear hr
  obtain ⟨⟨ga, oa, pa, ma, ea⟩, n⟩ := r
  rintro e w2 ⟨v2, rfl, hv2, hb2⟩
  simp only at hv2 hnc
  have hv2' := hv2
  obtain ⟨A1, c1, A2, c2, rfl, -, -⟩ := hv2'
  have hB2 := Hb1.out.trans (hb2.mono Hb1.out.size)
  have hbox2 := BoxT.new (t := ⟨ga, oa, pa, ma, ea⟩) (hv2.lower (B' := w.heap.size) Hb1.out.size)
  obtain ⟨W2, hW2⟩ : ∃ W2, W2 = w2.alloc (.cells #[.int .i64 ga, .int .i64 oa, .slice A1 pa.length c1, .slice A2 ma.length c2, .bool ea] 25) := ⟨_, rfl⟩
  rw [← hW2] at hbox2
  have hB2' : Below w.heap.size w W2 := by rw [hW2]; exact hB2.alloc hB2.size _
  have HW2 := Lib.hid hW2
  have Hbox2 := Lib.hid hbox2
  have HB2 := Lib.hid hB2'
  have Hw2 := Lib.hid hB2.size
  have hsz2 := hbox2.lt
  clear hb2 hv2 hB2 hbox2 hW2 hB2'
  have Hnc := Lib.hid hnc; clear hnc
  go_wp2_with fail
  rw [← HW2.out]
  refine (new_calls procs two _).mono ?_
  obtain ⟨r, hr⟩ : ∃ r, r = newM procs two := ⟨_, rfl⟩
  rw [← hr]
  have hnd := newM_cases procs two
  rw [← hr] at hnd
  have Hr2 := Lib.hid hr; clear hr
  obtain ⟨⟨gb, ob, pb, mb, eb⟩, n'⟩ := r
  rintro e w3 ⟨v3, rfl, hv3, hb3⟩
  simp only at hv3 hnd
  have hv3' := hv3
  obtain ⟨B1, d1, B2, d2, rfl, -, -⟩ := hv3'
  have hB3 := HB2.out.trans (hb3.mono HB2.out.size)
  have hbox3 := BoxT.new (t := ⟨gb, ob, pb, mb, eb⟩) (hv3.lower (B' := w.heap.size) HB2.out.size)
  have Hlt23 := Lib.hid (show w2.heap.size < w3.heap.size from Nat.lt_of_lt_of_le hsz2 hb3.size)
  have Htwo := Lib.hid (show Two w (w3.alloc (.cells #[.int .i64 gb, .int .i64 ob, .slice B1 pb.length d1, .slice B2 mb.length d2, .bool eb] 25)) w2.heap.size w3.heap.size ⟨ga, oa, pa, ma, ea⟩ ⟨gb, ob, pb, mb, eb⟩ from
    ⟨(Hbox2.out.below hb3 (Nat.le_refl _)).alloc _, hbox3, hB3.alloc hB3.size _⟩)
  have Hw3 := Lib.hid hB3.size
  clear hb3 hv3 hB3 hbox3
  rcases Hnc.out with hn | hn
  case inr =>
    simp only [Prod.mk.injEq] at hn
    obtain ⟨-, rfl⟩ := hn
    go_wp2
    go_ret
    exact ⟨rfl, Htwo.out.2.2⟩
  subst hn
  rcases hnd with hn | hn
  case inr =>
    simp only [Prod.mk.injEq] at hn
    obtain ⟨-, rfl⟩ := hn
    go_wp2
    go_ret
    exact ⟨rfl, Htwo.out.2.2⟩
  subst hn
  have hsim := sim_new (n := procs) (g1 := one) (g2 := two) (by rw [← Hr1.out]) (by rw [← Hr2.out])
  rw [← Hr1.out, ← Hr2.out] at hsim
  have Hsim := Lib.hid hsim; clear hsim
  by_cases hs : cs.length ≤ 60
  case neg =>
    go_wp2_with fail
    refine (short_calls false _ _ _ _ (by simp; omega) hlm).mono ?_
    rintro e w4 ⟨rfl, rfl⟩
    go_wp2
    go_ret
    exact ⟨rfl, Htwo.out.2.2⟩
  go_wp2_with fail
  refine (short_calls true _ _ _ _ (by simp; omega) hlm).mono ?_
  rintro e w4 ⟨rfl, rfl⟩
  go_wp2_with fail
  go_loopw [51] (fun i wr => ∃ (k : Nat) (t u : Thr), k ≤ cs.length ∧ i = .int .i64 k ∧ Two w wr w2.heap.size w3.heap.size t u ∧ Sim t u) (fun i _ => cs.length - (intOf i).toNat)
  case atStart => exact ⟨0, _, _, Nat.zero_le _, rfl, Htwo.out, Hsim.out⟩
  case round =>
    obtain ⟨k, t, u, hk, rfl, htw, hsm⟩ := hrel
    by_cases hlt : k < cs.length
    case neg =>
      have hke : k = cs.length := by omega
      subst hke
      have Htw := Lib.hid htw; clear htw
      go_wp2
      go_ret
      exact ⟨rfl, Htw.out.2.2⟩
    obtain ⟨x, hx⟩ : ∃ x, cs[k]? = some x := ⟨_, List.getElem?_eq_getElem hlt⟩
    obtain ⟨g, off, rfl, e0, e1, e2⟩ := Rd.atL (Hr.out.below htw.2.2 (Nat.le_refl _)) hx
    clear hx
    obtain ⟨x0, x1, x2⟩ := x
    simp only at e0 e1 e2
    by_cases hx0 : x0 < 0
    · have hxb : decide (x0 < 0) = true := decide_eq_true hx0
      have Htw := Lib.hid htw; clear htw hx0
      go_wp2
      go_roundw
      case rel => exact ⟨k + 1, t, u, by omega, by go_num, Htw.out.alloc _, hsm⟩
      case measure => simp [intOf]; omega
    have hxb : decide (x0 < 0) = false := decide_eq_false hx0
    by_cases hx4 : 4 < x0
    · have hxc : decide (4 < x0) = true := decide_eq_true hx4
      have Htw := Lib.hid htw; clear htw hx0 hx4
      go_wp2
      go_roundw
      case rel => exact ⟨k + 1, t, u, by omega, by go_num, Htw.out.alloc _, hsm⟩
      case measure => simp [intOf]; omega
    have hxc : decide (4 < x0) = false := decide_eq_false hx4
    have Hsr := Lib.hid (sim_do hsm (k := x0) (by omega) (by omega) x1 x2)
    have Hsm := Lib.hid hsm
    clear hx0 hx4
    obtain ⟨D1, d1, D2, d2, hblk, hF⟩ := htw.1.open_
    obtain ⟨E1, f1, E2, f2, hblu, hFu⟩ := htw.2.1.open_
    obtain ⟨⟨b0, b1, b2, b3, b4⟩, -⟩ := hblk.five
    have hblt := hblk.lt
    have hcall := do_calls x0 x1 x2 t _ (wr.alloc (.cells #[.int .i64 x0, .int .i64 x1, .int .i64 x2] 47)) (hF.alloc _).val (ok_lens hsm.tk)
    obtain ⟨r, hr⟩ : ∃ r, r = doM x0 x1 x2 t := ⟨_, rfl⟩
    rw [← hr] at hcall
    have Hcall := Lib.hid hcall
    have Hrr := Lib.hid hr
    have Hblu := Lib.hid hblu
    have HFu := Lib.hid hFu
    have Htw := Lib.hid htw
    clear hcall hr hF hblk htw hsm hblu hFu
    go_wp2_with fail
    refine Hcall.out.mono ?_
    obtain ⟨⟨ga, oa, pa, ma, ea⟩, n1⟩ := r
    rintro e w4 ⟨v4, rfl, hv4, hb4⟩
    simp only at hv4
    have hv4' := hv4
    obtain ⟨G1, g1, G2, g2, rfl, -, -⟩ := hv4'
    have hwr : wr.heap.size ≤ (wr.alloc (.cells #[.int .i64 x0, .int .i64 x1, .int .i64 x2] 47)).heap.size := by simp
    have hb4' : Below wr.heap.size wr w4 := ((Below.refl _ wr).alloc (Nat.le_refl _) _).trans (hb4.mono hwr)
    obtain ⟨W4, hW4⟩ : ∃ W4, W4 = w4.alloc (.cells #[.int .i64 ga, .int .i64 oa, .slice G1 pa.length g1, .slice G2 ma.length g2, .bool ea] 25) := ⟨_, rfl⟩
    have hxk : Blk w4 wr.heap.size 47 #[.int .i64 x0, .int .i64 x1, .int .i64 x2] := (Blk.new wr 47 #[.int .i64 x0, .int .i64 x1, .int .i64 x2]).below hb4 (Blk.new wr 47 #[.int .i64 x0, .int .i64 x1, .int .i64 x2]).lt
    have hublk := Hblu.out.below hb4' Hblu.out.lt
    have hult4 := hublk.lt
    have hxlt4 := hxk.lt
    have hbW : Below wr.heap.size wr W4 := by rw [hW4]; exact hb4'.alloc hb4'.size _
    have hFa : ThrF w.heap.size W4 (.agg #[.int .i64 ga, .int .i64 oa, .slice G1 pa.length g1, .slice G2 ma.length g2, .bool ea]) ⟨ga, oa, pa, ma, ea⟩ := by rw [hW4]; exact (hv4.lower (B' := w.heap.size) (Nat.le_trans Htw.out.2.2.size hwr)).alloc _
    have hak : Blk W4 w4.heap.size 25 #[.int .i64 ga, .int .i64 oa, .slice G1 pa.length g1, .slice G2 ma.length g2, .bool ea] := by rw [hW4]; exact Blk.new _ _ _
    have Htw4 := Lib.hid (Htw.out.below hbW)
    have hFu4 := HFu.out.below hbW (Nat.le_refl _)
    clear b0 b1 b2 b3 b4 e0 e1 e2 hv4 hb4 hb4' hwr
    obtain ⟨⟨b0, b1, b2, b3, b4⟩, -⟩ := hublk.five
    have e0 : w4.cell? ⟨wr.heap.size, 0, none⟩ = some (.int .i64 x0) := by rw [hxk.cell 0]; rfl
    have e1 : w4.cell? ⟨wr.heap.size, 1, none⟩ = some (.int .i64 x1) := by rw [hxk.cell 1]; rfl
    have e2 : w4.cell? ⟨wr.heap.size, 2, none⟩ = some (.int .i64 x2) := by rw [hxk.cell 2]; rfl
    have hcall := do_calls x0 x1 x2 u _ W4 hFu4.val (ok_lens Hsm.out.uk)
    obtain ⟨r, hr⟩ : ∃ r, r = doM x0 x1 x2 u := ⟨_, rfl⟩
    rw [← hr] at hcall
    have Hcall2 := Lib.hid hcall
    have Hru := Lib.hid hr
    have HW4 := Lib.hid hW4
    have HFa := Lib.hid hFa
    have Hak := Lib.hid hak
    have halt := hak.lt
    clear hcall hr hW4 hFa hak hublk hFu4 hbW hxk
    go_wp2_with fail
    rw [← HW4.out]
    refine Hcall2.out.mono ?_
    obtain ⟨⟨gb, ob, pb, mb, eb⟩, n2⟩ := r
    rintro e w5 ⟨v5, rfl, hv5, hb5⟩
    simp only at hv5
    have hv5' := hv5
    obtain ⟨H1, h1, H2, h2, rfl, -, -⟩ := hv5'
    have hlt45 : w4.heap.size < w5.heap.size := Nat.lt_of_lt_of_le halt hb5.size
    obtain ⟨W6, hW6⟩ : ∃ W6, W6 = w5.alloc (.cells #[.int .i64 gb, .int .i64 ob, .slice H1 pb.length h1, .slice H2 mb.length h2, .bool eb] 25) := ⟨_, rfl⟩
    have hbW : Below W4.heap.size W4 W6 := by rw [hW6]; exact hb5.alloc hb5.size _
    have hFb : ThrF w.heap.size W6 (.agg #[.int .i64 gb, .int .i64 ob, .slice H1 pb.length h1, .slice H2 mb.length h2, .bool eb]) ⟨gb, ob, pb, mb, eb⟩ := by rw [hW6]; exact (hv5.lower (B' := w.heap.size) Htw4.out.2.2.size).alloc _
    have hbk : Blk W6 w5.heap.size 25 #[.int .i64 gb, .int .i64 ob, .slice H1 pb.length h1, .slice H2 mb.length h2, .bool eb] := by rw [hW6]; exact Blk.new _ _ _
    have Htw6 := Lib.hid (Htw4.out.below hbW)
    have HFa6 := Lib.hid (HFa.out.below hbW (Nat.le_refl _))
    have Hak6 := Lib.hid (Hak.out.below hbW halt)
    have HW6 := Lib.hid hW6
    have HFb := Lib.hid hFb
    have Hbk := Lib.hid hbk
    have hblt6 := hbk.lt
    clear b0 b1 b2 b3 b4 e0 e1 e2 hv5 hb5 hbW hFb hbk hW6
    by_cases c1 : n1 = 281
    · subst c1
      go_wp2
      go_ret
      exact ⟨rfl, by rw [← HW6.out]; exact Htw6.out.2.2⟩
    have c1b : (n1 == 281) = false := by simpa using c1
    by_cases c2 : n2 = 281
    · subst c2
      clear c1
      go_wp2
      go_ret
      exact ⟨rfl, by rw [← HW6.out]; exact Htw6.out.2.2⟩
    have c2b : (n2 == 281) = false := by simpa using c2
    by_cases c3 : n1 = 2
    · subst c3
      clear c1 c2
      go_wp2
      go_ret
      exact ⟨rfl, by rw [← HW6.out]; exact Htw6.out.2.2⟩
    have c3b : (n1 == 2) = false := by simpa using c3
    by_cases c4 : n2 = 2
    · subst c4
      clear c1 c2 c3
      go_wp2
      go_ret
      exact ⟨rfl, by rw [← HW6.out]; exact Htw6.out.2.2⟩
    have c4b : (n2 == 2) = false := by simpa using c4
    have hsr := Hsr.out
    rw [← Hrr.out, ← Hru.out] at hsr
    obtain ⟨hnn, hs0⟩ : n1 = n2 ∧ (n1 = 0 → Sim ⟨ga, oa, pa, ma, ea⟩ ⟨gb, ob, pb, mb, eb⟩) := by
      rcases hsr with h | h | h | h | h
      · exact absurd h c1
      · exact absurd h c2
      · exact absurd h c3
      · exact absurd h c4
      · exact h
    subst hnn
    clear c1 c2 c3 c4 hsr c2b c4b
    by_cases hn0 : n1 = 0
    case neg =>
      have hnb : (n1 != 0) = true := by simpa using hn0
      clear hn0 hs0
      go_wp2
      go_roundw
      case rel => exact ⟨k + 1, t, u, by omega, by go_num, by rw [← HW6.out]; exact Htw6.out, Hsm.out⟩
      case measure => simp [intOf]; omega
    subst hn0
    have hsim := hs0 rfl
    have Hsim := Lib.hid hsim
    have hpl := hsim.plen
    have hml := hsim.mlen
    have hen := hsim.en
    simp only at hpl hml hen
    subst hen
    have Hpl := Lib.hid hpl
    have Hml := Lib.hid hml
    have hga := Thr.good_iff.1 hsim.tk
    have hl16 := hga.pl1
    have hl4k := hga.ml
    simp only at hl16 hl4k
    clear hs0 hsim hpl hml hga c1b c3b
    obtain ⟨⟨a0, a1, a2, a3, a4⟩, -⟩ := Hak6.out.five
    have halt6 := Hak6.out.lt
    obtain ⟨⟨b0, b1, b2, b3, b4⟩, -⟩ := Hbk.out.five
    obtain ⟨Q1, q1, Q2, q2, hkt, -⟩ := Htw6.out.1.open_
    obtain ⟨R1, r1, R2, r2, hku, -⟩ := Htw6.out.2.1.open_
    obtain ⟨⟨t0, t1, t2, t3, t4⟩, ⟨ft0, ft1, ft2, ft3, ft4⟩⟩ := hkt.five
    obtain ⟨⟨u0, u1, u2, u3, u4⟩, ⟨fu0, fu1, fu2, fu3, fu4⟩⟩ := hku.five
    have htl := hkt.lt
    have hul := hku.lt
    have hne1 : w2.heap.size ≠ w3.heap.size := Nat.ne_of_lt Hlt23.out
    have hne2 : w3.heap.size ≠ w2.heap.size := hne1.symm
    have Hkt := Lib.hid hkt
    have Hku := Lib.hid hku
    clear hkt hku
    go_wp2_with fail
    rw [← HW6.out]
    go_region
    all_goals
      refine exit_at (fun W => Two w W w2.heap.size w3.heap.size ⟨ga, oa, pa, ma, ea⟩ ⟨gb, ob, pb, mb, ea⟩) ?_ ?_
      · exact Two.drew ⟨((BoxT.store (t := ⟨ga, oa, pa, ma, ea⟩) Hkt.out HFa6.out).set5 (Hku.out.far5 hne2) hne1 _ _ _ _ _), BoxT.store (t := ⟨gb, ob, pb, mb, ea⟩) (Hku.out.far5 hne2) (HFb.out.set5 Hkt.out _ _ _ _ _), below_set5 (below_set5 Htw6.out.2.2 Hw2.out _ _ _ _ _) Hw3.out _ _ _ _ _⟩
      intro W7 htw7
      clear a0 a1 a2 a3 a4 b0 b1 b2 b3 b4 t0 t1 t2 t3 t4 u0 u1 u2 u3 u4 ft0 ft1 ft2 ft3 ft4 fu0 fu1 fu2 fu3 fu4
      obtain ⟨P1, p1, P2, p2, hkt, hFt⟩ := htw7.1.open_
      obtain ⟨S1, s1, S2, s2, hku, hFu⟩ := htw7.2.1.open_
      obtain ⟨⟨t0, t1, t2, t3, t4⟩, -⟩ := hkt.five
      obtain ⟨⟨u0, u1, u2, u3, u4⟩, -⟩ := hku.five
      have htl7 := hkt.lt
      have hul7 := hku.lt
      have HFt := Lib.hid hFt
      have Htw7 := Lib.hid htw7
      have hl1 : ((pa.length : Int) != (pb.length : Int)) = false := by simp [Hpl.out]
      have hl2 : (pa.length != pb.length) = false := by simp [Hpl.out]
      have hm1 : ((ma.length : Int) != (mb.length : Int)) = false := by simp [Hml.out]
      have hm2 : (ma.length != mb.length) = false := by simp [Hml.out]
      clear hkt hFt hku hFu htw7
      go_wp2_with fail
      clear hl1 hl2 hm1 hm2 t0 t1 t2 t4 u0 u1 u2 u3 u4
      go_loopw [122] (fun i wr => ∃ j : Nat, j ≤ pa.length ∧ i = .int .i64 j ∧ Two w wr w2.heap.size w3.heap.size ⟨ga, oa, pa, ma, ea⟩ ⟨gb, ob, pb, mb, ea⟩ ∧ Below W7.heap.size W7 wr) (fun i _ => pa.length - (intOf i).toNat)
      case atStart => exact ⟨0, Nat.zero_le _, rfl, Htw7.out, Below.refl _ _⟩
      case round =>
        obtain ⟨j, hj, rfl, jtw, jb⟩ := hrel
        clear t3
        by_cases hjl : j < pa.length
        case pos =>
          obtain ⟨x, hx⟩ : ∃ x, pa[j]? = some x := ⟨_, List.getElem?_eq_getElem hjl⟩
          obtain ⟨y, hy, hxy⟩ := map_get Hsim.out.pg hx
          simp only at hy
          obtain ⟨g1', o1', rfl, e0, e1⟩ := Rd.atH (own_rd (HFt.out.below jb (Nat.le_refl _)).rows.1) hx
          obtain ⟨S3, s3, S4, s4, hku, hFu⟩ := jtw.2.1.open_
          obtain ⟨⟨u0, u1, u2, u3, u4⟩, -⟩ := hku.five
          have hul8 := hku.lt
          obtain ⟨g2', o2', rfl, d0', d1'⟩ := Rd.atH (own_rd hFu.rows.1) hy
          obtain ⟨x1, x2⟩ := x
          obtain ⟨y1, y2⟩ := y
          simp only at hxy e0 e1 d0' d1'
          subst hxy
          have hjl2 : j < pb.length := by rw [← Hpl.out]; exact hjl
          have hj0 : (0 : Int) ≤ (j : Int) := Int.natCast_nonneg _
          have hj1 : (j : Int) < (pb.length : Int) := by omega
          have hl8 := World.block_lt_of_cell? _ _ d0'
          have Jtw := Lib.hid jtw
          have Jb := Lib.hid jb
          clear hku hFu jtw jb hx hy
          go_wp2_with fail
          go_quiet (fail)
          all_goals
            go_wp2
            go_roundw
            case rel => exact ⟨j + 1, by omega, by go_num, (Jtw.out.alloc _).drewN _, below_drewN (Jb.out.alloc Jb.out.size _) _⟩
            case measure => simp [intOf]; omega
        have hke : j = pa.length := by omega
        subst hke
        obtain ⟨P3, p3, P4, p4, hkt, hFt2⟩ := jtw.1.open_
        obtain ⟨⟨t0, t1, t2, t3, t4⟩, -⟩ := hkt.five
        have htl8 := hkt.lt
        obtain ⟨W8, hW8⟩ : ∃ W8 : World, W8 = wr := ⟨_, rfl⟩
        rw [← hW8] at t0 t1 t2 t3 t4 htl8
        have HW8 := Lib.hid hW8
        have HFt2 := Lib.hid hFt2
        have Jtw := Lib.hid jtw
        clear hkt hFt2 jtw jb hW8
        rw [← HW8.out]
        go_wp2_with fail
        clear t0 t1 t2 t3 t4
        go_loopw [140] (fun i wr => ∃ m : Nat, m ≤ ma.length ∧ i = .int .i64 m ∧ Two w wr w2.heap.size w3.heap.size ⟨ga, oa, pa, ma, ea⟩ ⟨gb, ob, pb, mb, ea⟩ ∧ Below W8.heap.size W8 wr) (fun i _ => ma.length - (intOf i).toNat)
        case atStart => exact ⟨0, Nat.zero_le _, rfl, by rw [HW8.out]; exact Jtw.out, Below.refl _ _⟩
        case round =>
          obtain ⟨m, hm, rfl, mtw, mb8⟩ := hrel
          by_cases hml' : m < ma.length
          case pos =>
            obtain ⟨x, hx⟩ : ∃ x, ma[m]? = some x := ⟨_, List.getElem?_eq_getElem hml'⟩
            obtain ⟨y, hy, hxy⟩ := map_get Hsim.out.ml hx
            simp only at hy
            have hF8 := HFt2.out
            rw [← HW8.out] at hF8
            obtain ⟨g1', o1', rfl, e0, e1, e2⟩ := Rd.atL (own_rd (hF8.below mb8 (Nat.le_refl _)).rows.2) hx
            obtain ⟨S3, s3, S4, s4, hku, hFu⟩ := mtw.2.1.open_
            obtain ⟨⟨u0, u1, u2, u3, u4⟩, -⟩ := hku.five
            have hul8 := hku.lt
            obtain ⟨g2', o2', rfl, d0', d1', d2'⟩ := Rd.atL (own_rd hFu.rows.2) hy
            obtain ⟨x1, x2, x3⟩ := x
            obtain ⟨y1, y2, y3⟩ := y
            simp only [lk, Prod.mk.injEq] at hxy e0 e1 e2 d0' d1' d2'
            obtain ⟨rfl, rfl⟩ := hxy
            have hml2 : m < mb.length := by rw [← Hml.out]; exact hml'
            have hj0 : (0 : Int) ≤ (m : Int) := Int.natCast_nonneg _
            have hj1 : (m : Int) < (mb.length : Int) := by omega
            have hl8 := World.block_lt_of_cell? _ _ d0'
            have Mtw := Lib.hid mtw
            have Mb := Lib.hid mb8
            clear hku hFu mtw mb8 hx hy hF8
            go_wp2
            go_roundw
            case rel => exact ⟨m + 1, by omega, by go_num, (Mtw.out.alloc _).alloc _, ((Mb.out.alloc Mb.out.size _).alloc (Nat.le_trans Mb.out.size (by simp)) _)⟩
            case measure => simp [intOf]; omega
          have hke : m = ma.length := by omega
          subst hke
          have Mtw := Lib.hid mtw
          clear mtw mb8
          go_wp2
          go_roundw
          case rel => exact ⟨k + 1, _, _, by omega, by go_num, Mtw.out, Hsim.out⟩
          case measure => simp [intOf]; omega
end Go.Proofs.Ythdlmnkefheliaa
