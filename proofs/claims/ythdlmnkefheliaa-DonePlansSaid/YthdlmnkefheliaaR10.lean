import Derived.Test.YthdlmnkefheliaaR9
import Derived.Test.YthdlmnkefheliaaD33
import Derived.RegionCalls
set_option linter.unusedVariables false
set_option linter.unusedSimpArgs false
namespace Go.Proofs.Ythdlmnkefheliaa
open Go.RowKit
attribute [local go_sem ↓] Go.wp_at_zero Go.wp_at_succ

/-- A state, a number and an error, the state readable. -/
def RetV (r : Thr × Int × Int) (w : World) (e : Ending) (w' : World) : Prop :=
  ∃ v, e = .returned (.tuple #[v, .int .i64 r.2.1, .int .i64 r.2.2]) ∧ ThrV w' v r.1 ∧ Below w.heap.size w w'
/-- Readable, and it stays so when a block of states behind the call's own begin is written. -/
def Firm (w W : World) (v : Value) (t : Thr) : Prop := ThrV w v t ∨ ThrF w.heap.size W v t
theorem Firm.val {w W : World} {v : Value} {t : Thr} (h : Firm w W v t) (hb : Below w.heap.size w W) : ThrV W v t := by
  rcases h with h | h
  · exact h.below hb (Nat.le_refl _)
  · exact h.val
theorem Firm.below {w W W' : World} {v : Value} {t : Thr} (h : Firm w W v t) (hb : Below W.heap.size W W') : Firm w W' v t := by
  rcases h with h | h
  · exact .inl h
  · exact .inr (h.below hb (Nat.le_refl _))
theorem Firm.drewN {w W : World} {v : Value} {t : Thr} (h : Firm w W v t) (n : Nat) : Firm w (W.drewN n) v t := h
theorem Firm.set5 {w W : World} {v : Value} {t : Thr} (h : Firm w W v t) (hb : Below w.heap.size w W) {g : Nat} {cs : Array Value} (hg : Blk W g 25 cs) (hgw : w.heap.size ≤ g) (a b c d e : Value) :
    ThrV (((((W.setCell ⟨g, 0, none⟩ a).setCell ⟨g, 1, none⟩ b).setCell ⟨g, 2, none⟩ c).setCell ⟨g, 3, none⟩ d).setCell ⟨g, 4, none⟩ e) v t := by
  rcases h with h | h
  · exact h.below (below_set5 hb hgw a b c d e) (Nat.le_refl _)
  · exact (h.set5 hg a b c d e).val
set_option maxRecDepth 100000 in
set_option maxHeartbeats 4000000 in
theorem refSettle_calls (t : Thr) (v : Value) (cs : List Int) (A : Option Addr) (c : Nat) (w : World) (hv : ThrV w v t) (hl : t.Lens) (hr : Rd w A (cs.flatMap encI)) (hcs : cs.length ≤ 1000) :
    Calls Try.prog 39 #[v, .slice A cs.length c] w (RetV (settleM t cs) w) := by
  have hv0 := hv
  obtain ⟨gr, ou, ps, ms, en⟩ := t
  obtain ⟨A1, c1, A2, c2, rfl, k1, k2, k3, k4, k5, k6⟩ := hv
  clear k1 k2 k3 k4 k5 k6
  simp only at hv0 ⊢
  have HR := Lib.hid hr; clear hr
  have HL := Lib.hid hl; clear hl
  obtain ⟨W0, hW0⟩ : ∃ W0, W0 = ((w.alloc (.cells #[.int .i64 gr, .int .i64 ou, .slice A1 ps.length c1, .slice A2 ms.length c2, .bool en] 25)).alloc (.cells #[.int .i64 0, .int .i64 0, .slice none 0 0, .slice none 0 0, .bool false] 25)) := ⟨_, rfl⟩
  have hB0 : Below w.heap.size w W0 := by rw [hW0]; exact ((Below.refl _ _).alloc (Nat.le_refl _) _).alloc (by simp) _
  have hbx : Blk W0 w.heap.size 25 #[.int .i64 gr, .int .i64 ou, .slice A1 ps.length c1, .slice A2 ms.length c2, .bool en] := by rw [hW0]; exact (Blk.new w 25 _).alloc _
  have hz : Blk W0 (w.heap.size + 1) 25 #[.int .i64 0, .int .i64 0, .slice none 0 0, .slice none 0 0, .bool false] := by
    rw [hW0]
    have := Blk.new (w.alloc (.cells #[.int .i64 gr, .int .i64 ou, .slice A1 ps.length c1, .slice A2 ms.length c2, .bool en] 25)) 25 #[.int .i64 0, .int .i64 0, .slice none 0 0, .slice none 0 0, .bool false]
    rw [show (w.alloc (.cells #[.int .i64 gr, .int .i64 ou, .slice A1 ps.length c1, .slice A2 ms.length c2, .bool en] 25)).heap.size = w.heap.size + 1 from by simp] at this
    exact this
  have hsz := hz.lt
  have HVw := Lib.hid hv0
  have HV := Lib.hid (hv0.below hB0 (Nat.le_refl _)); clear hv0
  have HBX := Lib.hid hbx; clear hbx
  have HZ := Lib.hid hz; clear hz
  have HB0 := Lib.hid hB0; clear hB0
  have HW := Lib.hid hW0; clear hW0
  by_cases hok : Thr.ok ⟨gr, ou, ps, ms, en⟩ = true
  case neg =>
    have Hf := Lib.hid (show settleM ⟨gr, ou, ps, ms, en⟩ cs = (Thr.zero, 0, 280) from by rw [settleM, if_neg hok])
    have hck := Thr.check_f hok
    have Hck := Lib.hid hck; clear hck hok
    go_enter Try.func39, Try.ntmps39
    go_wp2_with fail
    rw [← HW.out]
    refine (refCheckr_calls 280 ⟨gr, ou, ps, ms, en⟩ _ _ Hck.out HV.out HL.out.2).mono ?_
    rintro e w1 ⟨rfl, hb1⟩
    obtain ⟨⟨z0, z1, z2, z3, z4⟩, ⟨y0, y1, y2, y3, y4⟩⟩ := (HZ.out.below hb1 hsz).five
    have Hb1 := Lib.hid (HB0.out.trans (hb1.mono HB0.out.size)); clear hb1
    go_wp2
    exact bodyPost_ret (v := .tuple #[.agg #[.int .i64 0, .int .i64 0, .slice none 0 0, .slice none 0 0, .bool false], .int .i64 0, .int .i64 280]) (by simp [results, Try.results39, go_sem, *]) rfl
      ⟨_, by rw [Hf.out], by rw [Hf.out]; exact (ThrF.zero w.heap.size _).val, below_set5 Hb1.out (Nat.le_succ _) _ _ _ _ _⟩
  have hck := Thr.check_t hok
  have Hck := Lib.hid hck; clear hck
  obtain ⟨R, hR⟩ : ∃ R, R = settleM ⟨gr, ou, ps, ms, en⟩ cs := ⟨_, rfl⟩
  have hgo : settleGo cs (Thr.mu ⟨gr, ou, ps, ms, en⟩) 0 ⟨gr, ou, ps, ms, en⟩ = R := by rw [hR, settleM, if_pos hok]
  rw [← hR]
  have Hgo := Lib.hid hgo
  have Hok := Lib.hid hok
  clear hgo hok hR
  go_enter Try.func39, Try.ntmps39
  go_wp2_with fail
  rw [← HW.out]
  refine (refCheckr_calls 0 ⟨gr, ou, ps, ms, en⟩ _ _ Hck.out HV.out HL.out.2).mono ?_
  rintro e w1 ⟨rfl, hb1⟩
  have HBX1 := Lib.hid (HBX.out.below hb1 (Nat.lt_of_succ_lt hsz))
  have HZ1 := Lib.hid (HZ.out.below hb1 hsz)
  have Hb1 := Lib.hid (HB0.out.trans (hb1.mono HB0.out.size)); clear hb1
  go_wp2_with fail
  go_loopw [7, 8] (fun ee kk wr => ∃ (f k : Nat) (t : Thr) (B1 : Option Addr) (d1 : Nat) (B2 : Option Addr) (d2 : Nat), ee = .int .i64 0 ∧ kk = .int .i64 k ∧ settleGo cs f k t = R ∧ t.mu ≤ f ∧ t.ok = true ∧ k + f ≤ 12000 ∧
    Blk wr w.heap.size 25 #[.int .i64 t.grain, .int .i64 t.out, .slice B1 t.procs.length d1, .slice B2 t.mail.length d2, .bool t.ended] ∧ Firm w wr (.agg #[.int .i64 t.grain, .int .i64 t.out, .slice B1 t.procs.length d1, .slice B2 t.mail.length d2, .bool t.ended]) t ∧
    Blk wr (w.heap.size + 1) 25 #[.int .i64 0, .int .i64 0, .slice none 0 0, .slice none 0 0, .bool false] ∧ Below w.heap.size w wr) (fun _ kk _ => 12000 - (intOf kk).toNat)
  case atStart => exact ⟨_, 0, _, _, _, _, _, rfl, rfl, Hgo.out, Nat.le_refl _, Hok.out, by
    have h1 := (mus_le ms).2
    have h2 := (Thr.good_iff.1 Hok.out).ml
    simp only [Thr.mu] at *
    omega, HBX1.out, .inl HVw.out, HZ1.out, Hb1.out⟩
  case round =>
    obtain ⟨f, k, t, B1, d1, B2, d2, rfl, rfl, hgo, hmu, hok, hkf, hblk, hfirm, hz, hbr⟩ := hrel
    obtain ⟨⟨b0, b1, b2, b3, b4⟩, -⟩ := hblk.five
    have hblt := hblk.lt
    have hzlt := hz.lt
    have hlens := ok_lens hok
    have hgd := Thr.good_iff.1 hok
    have hm4k := hgd.ml
    have Hbr := Lib.hid hbr
    have Hz := Lib.hid hz
    have Hblk := Lib.hid hblk
    have Hfirm := Lib.hid hfirm
    have Hvt := Lib.hid (hfirm.val hbr)
    have Hlens := Lib.hid hlens
    have Hokt := Lib.hid hok
    clear hbr hz hblk hfirm hlens hok hgd
    by_cases hm : t.mail = []
    · have hr0 : R = (t, (k : Int), 0) := by rw [← hgo, settleGo_nil hm]
      have hl0 : t.mail.length = 0 := by rw [hm]; rfl
      have Hr0 := Lib.hid hr0
      have hd0 : decide (0 < t.mail.length) = false := by simp [hl0]
      have hd1 : decide ((0 : Int) < (t.mail.length : Int)) = false := by simp [hl0]
      obtain ⟨⟨z0, z1, z2, z3, z4⟩, ⟨y0, y1, y2, y3, y4⟩⟩ := Hz.out.five
      clear hr0 hm hgo hl0
      go_wp2
      exact bodyPost_ret (v := .tuple #[.agg #[.int .i64 t.grain, .int .i64 t.out, .slice B1 t.procs.length d1, .slice B2 t.mail.length d2, .bool t.ended], .int .i64 k, .int .i64 0]) (by simp [results, Try.results39, go_sem, *]) rfl
        ⟨_, by rw [Hr0.out], by rw [Hr0.out]; exact Hfirm.out.set5 Hbr.out Hz.out (Nat.le_succ _) _ _ _ _ _, below_set5 Hbr.out (Nat.le_succ _) _ _ _ _ _⟩
    have hlen := List.length_pos_iff.2 hm
    obtain ⟨g, rfl, hun⟩ := settleGo_unfold (cs := cs) (k := k) hmu hm
    rw [hun] at hgo
    have hrange := idxM_range cs k t.mail.length hlen
    obtain ⟨i, hi⟩ : ∃ i, i = idxM cs k t.mail.length := ⟨_, rfl⟩
    rw [← hi] at hgo hrange
    obtain ⟨r, hr⟩ : ∃ r, r = deliverM t i := ⟨_, rfl⟩
    rw [← hr] at hgo
    have Hmu := Lib.hid (deliver_mu Hokt.out hrange.1 hrange.2)
    have hd0 : decide (0 < t.mail.length) = true := decide_eq_true hlen
    have hd1 : decide ((0 : Int) < (t.mail.length : Int)) = true := decide_eq_true (by omega)
    have Hgo' := Lib.hid hgo
    have Hrr := Lib.hid hr
    have Hmu0 := Lib.hid hmu
    have hidx := fun W (h : Rd W A (cs.flatMap encI)) => refIndex_calls i cs A c k t.mail.length W hi hlen (by omega) (by omega) (by omega) h
    have Hidx := Lib.hid hidx
    have hcall := fun W (h : ThrV W (.agg #[.int .i64 t.grain, .int .i64 t.out, .slice B1 t.procs.length d1, .slice B2 t.mail.length d2, .bool t.ended]) t) => refDeliver_calls t _ i W h Hlens.out
    rw [← hr] at hcall
    have Hcall := Lib.hid hcall
    have Hrd := Lib.hid (HR.out.below Hbr.out (Nat.le_refl _))
    clear hun hgo hrange hr hi hmu hm hidx hcall
    obtain ⟨⟨gr2, ou2, ps2, ms2, en2⟩, n2⟩ := r
    go_wp2_with fail
    go_region_with (first
      | (go_at_call 74; refine (Hidx.out _ (show Rd wr.drew A _ from Hrd.out)).mono ?_; rintro e w5 ⟨rfl, rfl⟩)
      | (go_at_call 73; refine (Hcall.out _ (show ThrV wr.drew _ _ from Hvt.out)).mono ?_; rintro e w5 ⟨v5, rfl, hv5, hb5⟩; simp only at hv5; have hv5' := hv5; obtain ⟨G1, g1, G2, g2, rfl, -, -⟩ := hv5'; have hblk5 := (show Blk wr.drew w.heap.size 25 _ from Hblk.out).below hb5 hblt; have hF5 := hv5.lower (B' := w.heap.size) (show w.heap.size ≤ wr.drew.heap.size from Hbr.out.size); obtain ⟨⟨c0, c1', c2', c3, c4⟩, ⟨f0, f1, f2, f3, f4⟩⟩ := hblk5.five; have l5 := hblk5.lt; have Hblk5 := Lib.hid hblk5; have HF5 := Lib.hid hF5; have Hb5 := Lib.hid hb5; clear hblk5 hF5 hb5 hv5))
    all_goals
      refine exit_at (fun W => Blk W w.heap.size 25 #[.int .i64 gr2, .int .i64 ou2, .slice G1 ps2.length g1, .slice G2 ms2.length g2, .bool en2] ∧ ThrF w.heap.size W (.agg #[.int .i64 gr2, .int .i64 ou2, .slice G1 ps2.length g1, .slice G2 ms2.length g2, .bool en2]) ⟨gr2, ou2, ps2, ms2, en2⟩ ∧
        Blk W (w.heap.size + 1) 25 #[.int .i64 0, .int .i64 0, .slice none 0 0, .slice none 0 0, .bool false] ∧ Below w.heap.size w W)
        ⟨Hblk5.out.five5, HF5.out.set5 Hblk5.out _ _ _ _ _,
          ((show Blk wr.drew _ _ _ from Hz.out).below Hb5.out hzlt).far5 (b := w.heap.size) (by omega), below_set5 ((show Below w.heap.size w wr.drew from below_drewN Hbr.out 1).trans (Hb5.out.mono (show w.heap.size ≤ wr.drew.heap.size from Hbr.out.size))) (Nat.le_refl _) _ _ _ _ _⟩ ?_
      clear Hblk5 HF5 Hb5 l5 c0 c1' c2' c3 c4 f0 f1 f2 f3 f4 b0 b1 b2 b3 b4 hblt hzlt
      rintro wr3 ⟨hblk3, hf3, hz3, hbr3⟩
      obtain ⟨⟨b0, b1, b2, b3, b4⟩, -⟩ := hblk3.five
      have hblt3 := hblk3.lt
      have hzlt3 := hz3.lt
      have Hblk3 := Lib.hid hblk3
      have Hf3 := Lib.hid hf3
      have Hz3 := Lib.hid hz3
      have Hbr3 := Lib.hid hbr3
      obtain ⟨⟨z0, z1, z2, z3, z4⟩, ⟨y0, y1, y2, y3, y4⟩⟩ := hz3.five
      clear hblk3 hf3 hz3 hbr3
      by_cases hn2 : n2 = 0
      case neg =>
        have hnb : (n2 != 0) = true := by simpa using hn2
        have hfin : R = (Thr.zero, 0, n2) := by have := Hgo'.out; rw [if_neg hn2] at this; exact this.symm
        have Hfin := Lib.hid hfin
        clear hfin hn2
        go_wp2
        exact bodyPost_ret (v := .tuple #[.agg #[.int .i64 0, .int .i64 0, .slice none 0 0, .slice none 0 0, .bool false], .int .i64 0, .int .i64 n2]) (by simp [results, Try.results39, go_sem, *]) rfl
          ⟨_, by rw [Hfin.out], by rw [Hfin.out]; exact (ThrF.zero w.heap.size _).val, below_set5 Hbr3.out (Nat.le_succ _) _ _ _ _ _⟩
      subst hn2
      have hgo2 : settleGo cs g (k + 1) ⟨gr2, ou2, ps2, ms2, en2⟩ = R := by have := Hgo'.out; rwa [if_pos rfl] at this
      have hmu2 := Hmu.out (by rw [← Hrr.out])
      rw [← Hrr.out] at hmu2
      have Hgo2 := Lib.hid hgo2
      have Hmu2 := Lib.hid hmu2
      clear hgo2 hmu2 z0 z1 z2 z3 z4 y0 y1 y2 y3 y4
      go_wp2
      go_roundw
      case rel => exact ⟨g, k + 1, ⟨gr2, ou2, ps2, ms2, en2⟩, _, _, _, _, rfl, by go_num, Hgo2.out, by have h1 : Thr.mu ⟨gr2, ou2, ps2, ms2, en2⟩ + 1 ≤ t.mu := Hmu2.out.1; have h2 : t.mu ≤ g + 1 := Hmu0.out; revert h1 h2; generalize Thr.mu ⟨gr2, ou2, ps2, ms2, en2⟩ = x1; generalize t.mu = x2; intro h1 h2; omega, Hmu2.out.2, by omega, Hblk3.out, .inr Hf3.out, Hz3.out, Hbr3.out⟩
      case measure => simp [intOf]; omega
end Go.Proofs.Ythdlmnkefheliaa
