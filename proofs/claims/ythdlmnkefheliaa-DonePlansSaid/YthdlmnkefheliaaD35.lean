import Derived.Test.YthdlmnkefheliaaD34
set_option linter.unusedVariables false
set_option linter.unusedSimpArgs false
namespace Go.Proofs.Ythdlmnkefheliaa
open Go.RowKit

theorem settleGo_unfold {cs : List Int} {f k : Nat} {t : Thr} (hf : t.mu ≤ f) (hm : t.mail ≠ []) : ∃ g, f = g + 1 ∧ settleGo cs f k t =
    (if (deliverM t (idxM cs k t.mail.length)).2 = 0 then settleGo cs g (k + 1) (deliverM t (idxM cs k t.mail.length)).1 else (Thr.zero, 0, (deliverM t (idxM cs k t.mail.length)).2)) := by
  have hlen := List.length_pos_iff.2 hm
  have := (mus_le t.mail).1
  rw [Thr.mu] at hf
  obtain ⟨g, rfl⟩ : ∃ g, f = g + 1 := ⟨f - 1, by omega⟩
  exact ⟨g, rfl, by rw [settleGo, if_neg hm]⟩
theorem settleGo_nil {cs : List Int} {f k : Nat} {t : Thr} (hm : t.mail = []) : settleGo cs f k t = (t, (k : Int), 0) := by
  cases f with
  | zero => rfl
  | succ f => rw [settleGo, if_pos hm]
theorem idxM_none {cs : List Int} {k n : Nat} (h : cs.length ≤ k) : idxM cs k n = 0 := by
  unfold idxM; rw [List.getElem?_eq_none h]
theorem idxM_some {cs : List Int} {k n : Nat} {c : Int} (h : cs[k]? = some c) : idxM cs k n = c % (n : Int) := by
  unfold idxM; rw [h]

set_option maxRecDepth 100000 in
set_option maxHeartbeats 4000000 in
theorem settle_calls (t : Thr) (v : Value) (cs : List Int) (A : Option Addr) (c : Nat) (w : World) (hv : ThrV w v t) (hl : t.Lens) (hr : Rd w A (cs.flatMap encI)) (hcs : cs.length ≤ 1000) :
    Calls Try.prog 38 #[v, .slice A cs.length c] w (RetI (settleM t cs) w) := by
  have hv0 := hv
  obtain ⟨gr, ou, ps, ms, en⟩ := t
  obtain ⟨A1, c1, A2, c2, rfl, k1, k2, k3, k4, k5, k6⟩ := hv
  clear k1 k2 k3 k4 k5 k6
  simp only at hv0 ⊢
  have HR := Lib.hid hr; clear hr
  have HL := Lib.hid hl; clear hl
  obtain ⟨W0, hW0⟩ : ∃ W0, W0 = ((w.alloc (.cells #[.int .i64 gr, .int .i64 ou, .slice A1 ps.length c1, .slice A2 ms.length c2, .bool en] 25)).alloc (.cells #[.int .i64 0, .int .i64 0, .slice none 0 0, .slice none 0 0, .bool false] 25)) := ⟨_, rfl⟩
  have hB0 : Below w.heap.size w W0 := by rw [hW0]; exact ((Below.refl _ _).alloc (Nat.le_refl _) _).alloc (by simp) _
  have hbx : Blk W0 w.heap.size 25 #[.int .i64 gr, .int .i64 ou, .slice A1 ps.length c1, .slice A2 ms.length c2, .bool en] := by rw [hW0]; exact (Blk.new w 25 _).alloc _
  have hz : Blk W0 (w.heap.size + 1) 25 #[.int .i64 0, .int .i64 0, .slice none 0 0, .slice none 0 0, .bool false] := by
    rw [hW0]
    have := Blk.new (w.alloc (.cells #[.int .i64 gr, .int .i64 ou, .slice A1 ps.length c1, .slice A2 ms.length c2, .bool en] 25)) 25 #[.int .i64 0, .int .i64 0, .slice none 0 0, .slice none 0 0, .bool false]
    rw [show (w.alloc (.cells #[.int .i64 gr, .int .i64 ou, .slice A1 ps.length c1, .slice A2 ms.length c2, .bool en] 25)).heap.size = w.heap.size + 1 from by simp] at this
    exact this
  have hsz := hz.lt
  have HV := Lib.hid (hv0.below hB0 (Nat.le_refl _)); clear hv0
  have HBX := Lib.hid hbx; clear hbx
  have HZ := Lib.hid hz; clear hz
  have HB0 := Lib.hid hB0; clear hB0
  have HW := Lib.hid hW0; clear hW0
  by_cases hok : Thr.ok ⟨gr, ou, ps, ms, en⟩ = true
  case neg =>
    have Hf := Lib.hid (show settleM ⟨gr, ou, ps, ms, en⟩ cs = (Thr.zero, 0, 280) from by rw [settleM, if_neg hok])
    have hck := Thr.check_f hok
    have Hck := Lib.hid hck; clear hck hok
    go_enter Try.func38, Try.ntmps38
    go_wp2_with fail
    rw [← HW.out]
    refine (checkr_calls 280 ⟨gr, ou, ps, ms, en⟩ _ _ Hck.out HV.out HL.out).mono ?_
    rintro e w1 ⟨rfl, hb1⟩
    obtain ⟨⟨z0, z1, z2, z3, z4⟩, ⟨y0, y1, y2, y3, y4⟩⟩ := (HZ.out.below hb1 hsz).five
    have Hb1 := Lib.hid (HB0.out.trans (hb1.mono HB0.out.size)); clear hb1
    go_wp2
    exact bodyPost_ret (v := .tuple #[.agg #[.int .i64 0, .int .i64 0, .slice none 0 0, .slice none 0 0, .bool false], .int .i64 0, .int .i64 280]) (by simp [results, Try.results38, go_sem, *]) rfl
      ⟨_, by rw [Hf.out], by rw [Hf.out]; exact ThrF.zero _ _, below_set5 Hb1.out (Nat.le_succ _) _ _ _ _ _⟩
  have hck := Thr.check_t hok
  have Hck := Lib.hid hck; clear hck
  obtain ⟨R, hR⟩ : ∃ R, R = settleM ⟨gr, ou, ps, ms, en⟩ cs := ⟨_, rfl⟩
  have hgo : settleGo cs (Thr.mu ⟨gr, ou, ps, ms, en⟩) 0 ⟨gr, ou, ps, ms, en⟩ = R := by rw [hR, settleM, if_pos hok]
  rw [← hR]
  have Hgo := Lib.hid hgo
  have Hok := Lib.hid hok
  clear hgo hok hR
  go_enter Try.func38, Try.ntmps38
  go_wp2_with fail
  rw [← HW.out]
  refine (checkr_calls 0 ⟨gr, ou, ps, ms, en⟩ _ _ Hck.out HV.out HL.out).mono ?_
  rintro e w1 ⟨rfl, hb1⟩
  have HV1 := Lib.hid (HV.out.below hb1 (Nat.le_refl _))
  have HBX1 := Lib.hid (HBX.out.below hb1 (Nat.lt_of_succ_lt hsz))
  have HZ1 := Lib.hid (HZ.out.below hb1 hsz)
  have Hb1 := Lib.hid (HB0.out.trans (hb1.mono HB0.out.size)); clear hb1
  have Hbv := Lib.hid (show BoxV w1 w.heap.size ⟨gr, ou, ps, ms, en⟩ from ⟨A1, c1, A2, c2, HBX1.out, HV1.out⟩)
  go_wp2_with fail
  go_loopw [8] (fun kk wr => ∃ (f k : Nat) (t : Thr), kk = .int .i64 k ∧ settleGo cs f k t = R ∧ t.mu ≤ f ∧ t.ok = true ∧ k + f ≤ 12000 ∧ BoxV wr w.heap.size t ∧ Blk wr (w.heap.size + 1) 25 #[.int .i64 0, .int .i64 0, .slice none 0 0, .slice none 0 0, .bool false] ∧ Below w.heap.size w wr) (fun kk _ => 12000 - (intOf kk).toNat)
  case atStart => exact ⟨_, 0, _, rfl, Hgo.out, Nat.le_refl _, Hok.out, by
    have h1 := (mus_le ms).2
    have h2 := (Thr.good_iff.1 Hok.out).ml
    simp only [Thr.mu] at *
    omega, Hbv.out, HZ1.out, Hb1.out⟩
  case round =>
    obtain ⟨f, k, t, rfl, hgo, hmu, hok, hkf, hbv, hz, hbr⟩ := hrel
    obtain ⟨B1, d1, B2, d2, hblk, hvt⟩ := hbv
    obtain ⟨⟨b0, b1, b2, b3, b4⟩, -⟩ := hblk.five
    have hblt := hblk.lt
    have hzlt := hz.lt
    have hlens := ok_lens hok
    have hgd := Thr.good_iff.1 hok
    have hm4k := hgd.ml
    have Hbr := Lib.hid hbr
    have Hz := Lib.hid hz
    have Hblk := Lib.hid hblk
    have Hvt := Lib.hid hvt
    have Hlens := Lib.hid hlens
    have Hgd := Lib.hid hgd
    have Hokt := Lib.hid hok
    clear hbr hz hblk hvt hlens hgd hok
    by_cases hm : t.mail = []
    · have hr0 : R = (t, (k : Int), 0) := by rw [← hgo, settleGo_nil hm]
      have hl0 : t.mail.length = 0 := by rw [hm]; rfl
      have Hr0 := Lib.hid hr0
      have hcall := begun_calls' t _ none 0 0 [] wr rfl Hvt.out Hlens.out (rd_nil _ _) (by simp)
      have Hcall := Lib.hid hcall
      have Hl0 := Lib.hid hl0
      have hd0 : decide (0 < t.mail.length) = false := by simp [hl0]
      have hd1 : decide ((0 : Int) < (t.mail.length : Int)) = false := by simp [hl0]
      clear hcall hr0 hm hgo hl0
      go_wp2_with fail
      refine Hcall.out.mono ?_
      rintro e w2 ⟨x, n, rfl, hbg⟩
      have hn : n = 0 := by rw [hbg.num]; exact begun0 Hokt.out [] (by simp)
      obtain ⟨p, pv, mv, rfl, hB⟩ := hbg.good hn
      subst hn
      have hb2 := hbg.bel
      obtain ⟨P1, p1, rfl⟩ := own_slice hB.2.2.1
      obtain ⟨P2, p2, rfl⟩ := own_slice hB.2.2.2
      obtain ⟨⟨b0, b1, b2, b3, b4⟩, -⟩ := hB.2.1.five
      have hplt := hB.2.1.lt
      have hZ2 := Hz.out.below hb2 hzlt
      obtain ⟨⟨z0, z1, z2, z3, z4⟩, ⟨y0, y1, y2, y3, y4⟩⟩ := hZ2.five
      have hzl2 := hZ2.lt
      have hF : ThrF w.heap.size w2 (.agg #[.int .i64 t.grain, .int .i64 t.out, .slice P1 t.procs.length p1, .slice P2 t.mail.length p2, .bool t.ended]) t :=
        ⟨_, _, _, _, rfl, own_lower hB.2.2.1 Hbr.out.size, own_lower hB.2.2.2 Hbr.out.size⟩
      have Hset := Lib.hid (hF.set5 hZ2 (.int .i64 t.grain) (.int .i64 t.out) (.slice P1 t.procs.length p1) (.slice P2 t.mail.length p2) (.bool t.ended))
      have Hbel := Lib.hid (below_set5 (Hbr.out.trans (hb2.mono Hbr.out.size)) (Nat.le_succ _) (.int .i64 t.grain) (.int .i64 t.out) (.slice P1 t.procs.length p1) (.slice P2 t.mail.length p2) (.bool t.ended))
      clear hbg hB hb2 hZ2 hF
      go_wp2
      exact bodyPost_ret (v := .tuple #[.agg #[.int .i64 t.grain, .int .i64 t.out, .slice P1 t.procs.length p1, .slice P2 t.mail.length p2, .bool t.ended], .int .i64 k, .int .i64 0]) (by simp [results, Try.results38, go_sem, *]) rfl
        ⟨_, by rw [Hr0.out], by rw [Hr0.out]; exact Hset.out, Hbel.out⟩
    have hlen := List.length_pos_iff.2 hm
    obtain ⟨g, rfl, hun⟩ := settleGo_unfold (cs := cs) (k := k) hmu hm
    rw [hun] at hgo
    have hrange := idxM_range cs k t.mail.length hlen
    obtain ⟨i, hi⟩ : ∃ i, i = idxM cs k t.mail.length := ⟨_, rfl⟩
    rw [← hi] at hgo hrange
    obtain ⟨r, hr⟩ : ∃ r, r = deliverM t i := ⟨_, rfl⟩
    rw [← hr] at hgo
    have Hmu := Lib.hid (deliver_mu Hokt.out hrange.1 hrange.2)
    have hd0 : decide (0 < t.mail.length) = true := decide_eq_true hlen
    have hd1 : decide ((0 : Int) < (t.mail.length : Int)) = true := decide_eq_true (by omega)
    have Hgo' := Lib.hid hgo
    have Hun := Lib.hid hun
    have Hrr := Lib.hid hr
    have Hii := Lib.hid hi
    have Hrg := Lib.hid hrange
    have Hmu0 := Lib.hid hmu
    clear hun hgo hrange hr hi hmu hm
    by_cases hkc : k < cs.length
    case neg =>
      have hi0 : i = 0 := by rw [Hii.out]; exact idxM_none (by omega)
      subst hi0
      have hkb : decide ((k : Int) < (cs.length : Int)) = false := decide_eq_false (by omega)
      have hkb2 : decide (k < cs.length) = false := decide_eq_false hkc
      have hcall := deliver_calls t _ 0 wr Hvt.out Hlens.out
      rw [← Hrr.out] at hcall
      have Hcall := Lib.hid hcall
      clear hcall hkc
      go_wp2_with fail
      refine Hcall.out.mono ?_
      obtain ⟨⟨gr2, ou2, ps2, ms2, en2⟩, n2⟩ := r
      rintro e w2 ⟨v2, rfl, hv2, hb2⟩
      simp only at hv2
      have hv2' := hv2
      obtain ⟨G1, g1, G2, g2, rfl, -, -⟩ := hv2'
      have hblk2 := Hblk.out.below hb2 hblt
      have hz2 := Hz.out.below hb2 hzlt
      have Hb2 := Lib.hid (Hbr.out.trans (hb2.mono Hbr.out.size))
      have hv5 := hv2.lower (B' := w.heap.size) Hbr.out.size
      have hblt2 := hblk2.lt
      have hzlt2 := hz2.lt
      clear b0 b1 b2 b3 b4
      by_cases hn2 : n2 = 0
      case neg =>
        have hnb : (n2 != 0) = true := by simpa using hn2
        have hfin : R = (Thr.zero, 0, n2) := by have := Hgo'.out; rw [if_neg hn2] at this; exact this.symm
        have Hfin := Lib.hid hfin
        obtain ⟨⟨z0, z1, z2, z3, z4⟩, ⟨y0, y1, y2, y3, y4⟩⟩ := hz2.five
        clear hfin hn2 hblk2 hz2 hv5 hv2 hb2
        go_wp2
        have hb5 := below_set5 Hb2.out (Nat.le_succ _) (.int .i64 0) (.int .i64 0) (.slice none 0 0) (.slice none 0 0) (.bool false)
        exact bodyPost_ret (v := .tuple #[.agg #[.int .i64 0, .int .i64 0, .slice none 0 0, .slice none 0 0, .bool false], .int .i64 0, .int .i64 n2]) (by simp [results, Try.results38, go_sem, *]) rfl
          ⟨_, by rw [Hfin.out], by rw [Hfin.out]; exact ThrF.zero _ _, hb5.alloc hb5.size _⟩
      subst hn2
      have hgo2 : settleGo cs g (k + 1) ⟨gr2, ou2, ps2, ms2, en2⟩ = R := by have := Hgo'.out; rwa [if_pos rfl] at this
      have hmu2 := Hmu.out (by rw [← Hrr.out])
      rw [← Hrr.out] at hmu2
      have Hgo2 := Lib.hid hgo2
      have Hmu2 := Lib.hid hmu2
      obtain ⟨⟨b0, b1, b2, b3, b4⟩, ⟨f0, f1, f2, f3, f4⟩⟩ := hblk2.five
      have hF5 := hv5.set5 hblk2 (.int .i64 gr2) (.int .i64 ou2) (.slice G1 ps2.length g1) (.slice G2 ms2.length g2) (.bool en2)
      have hblk5 := hblk2.five5 (a0 := .int .i64 gr2) (a1 := .int .i64 ou2) (a2 := .slice G1 ps2.length g1) (a3 := .slice G2 ms2.length g2) (a4 := .bool en2)
      have hz5 := hz2.far5 (b := w.heap.size) (by omega) (a0 := .int .i64 gr2) (a1 := .int .i64 ou2) (a2 := .slice G1 ps2.length g1) (a3 := .slice G2 ms2.length g2) (a4 := .bool en2)
      have hbel5 := below_set5 Hb2.out (Nat.le_refl _) (.int .i64 gr2) (.int .i64 ou2) (.slice G1 ps2.length g1) (.slice G2 ms2.length g2) (.bool en2)
      have hbv5 := (show BoxV _ w.heap.size ⟨gr2, ou2, ps2, ms2, en2⟩ from ⟨_, _, _, _, hblk5, hF5.val⟩).below ((Below.refl _ _).alloc (Nat.le_refl _) (.cells #[.int .i64 gr2, .int .i64 ou2, .slice G1 ps2.length g1, .slice G2 ms2.length g2, .bool en2] 25)) (Nat.le_refl _)
      have Hbv5 := Lib.hid hbv5
      have Hz5 := Lib.hid (hz5.alloc (.cells #[.int .i64 gr2, .int .i64 ou2, .slice G1 ps2.length g1, .slice G2 ms2.length g2, .bool en2] 25))
      have Hbel5 := Lib.hid (hbel5.alloc hbel5.size (.cells #[.int .i64 gr2, .int .i64 ou2, .slice G1 ps2.length g1, .slice G2 ms2.length g2, .bool en2] 25))
      clear hgo2 hmu2 hF5 hblk5 hz5 hbel5 hbv5 hblk2 hz2 hv5 hv2 hb2
      go_wp2
      go_roundw
      case rel => exact ⟨g, k + 1, _, by go_num, Hgo2.out, by have := Hmu2.out.1; have := Hmu0.out; omega, Hmu2.out.2, by omega, Hbv5.out, Hz5.out, Hbel5.out⟩
      case measure => simp [intOf]; omega
    obtain ⟨ch, hch⟩ : ∃ ch, cs[k]? = some ch := ⟨_, List.getElem?_eq_getElem hkc⟩
    obtain ⟨g0, off, rfl, e0⟩ := Rd.atI (HR.out.below Hbr.out (Nat.le_refl _)) hch
    have hi0 : i = ch % (t.mail.length : Int) := by rw [Hii.out]; exact idxM_some hch
    have hkb : decide ((k : Int) < (cs.length : Int)) = true := decide_eq_true (by omega)
    have hkb2 : decide (k < cs.length) = true := decide_eq_true hkc
    have hk0 : (0 : Int) ≤ (k : Int) := Int.natCast_nonneg _
    have hk1 : (k : Int) < (cs.length : Int) := by omega
    obtain ⟨tm, htm⟩ : ∃ tm, tm = ch.tmod (t.mail.length : Int) := ⟨_, rfl⟩
    have hbd := tmod_bd ch t.mail.length hlen
    rw [← htm] at hbd
    obtain ⟨hbd1, hbd2⟩ := hbd
    have hceq : (tm + (t.mail.length : Int)).tmod (t.mail.length : Int) = i := by rw [htm, hi0]; exact choice_eq ch _ hlen
    have hcall := deliver_calls t _ i wr Hvt.out Hlens.out
    rw [← Hrr.out] at hcall
    have Hcall := Lib.hid hcall
    have Hch := Lib.hid hch
    clear hcall hi0 hch
    have q1 : -9223372036854775808 ≤ tm + (t.mail.length : Int) ∧ tm + (t.mail.length : Int) ≤ 9223372036854775807 := by omega
    have q2 : -9223372036854775808 ≤ tm ∧ tm ≤ 9223372036854775807 := by omega
    have q3 : -9223372036854775808 ≤ i ∧ i ≤ 9223372036854775807 := by have := Hrg.out; omega
    have hne00 : (t.mail.length : Int) ≠ 0 := by omega
    have hwrap : IntKind.i64.wrap (tm + (t.mail.length : Int)) = tm + (t.mail.length : Int) := IntWalk.i64_in _ q1
    have hwr2 : IntKind.i64.wrap tm = tm := IntWalk.i64_in _ q2
    have hwr3 : IntKind.i64.wrap i = i := IntWalk.i64_in _ q3
    clear q1 q2 q3
    have hne0 : ((t.mail.length : Int) == 0) = false := beq_eq_false_iff_ne.2 hne00
    have htm' := htm.symm
    clear htm
    go_wp2_with fail
    go_quiet (fail)
    clear hwrap hwr2 hwr3 hceq htm' hne0 hne00 hbd1 hbd2 b0 b1 b2 b3 b4 e0 Hcall
    refine exit_at (fun W => Blk W w.heap.size 25 #[.int .i64 t.grain, .int .i64 t.out, .slice B1 t.procs.length d1, .slice B2 t.mail.length d2, .bool t.ended] ∧
      ThrV W (.agg #[.int .i64 t.grain, .int .i64 t.out, .slice B1 t.procs.length d1, .slice B2 t.mail.length d2, .bool t.ended]) t ∧ Blk W (w.heap.size + 1) 25 #[.int .i64 0, .int .i64 0, .slice none 0 0, .slice none 0 0, .bool false] ∧ Below w.heap.size w W)
      ⟨Hblk.out.drewN _, Hvt.out, Hz.out.drewN _, below_drewN Hbr.out _⟩ ?_
    rintro wr3 ⟨hblk3, hvt3, hz3, hbr3⟩
    obtain ⟨⟨b0, b1, b2, b3, b4⟩, -⟩ := hblk3.five
    have hblt3 := hblk3.lt
    have hzlt3 := hz3.lt
    have hcall := deliver_calls t _ i wr3 hvt3 Hlens.out
    rw [← Hrr.out] at hcall
    have Hcall := Lib.hid hcall
    have Hblk3 := Lib.hid hblk3
    have Hz3 := Lib.hid hz3
    have Hbr3 := Lib.hid hbr3
    clear hcall hblk3 hvt3 hz3 hbr3
    go_wp2_with fail
    refine Hcall.out.mono ?_
    obtain ⟨⟨gr2, ou2, ps2, ms2, en2⟩, n2⟩ := r
    rintro e w2 ⟨v2, rfl, hv2, hb2⟩
    simp only at hv2
    have hv2' := hv2
    obtain ⟨G1, g1, G2, g2, rfl, -, -⟩ := hv2'
    have hblk2 := Hblk3.out.below hb2 hblt3
    have hz2 := Hz3.out.below hb2 hzlt3
    have Hb2 := Lib.hid (Hbr3.out.trans (hb2.mono Hbr3.out.size))
    have hv5 := hv2.lower (B' := w.heap.size) Hbr3.out.size
    have hblt2 := hblk2.lt
    have hzlt2 := hz2.lt
    clear b0 b1 b2 b3 b4
    by_cases hn2 : n2 = 0
    case neg =>
      have hnb : (n2 != 0) = true := by simpa using hn2
      have hfin : R = (Thr.zero, 0, n2) := by have := Hgo'.out; rw [if_neg hn2] at this; exact this.symm
      have Hfin := Lib.hid hfin
      obtain ⟨⟨z0, z1, z2, z3, z4⟩, ⟨y0, y1, y2, y3, y4⟩⟩ := hz2.five
      clear hfin hn2 hblk2 hz2 hv5 hv2 hb2
      go_wp2
      have hb5 := below_set5 Hb2.out (Nat.le_succ _) (.int .i64 0) (.int .i64 0) (.slice none 0 0) (.slice none 0 0) (.bool false)
      exact bodyPost_ret (v := .tuple #[.agg #[.int .i64 0, .int .i64 0, .slice none 0 0, .slice none 0 0, .bool false], .int .i64 0, .int .i64 n2]) (by simp [results, Try.results38, go_sem, *]) rfl
        ⟨_, by rw [Hfin.out], by rw [Hfin.out]; exact ThrF.zero _ _, hb5.alloc hb5.size _⟩
    subst hn2
    have hgo2 : settleGo cs g (k + 1) ⟨gr2, ou2, ps2, ms2, en2⟩ = R := by have := Hgo'.out; rwa [if_pos rfl] at this
    have hmu2 := Hmu.out (by rw [← Hrr.out])
    rw [← Hrr.out] at hmu2
    have Hgo2 := Lib.hid hgo2
    have Hmu2 := Lib.hid hmu2
    obtain ⟨⟨b0, b1, b2, b3, b4⟩, ⟨f0, f1, f2, f3, f4⟩⟩ := hblk2.five
    have hF5 := hv5.set5 hblk2 (.int .i64 gr2) (.int .i64 ou2) (.slice G1 ps2.length g1) (.slice G2 ms2.length g2) (.bool en2)
    have hblk5 := hblk2.five5 (a0 := .int .i64 gr2) (a1 := .int .i64 ou2) (a2 := .slice G1 ps2.length g1) (a3 := .slice G2 ms2.length g2) (a4 := .bool en2)
    have hz5 := hz2.far5 (b := w.heap.size) (by omega) (a0 := .int .i64 gr2) (a1 := .int .i64 ou2) (a2 := .slice G1 ps2.length g1) (a3 := .slice G2 ms2.length g2) (a4 := .bool en2)
    have hbel5 := below_set5 Hb2.out (Nat.le_refl _) (.int .i64 gr2) (.int .i64 ou2) (.slice G1 ps2.length g1) (.slice G2 ms2.length g2) (.bool en2)
    have hbv5 := (show BoxV _ w.heap.size ⟨gr2, ou2, ps2, ms2, en2⟩ from ⟨_, _, _, _, hblk5, hF5.val⟩).below ((Below.refl _ _).alloc (Nat.le_refl _) (.cells #[.int .i64 gr2, .int .i64 ou2, .slice G1 ps2.length g1, .slice G2 ms2.length g2, .bool en2] 25)) (Nat.le_refl _)
    have Hbv5 := Lib.hid hbv5
    have Hz5 := Lib.hid (hz5.alloc (.cells #[.int .i64 gr2, .int .i64 ou2, .slice G1 ps2.length g1, .slice G2 ms2.length g2, .bool en2] 25))
    have Hbel5 := Lib.hid (hbel5.alloc hbel5.size (.cells #[.int .i64 gr2, .int .i64 ou2, .slice G1 ps2.length g1, .slice G2 ms2.length g2, .bool en2] 25))
    clear hgo2 hmu2 hF5 hblk5 hz5 hbel5 hbv5 hblk2 hz2 hv5 hv2 hb2
    go_wp2
    go_roundw
    case rel => exact ⟨g, k + 1, _, by go_num, Hgo2.out, by have := Hmu2.out.1; have := Hmu0.out; omega, Hmu2.out.2, by omega, Hbv5.out, Hz5.out, Hbel5.out⟩
    case measure => simp [intOf]; omega
end Go.Proofs.Ythdlmnkefheliaa
