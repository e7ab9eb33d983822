import Derived.Test.YthdlmnkefheliaaP2
import Derived.Test.YthdlmnkefheliaaD25
import Derived.Test.YthdlmnkefheliaaD32
set_option linter.unusedVariables false
set_option linter.unusedSimpArgs false
namespace Go.Proofs.Ythdlmnkefheliaa
open Go.RowKit

theorem BoxT.store5 {w : World} {b : Nat} {u0 u1 u2 u3 u4 : Value} (h : Blk w b 25 #[u0, u1, u2, u3, u4]) (a0 a1 a2 a3 a4 : Value) :
    Blk (((((w.setCell ⟨b, 0, none⟩ a0).setCell ⟨b, 1, none⟩ a1).setCell ⟨b, 2, none⟩ a2).setCell ⟨b, 3, none⟩ a3).setCell ⟨b, 4, none⟩ a4) b 25 #[a0, a1, a2, a3, a4] := by
  simpa using ((((h.set_ 0 a0).set_ 1 a1).set_ 2 a2).set_ 3 a3).set_ 4 a4
theorem ThrF.drewN {B : Nat} {w : World} {v : Value} {t : Thr} (h : ThrF B w v t) (n : Nat) : ThrF B (w.drewN n) v t := h
theorem blk_far5 {w : World} {b g t : Nat} {cs : Array Value} (h : Blk w g t cs) (hne : g ≠ b) (a0 a1 a2 a3 a4 : Value) :
    Blk (((((w.setCell ⟨b, 0, none⟩ a0).setCell ⟨b, 1, none⟩ a1).setCell ⟨b, 2, none⟩ a2).setCell ⟨b, 3, none⟩ a3).setCell ⟨b, 4, none⟩ a4) g t cs :=
  ((((h.far (p := ⟨b, 0, none⟩) hne a0).far (p := ⟨b, 1, none⟩) hne a1).far (p := ⟨b, 2, none⟩) hne a2).far (p := ⟨b, 3, none⟩) hne a3).far (p := ⟨b, 4, none⟩) hne a4
set_option maxRecDepth 100000 in
set_option maxHeartbeats 4000000 in
theorem suppliesGood_calls (t : Thr) (v : Value) (p : Nat) (w : World) (hv : ThrV w v t) (hm : t.mail.length ≤ 200) (hok : t.ok = true) (hp1 : p < t.procs.length) (hg : (t.proc p).1 ≠ 0) (hq : requestM t p = (t.post (3, p, 0), 0)) (hu : (t.post (3, p, 0)).ok = true) :
    Calls Try.prog 10 #[v, .int .i64 (p : Int)] w fun e w' => e = .returned (.bool true) ∧ Below w.heap.size w w' := by
  have hv0 := hv
  obtain ⟨gr, ou, ps, ms, en⟩ := t
  obtain ⟨A1, c1, A2, c2, rfl, k1, k2, k3, k4, k5, k6⟩ := hv
  have HR1 := Lib.hid k3
  clear k1 k2 k3 k4 k5 k6
  simp only at hv0 HR1 hm hp1 ⊢
  obtain ⟨W0, hW0⟩ : ∃ W0, W0 = w.alloc (.cells #[.int .i64 gr, .int .i64 ou, .slice A1 ps.length c1, .slice A2 ms.length c2, .bool en] 25) := ⟨_, rfl⟩
  have hB0 : Below w.heap.size w W0 := by rw [hW0]; exact (Below.refl _ _).alloc (Nat.le_refl _) _
  have hbx : Blk W0 w.heap.size 25 #[.int .i64 gr, .int .i64 ou, .slice A1 ps.length c1, .slice A2 ms.length c2, .bool en] := by rw [hW0]; exact Blk.new _ _ _
  have hsz := hbx.lt
  have HV := Lib.hid (hv0.below hB0 (Nat.le_refl _)); clear hv0
  have HBX := Lib.hid hbx; clear hbx
  have HB0 := Lib.hid hB0; clear hB0
  have HW := Lib.hid hW0; clear hW0
  have hsane := sane_calls W0
  have Hsane := Lib.hid hsane; clear hsane
  have hmb : decide (200 < ms.length) = false := decide_eq_false (by omega)
  have hmb2 : decide (200 < (ms.length : Int)) = false := decide_eq_false (by omega)
  have hpb : decide ((p : Int) < 0) = false := decide_eq_false (by omega)
  have hck := Thr.check_t hok
  have Hck := Lib.hid hck; clear hck
  have hpc : decide ((ps.length : Int) ≤ p) = false := decide_eq_false (by omega)
  have hpd : ¬ ps.length ≤ p := by omega
  have Hok := Lib.hid hok; clear hok
  have hgd := Thr.good_iff.1 Hok.out
  have hl16 := hgd.pl1
  simp only at hl16
  have Hgd := Lib.hid hgd; clear hgd
  have hlens : Thr.Lens ⟨gr, ou, ps, ms, en⟩ := ok_lens Hok.out
  have Hlens := Lib.hid hlens; clear hlens
  obtain ⟨x, hx⟩ : ∃ x, ps[p]? = some x := ⟨_, List.getElem?_eq_getElem hp1⟩
  have hpx : Thr.proc ⟨gr, ou, ps, ms, en⟩ (p : Int) = x := by
    have := Thr.proc_get (t := ⟨gr, ou, ps, ms, en⟩) hp1
    rw [hx] at this
    injection this with this
    exact this.symm
  have Hx := Lib.hid hx; clear hx
  have Hpx := Lib.hid hpx; clear hpx
  obtain ⟨x1, x2⟩ := x
  have hg0 : x1 ≠ 0 := by have := hg; rw [Hpx.out] at this; exact this
  have hgb : (x1 == 0) = false := by simpa using hg0
  have Hg := Lib.hid hg; clear hg hg0
  have Hq := Lib.hid hq; clear hq
  have Hu := Lib.hid hu; clear hu
  have hml1 : ms.length + 1 ≤ 201 := by omega
  go_enter Try.func10, Try.ntmps10
  go_wp2_with fail
  rw [← HW.out]
  refine Hsane.out.mono ?_
  rintro e w1 ⟨rfl, hb1⟩
  obtain ⟨⟨b0, b1, b2, b3, b4⟩, ⟨f0, f1, f2, f3, f4⟩⟩ := (HBX.out.below hb1 hsz).five
  have HV1 := Lib.hid (HV.out.below hb1 (Nat.le_refl _))
  have HBX1 := Lib.hid (HBX.out.below hb1 hsz)
  have hsz1 := HBX1.out.lt
  have HRd1 := Lib.hid ((HR1.out.below HB0.out (Nat.le_refl _)).below hb1 (Nat.le_refl _))
  have Hb1 := Lib.hid (HB0.out.trans (hb1.mono HB0.out.size)); clear hb1
  go_wp2_with fail
  refine (refCheckAny_calls ⟨gr, ou, ps, ms, en⟩ _ _ HV1.out (by simp only; omega)).mono ?_
  rintro e w2 ⟨rfl, hb2⟩
  rw [Hck.out]
  obtain ⟨⟨b0, b1, b2, b3, b4⟩, ⟨f0, f1, f2, f3, f4⟩⟩ := (HBX1.out.below hb2 hsz1).five
  have HV2 := Lib.hid (HV1.out.below hb2 (Nat.le_refl _))
  have HBX2 := Lib.hid (HBX1.out.below hb2 hsz1)
  have hsz2 := HBX2.out.lt
  have HRd2 := Lib.hid (HRd1.out.below hb2 (Nat.le_refl _))
  have Hb2 := Lib.hid (Hb1.out.trans (hb2.mono Hb1.out.size)); clear hb2
  obtain ⟨g, off, rfl, e0, e1⟩ := Rd.atH HRd2.out Hx.out
  simp only at e0 e1
  have hcall := request_calls ⟨gr, ou, ps, ms, en⟩ _ (p : Int) w2 HV2.out Hlens.out
  rw [Hq.out] at hcall
  have Hcall := Lib.hid hcall; clear hcall
  go_wp2_with fail
  refine Hcall.out.mono ?_
  rintro e w3 ⟨v3, rfl, hv3, hb3⟩
  simp only [Thr.post, List.length_append, List.length_cons, List.length_nil, Nat.zero_add] at hv3
  have hv3' := hv3
  obtain ⟨G1, g1, G2, g2, rfl, -, -⟩ := hv3'
  simp only [List.length_append, List.length_cons, List.length_nil, Nat.zero_add] at hv3
  have HBX3 := Lib.hid (HBX2.out.below hb3 hsz2)
  obtain ⟨⟨b0, b1, b2, b3, b4⟩, ⟨f0, f1, f2, f3, f4⟩⟩ := HBX3.out.five
  have hsz3 := HBX3.out.lt
  have HRd3 := Lib.hid (HRd2.out.below hb3 (Nat.le_refl _))
  have Hb3 := Lib.hid (Hb2.out.trans (hb3.mono Hb2.out.size)); clear hb3
  simp only [Thr.post, List.length_append, List.length_cons, List.length_nil, Nat.zero_add]
  have hbu := Blk.new w3 25 #[.int .i64 gr, .int .i64 ou, .slice G1 ps.length g1, .slice G2 (ms.length + 1) g2, .bool en]
  have hbul := hbu.lt
  obtain ⟨W4, hW4⟩ : ∃ W4, W4 = w3.alloc (.cells #[.int .i64 gr, .int .i64 ou, .slice G1 ps.length g1, .slice G2 (ms.length + 1) g2, .bool en] 25) := ⟨_, rfl⟩
  have hcall := deliver_calls (Thr.post ⟨gr, ou, ps, ms, en⟩ (3, (p : Int), 0)) _ (ms.length : Int) _ (hv3.alloc (.cells #[.int .i64 gr, .int .i64 ou, .slice G1 ps.length g1, .slice G2 (ms.length + 1) g2, .bool en] 25)).val (ok_lens Hu.out)
  have HBX4 := Lib.hid (HBX3.out.alloc (.cells #[.int .i64 gr, .int .i64 ou, .slice G1 ps.length g1, .slice G2 (ms.length + 1) g2, .bool en] 25))
  have HRd4 := Lib.hid (HRd3.out.below ((Below.refl _ w3).alloc (Nat.le_refl _) (.cells #[.int .i64 gr, .int .i64 ou, .slice G1 ps.length g1, .slice G2 (ms.length + 1) g2, .bool en] 25)) (Nat.le_refl _))
  have Hb4 := Lib.hid (Hb3.out.alloc Hb3.out.size (.cells #[.int .i64 gr, .int .i64 ou, .slice G1 ps.length g1, .slice G2 (ms.length + 1) g2, .bool en] 25))
  have K34 := Lib.hid ((Below.refl _ w3).alloc (Nat.le_refl _) (.cells #[.int .i64 gr, .int .i64 ou, .slice G1 ps.length g1, .slice G2 (ms.length + 1) g2, .bool en] 25))
  rw [← hW4] at hbu hbul hcall HBX4 HRd4 Hb4 K34
  have HW4 := Lib.hid hW4
  have HBU := Lib.hid hbu
  have Hcall := Lib.hid hcall
  have hsz4 := HBX4.out.lt
  clear hW4 hbu hcall hv3
  go_wp2_with fail
  rw [← HW4.out]
  rcases supplies_del (t := ⟨gr, ou, ps, ms, en⟩) Hok.out hp1 Hg.out Hu.out with hd | ⟨hd, hu2⟩
  · skip
    have hcall2 := Hcall.out
    rw [hd] at hcall2
    have Hcall2 := Lib.hid hcall2
    clear hcall2 hd
    refine Hcall2.out.mono ?_
    rintro e w5 ⟨v5, rfl, hv5, hb5⟩
    have HBX5 := Lib.hid (HBX4.out.below hb5 hsz4)
    have K35 := Lib.hid (K34.out.trans (hb5.mono K34.out.size))
    have HBU5 := Lib.hid (HBU.out.below hb5 hbul)
    have HRd5 := Lib.hid (HRd4.out.below hb5 (Nat.le_refl _))
    have Hb5 := Lib.hid (Hb4.out.trans (hb5.mono Hb4.out.size)); clear hb5
    obtain ⟨⟨b0, b1, b2, b3, b4⟩, ⟨f0, f1, f2, f3, f4⟩⟩ := HBX5.out.five
    obtain ⟨⟨d0, d1, d2, d3, d4⟩, ⟨q0, q1, q2, q3, q4⟩⟩ := HBU5.out.five
    have hsz5 := HBX5.out.lt
    have hul5 := HBU5.out.lt
    have hne5 : w.heap.size ≠ w3.heap.size := by omega
    obtain ⟨H1, h1, H2, h2, rfl, -, -⟩ := hv5
    simp only [Thr.zero, List.length_nil]
    go_wp2
    go_ret
    exact ⟨rfl, below_set5 Hb5.out (Nat.le_trans Hb3.out.size (Nat.le_refl _)) _ _ _ _ _⟩
  · skip
    have hcall2 := Hcall.out
    rw [hd] at hcall2
    have Hcall2 := Lib.hid hcall2
    clear hcall2 hd
    refine Hcall2.out.mono ?_
    rintro e w5 ⟨v5, rfl, hv5, hb5⟩
    have HBX5 := Lib.hid (HBX4.out.below hb5 hsz4)
    have K35 := Lib.hid (K34.out.trans (hb5.mono K34.out.size))
    have HBU5 := Lib.hid (HBU.out.below hb5 hbul)
    have HRd5 := Lib.hid (HRd4.out.below hb5 (Nat.le_refl _))
    have Hb5 := Lib.hid (Hb4.out.trans (hb5.mono Hb4.out.size)); clear hb5
    obtain ⟨⟨b0, b1, b2, b3, b4⟩, ⟨f0, f1, f2, f3, f4⟩⟩ := HBX5.out.five
    obtain ⟨⟨d0, d1, d2, d3, d4⟩, ⟨q0, q1, q2, q3, q4⟩⟩ := HBU5.out.five
    have hsz5 := HBX5.out.lt
    have hul5 := HBU5.out.lt
    have hne5 : w.heap.size ≠ w3.heap.size := by omega
    simp only [Thr.issue, Thr.post, List.length_append, List.length_cons, List.length_nil, Nat.zero_add] at hv5
    have hv5' := hv5
    obtain ⟨H1, h1, H2, h2, rfl, -, -⟩ := hv5'
    simp only [List.length_append, List.length_cons, List.length_nil, Nat.zero_add] at hv5
    simp only [Thr.issue, Thr.post, List.length_append, List.length_cons, List.length_nil, Nat.zero_add]
    have hwb : w.heap.size ≤ w3.heap.size := Hb3.out.size
    have hlow : w.heap.size ≤ W4.heap.size := Hb4.out.size
    have hset := (hv5.lower hlow).set5 HBU5.out (.int .i64 gr) (.int .i64 (ou + gr)) (.slice H1 ps.length h1) (.slice H2 (ms.length + 1) h2) (.bool en)
    have hbel := below_set5 Hb5.out hwb (.int .i64 gr) (.int .i64 (ou + gr)) (.slice H1 ps.length h1) (.slice H2 (ms.length + 1) h2) (.bool en)
    have hbu5 := BoxT.store5 HBU5.out (.int .i64 gr) (.int .i64 (ou + gr)) (.slice H1 ps.length h1) (.slice H2 (ms.length + 1) h2) (.bool en)
    have hbx5 := blk_far5 HBX5.out hne5 (.int .i64 gr) (.int .i64 (ou + gr)) (.slice H1 ps.length h1) (.slice H2 (ms.length + 1) h2) (.bool en)
    obtain ⟨WD, hWD⟩ : ∃ WD, WD = (((((w5.setCell ⟨w3.heap.size, 0, none⟩ (.int .i64 gr)).setCell ⟨w3.heap.size, 1, none⟩ (.int .i64 (ou + gr))).setCell ⟨w3.heap.size, 2, none⟩ (.slice H1 ps.length h1)).setCell ⟨w3.heap.size, 3, none⟩ (.slice H2 (ms.length + 1) h2)).setCell ⟨w3.heap.size, 4, none⟩ (.bool en)) := ⟨_, rfl⟩
    have K3D := Lib.hid (below_set5 K35.out (Nat.le_refl _) (.int .i64 gr) (.int .i64 (ou + gr)) (.slice H1 ps.length h1) (.slice H2 (ms.length + 1) h2) (.bool en))
    rw [← hWD] at hset hbel hbu5 hbx5 K3D
    have hcall := deliver_calls (Thr.issue ⟨gr, ou, ps, ms, en⟩ 4 (p : Int)) _ (ms.length : Int) WD hset.val (ok_lens hu2)
    have hsT : supT ⟨gr, ou, ps, ms, en⟩ p = ⟨gr, ou + gr, ps.set p (x1, x2 + gr), ms, en⟩ := by rw [supT, Thr.setP, Hpx.out]
    have HsT := Lib.hid hsT
    rw [supplies_del2 (t := ⟨gr, ou, ps, ms, en⟩) Hok.out hp1 Hg.out hu2, hsT] at hcall
    have Hcall3 := Lib.hid hcall
    have HWD := Lib.hid hWD
    have HBX6 := Lib.hid hbx5
    have HBU6 := Lib.hid hbu5
    have Hb6 := Lib.hid hbel
    have HsupOk := Lib.hid (supT_ok (t := ⟨gr, ou, ps, ms, en⟩) Hok.out hp1 Hg.out hu2)
    have hul6 := HBU6.out.lt
    have hsz6 := HBX6.out.lt
    clear hset hbel hbu5 hbx5 hWD hcall hv5 hu2 hsT
    go_wp2_with fail
    rw [← HWD.out]
    refine Hcall3.out.mono ?_
    rintro e w7 ⟨v7, rfl, hv7, hb7⟩
    have Hb37 := Lib.hid (K3D.out.trans (hb7.mono K3D.out.size))
    have HBX7 := Lib.hid (HBX6.out.below hb7 hsz6)
    have HBU7 := Lib.hid (HBU6.out.below hb7 hul6)
    have Hb7 := Lib.hid (Hb6.out.trans (hb7.mono Hb6.out.size))
    simp only [List.length_set] at hv7
    have hv7' := hv7
    obtain ⟨I1, i1, I2, i2, rfl, -, -⟩ := hv7'
    simp only [List.length_set] at hv7 ⊢
    have hul7 := HBU7.out.lt
    have hsz7 := HBX7.out.lt
    have hlow7 : w.heap.size ≤ WD.heap.size := Hb6.out.size
    have hset := (hv7.lower hlow7).set5 HBU7.out (.int .i64 gr) (.int .i64 (ou + gr)) (.slice I1 ps.length i1) (.slice I2 ms.length i2) (.bool en)
    have hbel := below_set5 Hb7.out hwb (.int .i64 gr) (.int .i64 (ou + gr)) (.slice I1 ps.length i1) (.slice I2 ms.length i2) (.bool en)
    have hbu5 := BoxT.store5 HBU7.out (.int .i64 gr) (.int .i64 (ou + gr)) (.slice I1 ps.length i1) (.slice I2 ms.length i2) (.bool en)
    have hbx5 := blk_far5 HBX7.out hne5 (.int .i64 gr) (.int .i64 (ou + gr)) (.slice I1 ps.length i1) (.slice I2 ms.length i2) (.bool en)
    obtain ⟨WE, hWE⟩ : ∃ WE, WE = (((((w7.setCell ⟨w3.heap.size, 0, none⟩ (.int .i64 gr)).setCell ⟨w3.heap.size, 1, none⟩ (.int .i64 (ou + gr))).setCell ⟨w3.heap.size, 2, none⟩ (.slice I1 ps.length i1)).setCell ⟨w3.heap.size, 3, none⟩ (.slice I2 ms.length i2)).setCell ⟨w3.heap.size, 4, none⟩ (.bool en)) := ⟨_, rfl⟩
    obtain ⟨⟨b0, b1, b2, b3, b4⟩, ⟨f0, f1, f2, f3, f4⟩⟩ := HBX7.out.five
    obtain ⟨⟨d0, d1, d2, d3, d4⟩, ⟨q0, q1, q2, q3, q4⟩⟩ := HBU7.out.five
    have hbelw : Below w3.heap.size w3 WE := by rw [hWE]; exact below_set5 (Hb37.out) (Nat.le_refl _) _ _ _ _ _
    rw [← hWE] at hset hbel hbu5 hbx5
    have HRdE := Lib.hid (HRd3.out.below hbelw (Nat.le_refl _))
    have HWE := Lib.hid hWE
    have Hset := Lib.hid hset
    have Hbel := Lib.hid hbel
    have Hbu7 := Lib.hid hbu5
    have Hbx7 := Lib.hid hbx5
    clear hset hbel hbu5 hbx5 hWE hbelw hv7 hb7
    go_wp2_with fail
    rw [← HWE.out]
    clear b0 b1 b2 b3 b4 f0 f1 f2 f3 f4 d0 d1 d2 d3 d4 q0 q1 q2 q3 q4
    obtain ⟨⟨b0, b1, b2, b3, b4⟩, -⟩ := Hbx7.out.five
    obtain ⟨⟨d0, d1, d2, d3, d4⟩, -⟩ := Hbu7.out.five
    have hxE : (ps.set p (x1, x2 + gr))[p]? = some (x1, x2 + gr) := by rw [List.getElem?_set_self hp1]
    obtain ⟨g9, o9, rfl, r0, r1⟩ := Rd.atH (own_rd Hset.out.rows.1) hxE
    obtain ⟨g8, o8, hg8, s0, s1⟩ := Rd.atH HRdE.out Hx.out
    injection hg8 with hg8
    injection hg8 with hg81 hg82 _
    subst hg81 hg82
    simp only at r0 r1 s0 s1
    have hgrb := Hgd.out.gr0
    have hgrb1 := Hgd.out.gr1
    have hx2b := ((holder_iff _).1 (Hgd.out.pr _ (List.mem_of_getElem? Hx.out))).2.1
    simp only at hgrb hgrb1 hx2b
    obtain ⟨hx20, hx21⟩ := hx2b
    have hp0 : (0 : Int) ≤ (p : Int) := Int.natCast_nonneg _
    have hp2 : (p : Int) < (ps.length : Int) := by omega
    have hcall := fun n => move_calls ⟨gr, ou + gr, ps.set p (x1, x2 + gr), ms, en⟩ _ (p : Int) 0 (WE.drewN n) (Hset.out.drewN n).val (by rw [← HsT.out]; exact ok_lens HsupOk.out)
    have hmv := supplies_move (t := ⟨gr, ou, ps, ms, en⟩) (p := p) Hok.out hm hp1 Hg.out HsupOk.out
    rw [HsT.out] at hmv
    obtain ⟨r, hr⟩ : ∃ r, r = moveM ⟨gr, ou + gr, ps.set p (x1, x2 + gr), ms, en⟩ (p : Int) 0 := ⟨_, rfl⟩
    rw [← hr] at hmv hcall
    obtain ⟨rt, rn⟩ := r
    simp only at hmv
    subst hmv
    have Hcall9 := Lib.hid hcall
    clear hcall hr hxE
    go_quiet (fail)
    all_goals
      go_wp2_with fail
      refine (Hcall9.out _).mono ?_
      rintro e w9 ⟨v9, rfl, hv9, hb9⟩
      have Hb9 := Lib.hid ((below_drewN Hbel.out _).trans (hb9.mono (below_drewN Hbel.out _).size))
      obtain ⟨J1, j1, J2, j2, rfl, -, -⟩ := hv9
      clear hb9
      go_wp2
      go_ret
      exact ⟨rfl, Hb9.out⟩
end Go.Proofs.Ythdlmnkefheliaa
