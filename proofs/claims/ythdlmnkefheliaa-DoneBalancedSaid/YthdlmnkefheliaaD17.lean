import Derived.Test.YthdlmnkefheliaaD15
import Derived.Test.YthdlmnkefheliaaD16
set_option linter.unusedVariables false
set_option linter.unusedSimpArgs false
namespace Go.Proofs.Ythdlmnkefheliaa
open Go.RowKit

theorem below_of_only {a w : World} {B g : Nat} (h : a.grownBy w (some g)) (hg : B ≤ g) (hB : B ≤ a.heap.size) : Below B a w :=
  ⟨h.os, h.tape, h.output, h.size, fun i hi => h.block i (Nat.lt_of_lt_of_le hi hB) (by intro hc; injection hc; omega)⟩
theorem ThrB.deleted {w w3 : World} {B p g c k : Nat} {pv : Value} {t : Thr} (h : ThrB w B p pv (.slice (some ⟨g, 0, none⟩) t.mail.length c) t)
    (hd : w3.ownsRow B 54 3 (.slice (some ⟨g, 0, none⟩) (t.mail.length - 1) c) (t.mail.length - 1) ((t.mail.eraseIdx k).flatMap encL)) (hgr : w.grownBy w3 (some g)) (hk : k < t.mail.length) :
    ThrB (w3.setCell ⟨p, 3, none⟩ (.slice (some ⟨g, 0, none⟩) (t.mail.length - 1) c)) B p pv (.slice (some ⟨g, 0, none⟩) (t.mail.length - 1) c) { t with mail := t.mail.eraseIdx k } := by
  obtain ⟨h0, h1, h2, h3⟩ := h
  have hpg : p ≠ g := by
    obtain ⟨cur, hcur⟩ := own_blk h3
    exact h1.ne_ hcur (by decide)
  have hb := h1.grown hgr (by intro hc; injection hc with hc; exact hpg hc)
  have h2' := h2.kept hgr (own_own_ne h2 h3 (by decide))
  have hlen : (t.mail.eraseIdx k).length = t.mail.length - 1 := by rw [List.length_eraseIdx, if_pos hk]
  refine ⟨h0, hb.set_ 3 _, own_set_far h2' hb (by decide) _ _, ?_⟩
  have := own_set_far hd hb (by decide) 3 (.slice (some ⟨g, 0, none⟩) (t.mail.length - 1) c)
  simpa only [hlen] using this
theorem take_pre {t : Thr} (h : t.Good) {l : Int × Int × Int} (hl : l ∈ t.mail) : (0 ≤ l.2.1 ∧ l.2.1 < t.procs.length) ∧
    (0 ≤ (t.proc l.2.1).1 ∧ (t.proc l.2.1).1 ≤ 1000000 ∧ 0 ≤ (t.proc l.2.1).2 ∧ (t.proc l.2.1).2 ≤ 1099511627776) ∧ (0 ≤ l.2.2 ∧ l.2.2 ≤ 1099511627776) := by
  have h1 := (letter_iff _ _).1 (h.le l hl)
  have hp := h.pl0
  have hr : 0 ≤ l.2.1 ∧ l.2.1 < t.procs.length := by omega
  refine ⟨hr, ?_, by omega⟩
  have hlt : l.2.1.toNat < t.procs.length := by omega
  have hm : t.proc l.2.1 ∈ t.procs := by
    rw [Thr.proc, List.getD_eq_getElem?_getD, List.getElem?_eq_getElem hlt]
    exact List.getElem_mem hlt
  have := (holder_iff _).1 (h.pr _ hm)
  omega
def deliverM (t : Thr) (at_ : Int) : Thr × Int :=
  if begunE t [] = 0 then
    (if bd 0 ((t.mail.length : Int) - 1) at_ then (Thr.take { t with mail := t.mail.eraseIdx at_.toNat } (t.mail.getD at_.toNat (0, 0, 0))).fin else (Thr.zero, 1))
  else (Thr.zero, begunE t [])
theorem take_lens {t : Thr} {l : Int × Int × Int} (h1 : t.procs.length ≤ 16) (h2 : t.mail.length ≤ 4000) : (t.take l).Lens := by
  unfold Thr.take
  split
  · exact ⟨by simp only [Thr.setP, List.length_set]; omega, by simp only [Thr.setP]; omega⟩
  · split
    · exact ⟨by simp only; omega, by simp only; omega⟩
    · split
      · split
        · exact ⟨by simp only [Thr.issue, Thr.post]; omega, by simp only [Thr.issue, Thr.post, List.length_append, List.length_cons, List.length_nil]; omega⟩
        · exact ⟨by omega, by omega⟩
      · split
        · split
          · exact ⟨by simp only [Thr.post]; omega, by simp only [Thr.post, List.length_append, List.length_cons, List.length_nil]; omega⟩
          · exact ⟨by simp only [Thr.setP, List.length_set]; omega, by simp only [Thr.setP]; omega⟩
        · exact ⟨by omega, by omega⟩

set_option maxRecDepth 100000 in
set_option maxHeartbeats 4000000 in
theorem deliver_calls (t : Thr) (v : Value) (at_ : Int) (w : World) (hv : ThrV w v t) (hl : t.Lens) :
    Calls Try.prog 35 #[v, .int .i64 at_] w (RetT (deliverM t at_) w) := by
  have hv0 := hv
  obtain ⟨gr, ou, ps, ms, en⟩ := t
  obtain ⟨A1, c1, A2, c2, rfl, k1, k2, k3, k4, k5, k6⟩ := hv
  clear k1 k2 k3 k4 k5 k6
  simp only at hv0 ⊢
  have HL := Lib.hid hl; clear hl
  obtain ⟨W0, hW0⟩ : ∃ W0, W0 = ((w.alloc (.cells #[.int .i64 gr, .int .i64 ou, .slice A1 ps.length c1, .slice A2 ms.length c2, .bool en] 25)).alloc (.cells #[.int .i64 0, .int .i64 0, .slice none 0 0, .slice none 0 0, .bool false] 25)) := ⟨_, rfl⟩
  have hB0 : Below w.heap.size w W0 := by rw [hW0]; exact ((Below.refl _ _).alloc (Nat.le_refl _) _).alloc (by simp) _
  have hz : Blk W0 (w.heap.size + 1) 25 #[.int .i64 0, .int .i64 0, .slice none 0 0, .slice none 0 0, .bool false] := by
    rw [hW0]
    have := Blk.new (w.alloc (.cells #[.int .i64 gr, .int .i64 ou, .slice A1 ps.length c1, .slice A2 ms.length c2, .bool en] 25)) 25 #[.int .i64 0, .int .i64 0, .slice none 0 0, .slice none 0 0, .bool false]
    rw [show (w.alloc (.cells #[.int .i64 gr, .int .i64 ou, .slice A1 ps.length c1, .slice A2 ms.length c2, .bool en] 25)).heap.size = w.heap.size + 1 from by simp] at this
    exact this
  have HV := Lib.hid (hv0.below hB0 (Nat.le_refl _)); clear hv0
  have hsz := hz.lt
  have HZ := Lib.hid hz; clear hz
  have HB0 := Lib.hid hB0; clear hB0
  have HW := Lib.hid hW0; clear hW0
  go_enter Try.func35, Try.ntmps35
  go_wp2_with fail
  rw [← HW.out]
  refine (begun_calls ⟨gr, ou, ps, ms, en⟩ _ none 0 [] _ HV.out HL.out (rd_nil _ _) (by simp)).mono ?_
  rintro e w1 ⟨x, n, rfl, hbv⟩
  have hb01 : Below W0.heap.size W0 w1 := hbv.bel
  obtain ⟨⟨z0, z1, z2, z3, z4⟩, ⟨y0, y1, y2, y3, y4⟩⟩ := (HZ.out.below hb01 hsz).five
  have HZ1 := Lib.hid (HZ.out.below hb01 hsz)
  have HB1 := Lib.hid (HB0.out.trans (hb01.mono HB0.out.size)); clear hb01
  have Hbv := Lib.hid hbv; clear hbv
  by_cases hn : n = 0
  case neg =>
    have hf : deliverM ⟨gr, ou, ps, ms, en⟩ at_ = (Thr.zero, n) := by rw [deliverM, if_neg (by rw [← Hbv.out.num]; exact hn), Hbv.out.num]
    have Hf := Lib.hid hf; clear hf
    have hnb : (n != 0) = true := by simpa using hn
    clear hn
    go_wp2
    exact bodyPost_ret (v := .tuple #[.agg #[.int .i64 0, .int .i64 0, .slice none 0 0, .slice none 0 0, .bool false], .int .i64 n]) (by simp [results, Try.results35, go_sem, *]) rfl
      ⟨_, by rw [Hf.out], by rw [Hf.out]; exact ThrF.zero _ _, below_set5 HB1.out (Nat.le_succ _) _ _ _ _ _⟩
  have Hbe := Lib.hid (Hbv.out.num.symm.trans hn)
  have hok := (begunE_ok Hbe.out).1
  have Hgd := Lib.hid (Thr.good_iff.1 hok); clear hok
  obtain ⟨p, pv, mv, rfl, hB⟩ := Hbv.out.good hn
  obtain rfl := hn
  have hple := hB.1
  have hl1 := Hgd.out.pl1
  have hl0 := Hgd.out.pl0
  have hl2 := Hgd.out.ml
  have g0 := Hgd.out.gr0
  have g1 := Hgd.out.gr1
  have g2 := Hgd.out.ou0
  have g3 := Hgd.out.ou1
  simp only at hl0 hl1 hl2 g0 g1 g2 g3 hB
  obtain ⟨A2', c2', rfl⟩ := own_slice hB.2.2.2
  obtain ⟨⟨b0, b1, b2, b3, b4⟩, ⟨f0, f1, f2, f3, f4⟩⟩ := hB.2.1.five
  have hpne : w.heap.size + 1 ≠ p := by omega
  have hpbe : w.heap.size ≤ p := by omega
  have hplt := hB.2.1.lt
  have HB := Lib.hid hB; clear hB
  rcases hat : bd 0 ((ms.length : Int) - 1) at_ with _ | _
  case false =>
    have Hf := Lib.hid (show deliverM ⟨gr, ou, ps, ms, en⟩ at_ = (Thr.zero, 1) from by rw [deliverM, if_pos Hbe.out]; simp only [hat]; rfl)
    have Hat := Lib.hid hat; clear hat
    go_wp2_with fail
    refine (bd_calls _ _ _ _ Hat.out _).mono ?_
    rintro e w' ⟨rfl, rfl⟩
    go_wp2
    exact bodyPost_ret (v := .tuple #[.agg #[.int .i64 0, .int .i64 0, .slice none 0 0, .slice none 0 0, .bool false], .int .i64 1]) (by simp [results, Try.results35, go_sem, *]) rfl
      ⟨_, by rw [Hf.out], by rw [Hf.out]; exact ThrF.zero _ _, below_set5 HB1.out (Nat.le_succ _) _ _ _ _ _⟩
  have hat' := (bd_iff _ _ _).1 hat
  obtain ⟨k, rfl⟩ := Int.eq_ofNat_of_zero_le hat'.1
  have hk : k < ms.length := by omega
  clear hat'
  have Hat := Lib.hid hat; clear hat
  obtain ⟨g, cg, hgg, -, -⟩ := HB.out.2.2.2.form (show 0 < ms.length by omega)
  injection hgg with hgA _ hgC
  subst hgA
  subst hgC
  obtain ⟨gp, cp, hpv, -, -⟩ := HB.out.2.2.1.form (show 0 < ps.length by omega)
  subst hpv
  obtain ⟨l, hx⟩ : ∃ l, ms[k]? = some l := ⟨_, List.getElem?_eq_getElem hk⟩
  obtain ⟨kd, tt, wt⟩ := l
  have Hlt := Lib.hid ((letter_iff _ _).1 (Hgd.out.le _ (List.mem_of_getElem? hx)))
  obtain ⟨g', off, hgo, e0, e1, e2⟩ := Rd.atL (own_rd HB.out.2.2.2) hx
  injection hgo with hgo
  injection hgo with hg1 hg2 _
  subst hg1 hg2
  rw [Nat.zero_add] at e0 e1 e2
  simp only at e0 e1 e2
  have Hx := Lib.hid hx; clear hx
  have Hf := Lib.hid (show deliverM ⟨gr, ou, ps, ms, en⟩ (k : Int) = (Thr.take ⟨gr, ou, ps, ms.eraseIdx k, en⟩ (kd, tt, wt)).fin from by
    rw [deliverM, if_pos Hbe.out]
    simp only [Hat.out, if_true, Int.toNat_natCast, List.getD_eq_getElem?_getD, Hx.out, Option.getD_some])
  have hglt := (HB.out.2.2.2.lt g rfl).2
  have hgle := (HB.out.2.2.2.lt g rfl).1
  go_wp2_with fail
  refine (bd_calls _ _ _ _ Hat.out _).mono ?_
  rintro e w' ⟨rfl, rfl⟩
  have HBA := Lib.hid (HB.out.alloc (.cells #[.int .i64 kd, .int .i64 tt, .int .i64 wt] 54))
  have hd0 : (w1.alloc (.cells #[.int .i64 kd, .int .i64 tt, .int .i64 wt] 54)).ownsRow W0.heap.size 54 3 (.slice (some ⟨g, 0, none⟩) ms.length c2') ms.length (ms.flatMap encL) := HBA.out.2.2.2
  have HD0 := Lib.hid hd0; clear hd0
  have hle5 : ms.length ≤ 100000 := by omega
  go_wp2_with fail
  refine (deleteL_calls W0.heap.size g c2' ms k _ HD0.out hk hle5).mono ?_
  rintro e w3 ⟨rfl, hdel, hgr⟩
  have hgW : (w.heap.size + 1) ≠ g := by omega
  have HTD := Lib.hid (ThrB.deleted HBA.out hdel hgr hk)
  have hbl := (Blk.new w1 54 #[.int .i64 kd, .int .i64 tt, .int .i64 wt]).grown hgr (by intro hc; injection hc; omega)
  have hl0 := hbl.cell 0
  have hl1' := hbl.cell 1
  have hl2' := hbl.cell 2
  have hbp := (HBA.out.2.1).grown hgr (by
    obtain ⟨cur, hcur⟩ := own_blk HBA.out.2.2.2
    have := HBA.out.2.1.ne_ hcur (by decide)
    intro hc; injection hc with hc; exact this hc)
  obtain ⟨⟨b0, b1, b2, b3, b4⟩, ⟨f0, f1, f2, f3, f4⟩⟩ := hbp.five
  have hplt3 := hbp.lt
  have HZ3 := Lib.hid (((HZ1.out.alloc (.cells #[.int .i64 kd, .int .i64 tt, .int .i64 wt] 54)).grown hgr (by intro hc; injection hc; omega)).far (p := ⟨p, 3, none⟩) hpne (.slice (some ⟨g, 0, none⟩) (ms.length - 1) c2'))
  have HB3 := Lib.hid (((HB1.out.alloc HB1.out.size (.cells #[.int .i64 kd, .int .i64 tt, .int .i64 wt] 54)).trans (below_of_only hgr (by omega) (Nat.le_trans HB1.out.size (by simp)))).setCell (p := ⟨p, 3, none⟩) hpbe (.slice (some ⟨g, 0, none⟩) (ms.length - 1) c2'))
  clear hdel hgr hbl hbp
  have hpre := take_pre Hgd.out (List.mem_of_getElem? Hx.out)
  have HPRE := Lib.hid hpre; clear hpre
  have hmle : (ms.eraseIdx k).length ≤ 4000 := by rw [List.length_eraseIdx, if_pos hk]; omega
  have HLN := Lib.hid (take_lens (t := ⟨gr, ou, ps, ms.eraseIdx k, en⟩) (l := (kd, tt, wt)) hl1 hmle)
  have HG5 := Lib.hid (And.intro g0 g1)
  have HO5 := Lib.hid (And.intro g2 g3)
  go_wp2_with fail
  refine (take_calls W0.heap.size p gp cp _ ⟨gr, ou, ps, ms.eraseIdx k, en⟩ (kd, tt, wt) _ HTD.out HPRE.out.1 hmle hl1 HO5.out HG5.out HPRE.out.2.1 HPRE.out.2.2).mono ?_
  rintro e w4 ⟨rfl, ⟨pv4, mv4, hS⟩, hb4⟩
  have HS4 := Lib.hid hS; clear hS
  have Hb4 := Lib.hid hb4; clear hb4
  obtain ⟨r, hr⟩ : ∃ r, r = Thr.fin (Thr.take ⟨gr, ou, ps, ms.eraseIdx k, en⟩ (kd, tt, wt)) := ⟨_, rfl⟩
  have Hf := Lib.hid (show deliverM ⟨gr, ou, ps, ms, en⟩ (k : Int) = r from by rw [hr]; exact Hf.out)
  have Hr := Lib.hid hr; clear hr
  go_wp2_with fail
  refine (ended_calls' r _ p _ mv4 (Thr.take ⟨gr, ou, ps, ms.eraseIdx k, en⟩ (kd, tt, wt)) _ Hr.out HS4.out HLN.out).mono ?_
  obtain ⟨⟨gr', ou', ps', ms', en'⟩, n'⟩ := r
  rintro e w2 ⟨v2, rfl, hv2, hb2⟩
  have hv2' := hv2
  obtain ⟨B1, d1, B2, d2, rfl, -, -⟩ := hv2'
  have Hzz := Lib.hid (HZ3.out.below Hb4.out hsz)
  have Hbb := Lib.hid (HB3.out.trans (Hb4.out.mono HB0.out.size))
  obtain ⟨⟨z0, z1, z2, z3, z4⟩, ⟨y0, y1, y2, y3, y4⟩⟩ := (Hzz.out.below hb2 Hzz.out.lt).five
  have HZ3 := Lib.hid (Hzz.out.below hb2 Hzz.out.lt)
  have HB3 := Lib.hid (Hbb.out.trans (hb2.mono Hbb.out.size))
  have HV2 := Lib.hid hv2; clear hv2 hb2
  go_wp2
  exact bodyPost_ret (v := .tuple #[.agg #[.int .i64 gr', .int .i64 ou', .slice B1 ps'.length d1, .slice B2 ms'.length d2, .bool en'], .int .i64 n']) (by simp [results, Try.results35, go_sem, *]) rfl
    ⟨_, by rw [Hf.out], by rw [Hf.out]; exact (HV2.out.lower (Nat.le_trans (Nat.le_succ_of_le (Nat.le_succ _)) (by have := HW.out; rw [this]; simp))).set5 HZ3.out _ _ _ _ _, below_set5 HB3.out (Nat.le_succ _) _ _ _ _ _⟩
end Go.Proofs.Ythdlmnkefheliaa
