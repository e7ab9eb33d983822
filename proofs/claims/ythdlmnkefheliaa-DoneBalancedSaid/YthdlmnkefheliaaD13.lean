import Derived.Test.YthdlmnkefheliaaD12
set_option linter.unusedVariables false
set_option linter.unusedSimpArgs false
namespace Go.Proofs.Ythdlmnkefheliaa
open Go.RowKit

set_option maxHeartbeats 4000000 in
theorem move_calls (t : Thr) (v : Value) (proc to_ : Int) (w : World) (hv : ThrV w v t) (hl : t.Lens) :
    Calls Try.prog 36 #[v, .int .i64 proc, .int .i64 to_] w (RetT (moveM t proc to_) w) := by
  have hv0 := hv
  obtain ⟨gr, ou, ps, ms, en⟩ := t
  obtain ⟨A1, c1, A2, c2, rfl, k1, k2, k3, k4, k5, k6⟩ := hv
  clear k1 k2 k3 k4 k5 k6
  simp only at hv0 ⊢
  have HL := Lib.hid hl; clear hl
  obtain ⟨W0, hW0⟩ : ∃ W0, W0 = ((w.alloc (.cells #[.int .i64 gr, .int .i64 ou, .slice A1 ps.length c1, .slice A2 ms.length c2, .bool en] 25)).alloc (.cells #[.int .i64 0, .int .i64 0, .slice none 0 0, .slice none 0 0, .bool false] 25)) := ⟨_, rfl⟩
  have hB0 : Below w.heap.size w W0 := by rw [hW0]; exact ((Below.refl _ _).alloc (Nat.le_refl _) _).alloc (by simp) _
  have hz : Blk W0 (w.heap.size + 1) 25 #[.int .i64 0, .int .i64 0, .slice none 0 0, .slice none 0 0, .bool false] := by
    rw [hW0]
    have := Blk.new (w.alloc (.cells #[.int .i64 gr, .int .i64 ou, .slice A1 ps.length c1, .slice A2 ms.length c2, .bool en] 25)) 25 #[.int .i64 0, .int .i64 0, .slice none 0 0, .slice none 0 0, .bool false]
    rw [show (w.alloc (.cells #[.int .i64 gr, .int .i64 ou, .slice A1 ps.length c1, .slice A2 ms.length c2, .bool en] 25)).heap.size = w.heap.size + 1 from by simp] at this
    exact this
  have HV := Lib.hid (hv0.below hB0 (Nat.le_refl _)); clear hv0
  have hsz := hz.lt
  have HZ := Lib.hid hz; clear hz
  have HB0 := Lib.hid hB0; clear hB0
  have HW := Lib.hid hW0; clear hW0
  have hrd : ∀ W : World, Rd (W.alloc (.cells #[.int .i64 to_] 3)) (some ⟨W.heap.size, 0, none⟩) ([to_].flatMap encI) := fun W _ => ⟨W.heap.size, 0, rfl, fun j u hu => by
    rw [Nat.zero_add, (Blk.new W 3 #[.int .i64 to_]).cell j]
    simpa [encI] using hu⟩
  have HRD := Lib.hid (hrd W0); clear hrd
  have Hsz0 := Lib.hid (show W0.heap.size = w.heap.size + 2 from by rw [HW.out]; simp)
  go_enter Try.func36, Try.ntmps36
  go_wp2_with fail
  rw [← HW.out, ← Hsz0.out]
  refine (busy_calls ⟨gr, ou, ps, ms, en⟩ _ proc (some ⟨W0.heap.size, 0, none⟩) 1 [to_] _ (HV.out.below ((Below.refl _ _).alloc (Nat.le_refl _) _) (Nat.le_refl _)) HL.out HRD.out (by simp)).mono ?_
  rintro e w1 ⟨x, y, n, rfl, hbv⟩
  have hb01 : Below W0.heap.size W0 w1 := ((Below.refl _ _).alloc (Nat.le_refl _) _).trans (hbv.bel.mono (by simp))
  obtain ⟨⟨z0, z1, z2, z3, z4⟩, ⟨y0, y1, y2, y3, y4⟩⟩ := (HZ.out.below hb01 hsz).five
  have HZ1 := Lib.hid (HZ.out.below hb01 hsz)
  have HB1 := Lib.hid (HB0.out.trans (hb01.mono HB0.out.size)); clear hb01
  have Hbv := Lib.hid hbv; clear hbv
  by_cases hn : n = 0
  case neg =>
    have hf : moveM ⟨gr, ou, ps, ms, en⟩ proc to_ = (Thr.zero, n) := by rw [moveM, if_neg (by rw [← Hbv.out.num]; exact hn), Hbv.out.num]
    have Hf := Lib.hid hf; clear hf
    have hnb : (n != 0) = true := by simpa using hn
    clear hn
    go_wp2
    exact bodyPost_ret (v := .tuple #[.agg #[.int .i64 0, .int .i64 0, .slice none 0 0, .slice none 0 0, .bool false], .int .i64 n]) (by simp [results, Try.results36, go_sem, *]) rfl
      ⟨_, by rw [Hf.out], by rw [Hf.out]; exact ThrF.zero _ _, below_set5 HB1.out (Nat.le_succ _) _ _ _ _ _⟩
  have Hbe := Lib.hid (busyE_ok (Hbv.out.num.symm.trans hn))
  have hok := (begunE_ok Hbe.out.1).1
  have Hgd := Lib.hid (Thr.good_iff.1 hok); clear hok
  obtain ⟨k, p, g, cp, mv, hpk, hk, rfl, rfl, hB⟩ := Hbv.out.good hn
  simp only at hk hB
  have hspec : ∀ X, moveM ⟨gr, ou, ps, ms, en⟩ proc to_ = X → moveM ⟨gr, ou, ps, ms, en⟩ proc to_ = X := fun _ h => h
  have Hn0 := Lib.hid (Hbv.out.num.symm.trans hn)
  obtain rfl := hn
  subst hpk
  obtain ⟨x, hx⟩ : ∃ x, ps[k]? = some x := ⟨_, List.getElem?_eq_getElem hk⟩
  have Hpx := Lib.hid (show Thr.proc ⟨gr, ou, ps, ms, en⟩ (k : Int) = x from by rw [Thr.proc, Int.toNat_natCast, List.getD_eq_getElem?_getD, hx]; rfl)
  obtain ⟨x1, x2⟩ := x
  have hho := (holder_iff _).1 (Hgd.out.pr _ (List.mem_of_getElem? hx))
  obtain ⟨⟨ho0, ho1⟩, ⟨ho2, ho3⟩, ho4⟩ := hho
  simp only at ho0 ho1 ho2 ho3 ho4
  have Hx := Lib.hid hx; clear hx
  have hne : x1 ≠ 0 := by have := Hbe.out.2; rw [Hpx.out] at this; exact this
  have HB := Lib.hid (hB.lower (B' := W0.heap.size) (by simp)); clear hB
  have hple := HB.out.1
  have hgle : W0.heap.size ≤ g := (HB.out.2.2.1.lt g rfl).1
  have hl1 := Hgd.out.pl1
  have hl2 := Hgd.out.ml
  simp only at hl1 hl2
  have H4 := Lib.hid ho4; clear ho4
  obtain ⟨⟨e0, e1⟩, f0, f1⟩ := HB.out.cellP Hx.out
  clear hspec
  have hgne : w.heap.size + 1 ≠ g := by omega
  have hgbe : w.heap.size ≤ g := by omega
  have hh : half (x1, x2) = if 1 < x1 then x2 / 2 else x2 := rfl
  obtain ⟨wt, hwt⟩ : ∃ wt, half (x1, x2) = wt := ⟨_, rfl⟩
  have Hwt := Lib.hid hwt
  by_cases hw0 : wt = 0
  · have hf : moveM ⟨gr, ou, ps, ms, en⟩ (k : Int) to_ = (Thr.zero, 281) := by rw [moveM, if_pos Hn0.out, Hpx.out, if_pos (hwt.trans hw0)]
    have Hf := Lib.hid hf; clear hf
    by_cases h1 : 1 < x1
    · have h1b : decide (1 < x1) = true := decide_eq_true h1
      have hq : (x2 / 2 == 0) = true := by rw [hwt, if_pos h1] at hh; simp; omega
      clear hwt hh hw0
      go_wp2
      exact bodyPost_ret (v := .tuple #[.agg #[.int .i64 0, .int .i64 0, .slice none 0 0, .slice none 0 0, .bool false], .int .i64 281]) (by simp [results, Try.results36, go_sem, *]) rfl
        ⟨_, by rw [Hf.out], by rw [Hf.out]; exact ThrF.zero _ _, below_set5 HB1.out (Nat.le_succ _) _ _ _ _ _⟩
    · exfalso
      rw [hwt, if_neg h1] at hh
      have := H4.out
      omega
  · have hf : moveM ⟨gr, ou, ps, ms, en⟩ (k : Int) to_ = ((Thr.setP ⟨gr, ou, ps, ms, en⟩ k (x1 - 1, x2 - wt)).post (1, to_, wt)).fin := by rw [moveM, if_pos Hn0.out, Hpx.out, hwt, if_neg hw0, Int.toNat_natCast]
    have hw1 : 0 ≤ wt ∧ wt ≤ x2 := by
      rw [hh] at hwt
      split at hwt <;> omega
    obtain ⟨hw1, hw2⟩ := hw1
    have hset := HB.out.setPG Hx.out (x1 - 1)
    have HX0 := Lib.hid (show (Thr.setP ⟨gr, ou, ps, ms, en⟩ k (x1 - 1, x2)).procs[k]? = some (x1 - 1, x2) from by simp [Thr.setP, List.getElem?_set, hk])
    have hset1 : ThrB (w1.setCell ⟨g, k * 2, none⟩ (.int .i64 (x1 - 1))) W0.heap.size p (.slice (some ⟨g, 0, none⟩) (Thr.setP ⟨gr, ou, ps, ms, en⟩ k (x1 - 1, x2)).procs.length cp) mv (Thr.setP ⟨gr, ou, ps, ms, en⟩ k (x1 - 1, x2)) := by simpa [Thr.setP] using hset.1
    have hset2 := (hset1.setPW (k := k) (x := (x1 - 1, x2)) HX0.out (x2 - wt)).1
    have HS := Lib.hid (show ThrB ((w1.setCell ⟨g, k * 2, none⟩ (.int .i64 (x1 - 1))).setCell ⟨g, k * 2 + 1, none⟩ (.int .i64 (x2 - wt))) W0.heap.size p (.slice (some ⟨g, 0, none⟩) ps.length cp) mv (Thr.setP ⟨gr, ou, ps, ms, en⟩ k (x1 - 1, x2 - wt)) from by simpa [Thr.setP] using hset2)
    clear hset hset1 hset2
    have HZ2 := Lib.hid ((HZ1.out.far (p := ⟨g, k * 2, none⟩) hgne (.int .i64 (x1 - 1))).far (p := ⟨g, k * 2 + 1, none⟩) hgne (.int .i64 (x2 - wt)))
    have HBB2 := Lib.hid ((HB1.out.setCell (p := ⟨g, k * 2, none⟩) hgbe (.int .i64 (x1 - 1))).setCell (p := ⟨g, k * 2 + 1, none⟩) hgbe (.int .i64 (x2 - wt)))
    have Hh := Lib.hid hh; clear hh
    by_cases h1 : 1 < x1
    · have h1b : decide (1 < x1) = true := decide_eq_true h1
      obtain rfl : x2 / 2 = wt := by rw [← Hwt.out, Hh.out, if_pos h1]
      have hq : (x2 / 2 == 0) = false := by simpa using hw0
      clear hwt
      go_wp2
      go_region
      all_goals
        go_wp2_with fail
        refine (post_calls W0.heap.size p _ mv (Thr.setP ⟨gr, ou, ps, ms, en⟩ k (x1 - 1, x2 - x2 / 2)) 1 to_ (x2 / 2) _ HS.out.drew (by simp only [Thr.setP]; omega)).mono ?_
        rintro e w3 ⟨rfl, ⟨mv3, hS⟩, hb13⟩
        have HS3 := Lib.hid hS; clear hS
        have Hb13 := Lib.hid hb13; clear hb13
        obtain ⟨r, hr⟩ : ∃ r, r = Thr.fin ((Thr.setP ⟨gr, ou, ps, ms, en⟩ k (x1 - 1, x2 - x2 / 2)).post (1, to_, x2 / 2)) := ⟨_, rfl⟩
        have Hf := Lib.hid (show moveM ⟨gr, ou, ps, ms, en⟩ (k : Int) to_ = r from by rw [hr]; exact hf)
        have Hr := Lib.hid hr; clear hr
        go_wp2_with fail
        refine (ended_calls' r _ p _ mv3 ((Thr.setP ⟨gr, ou, ps, ms, en⟩ k (x1 - 1, x2 - x2 / 2)).post (1, to_, x2 / 2)) _ Hr.out HS3.out ⟨by simp only [Thr.post, Thr.setP, List.length_set]; omega, by simp only [Thr.post, Thr.setP, List.length_append, List.length_cons, List.length_nil]; omega⟩).mono ?_
        obtain ⟨⟨gr', ou', ps', ms', en'⟩, n'⟩ := r
        rintro e w2 ⟨v2, rfl, hv2, hb2⟩
        have hv2' := hv2
        obtain ⟨B1, d1, B2, d2, rfl, -, -⟩ := hv2'
        have Hzz := Lib.hid ((show Blk _ _ _ _ from HZ2.out).below (w := ((w1.setCell ⟨g, k * 2, none⟩ (.int .i64 (x1 - 1))).setCell ⟨g, k * 2 + 1, none⟩ (.int .i64 (x2 - x2 / 2))).drew) Hb13.out hsz)
        have Hbb := Lib.hid (HBB2.out.drew.trans (Hb13.out.mono HB0.out.size))
        obtain ⟨⟨z0, z1, z2, z3, z4⟩, ⟨y0, y1, y2, y3, y4⟩⟩ := (Hzz.out.below hb2 Hzz.out.lt).five
        have HZ3 := Lib.hid (Hzz.out.below hb2 Hzz.out.lt)
        have HB3 := Lib.hid (Hbb.out.trans (hb2.mono Hbb.out.size))
        have HV2 := Lib.hid hv2; clear hv2 hb2
        go_wp2
        exact bodyPost_ret (v := .tuple #[.agg #[.int .i64 gr', .int .i64 ou', .slice B1 ps'.length d1, .slice B2 ms'.length d2, .bool en'], .int .i64 n']) (by simp [results, Try.results36, go_sem, *]) rfl
          ⟨_, by rw [Hf.out], by rw [Hf.out]; exact (HV2.out.lower (Nat.le_trans (Nat.le_succ_of_le (Nat.le_succ _)) (by have := HW.out; rw [this]; simp))).set5 HZ3.out _ _ _ _ _, below_set5 HB3.out (Nat.le_succ _) _ _ _ _ _⟩
    · have h1b : decide (1 < x1) = false := decide_eq_false h1
      obtain rfl : x2 = wt := by rw [← Hwt.out, Hh.out, if_neg h1]
      have hq : (x2 == 0) = false := by simpa using hw0
      clear hwt
      simp only [Int.sub_self] at HS HZ2 HBB2 hf
      go_wp2
      go_region
      all_goals
        go_wp2_with fail
        refine (post_calls W0.heap.size p _ mv (Thr.setP ⟨gr, ou, ps, ms, en⟩ k (x1 - 1, 0)) 1 to_ (x2) _ HS.out.drew (by simp only [Thr.setP]; omega)).mono ?_
        rintro e w3 ⟨rfl, ⟨mv3, hS⟩, hb13⟩
        have HS3 := Lib.hid hS; clear hS
        have Hb13 := Lib.hid hb13; clear hb13
        obtain ⟨r, hr⟩ : ∃ r, r = Thr.fin ((Thr.setP ⟨gr, ou, ps, ms, en⟩ k (x1 - 1, 0)).post (1, to_, x2)) := ⟨_, rfl⟩
        have Hf := Lib.hid (show moveM ⟨gr, ou, ps, ms, en⟩ (k : Int) to_ = r from by rw [hr]; exact hf)
        have Hr := Lib.hid hr; clear hr
        go_wp2_with fail
        refine (ended_calls' r _ p _ mv3 ((Thr.setP ⟨gr, ou, ps, ms, en⟩ k (x1 - 1, 0)).post (1, to_, x2)) _ Hr.out HS3.out ⟨by simp only [Thr.post, Thr.setP, List.length_set]; omega, by simp only [Thr.post, Thr.setP, List.length_append, List.length_cons, List.length_nil]; omega⟩).mono ?_
        obtain ⟨⟨gr', ou', ps', ms', en'⟩, n'⟩ := r
        rintro e w2 ⟨v2, rfl, hv2, hb2⟩
        have hv2' := hv2
        obtain ⟨B1, d1, B2, d2, rfl, -, -⟩ := hv2'
        have Hzz := Lib.hid ((show Blk _ _ _ _ from HZ2.out).below (w := ((w1.setCell ⟨g, k * 2, none⟩ (.int .i64 (x1 - 1))).setCell ⟨g, k * 2 + 1, none⟩ (.int .i64 (0))).drew) Hb13.out hsz)
        have Hbb := Lib.hid (HBB2.out.drew.trans (Hb13.out.mono HB0.out.size))
        obtain ⟨⟨z0, z1, z2, z3, z4⟩, ⟨y0, y1, y2, y3, y4⟩⟩ := (Hzz.out.below hb2 Hzz.out.lt).five
        have HZ3 := Lib.hid (Hzz.out.below hb2 Hzz.out.lt)
        have HB3 := Lib.hid (Hbb.out.trans (hb2.mono Hbb.out.size))
        have HV2 := Lib.hid hv2; clear hv2 hb2
        go_wp2
        exact bodyPost_ret (v := .tuple #[.agg #[.int .i64 gr', .int .i64 ou', .slice B1 ps'.length d1, .slice B2 ms'.length d2, .bool en'], .int .i64 n']) (by simp [results, Try.results36, go_sem, *]) rfl
          ⟨_, by rw [Hf.out], by rw [Hf.out]; exact (HV2.out.lower (Nat.le_trans (Nat.le_succ_of_le (Nat.le_succ _)) (by have := HW.out; rw [this]; simp))).set5 HZ3.out _ _ _ _ _, below_set5 HB3.out (Nat.le_succ _) _ _ _ _ _⟩
end Go.Proofs.Ythdlmnkefheliaa
