import Derived.Test.YthdlmnkefheliaaR4
import Derived.Deep.RegionLaw
import Derived.RegionTactic
import Derived.BigRegion
set_option linter.unusedVariables false
set_option linter.unusedSimpArgs false
namespace Go.Proofs.Ythdlmnkefheliaa
open Go.RowKit
attribute [local go_sem ↓] Go.wp_at_zero Go.wp_at_succ
theorem grown_drew {x y : World} {r : Option Nat} (h : x.drew.grownBy y r) : x.grownBy y r := ⟨h.os, h.tape, h.output, h.size, h.block⟩

set_option maxRecDepth 100000 in
set_option maxHeartbeats 4000000 in
theorem refFinish_calls (t : Thr) (v : Value) (proc : Int) (w : World) (hv : ThrV w v t) (hl : t.Lens) :
    Calls Try.prog 84 #[v, .int .i64 proc] w (RetT (finishM t proc) w) := by
  have hv0 := hv
  obtain ⟨gr, ou, ps, ms, en⟩ := t
  obtain ⟨A1, c1, A2, c2, rfl, k1, k2, k3, k4, k5, k6⟩ := hv
  clear k1 k2 k3 k4 k5 k6
  simp only at hv0 ⊢
  have HL := Lib.hid hl; clear hl
  obtain ⟨W0, hW0⟩ : ∃ W0, W0 = ((w.alloc (.cells #[.int .i64 gr, .int .i64 ou, .slice A1 ps.length c1, .slice A2 ms.length c2, .bool en] 25)).alloc (.cells #[.int .i64 0, .int .i64 0, .slice none 0 0, .slice none 0 0, .bool false] 25)) := ⟨_, rfl⟩
  have hB0 : Below w.heap.size w W0 := by rw [hW0]; exact ((Below.refl _ _).alloc (Nat.le_refl _) _).alloc (by simp) _
  have hz : Blk W0 (w.heap.size + 1) 25 #[.int .i64 0, .int .i64 0, .slice none 0 0, .slice none 0 0, .bool false] := by
    rw [hW0]
    have := Blk.new (w.alloc (.cells #[.int .i64 gr, .int .i64 ou, .slice A1 ps.length c1, .slice A2 ms.length c2, .bool en] 25)) 25 #[.int .i64 0, .int .i64 0, .slice none 0 0, .slice none 0 0, .bool false]
    rw [show (w.alloc (.cells #[.int .i64 gr, .int .i64 ou, .slice A1 ps.length c1, .slice A2 ms.length c2, .bool en] 25)).heap.size = w.heap.size + 1 from by simp] at this
    exact this
  have hz0 : Blk W0 w.heap.size 25 #[.int .i64 gr, .int .i64 ou, .slice A1 ps.length c1, .slice A2 ms.length c2, .bool en] := by rw [hW0]; exact (Blk.new w 25 _).alloc _
  have HV := Lib.hid (hv0.below hB0 (Nat.le_refl _)); clear hv0
  have hsz := hz.lt
  have hsz0 := hz0.lt
  have HZ := Lib.hid hz; clear hz
  have HP := Lib.hid hz0; clear hz0
  have HB0 := Lib.hid hB0; clear hB0
  have HW := Lib.hid hW0; clear hW0
  obtain ⟨E, hE⟩ : ∃ E, begunE ⟨gr, ou, ps, ms, en⟩ [proc] = E := ⟨_, rfl⟩
  have HE := Lib.hid hE
  obtain ⟨i1, hi, hz0, hz1, hz2⟩ := info_parts info54
  have Hj := Lib.hid (And.intro hi (And.intro hz0 (And.intro hz1 hz2))); clear hi hz0 hz1 hz2
  have hca := asked_calls ⟨gr, ou, ps, ms, en⟩ _ proc _ HV.out HL.out
  rw [hE] at hca
  have Hca := Lib.hid hca; clear hca
  by_cases hn : E = 0
  case neg =>
    have Hf := Lib.hid (show finishM ⟨gr, ou, ps, ms, en⟩ proc = (Thr.zero, E) from by rw [finishM, if_neg (by rw [busyE_of hE hn]; exact hn), busyE_of hE hn])
    have hnb : (E != 0) = true := by simpa using hn
    have hnc : (E == 0) = false := by simpa using hn
    clear hn hE
    go_enter Try.func84, Try.ntmps84
    go_wp2_with fail
    rw [← HW.out]
    refine (Hca.out).mono ?_
    rintro e w1 ⟨rfl, hb⟩
    have HB1 := Lib.hid (HB0.out.trans (hb.mono HB0.out.size))
    have HZ1 := Lib.hid (HZ.out.below hb HZ.out.lt)
    have HP1 := Lib.hid (HP.out.below hb HP.out.lt)
    have HV1 := Lib.hid (HV.out.below hb (Nat.le_refl _))
    clear hb
    try clear a0 a1 a2 a3 a4 z0 z1 z2 z3 z4 y0 y1 y2 y3 y4
    obtain ⟨⟨a0, a1, a2, a3, a4⟩, -⟩ := HP1.out.five
    obtain ⟨⟨z0, z1, z2, z3, z4⟩, ⟨y0, y1, y2, y3, y4⟩⟩ := HZ1.out.five
    have lz1 := HZ1.out.lt
    have lp1 := HP1.out.lt
    go_wp2
    exact bodyPost_ret (v := .tuple #[.agg #[.int .i64 0, .int .i64 0, .slice none 0 0, .slice none 0 0, .bool false], .int .i64 E]) (by simp [results, Try.results84, go_sem, *]) rfl
      ⟨_, by rw [Hf.out], by rw [Hf.out]; exact ThrF.zero _ _, below_set5 HB1.out (Nat.le_succ _) _ _ _ _ _⟩
  subst hn
  have Hgd := Lib.hid (Thr.good_iff.1 (begunE_ok hE).1)
  have hl1 := Hgd.out.pl1
  have hl2 := Hgd.out.ml
  simp only at hl1 hl2
  obtain ⟨k, rfl, hk⟩ := begun_range hE (p := proc) (List.mem_cons_self ..)
  simp only at hk
  have hget := Thr.proc_get (t := ⟨gr, ou, ps, ms, en⟩) hk
  obtain ⟨x, hx'⟩ : ∃ x, Thr.proc ⟨gr, ou, ps, ms, en⟩ (k : Int) = x := ⟨_, rfl⟩
  rw [hx'] at hget
  obtain ⟨x1, x2⟩ := x
  have Hx := Lib.hid (show ps[k]? = some (x1, x2) from hget)
  have Hpx := Lib.hid hx'
  have hho := (holder_iff _).1 (Hgd.out.pr _ (List.mem_of_getElem? hget))
  simp only at hho
  obtain ⟨⟨ho0, ho1⟩, ⟨ho2, ho3⟩, ho4⟩ := hho
  have Ho4 := Lib.hid ho4
  have hk0 : (0 : Int) ≤ (k : Int) := Int.natCast_nonneg _
  have hk1 : (k : Int) < (ps.length : Int) := by omega
  have HEE := Lib.hid hE
  clear hget hx' ho4 hE
  by_cases hx0 : x1 = 0
  · subst hx0
    have Hf := Lib.hid (show finishM ⟨gr, ou, ps, ms, en⟩ (k : Int) = (Thr.zero, 282) from by rw [finishM, if_neg (by rw [busyE_empty HEE.out (by rw [Hpx.out])]; omega), busyE_empty HEE.out (by rw [Hpx.out])])
    go_enter Try.func84, Try.ntmps84
    go_wp2_with fail
    rw [← HW.out]
    refine (Hca.out).mono ?_
    rintro e w1 ⟨rfl, hb⟩
    have HB1 := Lib.hid (HB0.out.trans (hb.mono HB0.out.size))
    have HZ1 := Lib.hid (HZ.out.below hb HZ.out.lt)
    have HP1 := Lib.hid (HP.out.below hb HP.out.lt)
    have HV1 := Lib.hid (HV.out.below hb (Nat.le_refl _))
    clear hb
    try clear a0 a1 a2 a3 a4 z0 z1 z2 z3 z4 y0 y1 y2 y3 y4
    obtain ⟨⟨a0, a1, a2, a3, a4⟩, -⟩ := HP1.out.five
    obtain ⟨⟨z0, z1, z2, z3, z4⟩, ⟨y0, y1, y2, y3, y4⟩⟩ := HZ1.out.five
    have lz1 := HZ1.out.lt
    have lp1 := HP1.out.lt
    obtain ⟨g0, off, rfl, e0, e1⟩ := Rd.atH HV1.out.rdU.1 Hx.out
    simp only at e0 e1
    go_wp2
    exact bodyPost_ret (v := .tuple #[.agg #[.int .i64 0, .int .i64 0, .slice none 0 0, .slice none 0 0, .bool false], .int .i64 282]) (by simp [results, Try.results84, go_sem, *]) rfl
      ⟨_, by rw [Hf.out], by rw [Hf.out]; exact ThrF.zero _ _, below_set5 HB1.out (Nat.le_succ _) _ _ _ _ _⟩
  have hx0b : (x1 == 0) = false := by simpa using hx0
  have hb0 := busyE_good (t := ⟨gr, ou, ps, ms, en⟩) HEE.out (by rw [Hpx.out]; exact hx0)
  have Hb0 := Lib.hid hb0
  clear hb0 hx0
  go_enter Try.func84, Try.ntmps84
  go_wp2_with fail
  rw [← HW.out]
  refine (Hca.out).mono ?_
  rintro e w1 ⟨rfl, hb⟩
  have HB1 := Lib.hid (HB0.out.trans (hb.mono HB0.out.size))
  have HZ1 := Lib.hid (HZ.out.below hb HZ.out.lt)
  have HP1 := Lib.hid (HP.out.below hb HP.out.lt)
  have HV1 := Lib.hid (HV.out.below hb (Nat.le_refl _))
  clear hb
  try clear a0 a1 a2 a3 a4 z0 z1 z2 z3 z4 y0 y1 y2 y3 y4
  obtain ⟨⟨a0, a1, a2, a3, a4⟩, -⟩ := HP1.out.five
  obtain ⟨⟨z0, z1, z2, z3, z4⟩, ⟨y0, y1, y2, y3, y4⟩⟩ := HZ1.out.five
  have lz1 := HZ1.out.lt
  have lp1 := HP1.out.lt
  obtain ⟨g0, off, rfl, e0, e1⟩ := Rd.atH HV1.out.rdU.1 Hx.out
  simp only at e0 e1
  go_wp2_with fail
  refine (copied_calls ⟨gr, ou, ps, ms, en⟩ _ _ HV1.out HL.out).mono ?_
  rintro e w2 ⟨v2, rfl, hF, hb⟩
  obtain ⟨A1', c1', A2', c2', rfl, ho1, ho2⟩ := hF
  simp only at ho1 ho2
  have HRr2 := Lib.hid (show RowsU w2 (w.heap.size + 2) A1' ps.length c1' A2' ms.length c2' ps ms from RowsU.lower ⟨ho1, ho2⟩ (by have := HZ1.out.lt; omega))
  clear ho1 ho2
  have HB2 := Lib.hid (HB1.out.trans (hb.mono HB1.out.size))
  have HZ2 := Lib.hid (HZ1.out.below hb HZ1.out.lt)
  have HP2 := Lib.hid (HP1.out.below hb HP1.out.lt)
  have HV2 := Lib.hid (HV1.out.below hb (Nat.le_refl _))
  clear hb
  try clear e0 e1
  try clear a0 a1 a2 a3 a4 z0 z1 z2 z3 z4 y0 y1 y2 y3 y4
  obtain ⟨⟨a0, a1, a2, a3, a4⟩, -⟩ := HP2.out.five
  obtain ⟨⟨z0, z1, z2, z3, z4⟩, ⟨y0, y1, y2, y3, y4⟩⟩ := HZ2.out.five
  have lz2 := HZ2.out.lt
  have lp2 := HP2.out.lt
  obtain ⟨gp, cp, hpv, -, hgp⟩ := HRr2.out.1.form (show 0 < ps.length by omega)
  simp only [Value.slice.injEq, Option.some.injEq] at hpv
  obtain ⟨rfl, -, rfl⟩ := hpv
  obtain ⟨⟨e0, e1⟩, q0, q1, lg⟩ := HRr2.out.cells Hx.out
  simp only at e0 e1
  obtain ⟨hgB, -⟩ := HRr2.out.1.lt gp rfl
  have hzg : w.heap.size + 1 ≠ gp := by omega
  by_cases hx1 : x1 = 1
  · subst hx1
    have Hf0 := Lib.hid (show finishM ⟨gr, ou, ps, ms, en⟩ (k : Int) = Thr.fin ⟨gr, ou, ps.set k (0, 0), ms ++ [(2, 0, x2)], en⟩ from by
      rw [finishM, if_pos Hb0.out, Hpx.out, if_pos rfl, Int.toNat_natCast]; rfl)
    obtain ⟨hS, hgeS⟩ := (HRr2.out).setG (rfl) Hx.out (0)
    have HS := Lib.hid hS
    have HZS := Lib.hid ((HZ2.out).far (p := ⟨gp, k * 2, none⟩) hzg (.int .i64 (0)))
    have HBS := Lib.hid ((HB2.out).setCell (p := ⟨gp, k * 2, none⟩) (by show w.heap.size ≤ gp; omega) (.int .i64 (0)))
    clear hS
    obtain ⟨WU, hWU⟩ : ∃ WU, WU = (w2.setCell ⟨gp, k * 2, none⟩ (.int .i64 0)).alloc (.cells #[.int .i64 gr, .int .i64 ou, .slice (some ⟨gp, 0, none⟩) ps.length c1', .slice A2' ms.length c2', .bool en] 25) := ⟨_, rfl⟩
    have HszU := Lib.hid (show WU.heap.size = w2.heap.size + 1 from by rw [hWU]; simp)
    have HUU : Hid (Blk WU w2.heap.size 25 #[.int .i64 gr, .int .i64 ou, .slice (some ⟨gp, 0, none⟩) ps.length c1', .slice A2' ms.length c2', .bool en]) := Lib.hid (by
      have := Blk.new (w2.setCell ⟨gp, k * 2, none⟩ (.int .i64 0)) 25 #[.int .i64 gr, .int .i64 ou, .slice (some ⟨gp, 0, none⟩) ps.length c1', .slice A2' ms.length c2', .bool en]
      rw [hWU]; simpa using this)
    have HRU : Hid (RowsU WU (w.heap.size + 2) (some ⟨gp, 0, none⟩) ps.length c1' A2' ms.length c2' (ps.set k (0, x2)) ms) := Lib.hid (by rw [hWU]; exact (HS.out).alloc _)
    have HZU : Hid (Blk WU (w.heap.size + 1) 25 #[.int .i64 0, .int .i64 0, .slice none 0 0, .slice none 0 0, .bool false]) := Lib.hid (by rw [hWU]; exact (HZS.out).alloc _)
    have HBU : Hid (Below w.heap.size w WU) := Lib.hid (by rw [hWU]; exact (HBS.out).alloc (HBS.out).size _)
    have HWU := Lib.hid hWU; clear hWU
    have Hx2 := Lib.hid (show (ps.set k ((0 : Int), x2))[k]? = some (0, x2) from by rw [List.getElem?_set_self hk])
    go_wp2_with fail
    rw [← HWU.out]
    clear e0 e1 q0 q1 z0 z1 z2 z3 z4 y0 y1 y2 y3 y4
    obtain ⟨⟨u0, u1, u2, u3, u4⟩, ⟨f0, f1, f2, f3, f4⟩⟩ := HUU.out.five
    have lu := HUU.out.lt
    obtain ⟨⟨e0, e1⟩, q0, q1, lg2⟩ := HRU.out.cells Hx2.out
    simp only at e0 e1
    have HRl := Lib.hid (HRU.out.2.alloc (.cells #[.int .i64 2, .int .i64 0, .int .i64 x2] 54))
    have hbk := Blk.new WU 54 #[.int .i64 2, .int .i64 0, .int .i64 x2]
    rw [HszU.out] at hbk
    have Hbk := Lib.hid hbk
    have hmax : ms.length + 1 ≤ maxLen := by simp only [maxLen]; omega
    have hby : (ms.length + 1) * 24 ≤ 140737488355328 := by omega
    have hbs : w.heap.size + 2 ≤ (WU.alloc (.cells #[.int .i64 2, .int .i64 0, .int .i64 x2] 54)).heap.size := by simp; omega
    have hsz2 : (WU.alloc (.cells #[.int .i64 2, .int .i64 0, .int .i64 x2] 54)).drew.heap.size = w2.heap.size + 1 + 1 := by simp [HszU.out]
    have Hcc := Lib.hid (And.intro hmax (And.intro hby (And.intro hbs hsz2)))
    have hszu := HszU.out
    have hupg : w2.heap.size ≠ gp := by omega
    clear hmax hby hbs hsz2 hbk
    go_region_law ((refine step_append_lies _ (by rfl) _ _ _ (by rfl) (w.heap.size + 2) 54 i1 _ 3 24 Try.underlying23 Hj.out.1 Hj.out.2.1 Hj.out.2.2.1 Hj.out.2.2.2 (by rfl) (by decide) (.slice A2' ms.length c2') ms.length (ms.flatMap encL) (by rfl) HRl.out ⟨w2.heap.size + 1, 0, none⟩ 1 1 [.int .i64 2, .int .i64 0, .int .i64 x2] (by rfl) (by rfl) (World.news_of_block Hbk.out) (by simp [Value.oneCell']) (by decide) Hcc.out.1 Hcc.out.2.1 Hcc.out.2.2.1 (w2.heap.size + 1 + 1) Hcc.out.2.2.2 ?_; intro g3 cap3 w3 hown hg hat hlt3; have Hg' := Lib.hid (grown_drew hg); have HU3 := Lib.hid (HRU.out.append_blk Hg'.out HUU.out (by decide)); have t3 := HU3.out.five.1.2.2.2.1; have s3 := HU3.out.five.2.2.2.2.1; have lu3 := HU3.out.lt; have Hown := Lib.hid hown; clear hown hg hat))
    all_goals
      obtain ⟨A3, c3, he, hR⟩ := RowsU.append (l := (2, 0, x2)) HRU.out Hg'.out Hown.out
      simp only [Value.slice.injEq] at he
      obtain ⟨rfl, -, rfl⟩ := he
      refine exit_at (fun W => RowsU W (w.heap.size + 2) (some ⟨gp, 0, none⟩) ps.length c1' (some ⟨g3, 0, none⟩) (ms.length + 1) cap3 (ps.set k (0, x2)) (ms ++ [(2, 0, x2)]) ∧
        Blk W w2.heap.size 25 #[.int .i64 gr, .int .i64 ou, .slice (some ⟨gp, 0, none⟩) ps.length c1', .slice (some ⟨g3, 0, none⟩) (ms.length + 1) cap3, .bool en] ∧ Blk W (w.heap.size + 1) 25 #[.int .i64 0, .int .i64 0, .slice none 0 0, .slice none 0 0, .bool false] ∧ Below w.heap.size w W)
        ⟨hR.setU HU3.out 3 _, by simpa using HU3.out.set_ 3 (.slice (some ⟨g3, 0, none⟩) (ms.length + 1) cap3), (HRU.out.append_blk Hg'.out HZU.out (by decide)).far (p := ⟨w2.heap.size, 3, none⟩) (by show w.heap.size + 1 ≠ w2.heap.size; omega) _,
          (HRU.out.append_below Hg'.out HBU.out (by omega) HBU.out.size).setCell (by show w.heap.size ≤ w2.heap.size; exact HB2.out.size) _⟩ ?_
      rintro W4 ⟨hR4, hU4, hz4, hb4⟩
      clear hR t3 s3 u0 u1 u2 u3 u4 f0 f1 f2 f3 f4 e0 e1 q0 q1
      obtain ⟨⟨u0, u1, u2, u3, u4⟩, -⟩ := hU4.five
      have lu4 := hU4.lt
      obtain ⟨⟨e0, e1⟩, q0, q1, lg4⟩ := hR4.cells Hx2.out
      simp only at e0 e1
      obtain ⟨⟨z0, z1, z2, z3, z4⟩, ⟨y0, y1, y2, y3, y4⟩⟩ := hz4.five
      have lz4 := hz4.lt
      have hzg4 : w.heap.size + 1 ≠ gp := by omega
      obtain ⟨hS5, -⟩ := hR4.setW (by simp) Hx2.out 0
      have hps : ((ps.set k ((0 : Int), x2)).set k ((0 : Int), (0 : Int))) = ps.set k (0, 0) := by rw [List.set_set]
      simp only [hps] at hS5
      have HS5 := Lib.hid hS5
      have HZ5 := Lib.hid (hz4.far (p := ⟨gp, k * 2 + 1, none⟩) hzg (.int .i64 0))
      have HB5 := Lib.hid (hb4.setCell (p := ⟨gp, k * 2 + 1, none⟩) (by show w.heap.size ≤ gp; omega) (.int .i64 0))
      clear hR4 hU4 hz4 hb4 hS5 hps
      go_wp2_with fail
      refine calls_at (fun W => ThrF (w.heap.size + 2) W (.agg #[.int .i64 gr, .int .i64 ou, .slice (some ⟨gp, 0, none⟩) ps.length c1', .slice (some ⟨g3, 0, none⟩) (ms.length + 1) cap3, .bool en]) ⟨gr, ou, ps.set k (0, 0), ms ++ [(2, 0, x2)], en⟩ ∧ Blk W (w.heap.size + 1) 25 #[.int .i64 0, .int .i64 0, .slice none 0 0, .slice none 0 0, .bool false] ∧ Below w.heap.size w W) ⟨HS5.out.thrF (by simp) (by simp) _ _ _, HZ5.out, HB5.out⟩ ?_
      rintro W5 ⟨hF5, hz5, hb5⟩
      clear z0 z1 z2 z3 z4 y0 y1 y2 y3 y4
      obtain ⟨r, hr⟩ : ∃ r, r = Thr.fin ⟨gr, ou, ps.set k (0, 0), ms ++ [(2, 0, x2)], en⟩ := ⟨_, rfl⟩
      have hf := Hf0.out.trans hr.symm
      have Hf := Lib.hid hf
      refine (told_calls r _ ⟨gr, ou, ps.set k (0, 0), ms ++ [(2, 0, x2)], en⟩ _ W5 hr hF5 ⟨by simp only [List.length_set]; omega, by simp only [List.length_append, List.length_cons, List.length_nil]; omega⟩).mono ?_
      obtain ⟨⟨gr', ou', ps', ms', en'⟩, n'⟩ := r
      rintro e w6 ⟨v6, rfl, hv6, hb6⟩
      have hv6' := hv6
      obtain ⟨J1, j1, J2, j2, rfl, -, -⟩ := hv6'
      have hz6 := hz5.below hb6 hz5.lt
      obtain ⟨⟨z0, z1, z2, z3, z4⟩, ⟨y0, y1, y2, y3, y4⟩⟩ := hz6.five
      have lz6 := hz6.lt
      have Hz6 := Lib.hid hz6
      have Hv6 := Lib.hid (hv6.lower (B' := w.heap.size) (by omega))
      have Hb6 := Lib.hid (hb5.trans (hb6.mono hb5.size))
      clear hf hr hF5 hz5 hb5 hv6 hb6 hz6
      go_wp2
      exact bodyPost_ret (v := .tuple #[.agg #[.int .i64 gr', .int .i64 ou', .slice J1 ps'.length j1, .slice J2 ms'.length j2, .bool en'], .int .i64 n']) (by simp [results, Try.results84, go_sem, *]) rfl
        ⟨_, by rw [Hf.out], by rw [Hf.out]; exact Hv6.out.set5 Hz6.out _ _ _ _ _, below_set5 Hb6.out (Nat.le_succ _) _ _ _ _ _⟩
  have hf0 : finishM ⟨gr, ou, ps, ms, en⟩ (k : Int) = Thr.fin ⟨gr, ou, ps.set k (x1 - 1, x2), ms, en⟩ := by
    rw [finishM, if_pos Hb0.out, Hpx.out, if_neg hx1, Int.toNat_natCast]; rfl
  have Hf0 := Lib.hid hf0
  have hxb : (x1 - 1 == 0) = false := beq_eq_false_iff_ne.2 (by omega)
  clear hf0 hx1
  obtain ⟨hS, hgeS⟩ := (HRr2.out).setG (rfl) Hx.out (x1 - 1)
  have HS := Lib.hid hS
  have HZS := Lib.hid ((HZ2.out).far (p := ⟨gp, k * 2, none⟩) hzg (.int .i64 (x1 - 1)))
  have HBS := Lib.hid ((HB2.out).setCell (p := ⟨gp, k * 2, none⟩) (by show w.heap.size ≤ gp; omega) (.int .i64 (x1 - 1)))
  clear hS
  go_wp2_with fail
  refine calls_at (fun W => ThrF (w.heap.size + 2) W (.agg #[.int .i64 gr, .int .i64 ou, .slice (some ⟨gp, 0, none⟩) ps.length c1', .slice A2' ms.length c2', .bool en]) ⟨gr, ou, ps.set k (x1 - 1, x2), ms, en⟩ ∧ Blk W (w.heap.size + 1) 25 #[.int .i64 0, .int .i64 0, .slice none 0 0, .slice none 0 0, .bool false] ∧ Below w.heap.size w W) ⟨(HS.out.alloc _).thrF (by simp) rfl _ _ _, HZS.out.alloc _, HBS.out.alloc HBS.out.size _⟩ ?_
  rintro W5 ⟨hF5, hz5, hb5⟩
  clear z0 z1 z2 z3 z4 y0 y1 y2 y3 y4
  obtain ⟨r, hr⟩ : ∃ r, r = Thr.fin ⟨gr, ou, ps.set k (x1 - 1, x2), ms, en⟩ := ⟨_, rfl⟩
  have hf := Hf0.out.trans hr.symm
  have Hf := Lib.hid hf
  refine (told_calls r _ ⟨gr, ou, ps.set k (x1 - 1, x2), ms, en⟩ _ W5 hr hF5 ⟨by simp only [List.length_set]; omega, by simp only; omega⟩).mono ?_
  obtain ⟨⟨gr', ou', ps', ms', en'⟩, n'⟩ := r
  rintro e w6 ⟨v6, rfl, hv6, hb6⟩
  have hv6' := hv6
  obtain ⟨J1, j1, J2, j2, rfl, -, -⟩ := hv6'
  have hz6 := hz5.below hb6 hz5.lt
  obtain ⟨⟨z0, z1, z2, z3, z4⟩, ⟨y0, y1, y2, y3, y4⟩⟩ := hz6.five
  have lz6 := hz6.lt
  have Hz6 := Lib.hid hz6
  have Hv6 := Lib.hid (hv6.lower (B' := w.heap.size) (by omega))
  have Hb6 := Lib.hid (hb5.trans (hb6.mono hb5.size))
  clear hf hr hF5 hz5 hb5 hv6 hb6 hz6
  go_wp2
  exact bodyPost_ret (v := .tuple #[.agg #[.int .i64 gr', .int .i64 ou', .slice J1 ps'.length j1, .slice J2 ms'.length j2, .bool en'], .int .i64 n']) (by simp [results, Try.results84, go_sem, *]) rfl
    ⟨_, by rw [Hf.out], by rw [Hf.out]; exact Hv6.out.set5 Hz6.out _ _ _ _ _, below_set5 Hb6.out (Nat.le_succ _) _ _ _ _ _⟩
end Go.Proofs.Ythdlmnkefheliaa
