import Derived.Test.YthdlmnkefheliaaR5
set_option linter.unusedVariables false
set_option linter.unusedSimpArgs false
namespace Go.Proofs.Ythdlmnkefheliaa
open Go.RowKit
theorem begunE_two {t : Thr} {a b : Int} : begunE t [a, b] = if begunE t [a] = 0 then begunE t [b] else begunE t [a] := by
  unfold begunE
  by_cases hok : t.ok = true
  · simp only [hok, if_true, List.all_cons, List.all_nil, Bool.and_true]
    cases h1 : inRange t.procs.length a <;> cases h2 : inRange t.procs.length b <;> simp
  · simp only [hok]; simp

set_option maxRecDepth 100000 in
set_option maxHeartbeats 4000000 in
theorem refMove_calls (t : Thr) (v : Value) (proc : Int) (to_ : Int) (w : World) (hv : ThrV w v t) (hl : t.Lens) :
    Calls Try.prog 64 #[v, .int .i64 proc, .int .i64 to_] w (RetT (moveM t proc to_) w) := by
  have hv0 := hv
  obtain ⟨gr, ou, ps, ms, en⟩ := t
  obtain ⟨A1, c1, A2, c2, rfl, k1, k2, k3, k4, k5, k6⟩ := hv
  clear k1 k2 k3 k4 k5 k6
  simp only at hv0 ⊢
  have HL := Lib.hid hl; clear hl
  obtain ⟨W0, hW0⟩ : ∃ W0, W0 = ((w.alloc (.cells #[.int .i64 gr, .int .i64 ou, .slice A1 ps.length c1, .slice A2 ms.length c2, .bool en] 25)).alloc (.cells #[.int .i64 0, .int .i64 0, .slice none 0 0, .slice none 0 0, .bool false] 25)) := ⟨_, rfl⟩
  have hB0 : Below w.heap.size w W0 := by rw [hW0]; exact ((Below.refl _ _).alloc (Nat.le_refl _) _).alloc (by simp) _
  have hz : Blk W0 (w.heap.size + 1) 25 #[.int .i64 0, .int .i64 0, .slice none 0 0, .slice none 0 0, .bool false] := by
    rw [hW0]
    have := Blk.new (w.alloc (.cells #[.int .i64 gr, .int .i64 ou, .slice A1 ps.length c1, .slice A2 ms.length c2, .bool en] 25)) 25 #[.int .i64 0, .int .i64 0, .slice none 0 0, .slice none 0 0, .bool false]
    rw [show (w.alloc (.cells #[.int .i64 gr, .int .i64 ou, .slice A1 ps.length c1, .slice A2 ms.length c2, .bool en] 25)).heap.size = w.heap.size + 1 from by simp] at this
    exact this
  have hz0 : Blk W0 w.heap.size 25 #[.int .i64 gr, .int .i64 ou, .slice A1 ps.length c1, .slice A2 ms.length c2, .bool en] := by rw [hW0]; exact (Blk.new w 25 _).alloc _
  have HV := Lib.hid (hv0.below hB0 (Nat.le_refl _)); clear hv0
  have hsz := hz.lt
  have hsz0 := hz0.lt
  have HZ := Lib.hid hz; clear hz
  have HP := Lib.hid hz0; clear hz0
  have HB0 := Lib.hid hB0; clear hB0
  have HW := Lib.hid hW0; clear hW0
  obtain ⟨E, hE⟩ : ∃ E, begunE ⟨gr, ou, ps, ms, en⟩ [proc] = E := ⟨_, rfl⟩
  obtain ⟨F, hF'⟩ : ∃ F, begunE ⟨gr, ou, ps, ms, en⟩ [to_] = F := ⟨_, rfl⟩
  have hEF := begunE_two (t := ⟨gr, ou, ps, ms, en⟩) (a := proc) (b := to_)
  rw [hE, hF'] at hEF
  obtain ⟨i1, hi, hz0, hz1, hz2⟩ := info_parts info54
  have Hj := Lib.hid (And.intro hi (And.intro hz0 (And.intro hz1 hz2))); clear hi hz0 hz1 hz2
  have hca := asked_calls ⟨gr, ou, ps, ms, en⟩ _ proc _ HV.out HL.out
  rw [hE] at hca
  have Hca := Lib.hid hca; clear hca
  by_cases hn : E = 0
  case neg =>
    rw [if_neg hn] at hEF
    have Hf := Lib.hid (show moveM ⟨gr, ou, ps, ms, en⟩ proc to_ = (Thr.zero, E) from by rw [moveM, if_neg (by rw [busyE_of hEF hn]; exact hn), busyE_of hEF hn])
    have hnb : (E != 0) = true := by simpa using hn
    have hnc : (E == 0) = false := by simpa using hn
    clear hn hE hEF hF'
    go_enter Try.func64, Try.ntmps64
    go_wp2_with fail
    rw [← HW.out]
    refine (Hca.out).mono ?_
    rintro e w1 ⟨rfl, hb⟩
    have HB1 := Lib.hid (HB0.out.trans (hb.mono HB0.out.size))
    have HZ1 := Lib.hid (HZ.out.below hb HZ.out.lt)
    have HP1 := Lib.hid (HP.out.below hb HP.out.lt)
    have HV1 := Lib.hid (HV.out.below hb (Nat.le_refl _))
    clear hb
    try clear a0 a1 a2 a3 a4 z0 z1 z2 z3 z4 y0 y1 y2 y3 y4
    obtain ⟨⟨a0, a1, a2, a3, a4⟩, -⟩ := HP1.out.five
    obtain ⟨⟨z0, z1, z2, z3, z4⟩, ⟨y0, y1, y2, y3, y4⟩⟩ := HZ1.out.five
    have lz1 := HZ1.out.lt
    have lp1 := HP1.out.lt
    go_wp2
    exact bodyPost_ret (v := .tuple #[.agg #[.int .i64 0, .int .i64 0, .slice none 0 0, .slice none 0 0, .bool false], .int .i64 E]) (by simp [results, Try.results64, go_sem, *]) rfl
      ⟨_, by rw [Hf.out], by rw [Hf.out]; exact ThrF.zero _ _, below_set5 HB1.out (Nat.le_succ _) _ _ _ _ _⟩
  subst hn
  rw [if_pos rfl] at hEF
  have hcb := fun W (h : ThrV W (.agg #[.int .i64 gr, .int .i64 ou, .slice A1 ps.length c1, .slice A2 ms.length c2, .bool en]) ⟨gr, ou, ps, ms, en⟩) => asked_calls ⟨gr, ou, ps, ms, en⟩ _ to_ W h HL.out
  rw [hF'] at hcb
  have Hcb := Lib.hid hcb; clear hcb
  by_cases hn : F = 0
  case neg =>
    have Hf := Lib.hid (show moveM ⟨gr, ou, ps, ms, en⟩ proc to_ = (Thr.zero, F) from by rw [moveM, if_neg (by rw [busyE_of hEF hn]; exact hn), busyE_of hEF hn])
    have hnb : (F != 0) = true := by simpa using hn
    have hnc : (F == 0) = false := by simpa using hn
    clear hn hE hEF hF'
    go_enter Try.func64, Try.ntmps64
    go_wp2_with fail
    rw [← HW.out]
    refine (Hca.out).mono ?_
    rintro e w1 ⟨rfl, hb⟩
    have HB1 := Lib.hid (HB0.out.trans (hb.mono HB0.out.size))
    have HZ1 := Lib.hid (HZ.out.below hb HZ.out.lt)
    have HP1 := Lib.hid (HP.out.below hb HP.out.lt)
    have HV1 := Lib.hid (HV.out.below hb (Nat.le_refl _))
    clear hb
    try clear a0 a1 a2 a3 a4 z0 z1 z2 z3 z4 y0 y1 y2 y3 y4
    obtain ⟨⟨a0, a1, a2, a3, a4⟩, -⟩ := HP1.out.five
    obtain ⟨⟨z0, z1, z2, z3, z4⟩, ⟨y0, y1, y2, y3, y4⟩⟩ := HZ1.out.five
    have lz1 := HZ1.out.lt
    have lp1 := HP1.out.lt
    go_wp2_with fail
    skip
    refine (Hcb.out _ HV1.out).mono ?_
    rintro e w2 ⟨rfl, hb⟩
    have HB2 := Lib.hid (HB1.out.trans (hb.mono HB1.out.size))
    have HZ2 := Lib.hid (HZ1.out.below hb HZ1.out.lt)
    have HP2 := Lib.hid (HP1.out.below hb HP1.out.lt)
    have HV2 := Lib.hid (HV1.out.below hb (Nat.le_refl _))
    clear hb
    try clear a0 a1 a2 a3 a4 z0 z1 z2 z3 z4 y0 y1 y2 y3 y4
    obtain ⟨⟨a0, a1, a2, a3, a4⟩, -⟩ := HP2.out.five
    obtain ⟨⟨z0, z1, z2, z3, z4⟩, ⟨y0, y1, y2, y3, y4⟩⟩ := HZ2.out.five
    have lz2 := HZ2.out.lt
    have lp2 := HP2.out.lt
    go_wp2
    exact bodyPost_ret (v := .tuple #[.agg #[.int .i64 0, .int .i64 0, .slice none 0 0, .slice none 0 0, .bool false], .int .i64 F]) (by simp [results, Try.results64, go_sem, *]) rfl
      ⟨_, by rw [Hf.out], by rw [Hf.out]; exact ThrF.zero _ _, below_set5 HB2.out (Nat.le_succ _) _ _ _ _ _⟩
  subst hn
  have Hgd := Lib.hid (Thr.good_iff.1 (begunE_ok hE).1)
  have hl1 := Hgd.out.pl1
  have hl2 := Hgd.out.ml
  simp only at hl1 hl2
  obtain ⟨k, rfl, hk⟩ := begun_range hE (p := proc) (List.mem_cons_self ..)
  simp only at hk
  have hget := Thr.proc_get (t := ⟨gr, ou, ps, ms, en⟩) hk
  obtain ⟨x, hx'⟩ : ∃ x, Thr.proc ⟨gr, ou, ps, ms, en⟩ (k : Int) = x := ⟨_, rfl⟩
  rw [hx'] at hget
  obtain ⟨x1, x2⟩ := x
  have Hx := Lib.hid (show ps[k]? = some (x1, x2) from hget)
  have Hpx := Lib.hid hx'
  have hho := (holder_iff _).1 (Hgd.out.pr _ (List.mem_of_getElem? hget))
  simp only at hho
  obtain ⟨⟨ho0, ho1⟩, ⟨ho2, ho3⟩, ho4⟩ := hho
  have Ho4 := Lib.hid ho4
  have hk0 : (0 : Int) ≤ (k : Int) := Int.natCast_nonneg _
  have hk1 : (k : Int) < (ps.length : Int) := by omega
  have HEE := Lib.hid hEF
  clear hget hx' ho4 hE hEF hF'
  by_cases hx0 : x1 = 0
  · subst hx0
    have Hf := Lib.hid (show moveM ⟨gr, ou, ps, ms, en⟩ (k : Int) to_ = (Thr.zero, 282) from by rw [moveM, if_neg (by rw [busyE_empty HEE.out (by rw [Hpx.out])]; omega), busyE_empty HEE.out (by rw [Hpx.out])])
    go_enter Try.func64, Try.ntmps64
    go_wp2_with fail
    rw [← HW.out]
    refine (Hca.out).mono ?_
    rintro e w1 ⟨rfl, hb⟩
    have HB1 := Lib.hid (HB0.out.trans (hb.mono HB0.out.size))
    have HZ1 := Lib.hid (HZ.out.below hb HZ.out.lt)
    have HP1 := Lib.hid (HP.out.below hb HP.out.lt)
    have HV1 := Lib.hid (HV.out.below hb (Nat.le_refl _))
    clear hb
    try clear a0 a1 a2 a3 a4 z0 z1 z2 z3 z4 y0 y1 y2 y3 y4
    obtain ⟨⟨a0, a1, a2, a3, a4⟩, -⟩ := HP1.out.five
    obtain ⟨⟨z0, z1, z2, z3, z4⟩, ⟨y0, y1, y2, y3, y4⟩⟩ := HZ1.out.five
    have lz1 := HZ1.out.lt
    have lp1 := HP1.out.lt
    go_wp2_with fail
    skip
    refine (Hcb.out _ HV1.out).mono ?_
    rintro e w2 ⟨rfl, hb⟩
    have HB2 := Lib.hid (HB1.out.trans (hb.mono HB1.out.size))
    have HZ2 := Lib.hid (HZ1.out.below hb HZ1.out.lt)
    have HP2 := Lib.hid (HP1.out.below hb HP1.out.lt)
    have HV2 := Lib.hid (HV1.out.below hb (Nat.le_refl _))
    clear hb
    try clear a0 a1 a2 a3 a4 z0 z1 z2 z3 z4 y0 y1 y2 y3 y4
    obtain ⟨⟨a0, a1, a2, a3, a4⟩, -⟩ := HP2.out.five
    obtain ⟨⟨z0, z1, z2, z3, z4⟩, ⟨y0, y1, y2, y3, y4⟩⟩ := HZ2.out.five
    have lz2 := HZ2.out.lt
    have lp2 := HP2.out.lt
    obtain ⟨g0, off, rfl, e0, e1⟩ := Rd.atH HV2.out.rdU.1 Hx.out
    simp only at e0 e1
    go_wp2
    exact bodyPost_ret (v := .tuple #[.agg #[.int .i64 0, .int .i64 0, .slice none 0 0, .slice none 0 0, .bool false], .int .i64 282]) (by simp [results, Try.results64, go_sem, *]) rfl
      ⟨_, by rw [Hf.out], by rw [Hf.out]; exact ThrF.zero _ _, below_set5 HB2.out (Nat.le_succ _) _ _ _ _ _⟩
  have hx0b : (x1 == 0) = false := by simpa using hx0
  have hb0 := busyE_good (t := ⟨gr, ou, ps, ms, en⟩) HEE.out (by rw [Hpx.out]; exact hx0)
  have hx2p : x2 ≠ 0 := fun h => hx0 (Ho4.out.2 h)
  by_cases h81 : 1 < x1 ∧ x2 = 1
  · obtain ⟨h1, rfl⟩ := h81
    have Hf := Lib.hid (show moveM ⟨gr, ou, ps, ms, en⟩ (k : Int) to_ = (Thr.zero, 281) from by rw [moveM, if_pos hb0, Hpx.out, if_pos (by rw [half, if_pos h1]; rfl)])
    have h1b : decide (1 < x1) = true := decide_eq_true h1
    clear hb0 hx0 hx2p h1
    go_enter Try.func64, Try.ntmps64
    go_wp2_with fail
    rw [← HW.out]
    refine (Hca.out).mono ?_
    rintro e w1 ⟨rfl, hb⟩
    have HB1 := Lib.hid (HB0.out.trans (hb.mono HB0.out.size))
    have HZ1 := Lib.hid (HZ.out.below hb HZ.out.lt)
    have HP1 := Lib.hid (HP.out.below hb HP.out.lt)
    have HV1 := Lib.hid (HV.out.below hb (Nat.le_refl _))
    clear hb
    try clear a0 a1 a2 a3 a4 z0 z1 z2 z3 z4 y0 y1 y2 y3 y4
    obtain ⟨⟨a0, a1, a2, a3, a4⟩, -⟩ := HP1.out.five
    obtain ⟨⟨z0, z1, z2, z3, z4⟩, ⟨y0, y1, y2, y3, y4⟩⟩ := HZ1.out.five
    have lz1 := HZ1.out.lt
    have lp1 := HP1.out.lt
    go_wp2_with fail
    skip
    refine (Hcb.out _ HV1.out).mono ?_
    rintro e w2 ⟨rfl, hb⟩
    have HB2 := Lib.hid (HB1.out.trans (hb.mono HB1.out.size))
    have HZ2 := Lib.hid (HZ1.out.below hb HZ1.out.lt)
    have HP2 := Lib.hid (HP1.out.below hb HP1.out.lt)
    have HV2 := Lib.hid (HV1.out.below hb (Nat.le_refl _))
    clear hb
    try clear a0 a1 a2 a3 a4 z0 z1 z2 z3 z4 y0 y1 y2 y3 y4
    obtain ⟨⟨a0, a1, a2, a3, a4⟩, -⟩ := HP2.out.five
    obtain ⟨⟨z0, z1, z2, z3, z4⟩, ⟨y0, y1, y2, y3, y4⟩⟩ := HZ2.out.five
    have lz2 := HZ2.out.lt
    have lp2 := HP2.out.lt
    obtain ⟨g0, off, rfl, e0, e1⟩ := Rd.atH HV2.out.rdU.1 Hx.out
    simp only at e0 e1
    go_wp2
    exact bodyPost_ret (v := .tuple #[.agg #[.int .i64 0, .int .i64 0, .slice none 0 0, .slice none 0 0, .bool false], .int .i64 281]) (by simp [results, Try.results64, go_sem, *]) rfl
      ⟨_, by rw [Hf.out], by rw [Hf.out]; exact ThrF.zero _ _, below_set5 HB2.out (Nat.le_succ _) _ _ _ _ _⟩
  by_cases h1 : 1 < x1
  · skip
    have h1b : decide (1 < x1) = true := decide_eq_true h1
    have hx21 : (x2 == 1) = false := beq_eq_false_iff_ne.2 (fun h => h81 ⟨h1, h⟩)
    have hhalf : half (x1, x2) = x2 / 2 := by rw [half, if_pos h1]
    have hwt : ¬ x2 / 2 = 0 := by have : x2 ≠ 1 := fun h => h81 ⟨h1, h⟩; omega
    have Hf0 := Lib.hid (show moveM ⟨gr, ou, ps, ms, en⟩ (k : Int) to_ = Thr.fin ⟨gr, ou, (ps.set k (x1 - 1, x2 - x2 / 2)), ms ++ [(1, to_, x2 / 2)], en⟩ from by
      rw [moveM, if_pos hb0, Hpx.out, hhalf, if_neg hwt, Int.toNat_natCast]; rfl)
    clear hb0 hx0 hx2p hhalf hwt h81
    go_enter Try.func64, Try.ntmps64
    go_wp2_with fail
    rw [← HW.out]
    refine (Hca.out).mono ?_
    rintro e w1 ⟨rfl, hb⟩
    have HB1 := Lib.hid (HB0.out.trans (hb.mono HB0.out.size))
    have HZ1 := Lib.hid (HZ.out.below hb HZ.out.lt)
    have HP1 := Lib.hid (HP.out.below hb HP.out.lt)
    have HV1 := Lib.hid (HV.out.below hb (Nat.le_refl _))
    clear hb
    try clear a0 a1 a2 a3 a4 z0 z1 z2 z3 z4 y0 y1 y2 y3 y4
    obtain ⟨⟨a0, a1, a2, a3, a4⟩, -⟩ := HP1.out.five
    obtain ⟨⟨z0, z1, z2, z3, z4⟩, ⟨y0, y1, y2, y3, y4⟩⟩ := HZ1.out.five
    have lz1 := HZ1.out.lt
    have lp1 := HP1.out.lt
    go_wp2_with fail
    skip
    refine (Hcb.out _ HV1.out).mono ?_
    rintro e w3 ⟨rfl, hb⟩
    have HB3 := Lib.hid (HB1.out.trans (hb.mono HB1.out.size))
    have HZ3 := Lib.hid (HZ1.out.below hb HZ1.out.lt)
    have HP3 := Lib.hid (HP1.out.below hb HP1.out.lt)
    have HV3 := Lib.hid (HV1.out.below hb (Nat.le_refl _))
    clear hb
    try clear a0 a1 a2 a3 a4 z0 z1 z2 z3 z4 y0 y1 y2 y3 y4
    obtain ⟨⟨a0, a1, a2, a3, a4⟩, -⟩ := HP3.out.five
    obtain ⟨⟨z0, z1, z2, z3, z4⟩, ⟨y0, y1, y2, y3, y4⟩⟩ := HZ3.out.five
    have lz3 := HZ3.out.lt
    have lp3 := HP3.out.lt
    obtain ⟨g0, off, rfl, e0, e1⟩ := Rd.atH HV3.out.rdU.1 Hx.out
    simp only at e0 e1
    go_wp2_with fail
    refine (copied_calls ⟨gr, ou, ps, ms, en⟩ _ _ HV3.out HL.out).mono ?_
    rintro e w2 ⟨v2, rfl, hF, hb⟩
    obtain ⟨A1', c1', A2', c2', rfl, ho1, ho2⟩ := hF
    simp only at ho1 ho2
    have HRr2 := Lib.hid (show RowsU w2 (w.heap.size + 2) A1' ps.length c1' A2' ms.length c2' ps ms from RowsU.lower ⟨ho1, ho2⟩ (by have := HZ3.out.lt; omega))
    clear ho1 ho2
    have HB2 := Lib.hid (HB3.out.trans (hb.mono HB3.out.size))
    have HZ2 := Lib.hid (HZ3.out.below hb HZ3.out.lt)
    have HP2 := Lib.hid (HP3.out.below hb HP3.out.lt)
    have HV2 := Lib.hid (HV3.out.below hb (Nat.le_refl _))
    clear hb
    try clear e0 e1
    try clear a0 a1 a2 a3 a4 z0 z1 z2 z3 z4 y0 y1 y2 y3 y4
    obtain ⟨⟨a0, a1, a2, a3, a4⟩, -⟩ := HP2.out.five
    obtain ⟨⟨z0, z1, z2, z3, z4⟩, ⟨y0, y1, y2, y3, y4⟩⟩ := HZ2.out.five
    have lz2 := HZ2.out.lt
    have lp2 := HP2.out.lt
    obtain ⟨gp, cp, hpv, -, hgp⟩ := HRr2.out.1.form (show 0 < ps.length by omega)
    simp only [Value.slice.injEq, Option.some.injEq] at hpv
    obtain ⟨rfl, -, rfl⟩ := hpv
    obtain ⟨hgB, -⟩ := HRr2.out.1.lt gp rfl
    obtain ⟨⟨e0, e1⟩, q0, q1, lg⟩ := HRr2.out.cells Hx.out
    simp only at e0 e1
    have hzg : w.heap.size + 1 ≠ gp := by omega
    obtain ⟨hS, hgeS⟩ := (HRr2.out).setG (rfl) Hx.out (x1 - 1)
    have HS := Lib.hid hS
    have HZS := Lib.hid ((HZ2.out).far (p := ⟨gp, k * 2, none⟩) hzg (.int .i64 (x1 - 1)))
    have HBS := Lib.hid ((HB2.out).setCell (p := ⟨gp, k * 2, none⟩) (by show w.heap.size ≤ gp; omega) (.int .i64 (x1 - 1)))
    clear hS
    have Hx1 := Lib.hid (show (ps.set k (x1 - 1, x2))[k]? = some (x1 - 1, x2) from by rw [List.getElem?_set_self hk])
    obtain ⟨hV, hgeV⟩ := (HS.out).setW (by simp) Hx1.out (x2 - x2 / 2)
    have HVs := Lib.hid hV
    have HZV := Lib.hid ((HZS.out).far (p := ⟨gp, k * 2 + 1, none⟩) hzg (.int .i64 (x2 - x2 / 2)))
    have HBV := Lib.hid ((HBS.out).setCell (p := ⟨gp, k * 2 + 1, none⟩) (by show w.heap.size ≤ gp; omega) (.int .i64 (x2 - x2 / 2)))
    clear hV
    have hVV : RowsU ((w2.setCell ⟨gp, k * 2, none⟩ (.int .i64 (x1 - 1))).setCell ⟨gp, k * 2 + 1, none⟩ (.int .i64 (x2 - x2 / 2))) (w.heap.size + 2) (some ⟨gp, 0, none⟩) ps.length c1' A2' ms.length c2' (ps.set k (x1 - 1, x2 - x2 / 2)) ms := by
      have := HVs.out
      simpa [List.set_set] using this
    have HVV := Lib.hid hVV
    clear hVV
    obtain ⟨WU, hWU⟩ : ∃ WU, WU = ((w2.setCell ⟨gp, k * 2, none⟩ (.int .i64 (x1 - 1))).setCell ⟨gp, k * 2 + 1, none⟩ (.int .i64 (x2 - x2 / 2))).alloc (.cells #[.int .i64 gr, .int .i64 ou, .slice (some ⟨gp, 0, none⟩) ps.length c1', .slice A2' ms.length c2', .bool en] 25) := ⟨_, rfl⟩
    have HszU := Lib.hid (show WU.heap.size = w2.heap.size + 1 from by rw [hWU]; simp)
    have HUU : Hid (Blk WU w2.heap.size 25 #[.int .i64 gr, .int .i64 ou, .slice (some ⟨gp, 0, none⟩) ps.length c1', .slice A2' ms.length c2', .bool en]) := Lib.hid (by
      have := Blk.new ((w2.setCell ⟨gp, k * 2, none⟩ (.int .i64 (x1 - 1))).setCell ⟨gp, k * 2 + 1, none⟩ (.int .i64 (x2 - x2 / 2))) 25 #[.int .i64 gr, .int .i64 ou, .slice (some ⟨gp, 0, none⟩) ps.length c1', .slice A2' ms.length c2', .bool en]
      rw [hWU]; simpa using this)
    have HRU : Hid (RowsU WU (w.heap.size + 2) (some ⟨gp, 0, none⟩) ps.length c1' A2' ms.length c2' (ps.set k (x1 - 1, x2 - x2 / 2)) ms) := Lib.hid (by rw [hWU]; exact (HVV.out).alloc _)
    have HZU : Hid (Blk WU (w.heap.size + 1) 25 #[.int .i64 0, .int .i64 0, .slice none 0 0, .slice none 0 0, .bool false]) := Lib.hid (by rw [hWU]; exact (HZV.out).alloc _)
    have HBU : Hid (Below w.heap.size w WU) := Lib.hid (by rw [hWU]; exact (HBV.out).alloc (HBV.out).size _)
    have HWU := Lib.hid hWU; clear hWU
    go_wp2_with (at_builtin; refine wpList_append_own _ rfl (.tmp 91) (.tmp 95) 23 rfl (w.heap.size + 2) 54 i1 _ 3 24 Try.underlying23 Hj.out.1 Hj.out.2.1 Hj.out.2.2.1 Hj.out.2.2.2 rfl (by decide) (.slice A2' ms.length c2') ms.length (ms.flatMap encL) rfl ((by have := HRU.out.2.alloc (.cells #[.int .i64 1, .int .i64 to_, .int .i64 (x2 / 2)] 54); rw [HWU.out] at this; exact this)) ⟨w2.heap.size + 1, 0, none⟩ 1 1 [.int .i64 1, .int .i64 to_, .int .i64 (x2 / 2)] rfl rfl ?c1 ?c2 ?c3 ?c4 ?c5 ?_)
    case c1 =>
      intro j u hu
      rw [add_lit0]
      have := (Blk.new WU 54 #[.int .i64 1, .int .i64 to_, .int .i64 (x2 / 2)]).cell j
      rw [HszU.out] at this
      rw [HWU.out] at this
      rw [this]
      simpa using hu
    case c2 => simp [Value.oneCell']
    case c3 => simp only [maxLen]; omega
    case c4 => omega
    case c5 => have := HB2.out.size; simp; omega
    intro mv' w3 hown hg _
    rw [← HWU.out] at hg
    obtain ⟨A3, c3, rfl, hR3⟩ := RowsU.append (l := (1, to_, x2 / 2)) HRU.out hg hown
    have hU3 := HRU.out.append_blk hg HUU.out (by decide)
    have hz3 := HRU.out.append_blk hg HZU.out (by decide)
    have hb3 := HRU.out.append_below hg HBU.out (by omega) HBU.out.size
    clear hown hg
    try clear a0 a1 a2 a3 a4
    clear z0 z1 z2 z3 z4 y0 y1 y2 y3 y4
    obtain ⟨⟨u0, u1, u2, u3, u4⟩, ⟨f0, f1, f2, f3, f4⟩⟩ := hU3.five
    have lu3 := hU3.lt
    have lz3 := hz3.lt
    obtain ⟨⟨z0, z1, z2, z3, z4⟩, ⟨y0, y1, y2, y3, y4⟩⟩ := hz3.five
    have HR3 := Lib.hid hR3
    have HU3 := Lib.hid hU3
    have HZ3 := Lib.hid hz3
    have HB3 := Lib.hid hb3
    clear hR3 hU3 hz3 hb3
    go_wp2_with fail
    refine calls_at (fun W => ThrF (w.heap.size + 2) W (.agg #[.int .i64 gr, .int .i64 ou, .slice (some ⟨gp, 0, none⟩) ps.length c1', .slice A3 (ms.length + 1) c3, .bool en]) ⟨gr, ou, (ps.set k (x1 - 1, x2 - x2 / 2)), ms ++ [(1, to_, x2 / 2)], en⟩ ∧ Blk W (w.heap.size + 1) 25 #[.int .i64 0, .int .i64 0, .slice none 0 0, .slice none 0 0, .bool false] ∧ Below w.heap.size w W) ⟨(HR3.out.setU HU3.out 3 _).thrF (by simp) (by simp) _ _ _, HZ3.out.far (p := ⟨w2.heap.size, 3, none⟩) (by show w.heap.size + 1 ≠ w2.heap.size; omega) _, HB3.out.setCell (by show w.heap.size ≤ w2.heap.size; exact HB2.out.size) _⟩ ?_
    rintro W5 ⟨hF5, hz5, hb5⟩
    clear z0 z1 z2 z3 z4 y0 y1 y2 y3 y4
    obtain ⟨r, hr⟩ : ∃ r, r = Thr.fin ⟨gr, ou, (ps.set k (x1 - 1, x2 - x2 / 2)), ms ++ [(1, to_, x2 / 2)], en⟩ := ⟨_, rfl⟩
    have hf := Hf0.out.trans hr.symm
    have Hf := Lib.hid hf
    refine (told_calls r _ ⟨gr, ou, (ps.set k (x1 - 1, x2 - x2 / 2)), ms ++ [(1, to_, x2 / 2)], en⟩ _ W5 hr hF5 ⟨by simp only [List.length_set]; omega, by simp only [List.length_append, List.length_cons, List.length_nil]; omega⟩).mono ?_
    obtain ⟨⟨gr', ou', ps', ms', en'⟩, n'⟩ := r
    rintro e w6 ⟨v6, rfl, hv6, hb6⟩
    have hv6' := hv6
    obtain ⟨J1, j1, J2, j2, rfl, -, -⟩ := hv6'
    have hz6 := hz5.below hb6 hz5.lt
    obtain ⟨⟨z0, z1, z2, z3, z4⟩, ⟨y0, y1, y2, y3, y4⟩⟩ := hz6.five
    have lz6 := hz6.lt
    have Hz6 := Lib.hid hz6
    have Hv6 := Lib.hid (hv6.lower (B' := w.heap.size) (by omega))
    have Hb6 := Lib.hid (hb5.trans (hb6.mono hb5.size))
    clear hf hr hF5 hz5 hb5 hv6 hb6 hz6
    go_wp2
    exact bodyPost_ret (v := .tuple #[.agg #[.int .i64 gr', .int .i64 ou', .slice J1 ps'.length j1, .slice J2 ms'.length j2, .bool en'], .int .i64 n']) (by simp [results, Try.results64, go_sem, *]) rfl
      ⟨_, by rw [Hf.out], by rw [Hf.out]; exact Hv6.out.set5 Hz6.out _ _ _ _ _, below_set5 Hb6.out (Nat.le_succ _) _ _ _ _ _⟩
  · have hx1e : x1 = 1 := by omega
    subst hx1e
    have hhalf : half (1, x2) = x2 := by rw [half, if_neg (by simp)]
    have hwt : ¬ x2 = 0 := hx2p
    have Hf0 := Lib.hid (show moveM ⟨gr, ou, ps, ms, en⟩ (k : Int) to_ = Thr.fin ⟨gr, ou, (ps.set k (0, 0)), ms ++ [(1, to_, x2)], en⟩ from by
      rw [moveM, if_pos hb0, Hpx.out, hhalf, if_neg hwt, Int.toNat_natCast]; simp only [Int.sub_self]; rfl)
    clear hb0 hx0 hx2p hhalf hwt h81
    go_enter Try.func64, Try.ntmps64
    go_wp2_with fail
    rw [← HW.out]
    refine (Hca.out).mono ?_
    rintro e w1 ⟨rfl, hb⟩
    have HB1 := Lib.hid (HB0.out.trans (hb.mono HB0.out.size))
    have HZ1 := Lib.hid (HZ.out.below hb HZ.out.lt)
    have HP1 := Lib.hid (HP.out.below hb HP.out.lt)
    have HV1 := Lib.hid (HV.out.below hb (Nat.le_refl _))
    clear hb
    try clear a0 a1 a2 a3 a4 z0 z1 z2 z3 z4 y0 y1 y2 y3 y4
    obtain ⟨⟨a0, a1, a2, a3, a4⟩, -⟩ := HP1.out.five
    obtain ⟨⟨z0, z1, z2, z3, z4⟩, ⟨y0, y1, y2, y3, y4⟩⟩ := HZ1.out.five
    have lz1 := HZ1.out.lt
    have lp1 := HP1.out.lt
    go_wp2_with fail
    skip
    refine (Hcb.out _ HV1.out).mono ?_
    rintro e w3 ⟨rfl, hb⟩
    have HB3 := Lib.hid (HB1.out.trans (hb.mono HB1.out.size))
    have HZ3 := Lib.hid (HZ1.out.below hb HZ1.out.lt)
    have HP3 := Lib.hid (HP1.out.below hb HP1.out.lt)
    have HV3 := Lib.hid (HV1.out.below hb (Nat.le_refl _))
    clear hb
    try clear a0 a1 a2 a3 a4 z0 z1 z2 z3 z4 y0 y1 y2 y3 y4
    obtain ⟨⟨a0, a1, a2, a3, a4⟩, -⟩ := HP3.out.five
    obtain ⟨⟨z0, z1, z2, z3, z4⟩, ⟨y0, y1, y2, y3, y4⟩⟩ := HZ3.out.five
    have lz3 := HZ3.out.lt
    have lp3 := HP3.out.lt
    obtain ⟨g0, off, rfl, e0, e1⟩ := Rd.atH HV3.out.rdU.1 Hx.out
    simp only at e0 e1
    go_wp2_with fail
    refine (copied_calls ⟨gr, ou, ps, ms, en⟩ _ _ HV3.out HL.out).mono ?_
    rintro e w2 ⟨v2, rfl, hF, hb⟩
    obtain ⟨A1', c1', A2', c2', rfl, ho1, ho2⟩ := hF
    simp only at ho1 ho2
    have HRr2 := Lib.hid (show RowsU w2 (w.heap.size + 2) A1' ps.length c1' A2' ms.length c2' ps ms from RowsU.lower ⟨ho1, ho2⟩ (by have := HZ3.out.lt; omega))
    clear ho1 ho2
    have HB2 := Lib.hid (HB3.out.trans (hb.mono HB3.out.size))
    have HZ2 := Lib.hid (HZ3.out.below hb HZ3.out.lt)
    have HP2 := Lib.hid (HP3.out.below hb HP3.out.lt)
    have HV2 := Lib.hid (HV3.out.below hb (Nat.le_refl _))
    clear hb
    try clear e0 e1
    try clear a0 a1 a2 a3 a4 z0 z1 z2 z3 z4 y0 y1 y2 y3 y4
    obtain ⟨⟨a0, a1, a2, a3, a4⟩, -⟩ := HP2.out.five
    obtain ⟨⟨z0, z1, z2, z3, z4⟩, ⟨y0, y1, y2, y3, y4⟩⟩ := HZ2.out.five
    have lz2 := HZ2.out.lt
    have lp2 := HP2.out.lt
    obtain ⟨gp, cp, hpv, -, hgp⟩ := HRr2.out.1.form (show 0 < ps.length by omega)
    simp only [Value.slice.injEq, Option.some.injEq] at hpv
    obtain ⟨rfl, -, rfl⟩ := hpv
    obtain ⟨hgB, -⟩ := HRr2.out.1.lt gp rfl
    obtain ⟨⟨e0, e1⟩, q0, q1, lg⟩ := HRr2.out.cells Hx.out
    simp only at e0 e1
    have hzg : w.heap.size + 1 ≠ gp := by omega
    obtain ⟨hS, hgeS⟩ := (HRr2.out).setG (rfl) Hx.out (0)
    have HS := Lib.hid hS
    have HZS := Lib.hid ((HZ2.out).far (p := ⟨gp, k * 2, none⟩) hzg (.int .i64 (0)))
    have HBS := Lib.hid ((HB2.out).setCell (p := ⟨gp, k * 2, none⟩) (by show w.heap.size ≤ gp; omega) (.int .i64 (0)))
    clear hS
    have Hx1 := Lib.hid (show (ps.set k (0, x2))[k]? = some (0, x2) from by rw [List.getElem?_set_self hk])
    obtain ⟨hV, hgeV⟩ := (HS.out).setW (by simp) Hx1.out (0)
    have HVs := Lib.hid hV
    have HZV := Lib.hid ((HZS.out).far (p := ⟨gp, k * 2 + 1, none⟩) hzg (.int .i64 (0)))
    have HBV := Lib.hid ((HBS.out).setCell (p := ⟨gp, k * 2 + 1, none⟩) (by show w.heap.size ≤ gp; omega) (.int .i64 (0)))
    clear hV
    have hVV : RowsU ((w2.setCell ⟨gp, k * 2, none⟩ (.int .i64 (0))).setCell ⟨gp, k * 2 + 1, none⟩ (.int .i64 (0))) (w.heap.size + 2) (some ⟨gp, 0, none⟩) ps.length c1' A2' ms.length c2' (ps.set k (0, 0)) ms := by
      have := HVs.out
      simpa [List.set_set] using this
    have HVV := Lib.hid hVV
    clear hVV
    obtain ⟨WU, hWU⟩ : ∃ WU, WU = ((w2.setCell ⟨gp, k * 2, none⟩ (.int .i64 (0))).setCell ⟨gp, k * 2 + 1, none⟩ (.int .i64 (0))).alloc (.cells #[.int .i64 gr, .int .i64 ou, .slice (some ⟨gp, 0, none⟩) ps.length c1', .slice A2' ms.length c2', .bool en] 25) := ⟨_, rfl⟩
    have HszU := Lib.hid (show WU.heap.size = w2.heap.size + 1 from by rw [hWU]; simp)
    have HUU : Hid (Blk WU w2.heap.size 25 #[.int .i64 gr, .int .i64 ou, .slice (some ⟨gp, 0, none⟩) ps.length c1', .slice A2' ms.length c2', .bool en]) := Lib.hid (by
      have := Blk.new ((w2.setCell ⟨gp, k * 2, none⟩ (.int .i64 (0))).setCell ⟨gp, k * 2 + 1, none⟩ (.int .i64 (0))) 25 #[.int .i64 gr, .int .i64 ou, .slice (some ⟨gp, 0, none⟩) ps.length c1', .slice A2' ms.length c2', .bool en]
      rw [hWU]; simpa using this)
    have HRU : Hid (RowsU WU (w.heap.size + 2) (some ⟨gp, 0, none⟩) ps.length c1' A2' ms.length c2' (ps.set k (0, 0)) ms) := Lib.hid (by rw [hWU]; exact (HVV.out).alloc _)
    have HZU : Hid (Blk WU (w.heap.size + 1) 25 #[.int .i64 0, .int .i64 0, .slice none 0 0, .slice none 0 0, .bool false]) := Lib.hid (by rw [hWU]; exact (HZV.out).alloc _)
    have HBU : Hid (Below w.heap.size w WU) := Lib.hid (by rw [hWU]; exact (HBV.out).alloc (HBV.out).size _)
    have HWU := Lib.hid hWU; clear hWU
    go_wp2_with (at_builtin; refine wpList_append_own _ rfl (.tmp 91) (.tmp 95) 23 rfl (w.heap.size + 2) 54 i1 _ 3 24 Try.underlying23 Hj.out.1 Hj.out.2.1 Hj.out.2.2.1 Hj.out.2.2.2 rfl (by decide) (.slice A2' ms.length c2') ms.length (ms.flatMap encL) rfl ((by have := HRU.out.2.alloc (.cells #[.int .i64 1, .int .i64 to_, .int .i64 (x2)] 54); rw [HWU.out] at this; exact this)) ⟨w2.heap.size + 1, 0, none⟩ 1 1 [.int .i64 1, .int .i64 to_, .int .i64 (x2)] rfl rfl ?c1 ?c2 ?c3 ?c4 ?c5 ?_)
    case c1 =>
      intro j u hu
      rw [add_lit0]
      have := (Blk.new WU 54 #[.int .i64 1, .int .i64 to_, .int .i64 (x2)]).cell j
      rw [HszU.out] at this
      rw [HWU.out] at this
      rw [this]
      simpa using hu
    case c2 => simp [Value.oneCell']
    case c3 => simp only [maxLen]; omega
    case c4 => omega
    case c5 => have := HB2.out.size; simp; omega
    intro mv' w3 hown hg _
    rw [← HWU.out] at hg
    obtain ⟨A3, c3, rfl, hR3⟩ := RowsU.append (l := (1, to_, x2)) HRU.out hg hown
    have hU3 := HRU.out.append_blk hg HUU.out (by decide)
    have hz3 := HRU.out.append_blk hg HZU.out (by decide)
    have hb3 := HRU.out.append_below hg HBU.out (by omega) HBU.out.size
    clear hown hg
    try clear a0 a1 a2 a3 a4
    clear z0 z1 z2 z3 z4 y0 y1 y2 y3 y4
    obtain ⟨⟨u0, u1, u2, u3, u4⟩, ⟨f0, f1, f2, f3, f4⟩⟩ := hU3.five
    have lu3 := hU3.lt
    have lz3 := hz3.lt
    obtain ⟨⟨z0, z1, z2, z3, z4⟩, ⟨y0, y1, y2, y3, y4⟩⟩ := hz3.five
    have HR3 := Lib.hid hR3
    have HU3 := Lib.hid hU3
    have HZ3 := Lib.hid hz3
    have HB3 := Lib.hid hb3
    clear hR3 hU3 hz3 hb3
    go_wp2_with fail
    refine calls_at (fun W => ThrF (w.heap.size + 2) W (.agg #[.int .i64 gr, .int .i64 ou, .slice (some ⟨gp, 0, none⟩) ps.length c1', .slice A3 (ms.length + 1) c3, .bool en]) ⟨gr, ou, (ps.set k (0, 0)), ms ++ [(1, to_, x2)], en⟩ ∧ Blk W (w.heap.size + 1) 25 #[.int .i64 0, .int .i64 0, .slice none 0 0, .slice none 0 0, .bool false] ∧ Below w.heap.size w W) ⟨(HR3.out.setU HU3.out 3 _).thrF (by simp) (by simp) _ _ _, HZ3.out.far (p := ⟨w2.heap.size, 3, none⟩) (by show w.heap.size + 1 ≠ w2.heap.size; omega) _, HB3.out.setCell (by show w.heap.size ≤ w2.heap.size; exact HB2.out.size) _⟩ ?_
    rintro W5 ⟨hF5, hz5, hb5⟩
    clear z0 z1 z2 z3 z4 y0 y1 y2 y3 y4
    obtain ⟨r, hr⟩ : ∃ r, r = Thr.fin ⟨gr, ou, (ps.set k (0, 0)), ms ++ [(1, to_, x2)], en⟩ := ⟨_, rfl⟩
    have hf := Hf0.out.trans hr.symm
    have Hf := Lib.hid hf
    refine (told_calls r _ ⟨gr, ou, (ps.set k (0, 0)), ms ++ [(1, to_, x2)], en⟩ _ W5 hr hF5 ⟨by simp only [List.length_set]; omega, by simp only [List.length_append, List.length_cons, List.length_nil]; omega⟩).mono ?_
    obtain ⟨⟨gr', ou', ps', ms', en'⟩, n'⟩ := r
    rintro e w6 ⟨v6, rfl, hv6, hb6⟩
    have hv6' := hv6
    obtain ⟨J1, j1, J2, j2, rfl, -, -⟩ := hv6'
    have hz6 := hz5.below hb6 hz5.lt
    obtain ⟨⟨z0, z1, z2, z3, z4⟩, ⟨y0, y1, y2, y3, y4⟩⟩ := hz6.five
    have lz6 := hz6.lt
    have Hz6 := Lib.hid hz6
    have Hv6 := Lib.hid (hv6.lower (B' := w.heap.size) (by omega))
    have Hb6 := Lib.hid (hb5.trans (hb6.mono hb5.size))
    clear hf hr hF5 hz5 hb5 hv6 hb6 hz6
    go_wp2
    exact bodyPost_ret (v := .tuple #[.agg #[.int .i64 gr', .int .i64 ou', .slice J1 ps'.length j1, .slice J2 ms'.length j2, .bool en'], .int .i64 n']) (by simp [results, Try.results64, go_sem, *]) rfl
      ⟨_, by rw [Hf.out], by rw [Hf.out]; exact Hv6.out.set5 Hz6.out _ _ _ _ _, below_set5 Hb6.out (Nat.le_succ _) _ _ _ _ _⟩
end Go.Proofs.Ythdlmnkefheliaa
