import Derived.Test.YthdlmnkefheliaaR3
set_option linter.unusedVariables false
set_option linter.unusedSimpArgs false
namespace Go.Proofs.Ythdlmnkefheliaa
open Go.RowKit
attribute [local go_sem ↓] Go.wp_at_zero Go.wp_at_succ

theorem ThrV.rdU {w : World} {A1 A2 : Option Addr} {n1 n2 c1 c2 : Nat} {a b : Int} {e : Bool} {t : Thr} (h : ThrV w (.agg #[.int .i64 a, .int .i64 b, .slice A1 n1 c1, .slice A2 n2 c2, .bool e]) t) : Rd w A1 (t.procs.flatMap encH) ∧ Rd w A2 (t.mail.flatMap encL) := by
  obtain ⟨B1, d1, B2, d2, hv, _, _, h3, _, _, h6⟩ := h
  simp only [Value.agg.injEq, Array.mk.injEq, List.cons.injEq, Value.slice.injEq] at hv
  obtain ⟨-, -, ⟨rfl, -, -⟩, ⟨rfl, -, -⟩, -⟩ := hv
  exact ⟨h3, h6⟩

set_option maxRecDepth 100000 in
set_option maxHeartbeats 4000000 in
theorem refRequest_calls (t : Thr) (v : Value) (proc : Int) (w : World) (hv : ThrV w v t) (hl : t.Lens) :
    Calls Try.prog 85 #[v, .int .i64 proc] w (RetT (requestM t proc) w) := by
  have hv0 := hv
  obtain ⟨gr, ou, ps, ms, en⟩ := t
  obtain ⟨A1, c1, A2, c2, rfl, k1, k2, k3, k4, k5, k6⟩ := hv
  clear k1 k2 k3 k4 k5 k6
  simp only at hv0 ⊢
  have HL := Lib.hid hl; clear hl
  obtain ⟨W0, hW0⟩ : ∃ W0, W0 = ((w.alloc (.cells #[.int .i64 gr, .int .i64 ou, .slice A1 ps.length c1, .slice A2 ms.length c2, .bool en] 25)).alloc (.cells #[.int .i64 0, .int .i64 0, .slice none 0 0, .slice none 0 0, .bool false] 25)) := ⟨_, rfl⟩
  have hB0 : Below w.heap.size w W0 := by rw [hW0]; exact ((Below.refl _ _).alloc (Nat.le_refl _) _).alloc (by simp) _
  have hz : Blk W0 (w.heap.size + 1) 25 #[.int .i64 0, .int .i64 0, .slice none 0 0, .slice none 0 0, .bool false] := by
    rw [hW0]
    have := Blk.new (w.alloc (.cells #[.int .i64 gr, .int .i64 ou, .slice A1 ps.length c1, .slice A2 ms.length c2, .bool en] 25)) 25 #[.int .i64 0, .int .i64 0, .slice none 0 0, .slice none 0 0, .bool false]
    rw [show (w.alloc (.cells #[.int .i64 gr, .int .i64 ou, .slice A1 ps.length c1, .slice A2 ms.length c2, .bool en] 25)).heap.size = w.heap.size + 1 from by simp] at this
    exact this
  have hz0 : Blk W0 w.heap.size 25 #[.int .i64 gr, .int .i64 ou, .slice A1 ps.length c1, .slice A2 ms.length c2, .bool en] := by rw [hW0]; exact (Blk.new w 25 _).alloc _
  have HV := Lib.hid (hv0.below hB0 (Nat.le_refl _)); clear hv0
  have hsz := hz.lt
  have hsz0 := hz0.lt
  have HZ := Lib.hid hz; clear hz
  have HP := Lib.hid hz0; clear hz0
  have HB0 := Lib.hid hB0; clear hB0
  have HW := Lib.hid hW0; clear hW0
  obtain ⟨E, hE⟩ : ∃ E, begunE ⟨gr, ou, ps, ms, en⟩ [proc] = E := ⟨_, rfl⟩
  have HE := Lib.hid hE
  obtain ⟨i1, hi, hz0, hz1, hz2⟩ := info_parts info54
  have Hj := Lib.hid (And.intro hi (And.intro hz0 (And.intro hz1 hz2))); clear hi hz0 hz1 hz2
  have hca := asked_calls ⟨gr, ou, ps, ms, en⟩ _ proc _ HV.out HL.out
  rw [hE] at hca
  have Hca := Lib.hid hca; clear hca
  by_cases hn : E = 0
  case neg =>
    have Hf := Lib.hid (show requestM ⟨gr, ou, ps, ms, en⟩ proc = (Thr.zero, E) from by rw [requestM, if_neg (by rw [busyE_of hE hn]; exact hn), busyE_of hE hn])
    have hnb : (E != 0) = true := by simpa using hn
    have hnc : (E == 0) = false := by simpa using hn
    clear hn hE
    go_enter Try.func85, Try.ntmps85
    go_wp2_with fail
    rw [← HW.out]
    refine (Hca.out).mono ?_
    rintro e w1 ⟨rfl, hb⟩
    have HB1 := Lib.hid (HB0.out.trans (hb.mono HB0.out.size))
    have HZ1 := Lib.hid (HZ.out.below hb HZ.out.lt)
    have HP1 := Lib.hid (HP.out.below hb HP.out.lt)
    have HV1 := Lib.hid (HV.out.below hb (Nat.le_refl _))
    clear hb
    try clear a0 a1 a2 a3 a4 z0 z1 z2 z3 z4 y0 y1 y2 y3 y4
    obtain ⟨⟨a0, a1, a2, a3, a4⟩, -⟩ := HP1.out.five
    obtain ⟨⟨z0, z1, z2, z3, z4⟩, ⟨y0, y1, y2, y3, y4⟩⟩ := HZ1.out.five
    have lz1 := HZ1.out.lt
    have lp1 := HP1.out.lt
    go_wp2
    exact bodyPost_ret (v := .tuple #[.agg #[.int .i64 0, .int .i64 0, .slice none 0 0, .slice none 0 0, .bool false], .int .i64 E]) (by simp [results, Try.results85, go_sem, *]) rfl
      ⟨_, by rw [Hf.out], by rw [Hf.out]; exact ThrF.zero _ _, below_set5 HB1.out (Nat.le_succ _) _ _ _ _ _⟩
  subst hn
  have Hgd := Lib.hid (Thr.good_iff.1 (begunE_ok hE).1)
  have hl1 := Hgd.out.pl1
  have hl2 := Hgd.out.ml
  simp only at hl1 hl2
  obtain ⟨k, rfl, hk⟩ := begun_range hE (p := proc) (List.mem_cons_self ..)
  simp only at hk
  have hget := Thr.proc_get (t := ⟨gr, ou, ps, ms, en⟩) hk
  obtain ⟨x, hx'⟩ : ∃ x, Thr.proc ⟨gr, ou, ps, ms, en⟩ (k : Int) = x := ⟨_, rfl⟩
  rw [hx'] at hget
  obtain ⟨x1, x2⟩ := x
  have Hx := Lib.hid (show ps[k]? = some (x1, x2) from hget)
  have Hpx := Lib.hid hx'
  have hho := (holder_iff _).1 (Hgd.out.pr _ (List.mem_of_getElem? hget))
  simp only at hho
  obtain ⟨⟨ho0, ho1⟩, ⟨ho2, ho3⟩, ho4⟩ := hho
  have Ho4 := Lib.hid ho4
  have hk0 : (0 : Int) ≤ (k : Int) := Int.natCast_nonneg _
  have hk1 : (k : Int) < (ps.length : Int) := by omega
  have HEE := Lib.hid hE
  clear hget hx' ho4 hE
  by_cases hx0 : x1 = 0
  · subst hx0
    have Hf := Lib.hid (show requestM ⟨gr, ou, ps, ms, en⟩ (k : Int) = (Thr.zero, 282) from by rw [requestM, if_neg (by rw [busyE_empty HEE.out (by rw [Hpx.out])]; omega), busyE_empty HEE.out (by rw [Hpx.out])])
    go_enter Try.func85, Try.ntmps85
    go_wp2_with fail
    rw [← HW.out]
    refine (Hca.out).mono ?_
    rintro e w1 ⟨rfl, hb⟩
    have HB1 := Lib.hid (HB0.out.trans (hb.mono HB0.out.size))
    have HZ1 := Lib.hid (HZ.out.below hb HZ.out.lt)
    have HP1 := Lib.hid (HP.out.below hb HP.out.lt)
    have HV1 := Lib.hid (HV.out.below hb (Nat.le_refl _))
    clear hb
    try clear a0 a1 a2 a3 a4 z0 z1 z2 z3 z4 y0 y1 y2 y3 y4
    obtain ⟨⟨a0, a1, a2, a3, a4⟩, -⟩ := HP1.out.five
    obtain ⟨⟨z0, z1, z2, z3, z4⟩, ⟨y0, y1, y2, y3, y4⟩⟩ := HZ1.out.five
    have lz1 := HZ1.out.lt
    have lp1 := HP1.out.lt
    obtain ⟨g0, off, rfl, e0, e1⟩ := Rd.atH HV1.out.rdU.1 Hx.out
    simp only at e0 e1
    go_wp2
    exact bodyPost_ret (v := .tuple #[.agg #[.int .i64 0, .int .i64 0, .slice none 0 0, .slice none 0 0, .bool false], .int .i64 282]) (by simp [results, Try.results85, go_sem, *]) rfl
      ⟨_, by rw [Hf.out], by rw [Hf.out]; exact ThrF.zero _ _, below_set5 HB1.out (Nat.le_succ _) _ _ _ _ _⟩
  have hx0b : (x1 == 0) = false := by simpa using hx0
  have hb0 := busyE_good (t := ⟨gr, ou, ps, ms, en⟩) HEE.out (by rw [Hpx.out]; exact hx0)
  have Hf0 := Lib.hid (show requestM ⟨gr, ou, ps, ms, en⟩ (k : Int) = (Thr.post ⟨gr, ou, ps, ms, en⟩ (3, (k : Int), 0)).fin from by rw [requestM, if_pos hb0])
  clear hb0 hx0
  go_enter Try.func85, Try.ntmps85
  go_wp2_with fail
  rw [← HW.out]
  refine (Hca.out).mono ?_
  rintro e w1 ⟨rfl, hb⟩
  have HB1 := Lib.hid (HB0.out.trans (hb.mono HB0.out.size))
  have HZ1 := Lib.hid (HZ.out.below hb HZ.out.lt)
  have HP1 := Lib.hid (HP.out.below hb HP.out.lt)
  have HV1 := Lib.hid (HV.out.below hb (Nat.le_refl _))
  clear hb
  try clear a0 a1 a2 a3 a4 z0 z1 z2 z3 z4 y0 y1 y2 y3 y4
  obtain ⟨⟨a0, a1, a2, a3, a4⟩, -⟩ := HP1.out.five
  obtain ⟨⟨z0, z1, z2, z3, z4⟩, ⟨y0, y1, y2, y3, y4⟩⟩ := HZ1.out.five
  have lz1 := HZ1.out.lt
  have lp1 := HP1.out.lt
  obtain ⟨g0, off, rfl, e0, e1⟩ := Rd.atH HV1.out.rdU.1 Hx.out
  simp only at e0 e1
  go_wp2_with fail
  refine (copied_calls ⟨gr, ou, ps, ms, en⟩ _ _ HV1.out HL.out).mono ?_
  rintro e w2 ⟨v2, rfl, hF, hb⟩
  obtain ⟨A1', c1', A2', c2', rfl, ho1, ho2⟩ := hF
  simp only at ho1 ho2
  have HRr2 := Lib.hid (show RowsU w2 (w.heap.size + 2) A1' ps.length c1' A2' ms.length c2' ps ms from RowsU.lower ⟨ho1, ho2⟩ (by have := HZ1.out.lt; omega))
  clear ho1 ho2
  have HB2 := Lib.hid (HB1.out.trans (hb.mono HB1.out.size))
  have HZ2 := Lib.hid (HZ1.out.below hb HZ1.out.lt)
  have HP2 := Lib.hid (HP1.out.below hb HP1.out.lt)
  have HV2 := Lib.hid (HV1.out.below hb (Nat.le_refl _))
  clear hb
  try clear e0 e1
  try clear a0 a1 a2 a3 a4 z0 z1 z2 z3 z4 y0 y1 y2 y3 y4
  obtain ⟨⟨a0, a1, a2, a3, a4⟩, -⟩ := HP2.out.five
  obtain ⟨⟨z0, z1, z2, z3, z4⟩, ⟨y0, y1, y2, y3, y4⟩⟩ := HZ2.out.five
  have lz2 := HZ2.out.lt
  have lp2 := HP2.out.lt
  obtain ⟨WU, hWU⟩ : ∃ WU, WU = (w2).alloc (.cells #[.int .i64 gr, .int .i64 ou, .slice A1' ps.length c1', .slice A2' ms.length c2', .bool en] 25) := ⟨_, rfl⟩
  have HszU := Lib.hid (show WU.heap.size = w2.heap.size + 1 from by rw [hWU]; simp)
  have HUU : Hid (Blk WU w2.heap.size 25 #[.int .i64 gr, .int .i64 ou, .slice A1' ps.length c1', .slice A2' ms.length c2', .bool en]) := Lib.hid (by
    have := Blk.new (w2) 25 #[.int .i64 gr, .int .i64 ou, .slice A1' ps.length c1', .slice A2' ms.length c2', .bool en]
    rw [hWU]; simpa using this)
  have HRU : Hid (RowsU WU (w.heap.size + 2) A1' ps.length c1' A2' ms.length c2' ps ms) := Lib.hid (by rw [hWU]; exact (HRr2.out).alloc _)
  have HZU : Hid (Blk WU (w.heap.size + 1) 25 #[.int .i64 0, .int .i64 0, .slice none 0 0, .slice none 0 0, .bool false]) := Lib.hid (by rw [hWU]; exact (HZ2.out).alloc _)
  have HBU : Hid (Below w.heap.size w WU) := Lib.hid (by rw [hWU]; exact (HB2.out).alloc (HB2.out).size _)
  have HWU := Lib.hid hWU; clear hWU
  go_wp2_with (at_builtin; refine wpList_append_own _ rfl (.tmp 29) (.tmp 32) 23 rfl (w.heap.size + 2) 54 i1 _ 3 24 Try.underlying23 Hj.out.1 Hj.out.2.1 Hj.out.2.2.1 Hj.out.2.2.2 rfl (by decide) (.slice A2' ms.length c2') ms.length (ms.flatMap encL) rfl ((by have := HRU.out.2.alloc (.cells #[.int .i64 3, .int .i64 k, .int .i64 0] 54); rw [HWU.out] at this; exact this)) ⟨w2.heap.size + 1, 0, none⟩ 1 1 [.int .i64 3, .int .i64 k, .int .i64 0] rfl rfl ?c1 ?c2 ?c3 ?c4 ?c5 ?_)
  case c1 =>
    intro j u hu
    rw [add_lit0]
    have := (Blk.new WU 54 #[.int .i64 3, .int .i64 k, .int .i64 0]).cell j
    rw [HszU.out] at this
    rw [HWU.out] at this
    rw [this]
    simpa using hu
  case c2 => simp [Value.oneCell']
  case c3 => simp only [maxLen]; omega
  case c4 => omega
  case c5 => have := HB2.out.size; simp; omega
  intro mv' w3 hown hg _
  rw [← HWU.out] at hg
  obtain ⟨A3, c3, rfl, hR3⟩ := RowsU.append (l := (3, (k : Int), 0)) HRU.out hg hown
  have hU3 := HRU.out.append_blk hg HUU.out (by decide)
  have hz3 := HRU.out.append_blk hg HZU.out (by decide)
  have hb3 := HRU.out.append_below hg HBU.out (by omega) HBU.out.size
  clear hown hg
  try clear a0 a1 a2 a3 a4
  clear z0 z1 z2 z3 z4 y0 y1 y2 y3 y4
  obtain ⟨⟨u0, u1, u2, u3, u4⟩, ⟨f0, f1, f2, f3, f4⟩⟩ := hU3.five
  have lu3 := hU3.lt
  have lz3 := hz3.lt
  obtain ⟨⟨z0, z1, z2, z3, z4⟩, ⟨y0, y1, y2, y3, y4⟩⟩ := hz3.five
  have HR3 := Lib.hid hR3
  have HU3 := Lib.hid hU3
  have HZ3 := Lib.hid hz3
  have HB3 := Lib.hid hb3
  clear hR3 hU3 hz3 hb3
  go_wp2_with fail
  refine calls_at (fun W => ThrF (w.heap.size + 2) W (.agg #[.int .i64 gr, .int .i64 ou, .slice A1' ps.length c1', .slice A3 (ms.length + 1) c3, .bool en]) ⟨gr, ou, ps, ms ++ [(3, (k : Int), 0)], en⟩ ∧ Blk W (w.heap.size + 1) 25 #[.int .i64 0, .int .i64 0, .slice none 0 0, .slice none 0 0, .bool false] ∧ Below w.heap.size w W) ⟨(HR3.out.setU HU3.out 3 _).thrF rfl (by simp) _ _ _, HZ3.out.far (p := ⟨w2.heap.size, 3, none⟩) (by show w.heap.size + 1 ≠ w2.heap.size; omega) _, HB3.out.setCell (by show w.heap.size ≤ w2.heap.size; exact HB2.out.size) _⟩ ?_
  rintro W5 ⟨hF5, hz5, hb5⟩
  clear z0 z1 z2 z3 z4 y0 y1 y2 y3 y4
  obtain ⟨r, hr⟩ : ∃ r, r = Thr.fin ⟨gr, ou, ps, ms ++ [(3, (k : Int), 0)], en⟩ := ⟨_, rfl⟩
  have hf := Hf0.out.trans hr.symm
  have Hf := Lib.hid hf
  refine (told_calls r _ ⟨gr, ou, ps, ms ++ [(3, (k : Int), 0)], en⟩ _ W5 hr hF5 ⟨by simp only; omega, by simp only [List.length_append, List.length_cons, List.length_nil]; omega⟩).mono ?_
  obtain ⟨⟨gr', ou', ps', ms', en'⟩, n'⟩ := r
  rintro e w6 ⟨v6, rfl, hv6, hb6⟩
  have hv6' := hv6
  obtain ⟨J1, j1, J2, j2, rfl, -, -⟩ := hv6'
  have hz6 := hz5.below hb6 hz5.lt
  obtain ⟨⟨z0, z1, z2, z3, z4⟩, ⟨y0, y1, y2, y3, y4⟩⟩ := hz6.five
  have lz6 := hz6.lt
  have Hz6 := Lib.hid hz6
  have Hv6 := Lib.hid (hv6.lower (B' := w.heap.size) (by omega))
  have Hb6 := Lib.hid (hb5.trans (hb6.mono hb5.size))
  clear hf hr hF5 hz5 hb5 hv6 hb6 hz6
  go_wp2
  exact bodyPost_ret (v := .tuple #[.agg #[.int .i64 gr', .int .i64 ou', .slice J1 ps'.length j1, .slice J2 ms'.length j2, .bool en'], .int .i64 n']) (by simp [results, Try.results85, go_sem, *]) rfl
    ⟨_, by rw [Hf.out], by rw [Hf.out]; exact Hv6.out.set5 Hz6.out _ _ _ _ _, below_set5 Hb6.out (Nat.le_succ _) _ _ _ _ _⟩

set_option maxRecDepth 100000 in
set_option maxHeartbeats 4000000 in
theorem refSpawn_calls (t : Thr) (v : Value) (proc : Int) (w : World) (hv : ThrV w v t) (hl : t.Lens) :
    Calls Try.prog 83 #[v, .int .i64 proc] w (RetT (spawnM t proc) w) := by
  have hv0 := hv
  obtain ⟨gr, ou, ps, ms, en⟩ := t
  obtain ⟨A1, c1, A2, c2, rfl, k1, k2, k3, k4, k5, k6⟩ := hv
  clear k1 k2 k3 k4 k5 k6
  simp only at hv0 ⊢
  have HL := Lib.hid hl; clear hl
  obtain ⟨W0, hW0⟩ : ∃ W0, W0 = ((w.alloc (.cells #[.int .i64 gr, .int .i64 ou, .slice A1 ps.length c1, .slice A2 ms.length c2, .bool en] 25)).alloc (.cells #[.int .i64 0, .int .i64 0, .slice none 0 0, .slice none 0 0, .bool false] 25)) := ⟨_, rfl⟩
  have hB0 : Below w.heap.size w W0 := by rw [hW0]; exact ((Below.refl _ _).alloc (Nat.le_refl _) _).alloc (by simp) _
  have hz : Blk W0 (w.heap.size + 1) 25 #[.int .i64 0, .int .i64 0, .slice none 0 0, .slice none 0 0, .bool false] := by
    rw [hW0]
    have := Blk.new (w.alloc (.cells #[.int .i64 gr, .int .i64 ou, .slice A1 ps.length c1, .slice A2 ms.length c2, .bool en] 25)) 25 #[.int .i64 0, .int .i64 0, .slice none 0 0, .slice none 0 0, .bool false]
    rw [show (w.alloc (.cells #[.int .i64 gr, .int .i64 ou, .slice A1 ps.length c1, .slice A2 ms.length c2, .bool en] 25)).heap.size = w.heap.size + 1 from by simp] at this
    exact this
  have hz0 : Blk W0 w.heap.size 25 #[.int .i64 gr, .int .i64 ou, .slice A1 ps.length c1, .slice A2 ms.length c2, .bool en] := by rw [hW0]; exact (Blk.new w 25 _).alloc _
  have HV := Lib.hid (hv0.below hB0 (Nat.le_refl _)); clear hv0
  have hsz := hz.lt
  have hsz0 := hz0.lt
  have HZ := Lib.hid hz; clear hz
  have HP := Lib.hid hz0; clear hz0
  have HB0 := Lib.hid hB0; clear hB0
  have HW := Lib.hid hW0; clear hW0
  obtain ⟨E, hE⟩ : ∃ E, begunE ⟨gr, ou, ps, ms, en⟩ [proc] = E := ⟨_, rfl⟩
  have HE := Lib.hid hE
  obtain ⟨i1, hi, hz0, hz1, hz2⟩ := info_parts info54
  have Hj := Lib.hid (And.intro hi (And.intro hz0 (And.intro hz1 hz2))); clear hi hz0 hz1 hz2
  have hca := asked_calls ⟨gr, ou, ps, ms, en⟩ _ proc _ HV.out HL.out
  rw [hE] at hca
  have Hca := Lib.hid hca; clear hca
  by_cases hn : E = 0
  case neg =>
    have Hf := Lib.hid (show spawnM ⟨gr, ou, ps, ms, en⟩ proc = (Thr.zero, E) from by rw [spawnM, if_neg (by rw [busyE_of hE hn]; exact hn), busyE_of hE hn])
    have hnb : (E != 0) = true := by simpa using hn
    have hnc : (E == 0) = false := by simpa using hn
    clear hn hE
    go_enter Try.func83, Try.ntmps83
    go_wp2_with fail
    rw [← HW.out]
    refine (Hca.out).mono ?_
    rintro e w1 ⟨rfl, hb⟩
    have HB1 := Lib.hid (HB0.out.trans (hb.mono HB0.out.size))
    have HZ1 := Lib.hid (HZ.out.below hb HZ.out.lt)
    have HP1 := Lib.hid (HP.out.below hb HP.out.lt)
    have HV1 := Lib.hid (HV.out.below hb (Nat.le_refl _))
    clear hb
    try clear a0 a1 a2 a3 a4 z0 z1 z2 z3 z4 y0 y1 y2 y3 y4
    obtain ⟨⟨a0, a1, a2, a3, a4⟩, -⟩ := HP1.out.five
    obtain ⟨⟨z0, z1, z2, z3, z4⟩, ⟨y0, y1, y2, y3, y4⟩⟩ := HZ1.out.five
    have lz1 := HZ1.out.lt
    have lp1 := HP1.out.lt
    go_wp2
    exact bodyPost_ret (v := .tuple #[.agg #[.int .i64 0, .int .i64 0, .slice none 0 0, .slice none 0 0, .bool false], .int .i64 E]) (by simp [results, Try.results83, go_sem, *]) rfl
      ⟨_, by rw [Hf.out], by rw [Hf.out]; exact ThrF.zero _ _, below_set5 HB1.out (Nat.le_succ _) _ _ _ _ _⟩
  subst hn
  have Hgd := Lib.hid (Thr.good_iff.1 (begunE_ok hE).1)
  have hl1 := Hgd.out.pl1
  have hl2 := Hgd.out.ml
  simp only at hl1 hl2
  obtain ⟨k, rfl, hk⟩ := begun_range hE (p := proc) (List.mem_cons_self ..)
  simp only at hk
  have hget := Thr.proc_get (t := ⟨gr, ou, ps, ms, en⟩) hk
  obtain ⟨x, hx'⟩ : ∃ x, Thr.proc ⟨gr, ou, ps, ms, en⟩ (k : Int) = x := ⟨_, rfl⟩
  rw [hx'] at hget
  obtain ⟨x1, x2⟩ := x
  have Hx := Lib.hid (show ps[k]? = some (x1, x2) from hget)
  have Hpx := Lib.hid hx'
  have hho := (holder_iff _).1 (Hgd.out.pr _ (List.mem_of_getElem? hget))
  simp only at hho
  obtain ⟨⟨ho0, ho1⟩, ⟨ho2, ho3⟩, ho4⟩ := hho
  have Ho4 := Lib.hid ho4
  have hk0 : (0 : Int) ≤ (k : Int) := Int.natCast_nonneg _
  have hk1 : (k : Int) < (ps.length : Int) := by omega
  have HEE := Lib.hid hE
  clear hget hx' ho4 hE
  by_cases hx0 : x1 = 0
  · subst hx0
    have Hf := Lib.hid (show spawnM ⟨gr, ou, ps, ms, en⟩ (k : Int) = (Thr.zero, 282) from by rw [spawnM, if_neg (by rw [busyE_empty HEE.out (by rw [Hpx.out])]; omega), busyE_empty HEE.out (by rw [Hpx.out])])
    go_enter Try.func83, Try.ntmps83
    go_wp2_with fail
    rw [← HW.out]
    refine (Hca.out).mono ?_
    rintro e w1 ⟨rfl, hb⟩
    have HB1 := Lib.hid (HB0.out.trans (hb.mono HB0.out.size))
    have HZ1 := Lib.hid (HZ.out.below hb HZ.out.lt)
    have HP1 := Lib.hid (HP.out.below hb HP.out.lt)
    have HV1 := Lib.hid (HV.out.below hb (Nat.le_refl _))
    clear hb
    try clear a0 a1 a2 a3 a4 z0 z1 z2 z3 z4 y0 y1 y2 y3 y4
    obtain ⟨⟨a0, a1, a2, a3, a4⟩, -⟩ := HP1.out.five
    obtain ⟨⟨z0, z1, z2, z3, z4⟩, ⟨y0, y1, y2, y3, y4⟩⟩ := HZ1.out.five
    have lz1 := HZ1.out.lt
    have lp1 := HP1.out.lt
    obtain ⟨g0, off, rfl, e0, e1⟩ := Rd.atH HV1.out.rdU.1 Hx.out
    simp only at e0 e1
    go_wp2
    exact bodyPost_ret (v := .tuple #[.agg #[.int .i64 0, .int .i64 0, .slice none 0 0, .slice none 0 0, .bool false], .int .i64 282]) (by simp [results, Try.results83, go_sem, *]) rfl
      ⟨_, by rw [Hf.out], by rw [Hf.out]; exact ThrF.zero _ _, below_set5 HB1.out (Nat.le_succ _) _ _ _ _ _⟩
  have hx0b : (x1 == 0) = false := by simpa using hx0
  have hb0 := busyE_good (t := ⟨gr, ou, ps, ms, en⟩) HEE.out (by rw [Hpx.out]; exact hx0)
  have Hf0 := Lib.hid (show spawnM ⟨gr, ou, ps, ms, en⟩ (k : Int) = (Thr.fin ⟨gr, ou, ps.set k (x1 + 1, x2), ms, en⟩) from by rw [spawnM, if_pos hb0, Hpx.out, Int.toNat_natCast]; rfl)
  clear hb0 hx0
  go_enter Try.func83, Try.ntmps83
  go_wp2_with fail
  rw [← HW.out]
  refine (Hca.out).mono ?_
  rintro e w1 ⟨rfl, hb⟩
  have HB1 := Lib.hid (HB0.out.trans (hb.mono HB0.out.size))
  have HZ1 := Lib.hid (HZ.out.below hb HZ.out.lt)
  have HP1 := Lib.hid (HP.out.below hb HP.out.lt)
  have HV1 := Lib.hid (HV.out.below hb (Nat.le_refl _))
  clear hb
  try clear a0 a1 a2 a3 a4 z0 z1 z2 z3 z4 y0 y1 y2 y3 y4
  obtain ⟨⟨a0, a1, a2, a3, a4⟩, -⟩ := HP1.out.five
  obtain ⟨⟨z0, z1, z2, z3, z4⟩, ⟨y0, y1, y2, y3, y4⟩⟩ := HZ1.out.five
  have lz1 := HZ1.out.lt
  have lp1 := HP1.out.lt
  obtain ⟨g0, off, rfl, e0, e1⟩ := Rd.atH HV1.out.rdU.1 Hx.out
  simp only at e0 e1
  go_wp2_with fail
  refine (copied_calls ⟨gr, ou, ps, ms, en⟩ _ _ HV1.out HL.out).mono ?_
  rintro e w2 ⟨v2, rfl, hF, hb⟩
  obtain ⟨A1', c1', A2', c2', rfl, ho1, ho2⟩ := hF
  simp only at ho1 ho2
  have HRr2 := Lib.hid (show RowsU w2 (w.heap.size + 2) A1' ps.length c1' A2' ms.length c2' ps ms from RowsU.lower ⟨ho1, ho2⟩ (by have := HZ1.out.lt; omega))
  clear ho1 ho2
  have HB2 := Lib.hid (HB1.out.trans (hb.mono HB1.out.size))
  have HZ2 := Lib.hid (HZ1.out.below hb HZ1.out.lt)
  have HP2 := Lib.hid (HP1.out.below hb HP1.out.lt)
  have HV2 := Lib.hid (HV1.out.below hb (Nat.le_refl _))
  clear hb
  try clear e0 e1
  try clear a0 a1 a2 a3 a4 z0 z1 z2 z3 z4 y0 y1 y2 y3 y4
  obtain ⟨⟨a0, a1, a2, a3, a4⟩, -⟩ := HP2.out.five
  obtain ⟨⟨z0, z1, z2, z3, z4⟩, ⟨y0, y1, y2, y3, y4⟩⟩ := HZ2.out.five
  have lz2 := HZ2.out.lt
  have lp2 := HP2.out.lt
  obtain ⟨gp, cp, hpv, -, hgp⟩ := HRr2.out.1.form (show 0 < ps.length by omega)
  simp only [Value.slice.injEq, Option.some.injEq] at hpv
  obtain ⟨rfl, -, rfl⟩ := hpv
  obtain ⟨⟨e0, e1⟩, q0, q1, lg⟩ := HRr2.out.cells Hx.out
  simp only at e0 e1
  obtain ⟨hS, hge⟩ := HRr2.out.setG rfl Hx.out (x1 + 1)
  have HS := Lib.hid hS
  have hzg : w.heap.size + 1 ≠ gp := by omega
  have HZS := Lib.hid (HZ2.out.far (p := ⟨gp, k * 2, none⟩) hzg (.int .i64 (x1 + 1)))
  have HBS := Lib.hid (HB2.out.setCell (p := ⟨gp, k * 2, none⟩) (by show w.heap.size ≤ gp; omega) (.int .i64 (x1 + 1)))
  clear hS
  go_wp2_with fail
  refine calls_at (fun W => ThrF (w.heap.size + 2) W (.agg #[.int .i64 gr, .int .i64 ou, .slice (some ⟨gp, 0, none⟩) ps.length c1', .slice A2' ms.length c2', .bool en]) ⟨gr, ou, ps.set k (x1 + 1, x2), ms, en⟩ ∧ Blk W (w.heap.size + 1) 25 #[.int .i64 0, .int .i64 0, .slice none 0 0, .slice none 0 0, .bool false] ∧ Below w.heap.size w W) ⟨(HS.out.alloc _).thrF (by simp) rfl _ _ _, HZS.out.alloc _, HBS.out.alloc HBS.out.size _⟩ ?_
  rintro W5 ⟨hF5, hz5, hb5⟩
  clear z0 z1 z2 z3 z4 y0 y1 y2 y3 y4
  obtain ⟨r, hr⟩ : ∃ r, r = Thr.fin ⟨gr, ou, ps.set k (x1 + 1, x2), ms, en⟩ := ⟨_, rfl⟩
  have hf := Hf0.out.trans hr.symm
  have Hf := Lib.hid hf
  refine (told_calls r _ ⟨gr, ou, ps.set k (x1 + 1, x2), ms, en⟩ _ W5 hr hF5 ⟨by simp only [List.length_set]; omega, by simp only; omega⟩).mono ?_
  obtain ⟨⟨gr', ou', ps', ms', en'⟩, n'⟩ := r
  rintro e w6 ⟨v6, rfl, hv6, hb6⟩
  have hv6' := hv6
  obtain ⟨J1, j1, J2, j2, rfl, -, -⟩ := hv6'
  have hz6 := hz5.below hb6 hz5.lt
  obtain ⟨⟨z0, z1, z2, z3, z4⟩, ⟨y0, y1, y2, y3, y4⟩⟩ := hz6.five
  have lz6 := hz6.lt
  have Hz6 := Lib.hid hz6
  have Hv6 := Lib.hid (hv6.lower (B' := w.heap.size) (by omega))
  have Hb6 := Lib.hid (hb5.trans (hb6.mono hb5.size))
  clear hf hr hF5 hz5 hb5 hv6 hb6 hz6
  go_wp2
  exact bodyPost_ret (v := .tuple #[.agg #[.int .i64 gr', .int .i64 ou', .slice J1 ps'.length j1, .slice J2 ms'.length j2, .bool en'], .int .i64 n']) (by simp [results, Try.results83, go_sem, *]) rfl
    ⟨_, by rw [Hf.out], by rw [Hf.out]; exact Hv6.out.set5 Hz6.out _ _ _ _ _, below_set5 Hb6.out (Nat.le_succ _) _ _ _ _ _⟩
end Go.Proofs.Ythdlmnkefheliaa
