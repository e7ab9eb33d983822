import Derived.Test.YthdlmnkefheliaaD11
set_option linter.unusedVariables false
set_option linter.unusedSimpArgs false
namespace Go.Proofs.Ythdlmnkefheliaa
open Go.RowKit

theorem ThrF.lower {B B' : Nat} {w : World} {v : Value} {t : Thr} (h : ThrF B w v t) (hB : B' ≤ B) : ThrF B' w v t := by
  obtain ⟨A1, c1, A2, c2, rfl, h1, h2⟩ := h
  exact ⟨A1, c1, A2, c2, rfl, own_lower h1 hB, own_lower h2 hB⟩
theorem ended_calls' (r : Thr × Int) (B p : Nat) (pv mv : Value) (t : Thr) (w : World) (hr : r = t.fin) (h : ThrB w B p pv mv t) (hl : t.Lens) :
    Calls Try.prog 70 #[.pointer (some ⟨p, 0, none⟩)] w (RetB B r w) := by subst hr; exact ended_calls B p pv mv t w h hl

set_option maxHeartbeats 4000000 in
theorem spawn_calls (t : Thr) (v : Value) (proc : Int) (w : World) (hv : ThrV w v t) (hl : t.Lens) :
    Calls Try.prog 65 #[v, .int .i64 proc] w (RetT (spawnM t proc) w) := by
  have hv0 := hv
  obtain ⟨gr, ou, ps, ms, en⟩ := t
  obtain ⟨A1, c1, A2, c2, rfl, k1, k2, k3, k4, k5, k6⟩ := hv
  clear k1 k2 k3 k4 k5 k6
  simp only at hv0 ⊢
  have HL := Lib.hid hl; clear hl
  obtain ⟨W0, hW0⟩ : ∃ W0, W0 = ((w.alloc (.cells #[.int .i64 gr, .int .i64 ou, .slice A1 ps.length c1, .slice A2 ms.length c2, .bool en] 25)).alloc (.cells #[.int .i64 0, .int .i64 0, .slice none 0 0, .slice none 0 0, .bool false] 25)) := ⟨_, rfl⟩
  have hB0 : Below w.heap.size w W0 := by rw [hW0]; exact ((Below.refl _ _).alloc (Nat.le_refl _) _).alloc (by simp) _
  have hz : Blk W0 (w.heap.size + 1) 25 #[.int .i64 0, .int .i64 0, .slice none 0 0, .slice none 0 0, .bool false] := by
    rw [hW0]
    have := Blk.new (w.alloc (.cells #[.int .i64 gr, .int .i64 ou, .slice A1 ps.length c1, .slice A2 ms.length c2, .bool en] 25)) 25 #[.int .i64 0, .int .i64 0, .slice none 0 0, .slice none 0 0, .bool false]
    rw [show (w.alloc (.cells #[.int .i64 gr, .int .i64 ou, .slice A1 ps.length c1, .slice A2 ms.length c2, .bool en] 25)).heap.size = w.heap.size + 1 from by simp] at this
    exact this
  have HV := Lib.hid (hv0.below hB0 (Nat.le_refl _)); clear hv0
  have hsz := hz.lt
  have HZ := Lib.hid hz; clear hz
  have HB0 := Lib.hid hB0; clear hB0
  have HW := Lib.hid hW0; clear hW0
  go_enter Try.func65, Try.ntmps65
  go_wp2_with fail
  rw [← HW.out]
  refine (busy_calls ⟨gr, ou, ps, ms, en⟩ _ proc none 0 [] _ HV.out HL.out (rd_nil _ _) (by simp)).mono ?_
  rintro e w1 ⟨x, y, n, rfl, hbv⟩
  have hb01 : Below W0.heap.size W0 w1 := hbv.bel
  obtain ⟨⟨z0, z1, z2, z3, z4⟩, ⟨y0, y1, y2, y3, y4⟩⟩ := (HZ.out.below hb01 hsz).five
  have HZ1 := Lib.hid (HZ.out.below hb01 hsz)
  have HB1 := Lib.hid (HB0.out.trans (hb01.mono HB0.out.size)); clear hb01
  have Hbv := Lib.hid hbv; clear hbv
  by_cases hn : n = 0
  case neg =>
    have hf : spawnM ⟨gr, ou, ps, ms, en⟩ proc = (Thr.zero, n) := by rw [spawnM, if_neg (by rw [← Hbv.out.num]; exact hn), Hbv.out.num]
    have Hf := Lib.hid hf; clear hf
    have hnb : (n != 0) = true := by simpa using hn
    clear hn
    go_wp2
    exact bodyPost_ret (v := .tuple #[.agg #[.int .i64 0, .int .i64 0, .slice none 0 0, .slice none 0 0, .bool false], .int .i64 n]) (by simp [results, Try.results65, go_sem, *]) rfl
      ⟨_, by rw [Hf.out], by rw [Hf.out]; exact ThrF.zero _ _, below_set5 HB1.out (Nat.le_succ _) _ _ _ _ _⟩
  have Hbe := Lib.hid (busyE_ok (Hbv.out.num.symm.trans hn))
  have hok := (begunE_ok Hbe.out.1).1
  have Hgd := Lib.hid (Thr.good_iff.1 hok); clear hok
  obtain ⟨k, p, g, cp, mv, hpk, hk, rfl, rfl, hB⟩ := Hbv.out.good hn
  simp only at hk hB
  have hspec : ∀ X, spawnM ⟨gr, ou, ps, ms, en⟩ proc = X → spawnM ⟨gr, ou, ps, ms, en⟩ proc = X := fun _ h => h
  have Hn0 := Lib.hid (Hbv.out.num.symm.trans hn)
  obtain rfl := hn
  subst hpk
  obtain ⟨x, hx⟩ : ∃ x, ps[k]? = some x := ⟨_, List.getElem?_eq_getElem hk⟩
  have Hpx := Lib.hid (show Thr.proc ⟨gr, ou, ps, ms, en⟩ (k : Int) = x from by rw [Thr.proc, Int.toNat_natCast, List.getD_eq_getElem?_getD, hx]; rfl)
  obtain ⟨x1, x2⟩ := x
  have hho := (holder_iff _).1 (Hgd.out.pr _ (List.mem_of_getElem? hx))
  obtain ⟨⟨ho0, ho1⟩, ⟨ho2, ho3⟩, ho4⟩ := hho
  simp only at ho0 ho1 ho2 ho3 ho4
  have Hx := Lib.hid hx; clear hx
  have hne : x1 ≠ 0 := by have := Hbe.out.2; rw [Hpx.out] at this; exact this
  have HB := Lib.hid (hB.lower (B' := W0.heap.size) (Nat.le_refl _)); clear hB
  have hple := HB.out.1
  have hgle : W0.heap.size ≤ g := (HB.out.2.2.1.lt g rfl).1
  have hl1 := Hgd.out.pl1
  have hl2 := Hgd.out.ml
  simp only at hl1 hl2
  have H4 := Lib.hid ho4; clear ho4
  obtain ⟨⟨e0, e1⟩, f0, f1⟩ := HB.out.cellP Hx.out
  have hf : spawnM ⟨gr, ou, ps, ms, en⟩ (k : Int) = (Thr.setP ⟨gr, ou, ps, ms, en⟩ k (x1 + 1, x2)).fin := by rw [spawnM, if_pos Hn0.out, Hpx.out, Int.toNat_natCast]
  have hset := HB.out.setPG Hx.out (x1 + 1)
  have HS := Lib.hid hset.1; clear hset
  clear hspec
  obtain ⟨r, hr⟩ : ∃ r, r = Thr.fin (Thr.setP ⟨gr, ou, ps, ms, en⟩ k (x1 + 1, x2)) := ⟨_, rfl⟩
  have Hf := Lib.hid (show spawnM ⟨gr, ou, ps, ms, en⟩ (k : Int) = r from by rw [hr]; exact hf)
  have Hr := Lib.hid hr; clear hr
  go_wp2_with fail
  refine (ended_calls' r _ p _ mv (Thr.setP ⟨gr, ou, ps, ms, en⟩ k (x1 + 1, x2)) _ Hr.out HS.out ⟨by simp only [Thr.setP, List.length_set]; omega, by simp only [Thr.setP]; omega⟩).mono ?_
  obtain ⟨⟨gr', ou', ps', ms', en'⟩, n'⟩ := r
  rintro e w2 ⟨v2, rfl, hv2, hb2⟩
  have hv2' := hv2
  obtain ⟨B1, d1, B2, d2, rfl, -, -⟩ := hv2'
  have Hzz := Lib.hid (HZ1.out.far (p := ⟨g, k * 2, none⟩) (by show w.heap.size + 1 ≠ g; omega) (.int .i64 (x1 + 1)))
  have Hbb := Lib.hid (HB1.out.setCell (p := ⟨g, k * 2, none⟩) (by show w.heap.size ≤ g; omega) (.int .i64 (x1 + 1)))
  obtain ⟨⟨z0, z1, z2, z3, z4⟩, ⟨y0, y1, y2, y3, y4⟩⟩ := (Hzz.out.below hb2 Hzz.out.lt).five
  have HZ3 := Lib.hid (Hzz.out.below hb2 Hzz.out.lt)
  have HB3 := Lib.hid (Hbb.out.trans (hb2.mono Hbb.out.size))
  have HV2 := Lib.hid hv2; clear hv2 hb2
  go_wp2
  exact bodyPost_ret (v := .tuple #[.agg #[.int .i64 gr', .int .i64 ou', .slice B1 ps'.length d1, .slice B2 ms'.length d2, .bool en'], .int .i64 n']) (by simp [results, Try.results65, go_sem, *]) rfl
    ⟨_, by rw [Hf.out], by rw [Hf.out]; exact (HV2.out.lower (Nat.le_trans (Nat.le_succ_of_le (Nat.le_succ _)) (by have := HW.out; rw [this]; simp))).set5 HZ3.out _ _ _ _ _, below_set5 HB3.out (Nat.le_succ _) _ _ _ _ _⟩

set_option maxHeartbeats 4000000 in
theorem request_calls (t : Thr) (v : Value) (proc : Int) (w : World) (hv : ThrV w v t) (hl : t.Lens) :
    Calls Try.prog 34 #[v, .int .i64 proc] w (RetT (requestM t proc) w) := by
  have hv0 := hv
  obtain ⟨gr, ou, ps, ms, en⟩ := t
  obtain ⟨A1, c1, A2, c2, rfl, k1, k2, k3, k4, k5, k6⟩ := hv
  clear k1 k2 k3 k4 k5 k6
  simp only at hv0 ⊢
  have HL := Lib.hid hl; clear hl
  obtain ⟨W0, hW0⟩ : ∃ W0, W0 = ((w.alloc (.cells #[.int .i64 gr, .int .i64 ou, .slice A1 ps.length c1, .slice A2 ms.length c2, .bool en] 25)).alloc (.cells #[.int .i64 0, .int .i64 0, .slice none 0 0, .slice none 0 0, .bool false] 25)) := ⟨_, rfl⟩
  have hB0 : Below w.heap.size w W0 := by rw [hW0]; exact ((Below.refl _ _).alloc (Nat.le_refl _) _).alloc (by simp) _
  have hz : Blk W0 (w.heap.size + 1) 25 #[.int .i64 0, .int .i64 0, .slice none 0 0, .slice none 0 0, .bool false] := by
    rw [hW0]
    have := Blk.new (w.alloc (.cells #[.int .i64 gr, .int .i64 ou, .slice A1 ps.length c1, .slice A2 ms.length c2, .bool en] 25)) 25 #[.int .i64 0, .int .i64 0, .slice none 0 0, .slice none 0 0, .bool false]
    rw [show (w.alloc (.cells #[.int .i64 gr, .int .i64 ou, .slice A1 ps.length c1, .slice A2 ms.length c2, .bool en] 25)).heap.size = w.heap.size + 1 from by simp] at this
    exact this
  have HV := Lib.hid (hv0.below hB0 (Nat.le_refl _)); clear hv0
  have hsz := hz.lt
  have HZ := Lib.hid hz; clear hz
  have HB0 := Lib.hid hB0; clear hB0
  have HW := Lib.hid hW0; clear hW0
  go_enter Try.func34, Try.ntmps34
  go_wp2_with fail
  rw [← HW.out]
  refine (busy_calls ⟨gr, ou, ps, ms, en⟩ _ proc none 0 [] _ HV.out HL.out (rd_nil _ _) (by simp)).mono ?_
  rintro e w1 ⟨x, y, n, rfl, hbv⟩
  have hb01 : Below W0.heap.size W0 w1 := hbv.bel
  obtain ⟨⟨z0, z1, z2, z3, z4⟩, ⟨y0, y1, y2, y3, y4⟩⟩ := (HZ.out.below hb01 hsz).five
  have HZ1 := Lib.hid (HZ.out.below hb01 hsz)
  have HB1 := Lib.hid (HB0.out.trans (hb01.mono HB0.out.size)); clear hb01
  have Hbv := Lib.hid hbv; clear hbv
  by_cases hn : n = 0
  case neg =>
    have hf : requestM ⟨gr, ou, ps, ms, en⟩ proc = (Thr.zero, n) := by rw [requestM, if_neg (by rw [← Hbv.out.num]; exact hn), Hbv.out.num]
    have Hf := Lib.hid hf; clear hf
    have hnb : (n != 0) = true := by simpa using hn
    clear hn
    go_wp2
    exact bodyPost_ret (v := .tuple #[.agg #[.int .i64 0, .int .i64 0, .slice none 0 0, .slice none 0 0, .bool false], .int .i64 n]) (by simp [results, Try.results34, go_sem, *]) rfl
      ⟨_, by rw [Hf.out], by rw [Hf.out]; exact ThrF.zero _ _, below_set5 HB1.out (Nat.le_succ _) _ _ _ _ _⟩
  have Hbe := Lib.hid (busyE_ok (Hbv.out.num.symm.trans hn))
  have hok := (begunE_ok Hbe.out.1).1
  have Hgd := Lib.hid (Thr.good_iff.1 hok); clear hok
  obtain ⟨k, p, g, cp, mv, hpk, hk, rfl, rfl, hB⟩ := Hbv.out.good hn
  simp only at hk hB
  have hspec : ∀ X, requestM ⟨gr, ou, ps, ms, en⟩ proc = X → requestM ⟨gr, ou, ps, ms, en⟩ proc = X := fun _ h => h
  have Hn0 := Lib.hid (Hbv.out.num.symm.trans hn)
  obtain rfl := hn
  subst hpk
  obtain ⟨x, hx⟩ : ∃ x, ps[k]? = some x := ⟨_, List.getElem?_eq_getElem hk⟩
  have Hpx := Lib.hid (show Thr.proc ⟨gr, ou, ps, ms, en⟩ (k : Int) = x from by rw [Thr.proc, Int.toNat_natCast, List.getD_eq_getElem?_getD, hx]; rfl)
  obtain ⟨x1, x2⟩ := x
  have hho := (holder_iff _).1 (Hgd.out.pr _ (List.mem_of_getElem? hx))
  obtain ⟨⟨ho0, ho1⟩, ⟨ho2, ho3⟩, ho4⟩ := hho
  simp only at ho0 ho1 ho2 ho3 ho4
  have Hx := Lib.hid hx; clear hx
  have hne : x1 ≠ 0 := by have := Hbe.out.2; rw [Hpx.out] at this; exact this
  have HB := Lib.hid (hB.lower (B' := W0.heap.size) (Nat.le_refl _)); clear hB
  have hple := HB.out.1
  have hgle : W0.heap.size ≤ g := (HB.out.2.2.1.lt g rfl).1
  have hl1 := Hgd.out.pl1
  have hl2 := Hgd.out.ml
  simp only at hl1 hl2
  have H4 := Lib.hid ho4; clear ho4
  have hf : requestM ⟨gr, ou, ps, ms, en⟩ (k : Int) = (Thr.post ⟨gr, ou, ps, ms, en⟩ (3, (k : Int), 0)).fin := by rw [requestM, if_pos Hn0.out]
  clear hspec
  go_wp2_with fail
  refine (post_calls W0.heap.size p _ mv ⟨gr, ou, ps, ms, en⟩ 3 k 0 _ HB.out (by simp only; omega)).mono ?_
  rintro e w3 ⟨rfl, ⟨mv3, hS⟩, hb13⟩
  have HS := Lib.hid hS; clear hS
  have Hb13 := Lib.hid hb13; clear hb13
  obtain ⟨r, hr⟩ : ∃ r, r = Thr.fin (Thr.post ⟨gr, ou, ps, ms, en⟩ (3, (k : Int), 0)) := ⟨_, rfl⟩
  have Hf := Lib.hid (show requestM ⟨gr, ou, ps, ms, en⟩ (k : Int) = r from by rw [hr]; exact hf)
  have Hr := Lib.hid hr; clear hr
  go_wp2_with fail
  refine (ended_calls' r _ p _ mv3 (Thr.post ⟨gr, ou, ps, ms, en⟩ (3, (k : Int), 0)) _ Hr.out HS.out ⟨by simp only [Thr.post]; omega, by simp only [Thr.post, List.length_append, List.length_cons, List.length_nil]; omega⟩).mono ?_
  obtain ⟨⟨gr', ou', ps', ms', en'⟩, n'⟩ := r
  rintro e w2 ⟨v2, rfl, hv2, hb2⟩
  have hv2' := hv2
  obtain ⟨B1, d1, B2, d2, rfl, -, -⟩ := hv2'
  have Hzz := Lib.hid (HZ1.out.below Hb13.out hsz)
  have Hbb := Lib.hid (HB1.out.trans (Hb13.out.mono HB0.out.size))
  obtain ⟨⟨z0, z1, z2, z3, z4⟩, ⟨y0, y1, y2, y3, y4⟩⟩ := (Hzz.out.below hb2 Hzz.out.lt).five
  have HZ3 := Lib.hid (Hzz.out.below hb2 Hzz.out.lt)
  have HB3 := Lib.hid (Hbb.out.trans (hb2.mono Hbb.out.size))
  have HV2 := Lib.hid hv2; clear hv2 hb2
  go_wp2
  exact bodyPost_ret (v := .tuple #[.agg #[.int .i64 gr', .int .i64 ou', .slice B1 ps'.length d1, .slice B2 ms'.length d2, .bool en'], .int .i64 n']) (by simp [results, Try.results34, go_sem, *]) rfl
    ⟨_, by rw [Hf.out], by rw [Hf.out]; exact (HV2.out.lower (Nat.le_trans (Nat.le_succ_of_le (Nat.le_succ _)) (by have := HW.out; rw [this]; simp))).set5 HZ3.out _ _ _ _ _, below_set5 HB3.out (Nat.le_succ _) _ _ _ _ _⟩

set_option maxHeartbeats 4000000 in
theorem finish_calls (t : Thr) (v : Value) (proc : Int) (w : World) (hv : ThrV w v t) (hl : t.Lens) :
    Calls Try.prog 66 #[v, .int .i64 proc] w (RetT (finishM t proc) w) := by
  have hv0 := hv
  obtain ⟨gr, ou, ps, ms, en⟩ := t
  obtain ⟨A1, c1, A2, c2, rfl, k1, k2, k3, k4, k5, k6⟩ := hv
  clear k1 k2 k3 k4 k5 k6
  simp only at hv0 ⊢
  have HL := Lib.hid hl; clear hl
  obtain ⟨W0, hW0⟩ : ∃ W0, W0 = ((w.alloc (.cells #[.int .i64 gr, .int .i64 ou, .slice A1 ps.length c1, .slice A2 ms.length c2, .bool en] 25)).alloc (.cells #[.int .i64 0, .int .i64 0, .slice none 0 0, .slice none 0 0, .bool false] 25)) := ⟨_, rfl⟩
  have hB0 : Below w.heap.size w W0 := by rw [hW0]; exact ((Below.refl _ _).alloc (Nat.le_refl _) _).alloc (by simp) _
  have hz : Blk W0 (w.heap.size + 1) 25 #[.int .i64 0, .int .i64 0, .slice none 0 0, .slice none 0 0, .bool false] := by
    rw [hW0]
    have := Blk.new (w.alloc (.cells #[.int .i64 gr, .int .i64 ou, .slice A1 ps.length c1, .slice A2 ms.length c2, .bool en] 25)) 25 #[.int .i64 0, .int .i64 0, .slice none 0 0, .slice none 0 0, .bool false]
    rw [show (w.alloc (.cells #[.int .i64 gr, .int .i64 ou, .slice A1 ps.length c1, .slice A2 ms.length c2, .bool en] 25)).heap.size = w.heap.size + 1 from by simp] at this
    exact this
  have HV := Lib.hid (hv0.below hB0 (Nat.le_refl _)); clear hv0
  have hsz := hz.lt
  have HZ := Lib.hid hz; clear hz
  have HB0 := Lib.hid hB0; clear hB0
  have HW := Lib.hid hW0; clear hW0
  go_enter Try.func66, Try.ntmps66
  go_wp2_with fail
  rw [← HW.out]
  refine (busy_calls ⟨gr, ou, ps, ms, en⟩ _ proc none 0 [] _ HV.out HL.out (rd_nil _ _) (by simp)).mono ?_
  rintro e w1 ⟨x, y, n, rfl, hbv⟩
  have hb01 : Below W0.heap.size W0 w1 := hbv.bel
  obtain ⟨⟨z0, z1, z2, z3, z4⟩, ⟨y0, y1, y2, y3, y4⟩⟩ := (HZ.out.below hb01 hsz).five
  have HZ1 := Lib.hid (HZ.out.below hb01 hsz)
  have HB1 := Lib.hid (HB0.out.trans (hb01.mono HB0.out.size)); clear hb01
  have Hbv := Lib.hid hbv; clear hbv
  by_cases hn : n = 0
  case neg =>
    have hf : finishM ⟨gr, ou, ps, ms, en⟩ proc = (Thr.zero, n) := by rw [finishM, if_neg (by rw [← Hbv.out.num]; exact hn), Hbv.out.num]
    have Hf := Lib.hid hf; clear hf
    have hnb : (n != 0) = true := by simpa using hn
    clear hn
    go_wp2
    exact bodyPost_ret (v := .tuple #[.agg #[.int .i64 0, .int .i64 0, .slice none 0 0, .slice none 0 0, .bool false], .int .i64 n]) (by simp [results, Try.results66, go_sem, *]) rfl
      ⟨_, by rw [Hf.out], by rw [Hf.out]; exact ThrF.zero _ _, below_set5 HB1.out (Nat.le_succ _) _ _ _ _ _⟩
  have Hbe := Lib.hid (busyE_ok (Hbv.out.num.symm.trans hn))
  have hok := (begunE_ok Hbe.out.1).1
  have Hgd := Lib.hid (Thr.good_iff.1 hok); clear hok
  obtain ⟨k, p, g, cp, mv, hpk, hk, rfl, rfl, hB⟩ := Hbv.out.good hn
  simp only at hk hB
  have hspec : ∀ X, finishM ⟨gr, ou, ps, ms, en⟩ proc = X → finishM ⟨gr, ou, ps, ms, en⟩ proc = X := fun _ h => h
  have Hn0 := Lib.hid (Hbv.out.num.symm.trans hn)
  obtain rfl := hn
  subst hpk
  obtain ⟨x, hx⟩ : ∃ x, ps[k]? = some x := ⟨_, List.getElem?_eq_getElem hk⟩
  have Hpx := Lib.hid (show Thr.proc ⟨gr, ou, ps, ms, en⟩ (k : Int) = x from by rw [Thr.proc, Int.toNat_natCast, List.getD_eq_getElem?_getD, hx]; rfl)
  obtain ⟨x1, x2⟩ := x
  have hho := (holder_iff _).1 (Hgd.out.pr _ (List.mem_of_getElem? hx))
  obtain ⟨⟨ho0, ho1⟩, ⟨ho2, ho3⟩, ho4⟩ := hho
  simp only at ho0 ho1 ho2 ho3 ho4
  have Hx := Lib.hid hx; clear hx
  have hne : x1 ≠ 0 := by have := Hbe.out.2; rw [Hpx.out] at this; exact this
  have HB := Lib.hid (hB.lower (B' := W0.heap.size) (Nat.le_refl _)); clear hB
  have hple := HB.out.1
  have hgle : W0.heap.size ≤ g := (HB.out.2.2.1.lt g rfl).1
  have hl1 := Hgd.out.pl1
  have hl2 := Hgd.out.ml
  simp only at hl1 hl2
  have H4 := Lib.hid ho4; clear ho4
  obtain ⟨⟨e0, e1⟩, f0, f1⟩ := HB.out.cellP Hx.out
  have hset := HB.out.setPG Hx.out (x1 - 1)
  have HS := Lib.hid hset.1; clear hset
  clear hspec
  have hgne : w.heap.size + 1 ≠ g := by omega
  have hgbe : w.heap.size ≤ g := by omega
  by_cases h1 : x1 = 1
  · subst h1
    have hf : finishM ⟨gr, ou, ps, ms, en⟩ (k : Int) = ((Thr.setP ⟨gr, ou, ps, ms, en⟩ k (0, 0)).post (2, 0, x2)).fin := by rw [finishM, if_pos Hn0.out, Hpx.out, Int.toNat_natCast, if_pos rfl]
    have HX0 := Lib.hid (show (Thr.setP ⟨gr, ou, ps, ms, en⟩ k (0, x2)).procs[k]? = some (0, x2) from by simp [Thr.setP, List.getElem?_set, hk])
    go_wp2_with fail
    refine (post_calls W0.heap.size p _ mv (Thr.setP ⟨gr, ou, ps, ms, en⟩ k (0, x2)) 2 0 x2 _ HS.out (by simp only [Thr.setP]; omega)).mono ?_
    rintro e w3 ⟨rfl, ⟨mv3, hS⟩, hb13⟩
    have hS' : ThrB w3 W0.heap.size p (.slice (some ⟨g, 0, none⟩) (Thr.post (Thr.setP ⟨gr, ou, ps, ms, en⟩ k (0, x2)) (2, 0, x2)).procs.length cp) mv3 (Thr.post (Thr.setP ⟨gr, ou, ps, ms, en⟩ k (0, x2)) (2, 0, x2)) := by simpa [Thr.post, Thr.setP] using hS
    obtain ⟨⟨e0', e1'⟩, f0', f1'⟩ := hS'.cellP (k := k) (x := (0, x2)) HX0.out
    have HS' := Lib.hid (hS'.setPW (k := k) (x := (0, x2)) HX0.out 0).1; clear hS hS'
    have HS2 := Lib.hid (show ThrB (w3.setCell ⟨g, k * 2 + 1, none⟩ (.int .i64 0)) W0.heap.size p (.slice (some ⟨g, 0, none⟩) ps.length cp) mv3 ((Thr.setP ⟨gr, ou, ps, ms, en⟩ k (0, 0)).post (2, 0, x2)) from by
      have h := HS'.out
      simp only [Thr.post, Thr.setP, List.length_set, List.set_set] at h ⊢
      exact h)
    have Hb13 := Lib.hid hb13; clear hb13
    have HZ2 := Lib.hid (((HZ1.out.far (p := ⟨g, k * 2, none⟩) hgne (.int .i64 (1 - 1))).below Hb13.out hsz).far (p := ⟨g, k * 2 + 1, none⟩) hgne (.int .i64 0))
    have HBB2 := Lib.hid (((HB1.out.setCell (p := ⟨g, k * 2, none⟩) hgbe (.int .i64 (1 - 1))).trans (Hb13.out.mono HB0.out.size)).setCell (p := ⟨g, k * 2 + 1, none⟩) hgbe (.int .i64 0))
    obtain ⟨r, hr⟩ : ∃ r, r = Thr.fin ((Thr.setP ⟨gr, ou, ps, ms, en⟩ k (0, 0)).post (2, 0, x2)) := ⟨_, rfl⟩
    have Hf := Lib.hid (show finishM ⟨gr, ou, ps, ms, en⟩ (k : Int) = r from by rw [hr]; exact hf)
    have Hr := Lib.hid hr; clear hr
    go_wp2_with fail
    refine (ended_calls' r _ p _ mv3 ((Thr.setP ⟨gr, ou, ps, ms, en⟩ k (0, 0)).post (2, 0, x2)) _ Hr.out HS2.out ⟨by simp only [Thr.post, Thr.setP, List.length_set]; omega, by simp only [Thr.post, Thr.setP, List.length_append, List.length_cons, List.length_nil]; omega⟩).mono ?_
    obtain ⟨⟨gr', ou', ps', ms', en'⟩, n'⟩ := r
    rintro e w2 ⟨v2, rfl, hv2, hb2⟩
    have hv2' := hv2
    obtain ⟨B1, d1, B2, d2, rfl, -, -⟩ := hv2'
    have Hzz := Lib.hid (HZ2.out)
    have Hbb := Lib.hid (HBB2.out)
    obtain ⟨⟨z0, z1, z2, z3, z4⟩, ⟨y0, y1, y2, y3, y4⟩⟩ := (Hzz.out.below hb2 Hzz.out.lt).five
    have HZ3 := Lib.hid (Hzz.out.below hb2 Hzz.out.lt)
    have HB3 := Lib.hid (Hbb.out.trans (hb2.mono Hbb.out.size))
    have HV2 := Lib.hid hv2; clear hv2 hb2
    go_wp2
    exact bodyPost_ret (v := .tuple #[.agg #[.int .i64 gr', .int .i64 ou', .slice B1 ps'.length d1, .slice B2 ms'.length d2, .bool en'], .int .i64 n']) (by simp [results, Try.results66, go_sem, *]) rfl
      ⟨_, by rw [Hf.out], by rw [Hf.out]; exact (HV2.out.lower (Nat.le_trans (Nat.le_succ_of_le (Nat.le_succ _)) (by have := HW.out; rw [this]; simp))).set5 HZ3.out _ _ _ _ _, below_set5 HB3.out (Nat.le_succ _) _ _ _ _ _⟩
  · have h1b : (x1 - 1 == 0) = false := by simp; omega
    have hf : finishM ⟨gr, ou, ps, ms, en⟩ (k : Int) = (Thr.setP ⟨gr, ou, ps, ms, en⟩ k (x1 - 1, x2)).fin := by rw [finishM, if_pos Hn0.out, Hpx.out, Int.toNat_natCast, if_neg h1]
    obtain ⟨r, hr⟩ : ∃ r, r = Thr.fin (Thr.setP ⟨gr, ou, ps, ms, en⟩ k (x1 - 1, x2)) := ⟨_, rfl⟩
    have Hf := Lib.hid (show finishM ⟨gr, ou, ps, ms, en⟩ (k : Int) = r from by rw [hr]; exact hf)
    have Hr := Lib.hid hr; clear hr
    go_wp2_with fail
    refine (ended_calls' r _ p _ mv (Thr.setP ⟨gr, ou, ps, ms, en⟩ k (x1 - 1, x2)) _ Hr.out HS.out ⟨by simp only [Thr.setP, List.length_set]; omega, by simp only [Thr.setP]; omega⟩).mono ?_
    obtain ⟨⟨gr', ou', ps', ms', en'⟩, n'⟩ := r
    rintro e w2 ⟨v2, rfl, hv2, hb2⟩
    have hv2' := hv2
    obtain ⟨B1, d1, B2, d2, rfl, -, -⟩ := hv2'
    have Hzz := Lib.hid (HZ1.out.far (p := ⟨g, k * 2, none⟩) hgne (.int .i64 (x1 - 1)))
    have Hbb := Lib.hid (HB1.out.setCell (p := ⟨g, k * 2, none⟩) hgbe (.int .i64 (x1 - 1)))
    obtain ⟨⟨z0, z1, z2, z3, z4⟩, ⟨y0, y1, y2, y3, y4⟩⟩ := (Hzz.out.below hb2 Hzz.out.lt).five
    have HZ3 := Lib.hid (Hzz.out.below hb2 Hzz.out.lt)
    have HB3 := Lib.hid (Hbb.out.trans (hb2.mono Hbb.out.size))
    have HV2 := Lib.hid hv2; clear hv2 hb2
    go_wp2
    exact bodyPost_ret (v := .tuple #[.agg #[.int .i64 gr', .int .i64 ou', .slice B1 ps'.length d1, .slice B2 ms'.length d2, .bool en'], .int .i64 n']) (by simp [results, Try.results66, go_sem, *]) rfl
      ⟨_, by rw [Hf.out], by rw [Hf.out]; exact (HV2.out.lower (Nat.le_trans (Nat.le_succ_of_le (Nat.le_succ _)) (by have := HW.out; rw [this]; simp))).set5 HZ3.out _ _ _ _ _, below_set5 HB3.out (Nat.le_succ _) _ _ _ _ _⟩
end Go.Proofs.Ythdlmnkefheliaa
