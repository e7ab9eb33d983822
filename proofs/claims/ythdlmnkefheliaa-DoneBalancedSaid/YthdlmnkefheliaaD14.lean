import Derived.Test.YthdlmnkefheliaaD12
set_option linter.unusedVariables false
set_option linter.unusedSimpArgs false
namespace Go.Proofs.Ythdlmnkefheliaa
open Go.RowKit

set_option maxHeartbeats 4000000 in
theorem start_calls (t : Thr) (v : Value) (proc : Int) (w : World) (hv : ThrV w v t) (hl : t.Lens) :
    Calls Try.prog 49 #[v, .int .i64 proc] w (RetT (startM t proc) w) := by
  have hv0 := hv
  obtain ⟨gr, ou, ps, ms, en⟩ := t
  obtain ⟨A1, c1, A2, c2, rfl, k1, k2, k3, k4, k5, k6⟩ := hv
  clear k1 k2 k3 k4 k5 k6
  simp only at hv0 ⊢
  have HL := Lib.hid hl; clear hl
  obtain ⟨W0, hW0⟩ : ∃ W0, W0 = ((w.alloc (.cells #[.int .i64 gr, .int .i64 ou, .slice A1 ps.length c1, .slice A2 ms.length c2, .bool en] 25)).alloc (.cells #[.int .i64 0, .int .i64 0, .slice none 0 0, .slice none 0 0, .bool false] 25)) := ⟨_, rfl⟩
  have hB0 : Below w.heap.size w W0 := by rw [hW0]; exact ((Below.refl _ _).alloc (Nat.le_refl _) _).alloc (by simp) _
  have hz : Blk W0 (w.heap.size + 1) 25 #[.int .i64 0, .int .i64 0, .slice none 0 0, .slice none 0 0, .bool false] := by
    rw [hW0]
    have := Blk.new (w.alloc (.cells #[.int .i64 gr, .int .i64 ou, .slice A1 ps.length c1, .slice A2 ms.length c2, .bool en] 25)) 25 #[.int .i64 0, .int .i64 0, .slice none 0 0, .slice none 0 0, .bool false]
    rw [show (w.alloc (.cells #[.int .i64 gr, .int .i64 ou, .slice A1 ps.length c1, .slice A2 ms.length c2, .bool en] 25)).heap.size = w.heap.size + 1 from by simp] at this
    exact this
  have HV := Lib.hid (hv0.below hB0 (Nat.le_refl _)); clear hv0
  have hsz := hz.lt
  have HZ := Lib.hid hz; clear hz
  have HB0 := Lib.hid hB0; clear hB0
  have HW := Lib.hid hW0; clear hW0
  have hrd : ∀ W : World, Rd (W.alloc (.cells #[.int .i64 proc] 3)) (some ⟨W.heap.size, 0, none⟩) ([proc].flatMap encI) := fun W _ => ⟨W.heap.size, 0, rfl, fun j u hu => by
    rw [Nat.zero_add, (Blk.new W 3 #[.int .i64 proc]).cell j]
    simpa [encI] using hu⟩
  have HRD := Lib.hid (hrd W0); clear hrd
  have Hsz0 := Lib.hid (show W0.heap.size = w.heap.size + 2 from by rw [HW.out]; simp)
  go_enter Try.func49, Try.ntmps49
  go_wp2_with fail
  rw [← HW.out, ← Hsz0.out]
  refine (begun_calls ⟨gr, ou, ps, ms, en⟩ _ (some ⟨W0.heap.size, 0, none⟩) 1 [proc] _ (HV.out.below ((Below.refl _ _).alloc (Nat.le_refl _) _) (Nat.le_refl _)) HL.out HRD.out (by simp)).mono ?_
  rintro e w1 ⟨x, n, rfl, hbv⟩
  have hb01 : Below W0.heap.size W0 w1 := ((Below.refl _ _).alloc (Nat.le_refl _) _).trans (hbv.bel.mono (by simp))
  obtain ⟨⟨z0, z1, z2, z3, z4⟩, ⟨y0, y1, y2, y3, y4⟩⟩ := (HZ.out.below hb01 hsz).five
  have HZ1 := Lib.hid (HZ.out.below hb01 hsz)
  have HB1 := Lib.hid (HB0.out.trans (hb01.mono HB0.out.size)); clear hb01
  have Hbv := Lib.hid hbv; clear hbv
  by_cases hn : n = 0
  case neg =>
    have hf : startM ⟨gr, ou, ps, ms, en⟩ proc = (Thr.zero, n) := by rw [startM, if_neg (by rw [← Hbv.out.num]; exact hn), Hbv.out.num]
    have Hf := Lib.hid hf; clear hf
    have hnb : (n != 0) = true := by simpa using hn
    clear hn
    go_wp2
    exact bodyPost_ret (v := .tuple #[.agg #[.int .i64 0, .int .i64 0, .slice none 0 0, .slice none 0 0, .bool false], .int .i64 n]) (by simp [results, Try.results49, go_sem, *]) rfl
      ⟨_, by rw [Hf.out], by rw [Hf.out]; exact ThrF.zero _ _, below_set5 HB1.out (Nat.le_succ _) _ _ _ _ _⟩
  have Hbe := Lib.hid (Hbv.out.num.symm.trans hn)
  have hok := (begunE_ok Hbe.out).1
  have Hgd := Lib.hid (Thr.good_iff.1 hok); clear hok
  obtain ⟨p, pv, mv, rfl, hB⟩ := Hbv.out.good hn
  obtain rfl := hn
  have HB := Lib.hid (hB.lower (B' := W0.heap.size) (by simp)); clear hB
  have hple := HB.out.1
  have hl1 := Hgd.out.pl1
  have hl2 := Hgd.out.ml
  have g0 := Hgd.out.gr0
  have g1 := Hgd.out.gr1
  have g2 := Hgd.out.ou0
  have g3 := Hgd.out.ou1
  simp only at hl1 hl2 g0 g1 g2 g3
  obtain ⟨⟨b0, b1, b2, b3, b4⟩, ⟨f0, f1, f2, f3, f4⟩⟩ := HB.out.2.1.five
  have HS := Lib.hid (HB.out.setEnded false)
  have hpne : w.heap.size + 1 ≠ p := by omega
  have hpbe : w.heap.size ≤ p := by omega
  have hf : startM ⟨gr, ou, ps, ms, en⟩ proc = (Thr.issue ⟨gr, ou, ps, ms, false⟩ 1 proc).fin := by rw [startM, if_pos Hbe.out]
  go_wp2_with fail
  refine (issue_calls W0.heap.size p pv mv ⟨gr, ou, ps, ms, false⟩ 1 proc _ HS.out (by simp only; omega) g2 g3 (by simp only; omega) g1).mono ?_
  rintro e w3 ⟨rfl, ⟨mv3, hS⟩, hb13⟩
  have HS3 := Lib.hid hS; clear hS
  have Hb13 := Lib.hid hb13; clear hb13
  obtain ⟨r, hr⟩ : ∃ r, r = Thr.fin (Thr.issue ⟨gr, ou, ps, ms, false⟩ 1 proc) := ⟨_, rfl⟩
  have Hf := Lib.hid (show startM ⟨gr, ou, ps, ms, en⟩ proc = r from by rw [hr]; exact hf)
  have Hr := Lib.hid hr; clear hr
  go_wp2_with fail
  refine (ended_calls' r _ p _ mv3 (Thr.issue ⟨gr, ou, ps, ms, false⟩ 1 proc) _ Hr.out HS3.out ⟨by simp only [Thr.issue, Thr.post]; omega, by simp only [Thr.issue, Thr.post, List.length_append, List.length_cons, List.length_nil]; omega⟩).mono ?_
  obtain ⟨⟨gr', ou', ps', ms', en'⟩, n'⟩ := r
  rintro e w2 ⟨v2, rfl, hv2, hb2⟩
  have hv2' := hv2
  obtain ⟨B1, d1, B2, d2, rfl, -, -⟩ := hv2'
  have Hzz := Lib.hid ((HZ1.out.far (p := ⟨p, 4, none⟩) hpne (.bool false)).below Hb13.out hsz)
  have Hbb := Lib.hid ((HB1.out.setCell (p := ⟨p, 4, none⟩) hpbe (.bool false)).trans (Hb13.out.mono HB0.out.size))
  obtain ⟨⟨z0, z1, z2, z3, z4⟩, ⟨y0, y1, y2, y3, y4⟩⟩ := (Hzz.out.below hb2 Hzz.out.lt).five
  have HZ3 := Lib.hid (Hzz.out.below hb2 Hzz.out.lt)
  have HB3 := Lib.hid (Hbb.out.trans (hb2.mono Hbb.out.size))
  have HV2 := Lib.hid hv2; clear hv2 hb2
  go_wp2
  exact bodyPost_ret (v := .tuple #[.agg #[.int .i64 gr', .int .i64 ou', .slice B1 ps'.length d1, .slice B2 ms'.length d2, .bool en'], .int .i64 n']) (by simp [results, Try.results49, go_sem, *]) rfl
    ⟨_, by rw [Hf.out], by rw [Hf.out]; exact (HV2.out.lower (Nat.le_trans (Nat.le_succ_of_le (Nat.le_succ _)) (by have := HW.out; rw [this]; simp))).set5 HZ3.out _ _ _ _ _, below_set5 HB3.out (Nat.le_succ _) _ _ _ _ _⟩
def newT (procs grain : Int) : Thr := ⟨grain, 0, List.replicate procs.toNat (0, 0), [], false⟩
def newM (procs grain : Int) : Thr × Int := if bd 1 16 procs && bd 2 1048576 grain then (newT procs grain, 0) else (Thr.zero, 1)

theorem flatMap_rep (n : Nat) : (List.replicate n ((0, 0) : Int × Int)).flatMap encH = (List.replicate n [Value.int .i64 0, Value.int .i64 0]).flatten := by
  rw [List.flatMap_replicate]
  rfl

theorem new_ok (m : Nat) (grain : Int) : Thr.ok ⟨grain, 0, List.replicate m (0, 0), [], false⟩ = (bd 1 16 m && bd 2 1048576 grain) := by
  rw [Bool.eq_iff_iff, Thr.good_iff, Bool.and_eq_true, bd_iff, bd_iff]
  have hw : ∀ n : Nat, ((List.replicate n ((0, 0) : Int × Int)).map (fun x => x.2)).sum = 0 := by
    intro n
    induction n with
    | zero => rfl
    | succ n ih => rw [List.replicate_succ, List.map_cons, List.sum_cons, ih]; rfl
  constructor
  · rintro ⟨a, b, c, d, _⟩
    simp at c d
    simp only at a b
    exact ⟨⟨by omega, by omega⟩, a, b⟩
  · rintro ⟨⟨a, b⟩, c, d⟩
    refine ⟨c, d, by simp; omega, by simp; omega, by simp, by simp, by simp, fun x hx => ?_, fun x hx => by simp at hx, ?_, fun h => by cases h⟩
    · obtain rfl := (List.mem_replicate.1 hx).2
      rfl
    · simp only [Thr.wsum, wsumL, hw]; rfl


theorem mk22 (m : Nat) (hm : m ≤ 17) (W : World) : (Instr.makeSlice 22 (.int .i64 (m : Int)) (.int .i64 (m : Int))).run Try.prog W = .ok (.slice (some ⟨W.heap.size, 0, none⟩) m m) (W.alloc (.cells (madeCells #[.int .i64 0, .int .i64 0] (m * 2)) 51)) := by
  obtain ⟨i0, hi, hz0, hz1, hz2⟩ := info_parts info51
  have h := run_make_rowN (P := Try.prog) 22 51 i0 _ Try.underlying22 hi hz0 .i64 .i64 m m (Nat.le_refl _) (by rw [hz2]; omega) (by omega) W
  rw [hz1] at h
  exact h
theorem made_list (u : Value) (n : Nat) : (madeCells #[u, u] n).toList = List.replicate n u := by
  apply List.ext_getElem
  · simp [madeCells]
  · intro i h1 h2
    have : i % 2 = 0 ∨ i % 2 = 1 := by omega
    rcases this with h | h <;> simp [madeCells, h]
theorem rep_list (m : Nat) : (List.replicate m ((0, 0) : Int × Int)).flatMap encH = List.replicate (m * 2) (.int .i64 0) := by
  induction m with
  | zero => rfl
  | succ n ih => rw [List.replicate_succ, List.flatMap_cons, ih, Nat.succ_mul, Nat.add_comm (n * 2) 2, ← List.replicate_append_replicate]; rfl
theorem new_facts (m : Nat) (grain : Int) (w : World) (hm : m ≤ 17) (W0 : World)
    (hW0 : W0 = (((w.alloc (.cells #[.int .i64 0, .int .i64 0, .slice none 0 0, .slice none 0 0, .bool false] 25)).alloc (.cells (madeCells #[.int .i64 0, .int .i64 0] (m * 2)) 51)).alloc (.cells #[.int .i64 grain, .int .i64 0, .slice (some ⟨w.heap.size + 1, 0, none⟩) m m, .slice none 0 0, .bool false] 25))) :
    Below w.heap.size w W0 ∧ Blk W0 w.heap.size 25 #[.int .i64 0, .int .i64 0, .slice none 0 0, .slice none 0 0, .bool false] ∧ Blk W0 (w.heap.size + 1 + 1) 25 #[.int .i64 grain, .int .i64 0, .slice (some ⟨w.heap.size + 1, 0, none⟩) m m, .slice none 0 0, .bool false] ∧
    ThrF w.heap.size W0 (.agg #[.int .i64 grain, .int .i64 0, .slice (some ⟨w.heap.size + 1, 0, none⟩) m m, .slice none 0 0, .bool false]) ⟨grain, 0, List.replicate m (0, 0), [], false⟩ := by
  have s1 : (w.alloc (.cells #[.int .i64 0, .int .i64 0, .slice none 0 0, .slice none 0 0, .bool false] 25)).heap.size = w.heap.size + 1 := by simp
  have s2 : ((w.alloc (.cells #[.int .i64 0, .int .i64 0, .slice none 0 0, .slice none 0 0, .bool false] 25)).alloc (.cells (madeCells #[.int .i64 0, .int .i64 0] (m * 2)) 51)).heap.size = w.heap.size + 1 + 1 := by simp
  subst hW0
  refine ⟨(((Below.refl _ _).alloc (Nat.le_refl _) _).alloc (by simp) _).alloc (by simp; omega) _, ((Blk.new w 25 _).alloc _).alloc _, ?_, ⟨some ⟨w.heap.size + 1, 0, none⟩, m, none, 0, by simp, ?_, World.ownsRow_nil _ _ _ _⟩⟩
  · have := Blk.new ((w.alloc (.cells #[.int .i64 0, .int .i64 0, .slice none 0 0, .slice none 0 0, .bool false] 25)).alloc (.cells (madeCells #[.int .i64 0, .int .i64 0] (m * 2)) 51)) 25 #[.int .i64 grain, .int .i64 0, .slice (some ⟨w.heap.size + 1, 0, none⟩) m m, .slice none 0 0, .bool false]
    rw [s2] at this
    exact this
  · refine World.ownsRow.alloc ?_ _
    rw [List.length_replicate]
    refine ⟨by rw [rep_list, List.length_replicate], .inr ⟨w.heap.size + 1, m, madeCells #[.int .i64 0, .int .i64 0] (m * 2), rfl, by omega, ?_, Nat.le_refl _, by simp only [maxLen]; omega, size_madeCells _ _, ?_⟩⟩
    · have := heap_alloc_new (w.alloc (.cells #[.int .i64 0, .int .i64 0, .slice none 0 0, .slice none 0 0, .bool false] 25)) (.cells (madeCells #[.int .i64 0, .int .i64 0] (m * 2)) 51)
      rw [s1] at this
      exact this
    · rw [made_list, rep_list, List.take_replicate, Nat.min_self]
set_option maxRecDepth 100000 in
set_option maxHeartbeats 4000000 in
theorem new_calls (procs grain : Int) (w : World) : Calls Try.prog 17 #[.int .i64 procs, .int .i64 grain] w (RetT (newM procs grain) w) := by
  by_cases h0 : procs < 0
  · obtain ⟨W0, hW0⟩ : ∃ W0, W0 = (((w.alloc (.cells #[.int .i64 0, .int .i64 0, .slice none 0 0, .slice none 0 0, .bool false] 25)).alloc (.cells (madeCells #[.int .i64 0, .int .i64 0] (0 * 2)) 51)).alloc (.cells #[.int .i64 grain, .int .i64 0, .slice (some ⟨w.heap.size + 1, 0, none⟩) 0 0, .slice none 0 0, .bool false] 25)) := ⟨_, rfl⟩
    obtain ⟨hB0, hz, hv, hF⟩ := new_facts 0 grain w (by omega) W0 hW0
    have HW := Lib.hid hW0; clear hW0
    have HB0 := Lib.hid hB0; clear hB0
    have hsz := hz.lt
    have HZ := Lib.hid hz; clear hz
    have hsz2 := hv.lt
    have HVV := Lib.hid hv; clear hv
    have HF := Lib.hid hF; clear hF
    have hmk : ∀ W : World, (Instr.makeSlice 22 (.int .i64 0) (.int .i64 0)).run Try.prog W = .ok (.slice (some ⟨W.heap.size, 0, none⟩) 0 0) (W.alloc (.cells (madeCells #[.int .i64 0, .int .i64 0] (0 * 2)) 51)) := fun W => mk22 0 (by omega) W
    rcases hok : Thr.ok ⟨grain, 0, List.replicate 0 (0, 0), [], false⟩ with _ | _
    · have Hc := Lib.hid (Thr.check_f (t := ⟨grain, 0, List.replicate 0 (0, 0), [], false⟩) (by rw [hok]; exact Bool.false_ne_true))
      have Hf := Lib.hid (show newM procs grain = (Thr.zero, 1) from by
        rw [new_ok] at hok
        rw [newM, if_neg (by simp only [bd, Bool.and_eq_true, decide_eq_true_eq]; omega)])
      clear hok
      go_enter Try.func17, Try.ntmps17
      go_wp2_with fail
      rw [← HW.out]
      refine (check_calls _ _ _ HF.out.val ⟨by simp <;> omega, by simp⟩).mono ?_
      rintro e w2 ⟨rfl, hb⟩
      rw [Hc.out]
      obtain ⟨⟨z0, z1, z2, z3, z4⟩, ⟨y0, y1, y2, y3, y4⟩⟩ := (HZ.out.below hb hsz).five
      have Hb := Lib.hid (HB0.out.trans (hb.mono HB0.out.size)); clear hb
      go_wp2
      exact bodyPost_ret (v := .tuple #[.agg #[.int .i64 0, .int .i64 0, .slice none 0 0, .slice none 0 0, .bool false], .int .i64 1]) (by simp [results, Try.results17, go_sem, *]) rfl
        ⟨_, by rw [Hf.out], by rw [Hf.out]; exact ThrF.zero _ _, below_set5 Hb.out (Nat.le_refl _) _ _ _ _ _⟩
    · exfalso; rw [new_ok] at hok; simp only [bd, Bool.and_eq_true, decide_eq_true_eq] at hok; omega
  by_cases h1 : 17 < procs
  · obtain ⟨W0, hW0⟩ : ∃ W0, W0 = (((w.alloc (.cells #[.int .i64 0, .int .i64 0, .slice none 0 0, .slice none 0 0, .bool false] 25)).alloc (.cells (madeCells #[.int .i64 0, .int .i64 0] (17 * 2)) 51)).alloc (.cells #[.int .i64 grain, .int .i64 0, .slice (some ⟨w.heap.size + 1, 0, none⟩) 17 17, .slice none 0 0, .bool false] 25)) := ⟨_, rfl⟩
    obtain ⟨hB0, hz, hv, hF⟩ := new_facts 17 grain w (by omega) W0 hW0
    have HW := Lib.hid hW0; clear hW0
    have HB0 := Lib.hid hB0; clear hB0
    have hsz := hz.lt
    have HZ := Lib.hid hz; clear hz
    have hsz2 := hv.lt
    have HVV := Lib.hid hv; clear hv
    have HF := Lib.hid hF; clear hF
    have hmk : ∀ W : World, (Instr.makeSlice 22 (.int .i64 17) (.int .i64 17)).run Try.prog W = .ok (.slice (some ⟨W.heap.size, 0, none⟩) 17 17) (W.alloc (.cells (madeCells #[.int .i64 0, .int .i64 0] (17 * 2)) 51)) := fun W => mk22 17 (by omega) W
    rcases hok : Thr.ok ⟨grain, 0, List.replicate 17 (0, 0), [], false⟩ with _ | _
    · have Hc := Lib.hid (Thr.check_f (t := ⟨grain, 0, List.replicate 17 (0, 0), [], false⟩) (by rw [hok]; exact Bool.false_ne_true))
      have Hf := Lib.hid (show newM procs grain = (Thr.zero, 1) from by
        rw [new_ok] at hok
        rw [newM, if_neg (by simp only [bd, Bool.and_eq_true, decide_eq_true_eq]; omega)])
      clear hok
      go_enter Try.func17, Try.ntmps17
      go_wp2_with fail
      rw [← HW.out]
      refine (check_calls _ _ _ HF.out.val ⟨by simp <;> omega, by simp⟩).mono ?_
      rintro e w2 ⟨rfl, hb⟩
      rw [Hc.out]
      obtain ⟨⟨z0, z1, z2, z3, z4⟩, ⟨y0, y1, y2, y3, y4⟩⟩ := (HZ.out.below hb hsz).five
      have Hb := Lib.hid (HB0.out.trans (hb.mono HB0.out.size)); clear hb
      go_wp2
      exact bodyPost_ret (v := .tuple #[.agg #[.int .i64 0, .int .i64 0, .slice none 0 0, .slice none 0 0, .bool false], .int .i64 1]) (by simp [results, Try.results17, go_sem, *]) rfl
        ⟨_, by rw [Hf.out], by rw [Hf.out]; exact ThrF.zero _ _, below_set5 Hb.out (Nat.le_refl _) _ _ _ _ _⟩
    · exfalso; rw [new_ok] at hok; simp only [bd, Bool.and_eq_true, decide_eq_true_eq] at hok; omega
  · obtain ⟨m, rfl⟩ := Int.eq_ofNat_of_zero_le (show 0 ≤ procs by omega)
    obtain ⟨W0, hW0⟩ : ∃ W0, W0 = (((w.alloc (.cells #[.int .i64 0, .int .i64 0, .slice none 0 0, .slice none 0 0, .bool false] 25)).alloc (.cells (madeCells #[.int .i64 0, .int .i64 0] (m * 2)) 51)).alloc (.cells #[.int .i64 grain, .int .i64 0, .slice (some ⟨w.heap.size + 1, 0, none⟩) m m, .slice none 0 0, .bool false] 25)) := ⟨_, rfl⟩
    obtain ⟨hB0, hz, hv, hF⟩ := new_facts m grain w (by omega) W0 hW0
    have HW := Lib.hid hW0; clear hW0
    have HB0 := Lib.hid hB0; clear hB0
    have hsz := hz.lt
    have HZ := Lib.hid hz; clear hz
    have hsz2 := hv.lt
    have HVV := Lib.hid hv; clear hv
    have HF := Lib.hid hF; clear hF
    have hmk : ∀ W : World, (Instr.makeSlice 22 (.int .i64 (m : Int)) (.int .i64 (m : Int))).run Try.prog W = .ok (.slice (some ⟨W.heap.size, 0, none⟩) m m) (W.alloc (.cells (madeCells #[.int .i64 0, .int .i64 0] (m * 2)) 51)) := fun W => mk22 m (by omega) W
    rcases hok : Thr.ok ⟨grain, 0, List.replicate m (0, 0), [], false⟩ with _ | _
    · have Hc := Lib.hid (Thr.check_f (t := ⟨grain, 0, List.replicate m (0, 0), [], false⟩) (by rw [hok]; exact Bool.false_ne_true))
      have Hf := Lib.hid (show newM (m : Int) grain = (Thr.zero, 1) from by
        rw [new_ok] at hok
        rw [newM, hok]; rfl)
      clear hok
      go_enter Try.func17, Try.ntmps17
      go_wp2_with fail
      rw [← HW.out]
      refine (check_calls _ _ _ HF.out.val ⟨by simp <;> omega, by simp⟩).mono ?_
      rintro e w2 ⟨rfl, hb⟩
      rw [Hc.out]
      obtain ⟨⟨z0, z1, z2, z3, z4⟩, ⟨y0, y1, y2, y3, y4⟩⟩ := (HZ.out.below hb hsz).five
      have Hb := Lib.hid (HB0.out.trans (hb.mono HB0.out.size)); clear hb
      go_wp2
      exact bodyPost_ret (v := .tuple #[.agg #[.int .i64 0, .int .i64 0, .slice none 0 0, .slice none 0 0, .bool false], .int .i64 1]) (by simp [results, Try.results17, go_sem, *]) rfl
        ⟨_, by rw [Hf.out], by rw [Hf.out]; exact ThrF.zero _ _, below_set5 Hb.out (Nat.le_refl _) _ _ _ _ _⟩
    · have Hc := Lib.hid (Thr.check_t hok)
      have Hf := Lib.hid (show newM (m : Int) grain = (newT (m : Int) grain, 0) from by
        rw [new_ok] at hok
        rw [newM, hok]; rfl)
      clear hok
      go_enter Try.func17, Try.ntmps17
      go_wp2_with fail
      rw [← HW.out]
      refine (check_calls _ _ _ HF.out.val ⟨by simp <;> omega, by simp⟩).mono ?_
      rintro e w2 ⟨rfl, hb⟩
      rw [Hc.out]
      have HZ2 := Lib.hid (HZ.out.below hb hsz)
      have HF2 := Lib.hid (HF.out.below hb (Nat.le_refl _))
      obtain ⟨⟨z0, z1, z2, z3, z4⟩, ⟨y0, y1, y2, y3, y4⟩⟩ := (HZ.out.below hb hsz).five
      obtain ⟨⟨u0, u1, u2, u3, u4⟩, -⟩ := (HVV.out.below hb hsz2).five
      have Hb := Lib.hid (HB0.out.trans (hb.mono HB0.out.size)); clear hb
      go_wp2
      exact bodyPost_ret (v := .tuple #[.agg #[.int .i64 grain, .int .i64 0, .slice (some ⟨w.heap.size + 1, 0, none⟩) m m, .slice none 0 0, .bool false], .int .i64 0]) (by simp [results, Try.results17, go_sem, *]) rfl
        ⟨_, by rw [Hf.out], by rw [Hf.out, newT, Int.toNat_natCast]; exact HF2.out.set5 HZ2.out _ _ _ _ _, below_set5 Hb.out (Nat.le_refl _) _ _ _ _ _⟩
end Go.Proofs.Ythdlmnkefheliaa
