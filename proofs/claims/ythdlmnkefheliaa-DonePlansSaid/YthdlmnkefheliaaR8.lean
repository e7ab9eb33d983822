import Derived.Test.YthdlmnkefheliaaR6
import Derived.Test.YthdlmnkefheliaaR7
import Derived.Deep.RegionHeld3
set_option linter.unusedVariables false
set_option linter.unusedSimpArgs false
namespace Go.Proofs.Ythdlmnkefheliaa
open Go.RowKit
attribute [local go_sem ↓] Go.wp_at_zero Go.wp_at_succ
theorem deliverM_bad {t : Thr} {a : Int} (h : ¬ t.ok = true) : deliverM t a = (Thr.zero, 280) := by
  have hb : begunE t [] = 280 := by rw [begunE, if_neg h]
  rw [deliverM, hb]; rfl
theorem deliverM_out {t : Thr} {a : Int} (h : t.ok = true) (hr : ¬ (0 ≤ a ∧ a < t.mail.length)) : deliverM t a = (Thr.zero, 1) := by
  rw [deliverM, if_pos (begun0 h [] (by simp)), if_neg (by rw [bd_iff]; omega)]
theorem erase_split (ms : List (Int × Int × Int)) (k : Nat) : (ms.eraseIdx k).flatMap encL = (ms.flatMap encL).take (k * 3) ++ (ms.flatMap encL).drop ((k + 1) * 3) := by
  rw [flat_take encL 3 (fun _ => rfl), flat_drop encL 3 (fun _ => rfl), ← List.flatMap_append, List.eraseIdx_eq_take_drop_succ]
theorem reads_take {w : World} {B : Nat} {A : Option Addr} {n k : Nat} {xs : List Value} (h : Reads w B 3 A n xs) (hk : k ≤ n) : Reads w B 3 A k (xs.take (k * 3)) := by
  refine ⟨by rw [List.length_take, h.1]; omega, fun h0 => ?_⟩
  obtain ⟨ad, e, hb, hc⟩ := h.2 (by omega)
  exact ⟨ad, e, hb, fun j u hu => hc j u (by rw [List.getElem?_take] at hu; split at hu; · exact hu
                                             · cases hu)⟩
theorem one3 (a b c : Int) : ∀ u ∈ ([.int .i64 a, .int .i64 b, .int .i64 c] : List Value), u.oneCell' = true := by intro u hu; simp only [List.mem_cons, List.not_mem_nil, or_false] at hu; rcases hu with rfl | rfl | rfl <;> rfl
theorem one_take {xs : List (Int × Int × Int)} {n : Nat} : ∀ u ∈ (xs.flatMap encL).take n, u.oneCell' = true := fun u hu => oneL xs u (List.mem_of_mem_take hu)
theorem one_drop {xs : List (Int × Int × Int)} {n : Nat} : ∀ u ∈ (xs.flatMap encL).drop n, u.oneCell' = true := fun u hu => oneL xs u (List.mem_of_mem_drop hu)

set_option maxRecDepth 100000 in
set_option maxHeartbeats 4000000 in
theorem refDeliver_calls (t : Thr) (v : Value) (at_ : Int) (w : World) (hv : ThrV w v t) (hl : t.Lens) :
    Calls Try.prog 73 #[v, .int .i64 at_] w (RetT (deliverM t at_) w) := by
  have hv0 := hv
  obtain ⟨gr, ou, ps, ms, en⟩ := t
  obtain ⟨A1, c1, A2, c2, rfl, k1, k2, k3, k4, k5, k6⟩ := hv
  clear k1 k2 k3 k4 k5 k6
  simp only at hv0 ⊢
  have HL := Lib.hid hl; clear hl
  obtain ⟨W0, hW0⟩ : ∃ W0, W0 = ((w.alloc (.cells #[.int .i64 gr, .int .i64 ou, .slice A1 ps.length c1, .slice A2 ms.length c2, .bool en] 25)).alloc (.cells #[.int .i64 0, .int .i64 0, .slice none 0 0, .slice none 0 0, .bool false] 25)) := ⟨_, rfl⟩
  have hB0 : Below w.heap.size w W0 := by rw [hW0]; exact ((Below.refl _ _).alloc (Nat.le_refl _) _).alloc (by simp) _
  have hz : Blk W0 (w.heap.size + 1) 25 #[.int .i64 0, .int .i64 0, .slice none 0 0, .slice none 0 0, .bool false] := by
    rw [hW0]
    have := Blk.new (w.alloc (.cells #[.int .i64 gr, .int .i64 ou, .slice A1 ps.length c1, .slice A2 ms.length c2, .bool en] 25)) 25 #[.int .i64 0, .int .i64 0, .slice none 0 0, .slice none 0 0, .bool false]
    rw [show (w.alloc (.cells #[.int .i64 gr, .int .i64 ou, .slice A1 ps.length c1, .slice A2 ms.length c2, .bool en] 25)).heap.size = w.heap.size + 1 from by simp] at this
    exact this
  have hz0 : Blk W0 w.heap.size 25 #[.int .i64 gr, .int .i64 ou, .slice A1 ps.length c1, .slice A2 ms.length c2, .bool en] := by rw [hW0]; exact (Blk.new w 25 _).alloc _
  have HV := Lib.hid (hv0.below hB0 (Nat.le_refl _)); clear hv0
  have hsz := hz.lt
  have hsz0 := hz0.lt
  have HZ := Lib.hid hz; clear hz
  have HP := Lib.hid hz0; clear hz0
  have HB0 := Lib.hid hB0; clear hB0
  have HW := Lib.hid hW0; clear hW0
  obtain ⟨hl1, hl2⟩ := HL.out
  simp only at hl1 hl2
  have hml : ms.length ≤ 100000 := hl2
  by_cases hok : Thr.ok ⟨gr, ou, ps, ms, en⟩ = true
  case neg =>
    have hck := Thr.check_f hok
    have Hck := Lib.hid hck
    have Hf := Lib.hid (deliverM_bad (a := at_) hok)
    clear hck hok
    go_enter Try.func73, Try.ntmps73
    go_wp2_with fail
    rw [← HW.out]
    refine (refCheckr_calls 280 ⟨gr, ou, ps, ms, en⟩ _ _ Hck.out HV.out hml).mono ?_
    rintro e w1 ⟨rfl, hb⟩
    have HB1 := Lib.hid (HB0.out.trans (hb.mono HB0.out.size))
    have HZ1 := Lib.hid (HZ.out.below hb HZ.out.lt)
    have HP1 := Lib.hid (HP.out.below hb HP.out.lt)
    have HV1 := Lib.hid (HV.out.below hb (Nat.le_refl _))
    clear hb
    try clear a0 a1 a2 a3 a4 z0 z1 z2 z3 z4 y0 y1 y2 y3 y4
    obtain ⟨⟨a0, a1, a2, a3, a4⟩, -⟩ := HP1.out.five
    obtain ⟨⟨z0, z1, z2, z3, z4⟩, ⟨y0, y1, y2, y3, y4⟩⟩ := HZ1.out.five
    have lz1 := HZ1.out.lt
    have lp1 := HP1.out.lt
    go_wp2
    exact bodyPost_ret (v := .tuple #[.agg #[.int .i64 0, .int .i64 0, .slice none 0 0, .slice none 0 0, .bool false], .int .i64 280]) (by simp [results, Try.results73, go_sem, *]) rfl
      ⟨_, by rw [Hf.out], by rw [Hf.out]; exact ThrF.zero _ _, below_set5 HB1.out (Nat.le_succ _) _ _ _ _ _⟩
  have hck := Thr.check_t hok
  have Hck := Lib.hid hck; clear hck
  by_cases hlo : at_ < 0
  · have Hf := Lib.hid (deliverM_out (a := at_) hok (by omega))
    have hb : decide (at_ < 0) = true := decide_eq_true hlo
    clear hok
    go_enter Try.func73, Try.ntmps73
    go_wp2_with fail
    rw [← HW.out]
    refine (refCheckr_calls 0 ⟨gr, ou, ps, ms, en⟩ _ _ Hck.out HV.out hml).mono ?_
    rintro e w1 ⟨rfl, hb9⟩
    have HB1 := Lib.hid (HB0.out.trans (hb9.mono HB0.out.size))
    have HZ1 := Lib.hid (HZ.out.below hb9 HZ.out.lt)
    have HP1 := Lib.hid (HP.out.below hb9 HP.out.lt)
    have HV1 := Lib.hid (HV.out.below hb9 (Nat.le_refl _))
    clear hb9
    try clear a0 a1 a2 a3 a4 z0 z1 z2 z3 z4 y0 y1 y2 y3 y4
    obtain ⟨⟨a0, a1, a2, a3, a4⟩, -⟩ := HP1.out.five
    obtain ⟨⟨z0, z1, z2, z3, z4⟩, ⟨y0, y1, y2, y3, y4⟩⟩ := HZ1.out.five
    have lz1 := HZ1.out.lt
    have lp1 := HP1.out.lt
    go_wp2
    exact bodyPost_ret (v := .tuple #[.agg #[.int .i64 0, .int .i64 0, .slice none 0 0, .slice none 0 0, .bool false], .int .i64 1]) (by simp [results, Try.results73, go_sem, *]) rfl
      ⟨_, by rw [Hf.out], by rw [Hf.out]; exact ThrF.zero _ _, below_set5 HB1.out (Nat.le_succ _) _ _ _ _ _⟩
  have hloB : decide (at_ < 0) = false := decide_eq_false hlo
  obtain ⟨k, rfl⟩ := Int.eq_ofNat_of_zero_le (show 0 ≤ at_ by omega)
  by_cases hhi : ms.length ≤ k
  · have Hf := Lib.hid (deliverM_out (a := (k : Int)) hok (by simp only; omega))
    have hb1 : decide ((ms.length : Int) ≤ (k : Int)) = true := decide_eq_true (by omega)
    have hb2 : decide (ms.length ≤ k) = true := decide_eq_true hhi
    clear hok hlo
    go_enter Try.func73, Try.ntmps73
    go_wp2_with fail
    rw [← HW.out]
    refine (refCheckr_calls 0 ⟨gr, ou, ps, ms, en⟩ _ _ Hck.out HV.out hml).mono ?_
    rintro e w1 ⟨rfl, hb⟩
    have HB1 := Lib.hid (HB0.out.trans (hb.mono HB0.out.size))
    have HZ1 := Lib.hid (HZ.out.below hb HZ.out.lt)
    have HP1 := Lib.hid (HP.out.below hb HP.out.lt)
    have HV1 := Lib.hid (HV.out.below hb (Nat.le_refl _))
    clear hb
    try clear a0 a1 a2 a3 a4 z0 z1 z2 z3 z4 y0 y1 y2 y3 y4
    obtain ⟨⟨a0, a1, a2, a3, a4⟩, -⟩ := HP1.out.five
    obtain ⟨⟨z0, z1, z2, z3, z4⟩, ⟨y0, y1, y2, y3, y4⟩⟩ := HZ1.out.five
    have lz1 := HZ1.out.lt
    have lp1 := HP1.out.lt
    go_wp2
    exact bodyPost_ret (v := .tuple #[.agg #[.int .i64 0, .int .i64 0, .slice none 0 0, .slice none 0 0, .bool false], .int .i64 1]) (by simp [results, Try.results73, go_sem, *]) rfl
      ⟨_, by rw [Hf.out], by rw [Hf.out]; exact ThrF.zero _ _, below_set5 HB1.out (Nat.le_succ _) _ _ _ _ _⟩
  have hh1 : decide ((ms.length : Int) ≤ (k : Int)) = false := decide_eq_false (by omega)
  have hh2 : decide (ms.length ≤ k) = false := decide_eq_false hhi
  have hk : k < ms.length := by omega
  have Hgd := Lib.hid (Thr.good_iff.1 hok)
  have hp16 := Hgd.out.pl1
  have hp0 := Hgd.out.pl0
  have hm4k := Hgd.out.ml
  have hou0 := Hgd.out.ou0
  have hou1 := Hgd.out.ou1
  have hgr0 := Hgd.out.gr0
  have hgr1 := Hgd.out.gr1
  simp only at hp16 hp0 hm4k hou0 hou1 hgr0 hgr1
  obtain ⟨k', l, hkk, hl, hdel⟩ := deliver_open hok (show (0 : Int) ≤ (k : Int) by omega) (by simp only; omega)
  obtain rfl : k = k' := by omega
  simp only at hl hdel
  have hle := (letter_iff _ _).1 (Hgd.out.le l (List.mem_of_getElem? hl))
  obtain ⟨kd, tt, n⟩ := l
  simp only at hle hdel
  have Hl := Lib.hid hl
  have Hdel := Lib.hid hdel
  have Hle := Lib.hid hle
  have Hok := Lib.hid hok
  have hn0 : 0 ≤ n ∧ n ≤ 1099511627776 := by omega
  obtain ⟨hn0, hn1⟩ := hn0
  have htt : 0 ≤ tt ∧ tt < (ps.length : Int) := by omega
  obtain ⟨htt0, htt1⟩ := htt
  obtain ⟨j, rfl⟩ := Int.eq_ofNat_of_zero_le htt0
  have hj : j < ps.length := by omega
  have hget := Thr.proc_get (t := ⟨gr, ou, ps, ms, en⟩) (p := j) hj
  obtain ⟨x, hx'⟩ : ∃ x, Thr.proc ⟨gr, ou, ps, ms, en⟩ (j : Int) = x := ⟨_, rfl⟩
  rw [hx'] at hget
  obtain ⟨x1, x2⟩ := x
  have Hx := Lib.hid (show ps[j]? = some (x1, x2) from hget)
  have Hpx := Lib.hid hx'
  have hho := (holder_iff _).1 (Hgd.out.pr _ (List.mem_of_getElem? hget))
  simp only at hho
  obtain ⟨⟨ho0, ho1⟩, ⟨ho2, ho3⟩, ho4⟩ := hho
  have Ho4 := Lib.hid ho4
  have hk0 : (0 : Int) ≤ (k : Int) := Int.natCast_nonneg _
  have hk1 : (k : Int) < (ms.length : Int) := by omega
  have hk2 : (k : Int) ≤ (ms.length : Int) := by omega
  have hk3 : (k : Int) + 1 ≤ (ms.length : Int) := by omega
  obtain ⟨i1, hi, hz0, hz1, hz2⟩ := info_parts info54
  have Hj := Lib.hid (And.intro hi (And.intro hz0 (And.intro hz1 hz2))); clear hi hz0 hz1 hz2
  clear hget hx' ho4 hl hdel hle hok hlo hhi hkk
  obtain ⟨A1q, c1q, A2q, c2q, hvq, -, -, -, hcap2, ⟨hcap3, hcapn⟩, -⟩ := HV.out
  simp only [Value.agg.injEq, Array.mk.injEq, List.cons.injEq, Value.slice.injEq] at hvq
  obtain ⟨-, -, ⟨rfl, -, rfl⟩, ⟨rfl, -, rfl⟩, -⟩ := hvq
  simp only at hcap2
  go_enter Try.func73, Try.ntmps73
  go_wp2_with fail
  rw [← HW.out]
  refine (refCheckr_calls 0 ⟨gr, ou, ps, ms, en⟩ _ _ Hck.out HV.out hml).mono ?_
  rintro e w1 ⟨rfl, hb⟩
  have HB1 := Lib.hid (HB0.out.trans (hb.mono HB0.out.size))
  have HZ1 := Lib.hid (HZ.out.below hb HZ.out.lt)
  have HP1 := Lib.hid (HP.out.below hb HP.out.lt)
  have HV1 := Lib.hid (HV.out.below hb (Nat.le_refl _))
  clear hb
  try clear a0 a1 a2 a3 a4 z0 z1 z2 z3 z4 y0 y1 y2 y3 y4
  obtain ⟨⟨a0, a1, a2, a3, a4⟩, -⟩ := HP1.out.five
  obtain ⟨⟨z0, z1, z2, z3, z4⟩, ⟨y0, y1, y2, y3, y4⟩⟩ := HZ1.out.five
  have lz1 := HZ1.out.lt
  have lp1 := HP1.out.lt
  go_wp2_with fail
  refine (copied_calls ⟨gr, ou, ps, ms, en⟩ _ _ HV1.out HL.out).mono ?_
  rintro e w2 ⟨v2, rfl, hF, hb⟩
  obtain ⟨A1', c1', A2', c2', rfl, ho1, ho2⟩ := hF
  simp only at ho1 ho2
  have HRr2 := Lib.hid (show RowsU w2 (w.heap.size + 2) A1' ps.length c1' A2' ms.length c2' ps ms from RowsU.lower ⟨ho1, ho2⟩ (by have := HZ1.out.lt; omega))
  clear ho1 ho2
  have HB2 := Lib.hid (HB1.out.trans (hb.mono HB1.out.size))
  have HZ2 := Lib.hid (HZ1.out.below hb HZ1.out.lt)
  have HP2 := Lib.hid (HP1.out.below hb HP1.out.lt)
  have HV2 := Lib.hid (HV1.out.below hb (Nat.le_refl _))
  clear hb
  try clear a0 a1 a2 a3 a4 z0 z1 z2 z3 z4 y0 y1 y2 y3 y4
  obtain ⟨⟨a0, a1, a2, a3, a4⟩, -⟩ := HP2.out.five
  obtain ⟨⟨z0, z1, z2, z3, z4⟩, ⟨y0, y1, y2, y3, y4⟩⟩ := HZ2.out.five
  have lz2 := HZ2.out.lt
  have lp2 := HP2.out.lt
  obtain ⟨gp, cp, hpv, -, hgp⟩ := HRr2.out.1.form (show 0 < ps.length by omega)
  simp only [Value.slice.injEq, Option.some.injEq] at hpv
  obtain ⟨rfl, -, rfl⟩ := hpv
  obtain ⟨hgB, -⟩ := HRr2.out.1.lt gp rfl
  have hzg : w.heap.size + 1 ≠ gp := by omega
  obtain ⟨g0, off, rfl, e0, e1, e2⟩ := Rd.atL HV2.out.rdU.2 Hl.out
  simp only at e0 e1 e2
  have lg0 := World.block_lt_of_cell? _ _ e0
  obtain ⟨W3, hW3⟩ : ∃ W3, W3 = (w2.alloc (.cells #[.int .i64 gr, .int .i64 ou, .slice (some ⟨gp, 0, none⟩) ps.length c1', .slice A2' ms.length c2', .bool en] 25)).alloc (.cells #[.int .i64 kd, .int .i64 j, .int .i64 n] 54) := ⟨_, rfl⟩
  have Hsz3 := Lib.hid (show W3.heap.size = w2.heap.size + 1 + 1 from by rw [hW3]; simp)
  have HR3 : Hid (RowsU W3 (w.heap.size + 2) (some ⟨gp, 0, none⟩) ps.length c1' A2' ms.length c2' ps ms) := Lib.hid (by rw [hW3]; exact (HRr2.out.alloc _).alloc _)
  have HU3 : Hid (Blk W3 w2.heap.size 25 #[.int .i64 gr, .int .i64 ou, .slice (some ⟨gp, 0, none⟩) ps.length c1', .slice A2' ms.length c2', .bool en]) := Lib.hid (by rw [hW3]; exact (Blk.new w2 25 _).alloc _)
  have HX3 : Hid (Blk W3 (w2.heap.size + 1) 54 #[.int .i64 kd, .int .i64 j, .int .i64 n]) := Lib.hid (by
    have := Blk.new (w2.alloc (.cells #[.int .i64 gr, .int .i64 ou, .slice (some ⟨gp, 0, none⟩) ps.length c1', .slice A2' ms.length c2', .bool en] 25)) 54 #[.int .i64 kd, .int .i64 j, .int .i64 n]
    rw [hW3]; simpa using this)
  have HZ3 : Hid (Blk W3 (w.heap.size + 1) 25 #[.int .i64 0, .int .i64 0, .slice none 0 0, .slice none 0 0, .bool false]) := Lib.hid (by rw [hW3]; exact (HZ2.out.alloc _).alloc _)
  have HP3 : Hid (Blk W3 w.heap.size 25 #[.int .i64 gr, .int .i64 ou, .slice A1 ps.length c1, .slice (some ⟨g0, off, none⟩) ms.length c2, .bool en]) := Lib.hid (by rw [hW3]; exact (HP2.out.alloc _).alloc _)
  have HB3 : Hid (Below w.heap.size w W3) := Lib.hid (by rw [hW3]; exact (HB2.out.alloc HB2.out.size _).alloc (Nat.le_trans HB2.out.size (by simp)) _)
  have hrd0 : Rd W3 (some ⟨g0, off, none⟩) (ms.flatMap encL) := by rw [hW3]; exact HV2.out.rdU.2.below (((Below.refl _ w2).alloc (Nat.le_refl _) _).alloc (by simp) _) (Nat.le_refl _)
  have HRD := Lib.hid (hrd0.reads (by decide) (k := 3) (n := ms.length) (flatMap_len encL 3 (fun _ => rfl) ms))
  clear hrd0
  have HW3 := Lib.hid hW3; clear hW3
  have hmt : (W3.alloc (.cells #[] 54)).ownsRow (w.heap.size + 2) 54 3 (.slice (some ⟨W3.heap.size, 0, none⟩) 0 0) 0 [] :=
    World.ownsRow_made (base := w.heap.size + 2) (e := 54) (size := 3) W3 #[] 0 (by rw [Hsz3.out]; have := HZ2.out.lt; omega) (Nat.zero_le _) rfl
  have HMT := Lib.hid hmt; clear hmt
  obtain ⟨⟨u0, u1, u2, u3, u4⟩, ⟨f0, f1, f2, f3, f4⟩⟩ := HU3.out.five
  obtain ⟨⟨p0, p1, p2, p3, p4⟩, -⟩ := HP3.out.five
  have lu3 := HU3.out.lt
  have lpp3 := HP3.out.lt
  have hcapI : (k : Int) ≤ (c2 : Int) := by omega
  have hcapJ : (k : Int) + 1 ≤ (c2 : Int) := by omega
  have hwk : IntKind.i64.wrap ((k : Int) + 1) = (k : Int) + 1 := IntWalk.i64_in _ (by omega)
  have hkp : (0 : Int) ≤ (k : Int) + 1 := by omega
  have hktn : ((k : Int) + 1).toNat = k + 1 := by omega
  go_wp2_with fail
  rw [← HW3.out]
  have hc1 : 0 + k ≤ maxLen := by simp only [maxLen]; omega
  have hc2 : (0 + k) * 24 ≤ 140737488355328 := by omega
  have hc3 : w.heap.size + 2 ≤ (W3.alloc (.cells #[] 54)).drew.heap.size := by have := Hsz3.out; have := HZ2.out.lt; simp; omega
  have hc4 : 0 + k + (ms.length - (k + 1)) ≤ maxLen := by simp only [maxLen]; omega
  have hc5 : (0 + k + (ms.length - (k + 1))) * 24 ≤ 140737488355328 := by omega
  have Hcc := Lib.hid (And.intro hc1 (And.intro hc2 (And.intro hc3 (And.intro hc4 hc5))))
  clear hc1 hc2 hc3 hc4 hc5
  have hwne : w.heap.size ≠ w2.heap.size := by have := HP2.out.lt; omega
  have hwne3 : w.heap.size ≠ W3.heap.size := by omega
  have hps3 : w.heap.size < W3.heap.size := lpp3
  have hcut : Reads W3 W3.heap.size 3 (if c2 = k + 1 then some ⟨g0, off, none⟩ else some ⟨g0, off + (k + 1) * 3, none⟩) (ms.length - (k + 1)) ((ms.flatMap encL).drop ((k + 1) * 3)) := by
    have := HRD.out.cut (k := k + 1) (cap := c2) (by omega) hcap2
    simpa [Addr.add] using this
  have HCut := Lib.hid hcut
  clear hcut
  obtain ⟨nm, hnm⟩ : ∃ nm, nm = ms.length - 1 := ⟨_, rfl⟩
  have Hnm := Lib.hid hnm
  clear hnm
  have tok1 : True := trivial
  go_region_held3 (fun W => W.cell? ⟨w.heap.size, 3, none⟩ = some (.slice (some ⟨g0, off, none⟩) ms.length c2))
    (first
      | exact p3
      | assumption
      | exact (World.cell?_setCell_other _ _ _ _ (fun e => by injection e with e _ _; omega)).trans s5
      | go_keep)
    (first
      | (clear tok1
         refine step_append_any _ (by rfl) _ _ _ (by rfl) (w.heap.size + 2) 54 i1 _ 3 24 Try.underlying23 Hj.out.1 Hj.out.2.1 Hj.out.2.2.1 Hj.out.2.2.2 (by rfl) (by decide) (.slice (some ⟨W3.heap.size, 0, none⟩) 0 0) 0 [] (by rfl) HMT.out W3.heap.size (some ⟨g0, off, none⟩) k c2 ((ms.flatMap encL).take (k * 3)) (by rfl) ((reads_take HRD.out (Nat.le_of_lt hk)).alloc (Nat.le_refl _) _) one_take Hcc.out.1 Hcc.out.2.1 Hcc.out.2.2.1 ?_
         intro v1 w4 hown1 hg1 hat1
         have Hg1 := Lib.hid (grown_drew hg1)
         have hB4 : Below W3.heap.size W3 w4 := ((Below.refl _ W3).alloc (Nat.le_refl _) _).grown Hg1.out (by simp) (fun k hk => by simp [Value.ownBlock] at hk; omega)
         have HB4 := Lib.hid hB4
         have Hown1 := Lib.hid hown1
         have Hat1 := Lib.hid hat1
         have s4 : w4.cell? ⟨w.heap.size, 3, none⟩ = some (.slice (some ⟨g0, off, none⟩) ms.length c2) := (hB4.cell (p := ⟨w.heap.size, 3, none⟩) hps3).trans p3
         clear hown1 hg1 hat1 hB4)
      | (refine step_append_any _ (by rfl) _ _ _ (by rfl) (w.heap.size + 2) 54 i1 _ 3 24 Try.underlying23 Hj.out.1 Hj.out.2.1 Hj.out.2.2.1 Hj.out.2.2.2 (by rfl) (by decide) v1 (0 + k) ([] ++ (ms.flatMap encL).take (k * 3)) (by rfl) Hown1.out W3.heap.size _ (ms.length - (k + 1)) (c2 - (k + 1)) ((ms.flatMap encL).drop ((k + 1) * 3)) (by rfl) (HCut.out.below HB4.out) one_drop Hcc.out.2.2.2.1 Hcc.out.2.2.2.2 (by have := HB4.out.size; have := Hsz3.out; have := HZ2.out.lt; omega) ?_
         intro v2 w5 hown2 hg2 hat2
         have hB5 : Below W3.heap.size W3 w5 := HB4.out.grown hg2 HB4.out.size (fun b hb => by
           rcases Hat1.out with h | h
           · rw [h] at hb; simp [Value.ownBlock] at hb; omega
           · rw [h] at hb; simp at hb; omega)
         have HB5 := Lib.hid hB5
         have h22 : w5.ownsRow (w.heap.size + 2) 54 3 v2 nm ((ms.eraseIdx k).flatMap encL) := by
           rw [erase_split]
           have he : 0 + k + (ms.length - (k + 1)) = nm := by have := Hnm.out; omega
           rw [he] at hown2
           simpa using hown2
         obtain ⟨A3, c3, rfl⟩ := own_slice h22
         have Hown2 := Lib.hid h22
         have s5 : w5.cell? ⟨w.heap.size, 3, none⟩ = some (.slice (some ⟨g0, off, none⟩) ms.length c2) := (hB5.cell (p := ⟨w.heap.size, 3, none⟩) hps3).trans p3
         have t5 := (HU3.out.below hB5 lu3).five.1.2.2.2.1
         have r5 := (HU3.out.below hB5 lu3).five.2.2.2.2.1
         have l5 := (HU3.out.below hB5 lu3).lt
         clear hown2 hg2 hat2 hB5 h22))
  have hrows := HR3.out.below HB5.out (Nat.le_refl _)
  have hU5 := HU3.out.below HB5.out lu3
  refine exit_at (fun W => RowsU W (w.heap.size + 2) (some ⟨gp, 0, none⟩) ps.length c1' A3 (nm) c3 ps (ms.eraseIdx k) ∧ Blk W w2.heap.size 25 #[.int .i64 gr, .int .i64 (ou), .slice (some ⟨gp, 0, none⟩) ps.length c1', .slice A3 (nm) c3, .bool en] ∧ Blk W (w2.heap.size + 1) 54 #[.int .i64 kd, .int .i64 j, .int .i64 n] ∧ Blk W (w.heap.size + 1) 25 #[.int .i64 0, .int .i64 0, .slice none 0 0, .slice none 0 0, .bool false] ∧ Below w.heap.size w W)
    ⟨RowsU.setU ⟨hrows.1, Hown2.out⟩ hU5 3 _, by simpa using hU5.set_ 3 (.slice A3 nm c3), (HX3.out.below HB5.out HX3.out.lt).far (p := ⟨w2.heap.size, 3, none⟩) (by show w2.heap.size + 1 ≠ w2.heap.size; omega) _,
      (HZ3.out.below HB5.out HZ3.out.lt).far (p := ⟨w2.heap.size, 3, none⟩) (by show w.heap.size + 1 ≠ w2.heap.size; omega) _, (HB3.out.trans (HB5.out.mono HB3.out.size)).setCell (by show w.heap.size ≤ w2.heap.size; exact HB2.out.size) _⟩ ?_
  clear hrows hU5 s4 s5 t5 r5 p0 p1 p2 p3 p4 u0 u1 u2 u3 u4 f0 f1 f2 f3 f4 hcapI hcapJ hwk hkp hktn z0 z1 z2 z3 z4 y0 y1 y2 y3 y4
  try clear e0 e1 e2
  rintro W4 ⟨hR, hU, hX, hZz, hBb⟩
  obtain ⟨⟨u0, u1, u2, u3, u4⟩, ⟨f0, f1, f2, f3, f4⟩⟩ := hU.five
  have v0 : W4.cell? ⟨w2.heap.size + 1, 0, none⟩ = some (.int .i64 kd) := by rw [hX.cell 0]; rfl
  have v1 : W4.cell? ⟨w2.heap.size + 1, 1, none⟩ = some (.int .i64 j) := by rw [hX.cell 1]; rfl
  have v2' : W4.cell? ⟨w2.heap.size + 1, 2, none⟩ = some (.int .i64 n) := by rw [hX.cell 2]; rfl
  obtain ⟨⟨e0, e1⟩, q0, q1, lgW4⟩ := hR.cells Hx.out
  simp only at e0 e1
  obtain ⟨⟨z0, z1, z2, z3, z4⟩, ⟨y0, y1, y2, y3, y4⟩⟩ := hZz.five
  have luW4 := hU.lt
  have lxW4 := hX.lt
  have lzW4 := hZz.lt
  have HRW4 := Lib.hid hR
  have HUW4 := Lib.hid hU
  have HXW4 := Lib.hid hX
  have HZW4 := Lib.hid hZz
  have HBW4 := Lib.hid hBb
  clear hR hU hX hZz hBb
  generalize (if c2 = k + 1 then (some ⟨g0, off, none⟩ : Option Addr) else some ⟨g0, off + (k + 1) * 3, none⟩) = Aq
  have hupg : w2.heap.size ≠ gp := by
    intro h
    obtain ⟨cur, hb⟩ := HRW4.out.blkG
    exact Blk.ne_ HUW4.out hb (by decide) h
  have hxpg : w2.heap.size + 1 ≠ gp := by
    intro h
    obtain ⟨cur, hb⟩ := HRW4.out.blkG
    exact Blk.ne_ HXW4.out hb (by decide) h
  have hw2 : w.heap.size ≤ w2.heap.size := HB2.out.size
  have hgw : w.heap.size ≤ gp := by omega
  have hmel : (ms.eraseIdx k).length = nm := by rw [List.length_eraseIdx_of_lt hk]; exact Hnm.out.symm
  have Hmel := Lib.hid hmel
  clear hmel
  have hnm4 : nm ≤ 4000 := by have := Hnm.out; omega
  have htk : Thr.proc ⟨gr, ou, ps, ms.eraseIdx k, en⟩ (j : Int) = (x1, x2) := Hpx.out
  have Htk := Lib.hid htk
  clear htk
  by_cases c1 : kd = 1
  · skip
    subst c1
    have Hf0 := Lib.hid (show deliverM ⟨gr, ou, ps, ms, en⟩ (k : Int) = Thr.fin ⟨gr, ou, ps.set j (x1 + 1, x2 + n), ms.eraseIdx k, en⟩ from by
      rw [Hdel.out, Thr.take, if_pos rfl, Htk.out, Int.toNat_natCast]; rfl)
    obtain ⟨hS, -⟩ := HRW4.out.setG (rfl) Hx.out (x1 + 1)
    have HS := Lib.hid hS
    clear hS
    go_wp2_with fail
    refine wp_at (fun W => RowsU W (w.heap.size + 2) (some ⟨gp, 0, none⟩) ps.length c1' A3 (nm) c3 (ps.set j (x1 + 1, x2)) (ms.eraseIdx k) ∧ Blk W w2.heap.size 25 #[.int .i64 gr, .int .i64 (ou), .slice (some ⟨gp, 0, none⟩) ps.length c1', .slice A3 (nm) c3, .bool en] ∧ Blk W (w2.heap.size + 1) 54 #[.int .i64 1, .int .i64 j, .int .i64 n] ∧ Blk W (w.heap.size + 1) 25 #[.int .i64 0, .int .i64 0, .slice none 0 0, .slice none 0 0, .bool false] ∧ Below w.heap.size w W) ⟨HS.out, HUW4.out.far (p := ⟨gp, j * 2, none⟩) hupg _, HXW4.out.far (p := ⟨gp, j * 2, none⟩) hxpg _, HZW4.out.far (p := ⟨gp, j * 2, none⟩) hzg _, HBW4.out.setCell (p := ⟨gp, j * 2, none⟩) hgw _⟩ ?_
    clear u0 u1 u2 u3 u4 f0 f1 f2 f3 f4 e0 e1 q0 q1 v0 v1 v2' z0 z1 z2 z3 z4 y0 y1 y2 y3 y4
    have Hx2 := Lib.hid (show (ps.set j (x1 + 1, x2))[j]? = some (x1 + 1, x2) from by rw [List.getElem?_set_self hj])
    rintro W5 ⟨hR, hU, hX, hZz, hBb⟩
    obtain ⟨⟨u0, u1, u2, u3, u4⟩, ⟨f0, f1, f2, f3, f4⟩⟩ := hU.five
    have v0 : W5.cell? ⟨w2.heap.size + 1, 0, none⟩ = some (.int .i64 1) := by rw [hX.cell 0]; rfl
    have v1 : W5.cell? ⟨w2.heap.size + 1, 1, none⟩ = some (.int .i64 j) := by rw [hX.cell 1]; rfl
    have v2' : W5.cell? ⟨w2.heap.size + 1, 2, none⟩ = some (.int .i64 n) := by rw [hX.cell 2]; rfl
    obtain ⟨⟨e0, e1⟩, q0, q1, lgW5⟩ := hR.cells Hx2.out
    simp only at e0 e1
    obtain ⟨⟨z0, z1, z2, z3, z4⟩, ⟨y0, y1, y2, y3, y4⟩⟩ := hZz.five
    have luW5 := hU.lt
    have lxW5 := hX.lt
    have lzW5 := hZz.lt
    have HRW5 := Lib.hid hR
    have HUW5 := Lib.hid hU
    have HXW5 := Lib.hid hX
    have HZW5 := Lib.hid hZz
    have HBW5 := Lib.hid hBb
    clear hR hU hX hZz hBb
    obtain ⟨hS2, -⟩ := HRW5.out.setW (by simp) Hx2.out (x2 + n)
    have HS2 := Lib.hid hS2
    clear hS2
    go_region
    all_goals
      refine exit_at (fun W => RowsU W (w.heap.size + 2) (some ⟨gp, 0, none⟩) ps.length c1' A3 nm c3 (ps.set j (x1 + 1, x2 + n)) (ms.eraseIdx k) ∧ Blk W w2.heap.size 25 #[.int .i64 gr, .int .i64 (ou), .slice (some ⟨gp, 0, none⟩) ps.length c1', .slice A3 (nm) c3, .bool en] ∧ Blk W (w.heap.size + 1) 25 #[.int .i64 0, .int .i64 0, .slice none 0 0, .slice none 0 0, .bool false] ∧ Below w.heap.size w W)
        ⟨by have := HS2.out; simp only [List.set_set] at this; exact this.drew, (HUW5.out.far (p := ⟨gp, j * 2 + 1, none⟩) hupg _).drew, (HZW5.out.far (p := ⟨gp, j * 2 + 1, none⟩) hzg _).drew, (HBW5.out.setCell (p := ⟨gp, j * 2 + 1, none⟩) hgw _).drew⟩ ?_
      clear u0 u1 u2 u3 u4 f0 f1 f2 f3 f4 e0 e1 q0 q1 v0 v1 v2' z0 z1 z2 z3 z4 y0 y1 y2 y3 y4
      rintro W6 ⟨hR6, hU6, hz6, hb6⟩
      obtain ⟨⟨u0, u1, u2, u3, u4⟩, -⟩ := hU6.five
      have lu6 := hU6.lt
      go_wp2_with fail
      refine calls_at (fun W => ThrF (w.heap.size + 2) W (.agg #[.int .i64 gr, .int .i64 (ou), .slice (some ⟨gp, 0, none⟩) ps.length c1', .slice A3 (nm) c3, .bool en]) ⟨gr, ou, ps.set j (x1 + 1, x2 + n), ms.eraseIdx k, en⟩ ∧ Blk W (w.heap.size + 1) 25 #[.int .i64 0, .int .i64 0, .slice none 0 0, .slice none 0 0, .bool false] ∧ Below w.heap.size w W) ⟨hR6.thrF (by simp) Hmel.out _ _ _, hz6, hb6⟩ ?_
      rintro W5 ⟨hF5, hz5, hb5⟩
      obtain ⟨r, hr⟩ : ∃ r, r = Thr.fin ⟨gr, ou, ps.set j (x1 + 1, x2 + n), ms.eraseIdx k, en⟩ := ⟨_, rfl⟩
      have hf := Hf0.out.trans hr.symm
      have Hf := Lib.hid hf
      refine (told_calls r _ ⟨gr, ou, ps.set j (x1 + 1, x2 + n), ms.eraseIdx k, en⟩ _ W5 hr hF5 ⟨by (try simp only [List.length_set]); omega, by (try simp only [List.length_append, List.length_cons, List.length_nil]); have := Hmel.out; omega⟩).mono ?_
      obtain ⟨⟨gr', ou', ps', ms', en'⟩, n'⟩ := r
      rintro e w6 ⟨v6, rfl, hv6, hb6⟩
      have hv6' := hv6
      obtain ⟨J1, j1, J2, j2, rfl, -, -⟩ := hv6'
      have hz6 := hz5.below hb6 hz5.lt
      obtain ⟨⟨z0, z1, z2, z3, z4⟩, ⟨y0, y1, y2, y3, y4⟩⟩ := hz6.five
      have lz6 := hz6.lt
      have Hz6 := Lib.hid hz6
      have Hv6 := Lib.hid (hv6.lower (B' := w.heap.size) (by omega))
      have Hb6 := Lib.hid (hb5.trans (hb6.mono hb5.size))
      clear hf hr hF5 hz5 hb5 hv6 hb6 hz6
      go_wp2
      exact bodyPost_ret (v := .tuple #[.agg #[.int .i64 gr', .int .i64 ou', .slice J1 ps'.length j1, .slice J2 ms'.length j2, .bool en'], .int .i64 n']) (by simp [results, Try.results73, go_sem, *]) rfl
        ⟨_, by rw [Hf.out], by rw [Hf.out]; exact Hv6.out.set5 Hz6.out _ _ _ _ _, below_set5 Hb6.out (Nat.le_succ _) _ _ _ _ _⟩
  have n1b : (kd == 1) = false := by simpa using c1
  by_cases c2k : kd = 2
  · skip
    subst c2k
    have hn1' : 1 ≤ n := by have := Hle.out; omega
    have hsum := Hgd.out.sum
    have hwle := sum_mem_le (fun l : Int × Int × Int => l.2.2) ms Hgd.out.lw _ (List.mem_of_getElem? Hl.out)
    have hpn := sum_nonneg (fun x : Int × Int => x.2) ps Hgd.out.pw
    simp only [Thr.wsum, wsumL] at hsum hwle
    have hen : en = false := by
      cases he : en with
      | false => rfl
      | true =>
        have := Hgd.out.en (by simpa using he)
        simp only at this
        omega
    subst hen
    have hon : 0 ≤ ou - n := by omega
    clear hsum hwle hpn
    by_cases hz : ou - n = 0
    · skip
      have hz2 : ou = n := by omega
      subst hz2
      have Hf0 := Lib.hid (show deliverM ⟨gr, ou, ps, ms, false⟩ (k : Int) = Thr.fin ⟨gr, 0, ps, ms.eraseIdx k, true⟩ from by
        rw [Hdel.out, Thr.take, if_neg (by simp), if_pos rfl]
        simp only
        rw [show (ou - ou == 0) = true from by rw [Int.sub_self]; rfl]; rw [Int.sub_self])
      have hU1 : Blk (W4.setCell ⟨w2.heap.size, 1, none⟩ (.int .i64 (0))) w2.heap.size 25 #[.int .i64 gr, .int .i64 (0), .slice (some ⟨gp, 0, none⟩) ps.length c1', .slice A3 (nm) c3, .bool false] := by simpa using HUW4.out.set_ 1 (.int .i64 (0))
      have HU1 := Lib.hid hU1
      have HR1' := Lib.hid (HRW4.out.setU HUW4.out 1 (.int .i64 (0)))
      have HZ1' := Lib.hid (HZW4.out.far (p := ⟨w2.heap.size, 1, none⟩) (by show w.heap.size + 1 ≠ w2.heap.size; omega) (.int .i64 (0)))
      have HB1' := Lib.hid (HBW4.out.setCell (p := ⟨w2.heap.size, 1, none⟩) hw2 (.int .i64 (0)))
      clear hU1

      go_wp2_with fail
      refine calls_at (fun W => ThrF (w.heap.size + 2) W (.agg #[.int .i64 gr, .int .i64 (0), .slice (some ⟨gp, 0, none⟩) ps.length c1', .slice A3 (nm) c3, .bool true]) ⟨gr, 0, ps, ms.eraseIdx k, true⟩ ∧ Blk W (w.heap.size + 1) 25 #[.int .i64 0, .int .i64 0, .slice none 0 0, .slice none 0 0, .bool false] ∧ Below w.heap.size w W) ⟨(HR1'.out.setU HU1.out 4 _).thrF rfl Hmel.out _ _ _, HZ1'.out.far (p := ⟨w2.heap.size, 4, none⟩) (by show w.heap.size + 1 ≠ w2.heap.size; omega) _, HB1'.out.setCell (p := ⟨w2.heap.size, 4, none⟩) hw2 _⟩ ?_
      rintro W5 ⟨hF5, hz5, hb5⟩
      clear z0 z1 z2 z3 z4 y0 y1 y2 y3 y4
      obtain ⟨r, hr⟩ : ∃ r, r = Thr.fin ⟨gr, 0, ps, ms.eraseIdx k, true⟩ := ⟨_, rfl⟩
      have hf := Hf0.out.trans hr.symm
      have Hf := Lib.hid hf
      refine (told_calls r _ ⟨gr, 0, ps, ms.eraseIdx k, true⟩ _ W5 hr hF5 ⟨by (try simp only [List.length_set]); omega, by (try simp only [List.length_append, List.length_cons, List.length_nil]); have := Hmel.out; omega⟩).mono ?_
      obtain ⟨⟨gr', ou', ps', ms', en'⟩, n'⟩ := r
      rintro e w6 ⟨v6, rfl, hv6, hb6⟩
      have hv6' := hv6
      obtain ⟨J1, j1, J2, j2, rfl, -, -⟩ := hv6'
      have hz6 := hz5.below hb6 hz5.lt
      obtain ⟨⟨z0, z1, z2, z3, z4⟩, ⟨y0, y1, y2, y3, y4⟩⟩ := hz6.five
      have lz6 := hz6.lt
      have Hz6 := Lib.hid hz6
      have Hv6 := Lib.hid (hv6.lower (B' := w.heap.size) (by omega))
      have Hb6 := Lib.hid (hb5.trans (hb6.mono hb5.size))
      clear hf hr hF5 hz5 hb5 hv6 hb6 hz6
      go_wp2
      exact bodyPost_ret (v := .tuple #[.agg #[.int .i64 gr', .int .i64 ou', .slice J1 ps'.length j1, .slice J2 ms'.length j2, .bool en'], .int .i64 n']) (by simp [results, Try.results73, go_sem, *]) rfl
        ⟨_, by rw [Hf.out], by rw [Hf.out]; exact Hv6.out.set5 Hz6.out _ _ _ _ _, below_set5 Hb6.out (Nat.le_succ _) _ _ _ _ _⟩
    · skip
      have Hf0 := Lib.hid (show deliverM ⟨gr, ou, ps, ms, false⟩ (k : Int) = Thr.fin ⟨gr, ou - n, ps, ms.eraseIdx k, false⟩ from by
        rw [Hdel.out, Thr.take, if_neg (by simp), if_pos rfl]
        simp only
        rw [show (ou - n == 0) = false from by simpa using hz])
      have hzb : (ou - n == 0) = false := by simpa using hz
      have hzb2 : (ou == n) = false := beq_eq_false_iff_ne.2 (by omega)
      have hU1 : Blk (W4.setCell ⟨w2.heap.size, 1, none⟩ (.int .i64 (ou - n))) w2.heap.size 25 #[.int .i64 gr, .int .i64 (ou - n), .slice (some ⟨gp, 0, none⟩) ps.length c1', .slice A3 (nm) c3, .bool false] := by simpa using HUW4.out.set_ 1 (.int .i64 (ou - n))
      have HU1 := Lib.hid hU1
      have HR1' := Lib.hid (HRW4.out.setU HUW4.out 1 (.int .i64 (ou - n)))
      have HZ1' := Lib.hid (HZW4.out.far (p := ⟨w2.heap.size, 1, none⟩) (by show w.heap.size + 1 ≠ w2.heap.size; omega) (.int .i64 (ou - n)))
      have HB1' := Lib.hid (HBW4.out.setCell (p := ⟨w2.heap.size, 1, none⟩) hw2 (.int .i64 (ou - n)))
      clear hU1
      clear hz
      go_wp2_with fail
      refine calls_at (fun W => ThrF (w.heap.size + 2) W (.agg #[.int .i64 gr, .int .i64 (ou - n), .slice (some ⟨gp, 0, none⟩) ps.length c1', .slice A3 (nm) c3, .bool false]) ⟨gr, ou - n, ps, ms.eraseIdx k, false⟩ ∧ Blk W (w.heap.size + 1) 25 #[.int .i64 0, .int .i64 0, .slice none 0 0, .slice none 0 0, .bool false] ∧ Below w.heap.size w W) ⟨HR1'.out.thrF rfl Hmel.out _ _ _, HZ1'.out, HB1'.out⟩ ?_
      rintro W5 ⟨hF5, hz5, hb5⟩
      clear z0 z1 z2 z3 z4 y0 y1 y2 y3 y4
      obtain ⟨r, hr⟩ : ∃ r, r = Thr.fin ⟨gr, ou - n, ps, ms.eraseIdx k, false⟩ := ⟨_, rfl⟩
      have hf := Hf0.out.trans hr.symm
      have Hf := Lib.hid hf
      refine (told_calls r _ ⟨gr, ou - n, ps, ms.eraseIdx k, false⟩ _ W5 hr hF5 ⟨by (try simp only [List.length_set]); omega, by (try simp only [List.length_append, List.length_cons, List.length_nil]); have := Hmel.out; omega⟩).mono ?_
      obtain ⟨⟨gr', ou', ps', ms', en'⟩, n'⟩ := r
      rintro e w6 ⟨v6, rfl, hv6, hb6⟩
      have hv6' := hv6
      obtain ⟨J1, j1, J2, j2, rfl, -, -⟩ := hv6'
      have hz6 := hz5.below hb6 hz5.lt
      obtain ⟨⟨z0, z1, z2, z3, z4⟩, ⟨y0, y1, y2, y3, y4⟩⟩ := hz6.five
      have lz6 := hz6.lt
      have Hz6 := Lib.hid hz6
      have Hv6 := Lib.hid (hv6.lower (B' := w.heap.size) (by omega))
      have Hb6 := Lib.hid (hb5.trans (hb6.mono hb5.size))
      clear hf hr hF5 hz5 hb5 hv6 hb6 hz6
      go_wp2
      exact bodyPost_ret (v := .tuple #[.agg #[.int .i64 gr', .int .i64 ou', .slice J1 ps'.length j1, .slice J2 ms'.length j2, .bool en'], .int .i64 n']) (by simp [results, Try.results73, go_sem, *]) rfl
        ⟨_, by rw [Hf.out], by rw [Hf.out]; exact Hv6.out.set5 Hz6.out _ _ _ _ _, below_set5 Hb6.out (Nat.le_succ _) _ _ _ _ _⟩
  have n2b : (kd == 2) = false := by simpa using c2k
  by_cases c3k : kd = 3
  · skip
    subst c3k
    have n2b : ((3 : Int) == 2) = false := rfl
    clear n1b n2b c1 c2k
    by_cases ho : 0 < ou
    · skip
      have hob : decide (0 < ou) = true := decide_eq_true ho
      have Hf0 := Lib.hid (show deliverM ⟨gr, ou, ps, ms, en⟩ (k : Int) = Thr.fin ⟨gr, ou + gr, ps, ms.eraseIdx k ++ [(4, (j : Int), gr)], en⟩ from by
        rw [Hdel.out, Thr.take, if_neg (by simp), if_neg (by simp), if_pos rfl, if_pos ho]; rfl)
      have HUA : Hid (Blk (W4.setCell ⟨w2.heap.size, 1, none⟩ (.int .i64 (ou + gr))) w2.heap.size 25 #[.int .i64 gr, .int .i64 (ou + gr), .slice (some ⟨gp, 0, none⟩) ps.length c1', .slice A3 (nm) c3, .bool en]) := Lib.hid (by simpa using HUW4.out.set_ 1 (.int .i64 (ou + gr)))
      have HRA := Lib.hid (HRW4.out.setU HUW4.out 1 (.int .i64 (ou + gr)))
      have HZA := Lib.hid (HZW4.out.far (p := ⟨w2.heap.size, 1, none⟩) (by show w.heap.size + 1 ≠ w2.heap.size; omega) (.int .i64 (ou + gr)))
      have HBA := Lib.hid (HBW4.out.setCell (p := ⟨w2.heap.size, 1, none⟩) hw2 (.int .i64 (ou + gr)))
      have hmaxA : nm + 1 ≤ maxLen := by simp only [maxLen]; omega
      have hbyA : (nm + 1) * 24 ≤ 140737488355328 := by omega
      have hbn := Blk.new (W4.setCell ⟨w2.heap.size, 1, none⟩ (.int .i64 (ou + gr))) 54 #[.int .i64 4, .int .i64 j, .int .i64 gr]
      rw [show (W4.setCell ⟨w2.heap.size, 1, none⟩ (.int .i64 (ou + gr))).heap.size = W4.heap.size from by simp] at hbn
      have hb5A : w.heap.size + 2 ≤ ((W4.setCell ⟨w2.heap.size, 1, none⟩ (.int .i64 (ou + gr))).alloc (.cells #[.int .i64 4, .int .i64 j, .int .i64 gr] 54)).heap.size := by have := HBW4.out.size; simp; omega
      have HA := Lib.hid (And.intro hmaxA (And.intro hbyA (And.intro hb5A hbn)))
      clear hmaxA hbyA hb5A hbn
      go_wp2_with (at_builtin; refine wpList_append_own _ rfl (.tmp 98) (.tmp 104) 23 rfl (w.heap.size + 2) 54 i1 _ 3 24 Try.underlying23 Hj.out.1 Hj.out.2.1 Hj.out.2.2.1 Hj.out.2.2.2 rfl (by decide) (.slice A3 nm c3) nm ((ms.eraseIdx k).flatMap encL) rfl (HRA.out.2.alloc _) ⟨W4.heap.size, 0, none⟩ 1 1 [.int .i64 4, .int .i64 j, .int .i64 gr] rfl rfl (World.news_of_block HA.out.2.2.2) (one3 _ _ _) HA.out.1 HA.out.2.1 HA.out.2.2.1 ?_)
      intro mv' w8 hown hg _
      obtain ⟨A8, c8, rfl, hR8⟩ := RowsU.append (l := (4, (j : Int), gr)) HRA.out hg hown
      have hU8 := HRA.out.append_blk hg HUA.out (by decide)
      have hz8 := HRA.out.append_blk hg HZA.out (by decide)
      have hb8 := HRA.out.append_below hg HBA.out (by omega) HBA.out.size
      clear hown hg
      clear u0 u1 u2 u3 u4 f0 f1 f2 f3 f4 e0 e1 q0 q1 v0 v1 v2' z0 z1 z2 z3 z4 y0 y1 y2 y3 y4
      obtain ⟨⟨u0, u1, u2, u3, u4⟩, ⟨f0, f1, f2, f3, f4⟩⟩ := hU8.five
      have lu8 := hU8.lt
      have lz8 := hz8.lt
      obtain ⟨⟨z0, z1, z2, z3, z4⟩, ⟨y0, y1, y2, y3, y4⟩⟩ := hz8.five
      have HR8 := Lib.hid hR8
      have HU8 := Lib.hid hU8
      have HZ8 := Lib.hid hz8
      have HB8 := Lib.hid hb8
      clear hR8 hU8 hz8 hb8
      go_wp2_with fail
      refine calls_at (fun W => ThrF (w.heap.size + 2) W (.agg #[.int .i64 gr, .int .i64 (ou + gr), .slice (some ⟨gp, 0, none⟩) ps.length c1', .slice A8 (nm + 1) c8, .bool en]) ⟨gr, ou + gr, ps, ms.eraseIdx k ++ [(4, (j : Int), gr)], en⟩ ∧ Blk W (w.heap.size + 1) 25 #[.int .i64 0, .int .i64 0, .slice none 0 0, .slice none 0 0, .bool false] ∧ Below w.heap.size w W) ⟨(HR8.out.setU HU8.out 3 _).thrF rfl (by rw [List.length_append, Hmel.out]; rfl) _ _ _, HZ8.out.far (p := ⟨w2.heap.size, 3, none⟩) (by show w.heap.size + 1 ≠ w2.heap.size; omega) _, HB8.out.setCell (p := ⟨w2.heap.size, 3, none⟩) hw2 _⟩ ?_
      rintro W5 ⟨hF5, hz5, hb5⟩
      clear z0 z1 z2 z3 z4 y0 y1 y2 y3 y4
      obtain ⟨r, hr⟩ : ∃ r, r = Thr.fin ⟨gr, ou + gr, ps, ms.eraseIdx k ++ [(4, (j : Int), gr)], en⟩ := ⟨_, rfl⟩
      have hf := Hf0.out.trans hr.symm
      have Hf := Lib.hid hf
      refine (told_calls r _ ⟨gr, ou + gr, ps, ms.eraseIdx k ++ [(4, (j : Int), gr)], en⟩ _ W5 hr hF5 ⟨by (try simp only [List.length_set]); omega, by (try simp only [List.length_append, List.length_cons, List.length_nil]); have := Hmel.out; omega⟩).mono ?_
      obtain ⟨⟨gr', ou', ps', ms', en'⟩, n'⟩ := r
      rintro e w6 ⟨v6, rfl, hv6, hb6⟩
      have hv6' := hv6
      obtain ⟨J1, j1, J2, j2, rfl, -, -⟩ := hv6'
      have hz6 := hz5.below hb6 hz5.lt
      obtain ⟨⟨z0, z1, z2, z3, z4⟩, ⟨y0, y1, y2, y3, y4⟩⟩ := hz6.five
      have lz6 := hz6.lt
      have Hz6 := Lib.hid hz6
      have Hv6 := Lib.hid (hv6.lower (B' := w.heap.size) (by omega))
      have Hb6 := Lib.hid (hb5.trans (hb6.mono hb5.size))
      clear hf hr hF5 hz5 hb5 hv6 hb6 hz6
      go_wp2
      exact bodyPost_ret (v := .tuple #[.agg #[.int .i64 gr', .int .i64 ou', .slice J1 ps'.length j1, .slice J2 ms'.length j2, .bool en'], .int .i64 n']) (by simp [results, Try.results73, go_sem, *]) rfl
        ⟨_, by rw [Hf.out], by rw [Hf.out]; exact Hv6.out.set5 Hz6.out _ _ _ _ _, below_set5 Hb6.out (Nat.le_succ _) _ _ _ _ _⟩
    · skip
      have hob : decide (0 < ou) = false := decide_eq_false ho
      have Hf0 := Lib.hid (show deliverM ⟨gr, ou, ps, ms, en⟩ (k : Int) = Thr.fin ⟨gr, ou, ps, ms.eraseIdx k, en⟩ from by
        rw [Hdel.out, Thr.take, if_neg (by simp), if_neg (by simp), if_pos rfl, if_neg ho])
      go_wp2_with fail
      refine calls_at (fun W => ThrF (w.heap.size + 2) W (.agg #[.int .i64 gr, .int .i64 (ou), .slice (some ⟨gp, 0, none⟩) ps.length c1', .slice A3 (nm) c3, .bool en]) ⟨gr, ou, ps, ms.eraseIdx k, en⟩ ∧ Blk W (w.heap.size + 1) 25 #[.int .i64 0, .int .i64 0, .slice none 0 0, .slice none 0 0, .bool false] ∧ Below w.heap.size w W) ⟨HRW4.out.thrF rfl Hmel.out _ _ _, HZW4.out, HBW4.out⟩ ?_
      rintro W5 ⟨hF5, hz5, hb5⟩
      clear z0 z1 z2 z3 z4 y0 y1 y2 y3 y4
      obtain ⟨r, hr⟩ : ∃ r, r = Thr.fin ⟨gr, ou, ps, ms.eraseIdx k, en⟩ := ⟨_, rfl⟩
      have hf := Hf0.out.trans hr.symm
      have Hf := Lib.hid hf
      refine (told_calls r _ ⟨gr, ou, ps, ms.eraseIdx k, en⟩ _ W5 hr hF5 ⟨by (try simp only [List.length_set]); omega, by (try simp only [List.length_append, List.length_cons, List.length_nil]); have := Hmel.out; omega⟩).mono ?_
      obtain ⟨⟨gr', ou', ps', ms', en'⟩, n'⟩ := r
      rintro e w6 ⟨v6, rfl, hv6, hb6⟩
      have hv6' := hv6
      obtain ⟨J1, j1, J2, j2, rfl, -, -⟩ := hv6'
      have hz6 := hz5.below hb6 hz5.lt
      obtain ⟨⟨z0, z1, z2, z3, z4⟩, ⟨y0, y1, y2, y3, y4⟩⟩ := hz6.five
      have lz6 := hz6.lt
      have Hz6 := Lib.hid hz6
      have Hv6 := Lib.hid (hv6.lower (B' := w.heap.size) (by omega))
      have Hb6 := Lib.hid (hb5.trans (hb6.mono hb5.size))
      clear hf hr hF5 hz5 hb5 hv6 hb6 hz6
      go_wp2
      exact bodyPost_ret (v := .tuple #[.agg #[.int .i64 gr', .int .i64 ou', .slice J1 ps'.length j1, .slice J2 ms'.length j2, .bool en'], .int .i64 n']) (by simp [results, Try.results73, go_sem, *]) rfl
        ⟨_, by rw [Hf.out], by rw [Hf.out]; exact Hv6.out.set5 Hz6.out _ _ _ _ _, below_set5 Hb6.out (Nat.le_succ _) _ _ _ _ _⟩
  have c4k : kd = 4 := by have := Hle.out; omega
  subst c4k
  clear n1b n2b c1 c2k c3k
  by_cases hx0 : x1 = 0
  · skip
    have hxd : decide (0 < x1) = false := decide_eq_false (by omega)
    have Hf0 := Lib.hid (show deliverM ⟨gr, ou, ps, ms, en⟩ (k : Int) = Thr.fin ⟨gr, ou, ps, ms.eraseIdx k ++ [(2, 0, n)], en⟩ from by
      rw [Hdel.out, Thr.take, if_neg (by simp), if_neg (by simp), if_neg (by simp), if_pos rfl, Htk.out, if_pos hx0]; rfl)
    have HUA := HUW4
    have HRA := HRW4
    have HZA := HZW4
    have HBA := HBW4
    have hmaxA : nm + 1 ≤ maxLen := by simp only [maxLen]; omega
    have hbyA : (nm + 1) * 24 ≤ 140737488355328 := by omega
    have hbn := Blk.new (W4) 54 #[.int .i64 2, .int .i64 0, .int .i64 n]
    rw [show (W4).heap.size = W4.heap.size from by simp] at hbn
    have hb5A : w.heap.size + 2 ≤ ((W4).alloc (.cells #[.int .i64 2, .int .i64 0, .int .i64 n] 54)).heap.size := by have := HBW4.out.size; simp; omega
    have HA := Lib.hid (And.intro hmaxA (And.intro hbyA (And.intro hb5A hbn)))
    clear hmaxA hbyA hb5A hbn
    go_wp2_with (at_builtin; refine wpList_append_own _ rfl (.tmp 130) (.tmp 134) 23 rfl (w.heap.size + 2) 54 i1 _ 3 24 Try.underlying23 Hj.out.1 Hj.out.2.1 Hj.out.2.2.1 Hj.out.2.2.2 rfl (by decide) (.slice A3 nm c3) nm ((ms.eraseIdx k).flatMap encL) rfl (HRA.out.2.alloc _) ⟨W4.heap.size, 0, none⟩ 1 1 [.int .i64 2, .int .i64 0, .int .i64 n] rfl rfl (World.news_of_block HA.out.2.2.2) (one3 _ _ _) HA.out.1 HA.out.2.1 HA.out.2.2.1 ?_)
    intro mv' w8 hown hg _
    obtain ⟨A8, c8, rfl, hR8⟩ := RowsU.append (l := (2, 0, n)) HRA.out hg hown
    have hU8 := HRA.out.append_blk hg HUA.out (by decide)
    have hz8 := HRA.out.append_blk hg HZA.out (by decide)
    have hb8 := HRA.out.append_below hg HBA.out (by omega) HBA.out.size
    clear hown hg
    clear u0 u1 u2 u3 u4 f0 f1 f2 f3 f4 e0 e1 q0 q1 v0 v1 v2' z0 z1 z2 z3 z4 y0 y1 y2 y3 y4
    obtain ⟨⟨u0, u1, u2, u3, u4⟩, ⟨f0, f1, f2, f3, f4⟩⟩ := hU8.five
    have lu8 := hU8.lt
    have lz8 := hz8.lt
    obtain ⟨⟨z0, z1, z2, z3, z4⟩, ⟨y0, y1, y2, y3, y4⟩⟩ := hz8.five
    have HR8 := Lib.hid hR8
    have HU8 := Lib.hid hU8
    have HZ8 := Lib.hid hz8
    have HB8 := Lib.hid hb8
    clear hR8 hU8 hz8 hb8
    go_wp2_with fail
    refine calls_at (fun W => ThrF (w.heap.size + 2) W (.agg #[.int .i64 gr, .int .i64 (ou), .slice (some ⟨gp, 0, none⟩) ps.length c1', .slice A8 (nm + 1) c8, .bool en]) ⟨gr, ou, ps, ms.eraseIdx k ++ [(2, 0, n)], en⟩ ∧ Blk W (w.heap.size + 1) 25 #[.int .i64 0, .int .i64 0, .slice none 0 0, .slice none 0 0, .bool false] ∧ Below w.heap.size w W) ⟨(HR8.out.setU HU8.out 3 _).thrF rfl (by rw [List.length_append, Hmel.out]; rfl) _ _ _, HZ8.out.far (p := ⟨w2.heap.size, 3, none⟩) (by show w.heap.size + 1 ≠ w2.heap.size; omega) _, HB8.out.setCell (p := ⟨w2.heap.size, 3, none⟩) hw2 _⟩ ?_
    rintro W5 ⟨hF5, hz5, hb5⟩
    clear z0 z1 z2 z3 z4 y0 y1 y2 y3 y4
    obtain ⟨r, hr⟩ : ∃ r, r = Thr.fin ⟨gr, ou, ps, ms.eraseIdx k ++ [(2, 0, n)], en⟩ := ⟨_, rfl⟩
    have hf := Hf0.out.trans hr.symm
    have Hf := Lib.hid hf
    refine (told_calls r _ ⟨gr, ou, ps, ms.eraseIdx k ++ [(2, 0, n)], en⟩ _ W5 hr hF5 ⟨by (try simp only [List.length_set]); omega, by (try simp only [List.length_append, List.length_cons, List.length_nil]); have := Hmel.out; omega⟩).mono ?_
    obtain ⟨⟨gr', ou', ps', ms', en'⟩, n'⟩ := r
    rintro e w6 ⟨v6, rfl, hv6, hb6⟩
    have hv6' := hv6
    obtain ⟨J1, j1, J2, j2, rfl, -, -⟩ := hv6'
    have hz6 := hz5.below hb6 hz5.lt
    obtain ⟨⟨z0, z1, z2, z3, z4⟩, ⟨y0, y1, y2, y3, y4⟩⟩ := hz6.five
    have lz6 := hz6.lt
    have Hz6 := Lib.hid hz6
    have Hv6 := Lib.hid (hv6.lower (B' := w.heap.size) (by omega))
    have Hb6 := Lib.hid (hb5.trans (hb6.mono hb5.size))
    clear hf hr hF5 hz5 hb5 hv6 hb6 hz6
    go_wp2
    exact bodyPost_ret (v := .tuple #[.agg #[.int .i64 gr', .int .i64 ou', .slice J1 ps'.length j1, .slice J2 ms'.length j2, .bool en'], .int .i64 n']) (by simp [results, Try.results73, go_sem, *]) rfl
      ⟨_, by rw [Hf.out], by rw [Hf.out]; exact Hv6.out.set5 Hz6.out _ _ _ _ _, below_set5 Hb6.out (Nat.le_succ _) _ _ _ _ _⟩
  · skip
    have hxd : decide (0 < x1) = true := decide_eq_true (by omega)
    have Hf0 := Lib.hid (show deliverM ⟨gr, ou, ps, ms, en⟩ (k : Int) = Thr.fin ⟨gr, ou, ps.set j (x1, x2 + n), ms.eraseIdx k, en⟩ from by
      rw [Hdel.out, Thr.take, if_neg (by simp), if_neg (by simp), if_neg (by simp), if_pos rfl, Htk.out, if_neg hx0, Int.toNat_natCast]; rfl)
    obtain ⟨hS2, -⟩ := HRW4.out.setW rfl Hx.out (x2 + n)
    have HS2 := Lib.hid hS2
    clear hS2
    go_wp2_with fail
    go_region
    all_goals
      refine exit_at (fun W => RowsU W (w.heap.size + 2) (some ⟨gp, 0, none⟩) ps.length c1' A3 nm c3 (ps.set j (x1, x2 + n)) (ms.eraseIdx k) ∧ Blk W w2.heap.size 25 #[.int .i64 gr, .int .i64 (ou), .slice (some ⟨gp, 0, none⟩) ps.length c1', .slice A3 (nm) c3, .bool en] ∧ Blk W (w.heap.size + 1) 25 #[.int .i64 0, .int .i64 0, .slice none 0 0, .slice none 0 0, .bool false] ∧ Below w.heap.size w W)
        ⟨HS2.out.drew, (HUW4.out.far (p := ⟨gp, j * 2 + 1, none⟩) hupg _).drew, (HZW4.out.far (p := ⟨gp, j * 2 + 1, none⟩) hzg _).drew, (HBW4.out.setCell (p := ⟨gp, j * 2 + 1, none⟩) hgw _).drew⟩ ?_
      clear u0 u1 u2 u3 u4 f0 f1 f2 f3 f4 e0 e1 q0 q1 v0 v1 v2' z0 z1 z2 z3 z4 y0 y1 y2 y3 y4
      rintro W6 ⟨hR6, hU6, hz6, hb6⟩
      obtain ⟨⟨u0, u1, u2, u3, u4⟩, -⟩ := hU6.five
      have lu6 := hU6.lt
      go_wp2_with fail
      refine calls_at (fun W => ThrF (w.heap.size + 2) W (.agg #[.int .i64 gr, .int .i64 (ou), .slice (some ⟨gp, 0, none⟩) ps.length c1', .slice A3 (nm) c3, .bool en]) ⟨gr, ou, ps.set j (x1, x2 + n), ms.eraseIdx k, en⟩ ∧ Blk W (w.heap.size + 1) 25 #[.int .i64 0, .int .i64 0, .slice none 0 0, .slice none 0 0, .bool false] ∧ Below w.heap.size w W) ⟨hR6.thrF (by simp) Hmel.out _ _ _, hz6, hb6⟩ ?_
      rintro W5 ⟨hF5, hz5, hb5⟩
      obtain ⟨r, hr⟩ : ∃ r, r = Thr.fin ⟨gr, ou, ps.set j (x1, x2 + n), ms.eraseIdx k, en⟩ := ⟨_, rfl⟩
      have hf := Hf0.out.trans hr.symm
      have Hf := Lib.hid hf
      refine (told_calls r _ ⟨gr, ou, ps.set j (x1, x2 + n), ms.eraseIdx k, en⟩ _ W5 hr hF5 ⟨by (try simp only [List.length_set]); omega, by (try simp only [List.length_append, List.length_cons, List.length_nil]); have := Hmel.out; omega⟩).mono ?_
      obtain ⟨⟨gr', ou', ps', ms', en'⟩, n'⟩ := r
      rintro e w6 ⟨v6, rfl, hv6, hb6⟩
      have hv6' := hv6
      obtain ⟨J1, j1, J2, j2, rfl, -, -⟩ := hv6'
      have hz6 := hz5.below hb6 hz5.lt
      obtain ⟨⟨z0, z1, z2, z3, z4⟩, ⟨y0, y1, y2, y3, y4⟩⟩ := hz6.five
      have lz6 := hz6.lt
      have Hz6 := Lib.hid hz6
      have Hv6 := Lib.hid (hv6.lower (B' := w.heap.size) (by omega))
      have Hb6 := Lib.hid (hb5.trans (hb6.mono hb5.size))
      clear hf hr hF5 hz5 hb5 hv6 hb6 hz6
      go_wp2
      exact bodyPost_ret (v := .tuple #[.agg #[.int .i64 gr', .int .i64 ou', .slice J1 ps'.length j1, .slice J2 ms'.length j2, .bool en'], .int .i64 n']) (by simp [results, Try.results73, go_sem, *]) rfl
        ⟨_, by rw [Hf.out], by rw [Hf.out]; exact Hv6.out.set5 Hz6.out _ _ _ _ _, below_set5 Hb6.out (Nat.le_succ _) _ _ _ _ _⟩
end Go.Proofs.Ythdlmnkefheliaa
