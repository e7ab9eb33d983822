import Derived.Test.YthdlmnkefheliaaD8
import Derived.RegionTactic
import Derived.ChangeAlike
import Derived.Deep.RegionWith
set_option linter.unusedVariables false
set_option linter.unusedSimpArgs false
namespace Go.Proofs.Ythdlmnkefheliaa
open Go.RowKit
theorem own_lower {w : World} {b b' e s n : Nat} {v : Value} {xs : List Value} (h : w.ownsRow b e s v n xs) (hb : b' ≤ b) : w.ownsRow b' e s v n xs := by
  obtain ⟨h1, h2⟩ := h
  refine ⟨h1, ?_⟩
  rcases h2 with h2 | ⟨g, cap, cur, hv, hg, r⟩
  · exact .inl h2
  · exact .inr ⟨g, cap, cur, hv, by omega, r⟩

def Tcells (t : Thr) (pv mv : Value) : Array Value := #[.int .i64 t.grain, .int .i64 t.out, pv, mv, .bool t.ended]
def BegunT (t : Thr) (w : World) (e : Ending) (w' : World) : Prop :=
  ∃ p pv mv, e = .returned (.tuple #[.pointer (some ⟨p, 0, none⟩), .int .i64 0]) ∧ ThrB w' w.heap.size p pv mv t ∧ Below w.heap.size w w'

set_option maxHeartbeats 2000000 in
theorem begun_bad (t : Thr) (v q : Value) (w : World) (hv : ThrV w v t) (hl : t.Lens) (hok : ¬ t.ok = true) :
    Calls Try.prog 63 #[v, q] w fun e w' => e = .returned (.tuple #[.pointer none, .int .i64 280]) ∧ Below w.heap.size w w' := by
  have hv0 := hv
  obtain ⟨gr, ou, ps, ms, en⟩ := t
  obtain ⟨A1, c1, A2, c2, rfl, k1, k2, k3, k4, k5, k6⟩ := hv
  clear k1 k2 k3 k4 k5 k6
  simp only at hv0 ⊢
  have Hc := Lib.hid (Thr.check_f hok); clear hok
  have HL := Lib.hid hl; clear hl
  have HV := Lib.hid hv0; clear hv0
  go_enter Try.func63, Try.ntmps63
  go_wp2_with fail
  refine (check_calls ⟨gr, ou, ps, ms, en⟩ _ _ (HV.out.below ((Below.refl _ _).alloc (Nat.le_refl _) _) (Nat.le_refl _)) HL.out).mono ?_
  rintro e w2 ⟨rfl, hb⟩
  rw [Hc.out]
  have Hb := Lib.hid hb; clear hb
  go_wp2
  go_ret2
  exact ⟨rfl, below_tr ((Below.refl _ _).alloc (Nat.le_refl _) _) Hb.out⟩

def inRange (n : Nat) (q : Int) : Bool := bd 0 ((n : Int) - 1) q

set_option maxHeartbeats 4000000 in
theorem begun_good (t : Thr) (v : Value) (A : Option Addr) (c : Nat) (qs : List Int) (w : World) (hv : ThrV w v t) (hl : t.Lens) (hok : t.ok = true) (hq : Rd w A (qs.flatMap encI)) (hql : qs.length ≤ 100)
    (hqs : ∀ q ∈ qs, inRange t.procs.length q = true) :
    Calls Try.prog 63 #[v, .slice A qs.length c] w (BegunT t w) := by
  have hv0 := hv
  obtain ⟨gr, ou, ps, ms, en⟩ := t
  obtain ⟨A1, c1, A2, c2, rfl, k1, k2, k3, k4, k5, k6⟩ := hv
  obtain ⟨hl1, hl2⟩ := hl
  simp only at hv0 hl1 hl2 k1 k2 k3 k4 k5 k6 hqs
  obtain ⟨W0, hW0⟩ : ∃ W0, W0 = w.alloc (.cells #[.int .i64 gr, .int .i64 ou, .slice A1 ps.length c1, .slice A2 ms.length c2, .bool en] 25) := ⟨_, rfl⟩
  have hB0 : Below w.heap.size w W0 := by rw [hW0]; exact (Below.refl _ _).alloc (Nat.le_refl _) _
  have hz : Blk W0 w.heap.size 25 #[.int .i64 gr, .int .i64 ou, .slice A1 ps.length c1, .slice A2 ms.length c2, .bool en] := by rw [hW0]; exact Blk.new _ _ _
  have HV := Lib.hid (hv0.below hB0 (Nat.le_refl _)); clear hv0
  have HR1 := Lib.hid (k3.below hB0 (Nat.le_refl _)); clear k3
  have HR2 := Lib.hid (k6.below hB0 (Nat.le_refl _)); clear k6
  have HQ := Lib.hid (hq.below hB0 (Nat.le_refl _)); clear hq
  have HQS := Lib.hid hqs; clear hqs
  have K2 := Lib.hid k2; clear k2
  have K5 := Lib.hid k5; clear k5
  have hsz := hz.lt
  have HZ := Lib.hid hz; clear hz
  have HB0 := Lib.hid hB0; clear hB0
  have HW := Lib.hid hW0; clear hW0
  have Hc := Lib.hid (Thr.check_t hok); clear hok
  go_enter Try.func63, Try.ntmps63
  go_wp2_with fail
  rw [← HW.out]
  refine (check_calls ⟨gr, ou, ps, ms, en⟩ _ _ HV.out ⟨hl1, hl2⟩).mono ?_
  rintro e w2 ⟨rfl, hb⟩
  rw [Hc.out]
  have hz := HZ.out.below hb hsz
  obtain ⟨⟨z0, z1, z2, z3, z4⟩, -⟩ := hz.five
  have HZ2 := Lib.hid hz; clear hz
  have Hb := Lib.hid hb; clear hb
  go_wp2
  go_loop [16] (fun i => ∃ k : Nat, k ≤ qs.length ∧ i = .int .i64 k) (fun i => qs.length - (intOf i).toNat)
  case atStart => exact ⟨0, Nat.zero_le _, rfl⟩
  case round =>
    obtain ⟨k, hk, rfl⟩ := hrel
    by_cases hlt : k < qs.length
    · obtain ⟨x, hx⟩ : ∃ x, qs[k]? = some x := ⟨_, List.getElem?_eq_getElem hlt⟩
      obtain ⟨g, off, rfl, e0⟩ := Rd.atI (HQ.out.below Hb.out (Nat.le_refl _)) hx
      have hxr := HQS.out x (List.mem_of_getElem? hx)
      have Hx := Lib.hid hxr; clear hxr hx
      go_wp2_with (go_at_call 51; refine (bd_calls _ _ _ _ Hx.out _).mono ?_; rintro e w' ⟨rfl, rfl⟩)
      go_round
      case rel => exact ⟨k + 1, by omega, by go_num⟩
      case measure => simp [intOf]; omega
    · have hke : k = qs.length := by omega
      subst hke
      go_wp2
      have hbd : Below W0.heap.size W0 w2.drew := Hb.out.drew
      obtain ⟨⟨y0, y1, y2, y3, y4⟩, -⟩ := (show Blk w2.drew _ _ _ from HZ2.out).five
      have Hbd := Lib.hid hbd; clear hbd
      go_region_with (first
        | (go_at_call 86
           first
             | (with_reducible refine (cloneH_calls ps A1 c1 _ hl1 k1 K2.out.2 (HR1.out.below Hbd.out (Nat.le_refl _))).mono ?_)
             | (with_reducible refine (cloneH_calls ps A1 c1 _ hl1 k1 K2.out.2 (HR1.out.below HbL.out (Nat.le_refl _))).mono ?_)
           rintro e w3 ⟨v1, rfl, ho1, hb1⟩
           obtain ⟨A1', c1', rfl⟩ := own_slice ho1
           have HbH := Lib.hid (show Below W0.heap.size W0 w3 from by first | exact Hbd.out.trans (hb1.mono Hbd.out.size) | exact HbL.out.trans (hb1.mono HbL.out.size))
           have HoH := Lib.hid (own_lower ho1 (show W0.heap.size ≤ _ from by first | exact Hbd.out.size | exact HbL.out.size))
           try have HoL := Lib.hid (own_below HoL.out hb1 (Nat.le_refl _))
           obtain ⟨⟨u0, u1, u2, u3, u4⟩, ⟨t0, t1, t2, t3, t4⟩⟩ := (HZ.out.below HbH.out hsz).five
           clear ho1 hb1)
        | (go_at_call 87
           first
             | (with_reducible refine (cloneL_calls ms A2 c2 _ hl2 k4 K5.out.2 (HR2.out.below Hbd.out (Nat.le_refl _))).mono ?_)
             | (with_reducible refine (cloneL_calls ms A2 c2 _ hl2 k4 K5.out.2 (HR2.out.below HbH.out (Nat.le_refl _))).mono ?_)
           rintro e w4 ⟨v2, rfl, ho2, hb2⟩
           obtain ⟨A2', c2', rfl⟩ := own_slice ho2
           have HbL := Lib.hid (show Below W0.heap.size W0 w4 from by first | exact Hbd.out.trans (hb2.mono Hbd.out.size) | exact HbH.out.trans (hb2.mono HbH.out.size))
           have HoL := Lib.hid (own_lower ho2 (show W0.heap.size ≤ _ from by first | exact Hbd.out.size | exact HbH.out.size))
           try have HoH := Lib.hid (own_below HoH.out hb2 (Nat.le_refl _))
           obtain ⟨⟨q0, q1, q2, q3, q4⟩, ⟨r0, r1, r2, r3, r4⟩⟩ := (HZ.out.below HbL.out hsz).five
           clear ho2 hb2))
      all_goals
        have Hbk := Lib.hid (HZ.out.below HbL.out hsz)
        have hple : w.heap.size ≤ w4.heap.size := Nat.le_trans (Nat.le_of_lt hsz) HbL.out.size
        go_wp2
        go_ret2
        refine ⟨w4.heap.size, .slice A1' ps.length c1', .slice A2' ms.length c2', rfl, ⟨hple, ?_, ?_, ?_⟩, ?_⟩
        · have := Blk.new ((w4.setCell ⟨w.heap.size, 2, none⟩ (.slice A1' ps.length c1')).setCell ⟨w.heap.size, 3, none⟩ (.slice A2' ms.length c2')) 84 #[.int .i64 gr, .int .i64 ou, .slice A1' ps.length c1', .slice A2' ms.length c2', .bool en]
          simpa [World.setCell] using this
        · exact (own_set_far (own_set_far (own_lower HoH.out (Nat.le_of_lt hsz)) Hbk.out (by decide) _ _) (Hbk.out.set_ 2 _) (by decide) _ _).alloc _
        · exact (own_set_far (own_set_far (own_lower HoL.out (Nat.le_of_lt hsz)) Hbk.out (by decide) _ _) (Hbk.out.set_ 2 _) (by decide) _ _).alloc _
        · exact (((HB0.out.trans (HbL.out.mono (Nat.le_of_lt hsz))).setCell (Nat.le_refl _) _).setCell (Nat.le_refl _) _).alloc (by simpa [World.setCell] using hple) _

set_option maxHeartbeats 4000000 in
theorem begun_out (t : Thr) (v : Value) (A : Option Addr) (c : Nat) (qs : List Int) (w : World) (hv : ThrV w v t) (hl : t.Lens) (hok : t.ok = true) (hq : Rd w A (qs.flatMap encI)) (hql : qs.length ≤ 100)
    (hqs : ¬ ∀ q ∈ qs, inRange t.procs.length q = true) :
    Calls Try.prog 63 #[v, .slice A qs.length c] w fun e w' => e = .returned (.tuple #[.pointer none, .int .i64 1]) ∧ Below w.heap.size w w' := by
  have hv0 := hv
  obtain ⟨gr, ou, ps, ms, en⟩ := t
  obtain ⟨A1, c1, A2, c2, rfl, k1, k2, k3, k4, k5, k6⟩ := hv
  obtain ⟨hl1, hl2⟩ := hl
  simp only at hv0 hl1 hl2 k1 k2 k3 k4 k5 k6 hqs
  clear k1 k2 k3 k4 k5 k6
  obtain ⟨W0, hW0⟩ : ∃ W0, W0 = w.alloc (.cells #[.int .i64 gr, .int .i64 ou, .slice A1 ps.length c1, .slice A2 ms.length c2, .bool en] 25) := ⟨_, rfl⟩
  have hB0 : Below w.heap.size w W0 := by rw [hW0]; exact (Below.refl _ _).alloc (Nat.le_refl _) _
  have hz : Blk W0 w.heap.size 25 #[.int .i64 gr, .int .i64 ou, .slice A1 ps.length c1, .slice A2 ms.length c2, .bool en] := by rw [hW0]; exact Blk.new _ _ _
  have HV := Lib.hid (hv0.below hB0 (Nat.le_refl _)); clear hv0
  have HQ := Lib.hid (hq.below hB0 (Nat.le_refl _)); clear hq
  have HQS := Lib.hid hqs; clear hqs
  have hsz := hz.lt
  have HZ := Lib.hid hz; clear hz
  have HB0 := Lib.hid hB0; clear hB0
  have HW := Lib.hid hW0; clear hW0
  have Hc := Lib.hid (Thr.check_t hok); clear hok
  go_enter Try.func63, Try.ntmps63
  go_wp2_with fail
  rw [← HW.out]
  refine (check_calls ⟨gr, ou, ps, ms, en⟩ _ _ HV.out ⟨hl1, hl2⟩).mono ?_
  rintro e w2 ⟨rfl, hb⟩
  rw [Hc.out]
  have hz := HZ.out.below hb hsz
  obtain ⟨⟨z0, z1, z2, z3, z4⟩, -⟩ := hz.five
  clear hz
  have Hb := Lib.hid hb; clear hb
  go_wp2
  go_loop [16] (fun i => ∃ k : Nat, k ≤ qs.length ∧ i = .int .i64 k ∧ ∀ j q, j < k → qs[j]? = some q → inRange ps.length q = true) (fun i => qs.length - (intOf i).toNat)
  case atStart => exact ⟨0, Nat.zero_le _, rfl, fun j q hj => absurd hj (by omega)⟩
  case round =>
    obtain ⟨k, hk, rfl, hpre⟩ := hrel
    have Hpre := Lib.hid hpre; clear hpre
    by_cases hlt : k < qs.length
    · obtain ⟨x, hx⟩ : ∃ x, qs[k]? = some x := ⟨_, List.getElem?_eq_getElem hlt⟩
      obtain ⟨g, off, rfl, e0⟩ := Rd.atI (HQ.out.below Hb.out (Nat.le_refl _)) hx
      have Hk := Lib.hid hx; clear hx
      rcases hxr : inRange ps.length x with _ | _
      · have Hx := Lib.hid hxr; clear hxr
        go_wp2_with (go_at_call 51; refine (bd_calls _ _ _ _ Hx.out _).mono ?_; rintro e w' ⟨rfl, rfl⟩)
        go_ret2
        exact ⟨rfl, HB0.out.trans (Hb.out.mono (Nat.le_of_lt hsz))⟩
      · have Hx := Lib.hid hxr; clear hxr
        go_wp2_with (go_at_call 51; refine (bd_calls _ _ _ _ Hx.out _).mono ?_; rintro e w' ⟨rfl, rfl⟩)
        go_round
        case rel => exact ⟨k + 1, by omega, by go_num, fun j q hj hjq => by
          rcases Nat.lt_or_ge j k with h1 | h1
          · exact Hpre.out j q h1 hjq
          · have : j = k := by omega
            subst this
            have hxx := Hk.out
            rw [hjq] at hxx
            injection hxx with hxx
            rw [hxx]; exact Hx.out⟩
        case measure => simp [intOf]; omega
    · exfalso
      have hke : k = qs.length := by omega
      subst hke
      refine HQS.out fun q hq => ?_
      obtain ⟨j, hj⟩ := List.mem_iff_getElem?.1 hq
      exact Hpre.out j q (List.getElem?_eq_some_iff.1 hj).1 hj
end Go.Proofs.Ythdlmnkefheliaa
