import Derived.Test.YthdlmnkefheliaaR4
import Derived.Test.YthdlmnkefheliaaD35
import Derived.Test.YthdlmnkefheliaaP7
import Derived.Test.YthdlmnkefheliaaD33
set_option linter.unusedVariables false
set_option linter.unusedSimpArgs false
namespace Go.Proofs.Ythdlmnkefheliaa
open Go.RowKit

/-- Same, of two values that read as one state. -/
theorem same_calls (t : Thr) (va vb : Value) (w : World) (hva : ThrV w va t) (hvb : ThrV w vb t) (hl : t.Lens) :
    Calls Try.prog 19 #[va, vb] w fun e w' => e = .returned (.bool true) ∧ Below w.heap.size w w' := by
  obtain ⟨gr, ou, ps, ms, en⟩ := t
  obtain ⟨A1, c1, A2, c2, rfl, -, -, h1, -, -, h2⟩ := hva
  obtain ⟨B1, d1, B2, d2, rfl, -, -, h3, -, -, h4⟩ := hvb
  obtain ⟨hl1, hl2⟩ := hl
  simp only at h1 h2 h3 h4 hl1 hl2 ⊢
  obtain ⟨W0, hW0⟩ : ∃ W0, W0 = ((w.alloc (.cells #[.int .i64 gr, .int .i64 ou, .slice A1 ps.length c1, .slice A2 ms.length c2, .bool en] 25)).alloc (.cells #[.int .i64 gr, .int .i64 ou, .slice B1 ps.length d1, .slice B2 ms.length d2, .bool en] 25)) := ⟨_, rfl⟩
  have hB0 : Below w.heap.size w W0 := by rw [hW0]; exact ((Below.refl _ _).alloc (Nat.le_refl _) _).alloc (by simp) _
  have hb : Blk W0 (w.heap.size + 1) 25 #[.int .i64 gr, .int .i64 ou, .slice B1 ps.length d1, .slice B2 ms.length d2, .bool en] := by
    rw [hW0]
    have := Blk.new (w.alloc (.cells #[.int .i64 gr, .int .i64 ou, .slice A1 ps.length c1, .slice A2 ms.length c2, .bool en] 25)) 25 #[.int .i64 gr, .int .i64 ou, .slice B1 ps.length d1, .slice B2 ms.length d2, .bool en]
    rw [show (w.alloc (.cells #[.int .i64 gr, .int .i64 ou, .slice A1 ps.length c1, .slice A2 ms.length c2, .bool en] 25)).heap.size = w.heap.size + 1 from by simp] at this
    exact this
  have ha : Blk W0 w.heap.size 25 #[.int .i64 gr, .int .i64 ou, .slice A1 ps.length c1, .slice A2 ms.length c2, .bool en] := by rw [hW0]; exact (Blk.new w 25 _).alloc _
  have hlb := hb.lt
  have hla := ha.lt
  have H1 := Lib.hid (h1.below hB0 (Nat.le_refl _))
  have H2 := Lib.hid (h2.below hB0 (Nat.le_refl _))
  have H3 := Lib.hid (h3.below hB0 (Nat.le_refl _))
  have H4 := Lib.hid (h4.below hB0 (Nat.le_refl _))
  have HA := Lib.hid ha
  have HB := Lib.hid hb
  have HB0 := Lib.hid hB0
  have HW := Lib.hid hW0
  clear h1 h2 h3 h4 ha hb hB0 hW0
  go_enter Try.func19, Try.ntmps19
  go_wp2_with fail
  go_loopw [5] (fun i wr => ∃ k : Nat, k ≤ ps.length ∧ i = .int .i64 k ∧ Below W0.heap.size W0 wr) (fun i _ => ps.length - (intOf i).toNat)
  case atStart => exact ⟨0, Nat.zero_le _, rfl, by rw [HW.out]; exact Below.refl _ _⟩
  case round =>
    obtain ⟨k, hk, rfl, hbr⟩ := hrel
    obtain ⟨⟨a0, a1, a2, a3, a4⟩, -⟩ := (HA.out.below hbr hla).five
    obtain ⟨⟨b0, b1, b2, b3, b4⟩, -⟩ := (HB.out.below hbr hlb).five
    by_cases hlt : k < ps.length
    · obtain ⟨x, hx⟩ : ∃ x, ps[k]? = some x := ⟨_, List.getElem?_eq_getElem hlt⟩
      obtain ⟨g, off, rfl, e0, e1⟩ := Rd.atH (H1.out.below hbr (Nat.le_refl _)) hx
      obtain ⟨g', off', rfl, e0', e1'⟩ := Rd.atH (H3.out.below hbr (Nat.le_refl _)) hx
      obtain ⟨x1, x2⟩ := x
      simp only at e0 e1 e0' e1'
      have hk0 : (0 : Int) ≤ (k : Int) := Int.natCast_nonneg _
      have hk1 : (k : Int) < (ps.length : Int) := by omega
      have Hbr := Lib.hid hbr
      clear hbr hx
      go_wp2_with fail
      go_quiet (fail)
      all_goals
        go_wp2
        go_roundw
        case rel => exact ⟨k + 1, by omega, by go_num, below_drewN Hbr.out _⟩
        case measure => simp [intOf]; omega
    have hke : k = ps.length := by omega
    subst hke
    have Hbr := Lib.hid hbr
    clear hbr
    go_wp2_with fail
    clear a0 a1 a2 a3 a4 b0 b1 b2 b3 b4
    obtain ⟨W1, hW1⟩ : ∃ W1 : World, W1 = wr := ⟨_, rfl⟩
    rw [← hW1]
    have HW1 := Lib.hid hW1
    clear hW1
    go_loopw [6] (fun i wr => ∃ m : Nat, m ≤ ms.length ∧ i = .int .i64 m ∧ Below W0.heap.size W0 wr) (fun i _ => ms.length - (intOf i).toNat)
    case atStart => exact ⟨0, Nat.zero_le _, rfl, by rw [HW1.out]; exact Hbr.out⟩
    case round =>
      obtain ⟨m, hm, rfl, hbr⟩ := hrel
      obtain ⟨⟨a0, a1, a2, a3, a4⟩, -⟩ := (HA.out.below hbr hla).five
      obtain ⟨⟨b0, b1, b2, b3, b4⟩, -⟩ := (HB.out.below hbr hlb).five
      by_cases hlt : m < ms.length
      · obtain ⟨x, hx⟩ : ∃ x, ms[m]? = some x := ⟨_, List.getElem?_eq_getElem hlt⟩
        obtain ⟨g, off, rfl, e0, e1, e2⟩ := Rd.atL (H2.out.below hbr (Nat.le_refl _)) hx
        obtain ⟨g', off', rfl, e0', e1', e2'⟩ := Rd.atL (H4.out.below hbr (Nat.le_refl _)) hx
        obtain ⟨x1, x2, x3⟩ := x
        simp only at e0 e1 e2 e0' e1' e2'
        have hk0 : (0 : Int) ≤ (m : Int) := Int.natCast_nonneg _
        have hk1 : (m : Int) < (ms.length : Int) := by omega
        have Hb := Lib.hid hbr
        clear hbr hx
        go_wp2_with fail
        go_quiet (fail)
        all_goals
          go_wp2
          go_roundw
          case rel => exact ⟨m + 1, by omega, by go_num, below_drewN Hb.out _⟩
          case measure => simp [intOf]; omega
      have hke : m = ms.length := by omega
      subst hke
      have Hb := Lib.hid hbr
      clear hbr
      go_wp2
      go_ret
      exact ⟨rfl, HB0.out.trans (Hb.out.mono HB0.out.size)⟩

set_option maxHeartbeats 1000000 in
theorem refGoals_calls (t : Thr) (v : Value) (w : World) (hv : ThrV w v t) (hw : t.Gls) :
    Calls Try.prog 37 #[v] w fun e w' => e = .returned (.int .i64 t.goals) ∧ Below w.heap.size w w' := by
  obtain ⟨A1, c1, A2, c2, rfl, h1, h2, h3, h4, h5, h6⟩ := hv
  have hlp := hw.lp
  have hlm := hw.lm
  have Hw := Lib.hid hw; clear hw
  obtain ⟨W0, hW0⟩ : ∃ W0, W0 = w.alloc (.cells #[.int .i64 t.grain, .int .i64 t.out, .slice A1 t.procs.length c1, .slice A2 t.mail.length c2, .bool t.ended] 25) := ⟨_, rfl⟩
  have hB0 : Below w.heap.size w W0 := by rw [hW0]; exact (Below.refl _ _).alloc (Nat.le_refl _) _
  have Hr1 := Lib.hid (h3.below hB0 (Nat.le_refl _)); clear h3
  have Hr2 := Lib.hid (h6.below hB0 (Nat.le_refl _)); clear h6
  have g2 : W0.cell? ⟨w.heap.size, 2, none⟩ = some (.slice A1 t.procs.length c1) := by rw [hW0]; go_simp
  have g3 : W0.cell? ⟨w.heap.size, 3, none⟩ = some (.slice A2 t.mail.length c2) := by rw [hW0]; go_simp
  have hsz : w.heap.size < W0.heap.size := by rw [hW0]; simp
  have HB0 := Lib.hid hB0; clear hB0
  have G2 := Lib.hid g2; clear g2
  have G3 := Lib.hid g3; clear g3
  have HW := Lib.hid hW0; clear hW0
  clear h1 h2 h4 h5
  go_enter Try.func37, Try.ntmps37
  go_wp2
  go_loopw [3, 4] (fun s i wr => ∃ k : Nat, k ≤ t.procs.length ∧ i = .int .i64 k ∧ s = .int .i64 (sumTo (fun x => x.1) t.procs k) ∧ Below W0.heap.size W0 wr) (fun _ i _ => t.procs.length - (intOf i).toNat)
  case atStart => exact ⟨0, Nat.zero_le _, rfl, by rw [sumTo_zero], by rw [HW.out]; exact Below.refl _ _⟩
  case round =>
    obtain ⟨k, hk, rfl, rfl, hB⟩ := hrel
    have gg2 := (hB.cell (p := ⟨w.heap.size, 2, none⟩) hsz).trans G2.out
    have gg3 := (hB.cell (p := ⟨w.heap.size, 3, none⟩) hsz).trans G3.out
    have HB := Lib.hid hB; clear hB
    have hsb := sumTo_bd (fun x : Int × Int => x.1) t.procs 1000000 (by omega) Hw.out.p k hk
    have hs0 : 0 ≤ sumTo (fun x => x.1) t.procs k := hsb.1
    have hs1 : sumTo (fun x => x.1) t.procs k ≤ 16000000 := by omega
    clear hsb
    by_cases hlt : k < t.procs.length
    · obtain ⟨x, hx⟩ : ∃ x, t.procs[k]? = some x := ⟨_, List.getElem?_eq_getElem hlt⟩
      obtain ⟨g, off, rfl, e0, e1⟩ := Rd.atH (Hr1.out.below HB.out (Nat.le_refl _)) hx
      have hx0 := (Hw.out.p x (List.mem_of_getElem? hx)).1
      have hx1 := (Hw.out.p x (List.mem_of_getElem? hx)).2
      have Hx := Lib.hid hx; clear hx
      go_wp2
      go_roundw
      case rel => exact ⟨k + 1, by omega, by go_num, by rw [sumTo_succ _ _ _ _ Hx.out], by first | exact HB.out | exact HB.out.alloc HB.out.size _⟩
      case measure => simp [intOf]; omega
    · have hke : k = t.procs.length := by omega
      subst hke
      go_wp2
      obtain ⟨W1, hW1⟩ : ∃ W1 : World, W1 = wr := ⟨_, rfl⟩
      have HW1 := Lib.hid hW1; clear hW1
      clear gg2 gg3
      go_loopw [3, 5] (fun s i wr => ∃ k : Nat, k ≤ t.mail.length ∧ i = .int .i64 k ∧ s = .int .i64 (sumTo (fun x => x.1) t.procs t.procs.length + sumTo gl t.mail k) ∧ Below W0.heap.size W0 wr) (fun _ i _ => t.mail.length - (intOf i).toNat)
      case atStart => exact ⟨0, Nat.zero_le _, rfl, by rw [sumTo_zero, Int.add_zero], HB.out⟩
      case round =>
        obtain ⟨k, hk, rfl, rfl, hB⟩ := hrel
        have gg3 := (hB.cell (p := ⟨w.heap.size, 3, none⟩) hsz).trans G3.out
        have HB := Lib.hid hB; clear hB
        have hsb := sumTo_bd gl t.mail 1 (by omega) (fun x _ => gl_bd x) k hk
        have ht0 : 0 ≤ sumTo gl t.mail k := hsb.1
        have ht1 : sumTo gl t.mail k ≤ 4000 := by omega
        clear hsb
        by_cases hlt : k < t.mail.length
        · obtain ⟨x, hx⟩ : ∃ x, t.mail[k]? = some x := ⟨_, List.getElem?_eq_getElem hlt⟩
          obtain ⟨g, off, rfl, e0, e1, e2⟩ := Rd.atL (Hr2.out.below HB.out (Nat.le_refl _)) hx
          have hss := sumTo_succ gl _ _ _ hx
          by_cases hone : x.1 = 1
          · rw [gl, if_pos hone] at hss
            have Hss := Lib.hid hss; clear hss hx
            have hb1 : (x.1 == 1) = true := by simpa using hone
            clear hone
            go_wp2
            go_roundw
            case rel => exact ⟨k + 1, by omega, by go_num, by rw [Hss.out, Int.add_assoc], by first | exact HB.out | exact HB.out.alloc HB.out.size _⟩
            case measure => simp [intOf]; omega
          · rw [gl, if_neg hone] at hss
            have Hss := Lib.hid hss; clear hss hx
            have hb1 : (x.1 == 1) = false := by simpa using hone
            clear hone
            go_wp2
            go_roundw
            case rel => exact ⟨k + 1, by omega, by go_num, by rw [Hss.out, Int.add_zero], by first | exact HB.out | exact HB.out.alloc HB.out.size _⟩
            case measure => simp [intOf]; omega
        · have hke : k = t.mail.length := by omega
          subst hke
          go_wp2
          go_ret
          exact ⟨by rw [Thr.goals, ← sumTo_all (fun x => x.1) t.procs _ rfl, ← sumTo_all gl t.mail _ rfl]; rfl, HB0.out.trans (HB.out.mono (Nat.le_of_lt hsz))⟩

theorem refGoalsr_calls (r : Int) (t : Thr) (v : Value) (w : World) (hr : r = t.goals) (hv : ThrV w v t) (hw : t.Gls) :
    Calls Try.prog 37 #[v] w fun e w' => e = .returned (.int .i64 r) ∧ Below w.heap.size w w' := by subst hr; exact refGoals_calls t v w hv hw
theorem refCheckr_calls (r : Int) (t : Thr) (v : Value) (w : World) (hr : t.check = r) (hv : ThrV w v t) (hl : t.mail.length ≤ 100000) :
    Calls Try.prog 21 #[v] w fun e w' => e = .returned (.int .i64 r) ∧ Below w.heap.size w w' := by subst hr; exact refCheckAny_calls t v w hv hl

set_option maxRecDepth 100000 in
set_option maxHeartbeats 4000000 in
theorem refQuiet_calls (t : Thr) (v : Value) (w : World) (hv : ThrV w v t) (hl : t.Lens) : Calls Try.prog 41 #[v] w (RetQ (quietM t) w) := by
  have hv0 := hv
  obtain ⟨gr, ou, ps, ms, en⟩ := t
  obtain ⟨A1, c1, A2, c2, rfl, k1, k2, k3, k4, k5, k6⟩ := hv
  clear k1 k2 k3 k4 k5 k6
  simp only at hv0 ⊢
  obtain ⟨hl1, hl2⟩ := hl
  simp only at hl1 hl2
  obtain ⟨W0, hW0⟩ : ∃ W0, W0 = w.alloc (.cells #[.int .i64 gr, .int .i64 ou, .slice A1 ps.length c1, .slice A2 ms.length c2, .bool en] 25) := ⟨_, rfl⟩
  have hB0 : Below w.heap.size w W0 := by rw [hW0]; exact (Below.refl _ _).alloc (Nat.le_refl _) _
  have hbx : Blk W0 w.heap.size 25 #[.int .i64 gr, .int .i64 ou, .slice A1 ps.length c1, .slice A2 ms.length c2, .bool en] := by rw [hW0]; exact Blk.new _ _ _
  have hsz := hbx.lt
  have HV := Lib.hid (hv0.below hB0 (Nat.le_refl _)); clear hv0
  have HBX := Lib.hid hbx; clear hbx
  have HB0 := Lib.hid hB0; clear hB0
  have HW := Lib.hid hW0; clear hW0
  obtain ⟨r, hr⟩ : ∃ r, r = quietM ⟨gr, ou, ps, ms, en⟩ := ⟨_, rfl⟩
  rw [← hr]
  obtain ⟨rb, rn⟩ := r
  by_cases hok : Thr.ok ⟨gr, ou, ps, ms, en⟩ = true
  case neg =>
    rw [quietM, if_neg hok] at hr
    simp only [Prod.mk.injEq] at hr
    obtain ⟨rfl, rfl⟩ := hr
    have hck := Thr.check_f hok
    have Hck := Lib.hid hck; clear hck hok
    go_enter Try.func41, Try.ntmps41
    go_wp2_with fail
    rw [← HW.out]
    refine (refCheckr_calls 280 ⟨gr, ou, ps, ms, en⟩ _ _ Hck.out HV.out hl2).mono ?_
    rintro e w1 ⟨rfl, hb1⟩
    have Hb1 := Lib.hid (HB0.out.trans (hb1.mono HB0.out.size)); clear hb1
    go_wp2
    go_ret2
    exact ⟨rfl, Hb1.out⟩
  rw [quietM, if_pos hok] at hr
  simp only [Prod.mk.injEq] at hr
  obtain ⟨hrb, rfl⟩ := hr
  rw [quiet_goals hok] at hrb
  have hck := Thr.check_t hok
  have Hck := Lib.hid hck
  have Hgd := Lib.hid (Thr.good_iff.1 hok)
  obtain ⟨G, hG⟩ : ∃ G, Thr.goals ⟨gr, ou, ps, ms, en⟩ = G := ⟨_, rfl⟩
  rw [hG] at hrb
  have HG := Lib.hid hG.symm
  clear hck hok hG
  go_enter Try.func41, Try.ntmps41
  go_wp2_with fail
  rw [← HW.out]
  refine (refCheckr_calls 0 ⟨gr, ou, ps, ms, en⟩ _ _ Hck.out HV.out hl2).mono ?_
  rintro e w1 ⟨rfl, hb1⟩
  have HV1 := Lib.hid (HV.out.below hb1 (Nat.le_refl _))
  have HBX1 := Lib.hid (HBX.out.below hb1 hsz)
  have Hb1 := Lib.hid (HB0.out.trans (hb1.mono HB0.out.size)); clear hb1
  obtain ⟨⟨b0, b1, b2, b3, b4⟩, -⟩ := HBX1.out.five
  have hsz1 := HBX1.out.lt
  by_cases hz : G = 0
  · have hrt : rb = true := by rw [hrb]; simpa using hz
    subst hrt hz
    clear hrb
    go_wp2_with fail
    refine (refGoalsr_calls 0 ⟨gr, ou, ps, ms, en⟩ _ _ HG.out HV1.out Hgd.out.gls).mono ?_
    rintro e w2 ⟨rfl, hb2⟩
    have Hb2 := Lib.hid (Hb1.out.trans (hb2.mono Hb1.out.size)); clear hb2
    go_wp2
    go_ret2
    exact ⟨rfl, Hb2.out⟩
  · have hrt : rb = false := by rw [hrb]; simpa using hz
    have hzb : (G == 0) = false := by simpa using hz
    subst hrt
    clear hrb hz
    go_wp2_with fail
    refine (refGoalsr_calls G ⟨gr, ou, ps, ms, en⟩ _ _ HG.out HV1.out Hgd.out.gls).mono ?_
    rintro e w2 ⟨rfl, hb2⟩
    have Hb2 := Lib.hid (Hb1.out.trans (hb2.mono Hb1.out.size)); clear hb2
    go_wp2
    go_ret2
    exact ⟨rfl, Hb2.out⟩

set_option maxHeartbeats 1000000 in
theorem refIndex_calls (r : Int) (cs : List Int) (A : Option Addr) (c k n : Nat) (w : World) (hr : r = idxM cs k n) (hn : 0 < n) (hn2 : n ≤ 100000) (hk : k ≤ 1000000) (hcs : cs.length ≤ 1000000) (hrd : Rd w A (cs.flatMap encI)) :
    Calls Try.prog 74 #[.slice A cs.length c, .int .i64 k, .int .i64 n] w fun e w' => e = .returned (.int .i64 r) ∧ w = w' := by
  have Hrd := Lib.hid hrd; clear hrd
  by_cases hkc : k < cs.length
  case neg =>
    have hr0 : r = 0 := by rw [hr]; exact idxM_none (by omega)
    subst hr0
    have hb : decide ((cs.length : Int) ≤ (k : Int)) = true := decide_eq_true (by omega)
    have hb2 : decide (cs.length ≤ k) = true := decide_eq_true (by omega)
    clear hr
    go_enter Try.func74, Try.ntmps74
    go_wp2
    go_ret
    exact ⟨rfl, rfl⟩
  obtain ⟨ch, hch⟩ : ∃ ch, cs[k]? = some ch := ⟨_, List.getElem?_eq_getElem hkc⟩
  obtain ⟨g, off, rfl, e0⟩ := Rd.atI Hrd.out hch
  have hr0 : r = ch % (n : Int) := by rw [hr]; exact idxM_some hch
  have hb : decide ((cs.length : Int) ≤ (k : Int)) = false := decide_eq_false (by omega)
  have hb2 : decide (cs.length ≤ k) = false := decide_eq_false (by omega)
  obtain ⟨tm, htm⟩ : ∃ tm, ch.tmod (n : Int) = tm := ⟨_, rfl⟩
  have hbd := tmod_bd ch n hn
  rw [htm] at hbd
  obtain ⟨hbd1, hbd2⟩ := hbd
  have hce := choice_eq ch n hn
  rw [htm, ← hr0] at hce
  have hne0 : ((n : Int) == 0) = false := beq_eq_false_iff_ne.2 (by omega)
  have hnz : ¬ n = 0 := by omega
  by_cases hneg : tm < 0
  · have hd : decide (tm < 0) = true := decide_eq_true hneg
    have hrr : tm + (n : Int) = r := by rw [← hce, Int.tmod_eq_emod_of_nonneg (by omega), Int.emod_eq_of_lt (by omega) (by omega)]
    have Hrr := Lib.hid hrr
    clear hr hr0 hch hce hrr
    go_enter Try.func74, Try.ntmps74
    go_wp2
    go_ret
    exact ⟨by rw [← Hrr.out]; rfl, rfl⟩
  · have hd : decide (tm < 0) = false := decide_eq_false hneg
    have hrr : tm = r := by rw [← hce, Int.tmod_eq_emod_of_nonneg (by omega), Int.add_emod_right, Int.emod_eq_of_lt (by omega) (by omega)]
    have Hrr := Lib.hid hrr
    clear hr hr0 hch hce hrr
    go_enter Try.func74, Try.ntmps74
    go_wp2
    go_ret
    exact ⟨by rw [← Hrr.out]; rfl, rfl⟩
end Go.Proofs.Ythdlmnkefheliaa
