import Derived.Test.YthdlmnkefheliaaD14
import Derived.RegionTactic
set_option linter.unusedVariables false
set_option linter.unusedSimpArgs false
namespace Go.Proofs.Ythdlmnkefheliaa
open Go.RowKit
theorem ThrB.alloc {w : World} {B p : Nat} {pv mv : Value} {t : Thr} (h : ThrB w B p pv mv t) (o : Obj) : ThrB (w.alloc o) B p pv mv t := h.below ((Below.refl _ _).alloc (Nat.le_refl _) o) (Nat.le_refl _)
/-- What a letter does, taken out of the mail. -/
def Thr.take (t : Thr) (l : Int × Int × Int) : Thr :=
  if l.1 = 1 then t.setP l.2.1.toNat ((t.proc l.2.1).1 + 1, (t.proc l.2.1).2 + l.2.2)
  else if l.1 = 2 then { t with out := t.out - l.2.2, ended := t.out - l.2.2 == 0 }
  else if l.1 = 3 then (if 0 < t.out then t.issue 4 l.2.1 else t)
  else if l.1 = 4 then (if (t.proc l.2.1).1 = 0 then t.post (2, 0, l.2.2) else t.setP l.2.1.toNat ((t.proc l.2.1).1, (t.proc l.2.1).2 + l.2.2))
  else t

set_option maxHeartbeats 4000000 in
theorem take_calls (B p g c : Nat) (mv : Value) (t : Thr) (l : Int × Int × Int) (w : World) (h : ThrB w B p (.slice (some ⟨g, 0, none⟩) t.procs.length c) mv t)
    (hk : 0 ≤ l.2.1 ∧ l.2.1 < t.procs.length) (hl : t.mail.length ≤ 4000) (hpl : t.procs.length ≤ 16)
    (ho : 0 ≤ t.out ∧ t.out ≤ 1099511627776) (hg : 2 ≤ t.grain ∧ t.grain ≤ 1048576)
    (hx : 0 ≤ (t.proc l.2.1).1 ∧ (t.proc l.2.1).1 ≤ 1000000 ∧ 0 ≤ (t.proc l.2.1).2 ∧ (t.proc l.2.1).2 ≤ 1099511627776) (hw : 0 ≤ l.2.2 ∧ l.2.2 ≤ 1099511627776) :
    Calls Try.prog 72 #[.pointer (some ⟨p, 0, none⟩), .agg #[.int .i64 l.1, .int .i64 l.2.1, .int .i64 l.2.2]] w fun e w' => e = .returned (.tuple #[]) ∧
      ((∃ pv, ThrO w' B p pv (t.take l)) ∧ Below B w w') := by
  obtain ⟨gr, ou, ps, ms, en⟩ := t
  obtain ⟨kind, tt, wt⟩ := l
  simp only at h hk hl hpl ho hg hx hw
  obtain ⟨k, rfl⟩ := Int.eq_ofNat_of_zero_le hk.1
  have hk : k < ps.length := by omega
  obtain ⟨ho0, ho1⟩ := ho
  obtain ⟨hg0, hg1⟩ := hg
  obtain ⟨hw0, hw1⟩ := hw
  obtain ⟨x, hx'⟩ : ∃ x, ps[k]? = some x := ⟨_, List.getElem?_eq_getElem hk⟩
  have Hpx := Lib.hid (show Thr.proc ⟨gr, ou, ps, ms, en⟩ (k : Int) = x from by rw [Thr.proc, Int.toNat_natCast, List.getD_eq_getElem?_getD, hx']; rfl)
  rw [Hpx.out] at hx
  obtain ⟨x1, x2⟩ := x
  obtain ⟨hx0, hx1, hx2, hx3⟩ := hx
  simp only at hx0 hx1 hx2 hx3
  have Hx := Lib.hid hx'; clear hx'
  obtain ⟨⟨e0, e1⟩, f0, f1⟩ := h.cellP Hx.out
  obtain ⟨⟨b0, b1, b2, b3, b4⟩, ⟨q0, q1, q2, q3, q4⟩⟩ := h.2.1.five
  have hple := h.2.1.lt
  have hgle := (h.2.2.1.lt g rfl).2
  obtain ⟨cur, hgb⟩ := own_blk h.2.2.1
  have hne : g ≠ p := Blk.ne_ hgb h.2.1 (by decide)
  clear hgb
  have hBp := h.1
  have hBg := (h.2.2.1.lt g rfl).1
  have H := Lib.hid h; clear h
  by_cases k1 : kind = 1
  · subst k1
    have hset := H.out.setPG Hx.out (x1 + 1)
    have HX0 := Lib.hid (show (Thr.setP ⟨gr, ou, ps, ms, en⟩ k (x1 + 1, x2)).procs[k]? = some (x1 + 1, x2) from by simp [Thr.setP, List.getElem?_set, hk])
    have hset1 : ThrB (w.setCell ⟨g, k * 2, none⟩ (.int .i64 (x1 + 1))) B p (.slice (some ⟨g, 0, none⟩) (Thr.setP ⟨gr, ou, ps, ms, en⟩ k (x1 + 1, x2)).procs.length c) mv (Thr.setP ⟨gr, ou, ps, ms, en⟩ k (x1 + 1, x2)) := by simpa [Thr.setP] using hset.1
    have hset2 := (hset1.setPW (k := k) (x := (x1 + 1, x2)) HX0.out (x2 + wt)).1
    have HS := Lib.hid (show ThrB ((w.setCell ⟨g, k * 2, none⟩ (.int .i64 (x1 + 1))).setCell ⟨g, k * 2 + 1, none⟩ (.int .i64 (x2 + wt))) B p (.slice (some ⟨g, 0, none⟩) ps.length c) mv (Thr.setP ⟨gr, ou, ps, ms, en⟩ k (x1 + 1, x2 + wt)) from by simpa [Thr.setP] using hset2)
    clear hset hset1 hset2
    have Hf := Lib.hid (show Thr.take ⟨gr, ou, ps, ms, en⟩ (1, (k : Int), wt) = Thr.setP ⟨gr, ou, ps, ms, en⟩ k (x1 + 1, x2 + wt) from by rw [Thr.take]; simp only [if_true, Hpx.out, Int.toNat_natCast])
    go_enter Try.func72, Try.ntmps72
    go_wp2
    go_region
    go_wp2
    go_region
    go_wp2
    (first | go_end0 | (refine bodyPost_ret (results_none rfl _ _ _) rfl ?_))
    exact ⟨rfl, ⟨_, _, by rw [Hf.out]; exact (HS.out.alloc _).drew.drew⟩, ((((Below.refl B w).setCell (p := ⟨g, k * 2, none⟩) hBg _).setCell (p := ⟨g, k * 2 + 1, none⟩) hBg _).alloc (by simp [World.setCell]; omega) _).drew.drew⟩
  have k1b : (kind == 1) = false := by simpa using k1
  by_cases k2 : kind = 2
  · subst k2
    have HS := Lib.hid ((H.out.setOut (ou - wt)).setEnded (ou - wt == 0))
    have Hf := Lib.hid (show Thr.take ⟨gr, ou, ps, ms, en⟩ (2, (k : Int), wt) = ⟨gr, ou - wt, ps, ms, ou - wt == 0⟩ from by rw [Thr.take]; simp)
    go_enter Try.func72, Try.ntmps72
    go_wp2
    go_region
    go_wp2
    go_region
    go_wp2
    (first | go_end0 | (refine bodyPost_ret (results_none rfl _ _ _) rfl ?_))
    exact ⟨rfl, ⟨_, _, by rw [Hf.out]; exact (HS.out.alloc _).drew.drew⟩, ((((Below.refl B w).setCell (p := ⟨p, 1, none⟩) hBp _).setCell (p := ⟨p, 4, none⟩) hBp _).alloc (by simp [World.setCell]; omega) _).drew.drew⟩
  have k2b : (kind == 2) = false := by simpa using k2
  by_cases k3 : kind = 3
  · subst k3
    by_cases hou : 0 < ou
    · have houb : decide (0 < ou) = true := decide_eq_true hou
      have Hf := Lib.hid (show Thr.take ⟨gr, ou, ps, ms, en⟩ (3, (k : Int), wt) = Thr.issue ⟨gr, ou, ps, ms, en⟩ 4 k from by rw [Thr.take]; simp [hou])
      go_enter Try.func72, Try.ntmps72
      go_wp2
      go_region
      go_wp2_with fail
      refine (issue_calls B p _ mv ⟨gr, ou, ps, ms, en⟩ 4 k _ (H.out.alloc _).drew (by simp only; omega) ho0 ho1 (by simp only; omega) hg1).mono ?_
      rintro e w3 ⟨rfl, ⟨mv3, hS⟩, hb13⟩
      have HS3 := Lib.hid hS; clear hS
      have Hb13 := Lib.hid hb13; clear hb13
      go_wp2
      (first | go_end0 | (refine bodyPost_ret (results_none rfl _ _ _) rfl ?_))
      exact ⟨rfl, ⟨_, _, by rw [Hf.out]; exact HS3.out⟩, (((Below.refl B w).alloc (by omega) _).drew).trans Hb13.out⟩
    · have houb : decide (0 < ou) = false := decide_eq_false hou
      have Hf := Lib.hid (show Thr.take ⟨gr, ou, ps, ms, en⟩ (3, (k : Int), wt) = ⟨gr, ou, ps, ms, en⟩ from by rw [Thr.take]; simp [hou])
      go_enter Try.func72, Try.ntmps72
      go_wp2
      go_region
      go_wp2
      (first | go_end0 | (refine bodyPost_ret (results_none rfl _ _ _) rfl ?_))
      exact ⟨rfl, ⟨_, _, by rw [Hf.out]; exact (H.out.alloc _).drew⟩, ((Below.refl B w).alloc (by omega) _).drew⟩
  have k3b : (kind == 3) = false := by simpa using k3
  by_cases k4 : kind = 4
  · subst k4
    by_cases hx10 : x1 = 0
    · have hx1b : (x1 == 0) = true := by simpa using hx10
      have Hf := Lib.hid (show Thr.take ⟨gr, ou, ps, ms, en⟩ (4, (k : Int), wt) = Thr.post ⟨gr, ou, ps, ms, en⟩ (2, 0, wt) from by rw [Thr.take]; simp only [Hpx.out]; simp [hx10])
      go_enter Try.func72, Try.ntmps72
      go_wp2
      go_region
      go_wp2_with fail
      refine (post_calls B p _ mv ⟨gr, ou, ps, ms, en⟩ 2 0 wt _ (H.out.alloc _).drew (by simp only; omega)).mono ?_
      rintro e w3 ⟨rfl, ⟨mv3, hS⟩, hb13⟩
      have HS3 := Lib.hid hS; clear hS
      have Hb13 := Lib.hid hb13; clear hb13
      go_wp2
      (first | go_end0 | (refine bodyPost_ret (results_none rfl _ _ _) rfl ?_))
      exact ⟨rfl, ⟨_, _, by rw [Hf.out]; exact HS3.out⟩, (((Below.refl B w).alloc (by omega) _).drew).trans Hb13.out⟩
    · have hx1b : (x1 == 0) = false := by simpa using hx10
      have HS := Lib.hid (H.out.setPW Hx.out (x2 + wt)).1
      have Hf := Lib.hid (show Thr.take ⟨gr, ou, ps, ms, en⟩ (4, (k : Int), wt) = Thr.setP ⟨gr, ou, ps, ms, en⟩ k (x1, x2 + wt) from by rw [Thr.take]; simp only [Hpx.out, Int.toNat_natCast]; simp [hx10])
      go_enter Try.func72, Try.ntmps72
      go_wp2
      go_region
      go_wp2
      go_region
      go_wp2
      (first | go_end0 | (refine bodyPost_ret (results_none rfl _ _ _) rfl ?_))
      exact ⟨rfl, ⟨_, _, by rw [Hf.out]; exact (HS.out.alloc _).drew.drew⟩, (((Below.refl B w).setCell (p := ⟨g, k * 2 + 1, none⟩) hBg _).alloc (by simp [World.setCell]; omega) _).drew.drew⟩
  have k4b : (kind == 4) = false := by simpa using k4
  have Hf := Lib.hid (show Thr.take ⟨gr, ou, ps, ms, en⟩ (kind, (k : Int), wt) = ⟨gr, ou, ps, ms, en⟩ from by rw [Thr.take]; simp only; rw [if_neg k1, if_neg k2, if_neg k3, if_neg k4])
  go_enter Try.func72, Try.ntmps72
  go_wp2
  go_region
  go_wp2
  (first | go_end0 | (refine bodyPost_ret (results_none rfl _ _ _) rfl ?_))
  exact ⟨rfl, ⟨_, _, by rw [Hf.out]; exact (H.out.alloc _).drew⟩, ((Below.refl B w).alloc (by omega) _).drew⟩
end Go.Proofs.Ythdlmnkefheliaa
