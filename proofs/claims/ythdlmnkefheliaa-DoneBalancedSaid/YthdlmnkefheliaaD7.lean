import Derived.Test.YthdlmnkefheliaaD6
set_option linter.unusedVariables false
set_option linter.unusedSimpArgs false
namespace Go.Proofs.Ythdlmnkefheliaa
open Go.RowKit
def Thr.issue (t : Thr) (kind tt : Int) : Thr := Thr.post { t with out := t.out + t.grain } (kind, tt, t.grain)

theorem ThrB.setOut {w : World} {B p : Nat} {pv mv : Value} {t : Thr} (h : ThrB w B p pv mv t) (n : Int) : ThrB (w.setCell ⟨p, 1, none⟩ (.int .i64 n)) B p pv mv { t with out := n } :=
  ⟨h.1, h.2.1.set_ 1 _, own_set_far h.2.2.1 h.2.1 (by decide) _ _, own_set_far h.2.2.2 h.2.1 (by decide) _ _⟩
theorem ThrB.setEnded {w : World} {B p : Nat} {pv mv : Value} {t : Thr} (h : ThrB w B p pv mv t) (b : Bool) : ThrB (w.setCell ⟨p, 4, none⟩ (.bool b)) B p pv mv { t with ended := b } :=
  ⟨h.1, h.2.1.set_ 4 _, own_set_far h.2.2.1 h.2.1 (by decide) _ _, own_set_far h.2.2.2 h.2.1 (by decide) _ _⟩
theorem ThrB.drew {w : World} {B p : Nat} {pv mv : Value} {t : Thr} (h : ThrB w B p pv mv t) : ThrB w.drew B p pv mv t := h
theorem ThrB.drewN {w : World} {B p : Nat} {pv mv : Value} {t : Thr} (h : ThrB w B p pv mv t) (n : Nat) : ThrB (w.drewN n) B p pv mv t := h

set_option maxHeartbeats 2000000 in
theorem issue_calls (B p : Nat) (pv mv : Value) (t : Thr) (kind tt : Int) (w : World) (h : ThrB w B p pv mv t) (hl : t.mail.length ≤ 100000)
    (h0 : 0 ≤ t.out) (h1 : t.out ≤ 1099511627776) (h2 : 0 ≤ t.grain) (h3 : t.grain ≤ 1048576) :
    Calls Try.prog 80 #[.pointer (some ⟨p, 0, none⟩), .int .i64 kind, .int .i64 tt] w fun e w' => e = .returned (.tuple #[]) ∧ (ThrO w' B p pv (t.issue kind tt) ∧ Below B w w') := by
  obtain ⟨gr, ou, ps, ms, en⟩ := t
  have hblk := h.2.1
  simp only at hl h0 h1 h2 h3 hblk
  have g0 : w.cell? ⟨p, 0, none⟩ = some (.int .i64 gr) := by rw [hblk.cell 0]; rfl
  have g1 : w.cell? ⟨p, 1, none⟩ = some (.int .i64 ou) := by rw [hblk.cell 1]; rfl
  have f1 : w.frozen? ⟨p, 1, none⟩ = false := hblk.frozen 1
  have hpl := hblk.lt
  have H := Lib.hid h; clear h hblk
  go_enter Try.func80, Try.ntmps80
  go_wp2
  go_region
  go_wp2_with fail
  refine (post_calls B p pv mv ⟨gr, ou + gr, ps, ms, en⟩ kind tt gr _ (H.out.setOut _).drew hl).mono ?_
  rintro e w' ⟨rfl, hpost, hbel⟩
  have Hp := Lib.hid hpost; clear hpost
  have Hbel := Lib.hid hbel; clear hbel
  go_wp2
  go_end0
  exact ⟨rfl, Hp.out, ((Below.refl B w).setCell H.out.1 _).drew.trans Hbel.out⟩

theorem Blk.five {w : World} {g : Nat} {t : TypeId} {a b c d e : Value} (h : Blk w g t #[a, b, c, d, e]) :
    (w.cell? ⟨g, 0, none⟩ = some a ∧ w.cell? ⟨g, 1, none⟩ = some b ∧ w.cell? ⟨g, 2, none⟩ = some c ∧ w.cell? ⟨g, 3, none⟩ = some d ∧ w.cell? ⟨g, 4, none⟩ = some e) ∧
    (w.frozen? ⟨g, 0, none⟩ = false ∧ w.frozen? ⟨g, 1, none⟩ = false ∧ w.frozen? ⟨g, 2, none⟩ = false ∧ w.frozen? ⟨g, 3, none⟩ = false ∧ w.frozen? ⟨g, 4, none⟩ = false) :=
  ⟨⟨by rw [h.cell 0]; rfl, by rw [h.cell 1]; rfl, by rw [h.cell 2]; rfl, by rw [h.cell 3]; rfl, by rw [h.cell 4]; rfl⟩, h.frozen 0, h.frozen 1, h.frozen 2, h.frozen 3, h.frozen 4⟩
theorem below_set5 {B : Nat} {w w1 : World} {g : Nat} (h : Below B w w1) (hg : B ≤ g) (a b c d e : Value) : Below B w (((((w1.setCell ⟨g, 0, none⟩ a).setCell ⟨g, 1, none⟩ b).setCell ⟨g, 2, none⟩ c).setCell ⟨g, 3, none⟩ d).setCell ⟨g, 4, none⟩ e) :=
  ((((h.setCell hg a).setCell hg b).setCell hg c).setCell hg d).setCell hg e
/-- A value whose cells lie below the block that is written reads on. -/
theorem ThrV.set5 {w : World} {v : Value} {t : Thr} {g : Nat} {B : Nat} {w0 : World} (h : ThrV w v t) (h0 : ThrV w0 v t) (hb : Below B w0 w) (hB : w0.heap.size ≤ B) (hg : B ≤ g) (a b c d e : Value) : ThrV (((((w.setCell ⟨g, 0, none⟩ a).setCell ⟨g, 1, none⟩ b).setCell ⟨g, 2, none⟩ c).setCell ⟨g, 3, none⟩ d).setCell ⟨g, 4, none⟩ e) v t :=
  h0.below (below_set5 hb hg a b c d e) hB
/-- A value that is a state with rows of its own, from block B on. -/
def ThrF (B : Nat) (w : World) (v : Value) (t : Thr) : Prop := ∃ A1 c1 A2 c2, v = .agg #[.int .i64 t.grain, .int .i64 t.out, .slice A1 t.procs.length c1, .slice A2 t.mail.length c2, .bool t.ended] ∧
  w.ownsRow B 51 2 (.slice A1 t.procs.length c1) t.procs.length (t.procs.flatMap encH) ∧ w.ownsRow B 54 3 (.slice A2 t.mail.length c2) t.mail.length (t.mail.flatMap encL)
theorem ThrF.val {B : Nat} {w : World} {v : Value} {t : Thr} (h : ThrF B w v t) : ThrV w v t := by
  obtain ⟨A1, c1, A2, c2, rfl, h1, h2⟩ := h
  obtain ⟨A1', c1', e1, a1, a2, a3⟩ := own_to_rows (enc := encH) (fun _ => rfl) (by omega) h1
  obtain ⟨A2', c2', e2, b1, b2, b3⟩ := own_to_rows (enc := encL) (fun _ => rfl) (by omega) h2
  injection e1 with e1 _ e1'
  injection e2 with e2 _ e2'
  subst e1 e1' e2 e2'
  exact ⟨_, _, _, _, rfl, a1, a2, a3, b1, b2, b3⟩
theorem ThrF.below {B B1 : Nat} {w w1 : World} {v : Value} {t : Thr} (h : ThrF B w v t) (hb : Below B1 w w1) (hB : w.heap.size ≤ B1) : ThrF B w1 v t := by
  obtain ⟨A1, c1, A2, c2, rfl, h1, h2⟩ := h
  exact ⟨A1, c1, A2, c2, rfl, own_below h1 hb hB, own_below h2 hb hB⟩
theorem ThrF.set5 {B : Nat} {w : World} {v : Value} {t : Thr} (h : ThrF B w v t) {g : Nat} {cs : Array Value} (hg : Blk w g 25 cs) (a b c d e : Value) : ThrF B (((((w.setCell ⟨g, 0, none⟩ a).setCell ⟨g, 1, none⟩ b).setCell ⟨g, 2, none⟩ c).setCell ⟨g, 3, none⟩ d).setCell ⟨g, 4, none⟩ e) v t := by
  obtain ⟨A1, c1, A2, c2, rfl, h1, h2⟩ := h
  have g1 := hg.set_ 0 a
  have g2 := g1.set_ 1 b
  have g3 := g2.set_ 2 c
  have g4 := g3.set_ 3 d
  exact ⟨A1, c1, A2, c2, rfl, own_set_far (own_set_far (own_set_far (own_set_far (own_set_far h1 hg (by decide) _ _) g1 (by decide) _ _) g2 (by decide) _ _) g3 (by decide) _ _) g4 (by decide) _ _,
    own_set_far (own_set_far (own_set_far (own_set_far (own_set_far h2 hg (by decide) _ _) g1 (by decide) _ _) g2 (by decide) _ _) g3 (by decide) _ _) g4 (by decide) _ _⟩
theorem ThrF.zero (B : Nat) (w : World) : ThrF B w (.agg #[.int .i64 0, .int .i64 0, .slice none 0 0, .slice none 0 0, .bool false]) Thr.zero :=
  ⟨none, 0, none, 0, rfl, World.ownsRow_nil _ _ _ _, World.ownsRow_nil _ _ _ _⟩
def RetB (B : Nat) (r : Thr × Int) (w : World) (e : Ending) (w' : World) : Prop := ∃ v, e = .returned (.tuple #[v, .int .i64 r.2]) ∧ ThrF B w' v r.1 ∧ Below w.heap.size w w'
def RetT (r : Thr × Int) (w : World) (e : Ending) (w' : World) : Prop := RetB w.heap.size r w e w'

theorem rd_nil (w : World) (A : Option Addr) : Rd w A [] := fun h => absurd rfl h
theorem ThrV.zero (w : World) : ThrV w (.agg #[.int .i64 0, .int .i64 0, .slice none 0 0, .slice none 0 0, .bool false]) Thr.zero :=
  ⟨none, 0, none, 0, rfl, Nat.le_refl _, ⟨by omega, fun _ => rfl⟩, rd_nil _ _, Nat.le_refl _, ⟨by omega, fun _ => rfl⟩, rd_nil _ _⟩

theorem Thr.check_t {t : Thr} (h : t.ok = true) : t.check = 0 := by rw [Thr.check, h]; rfl
theorem Thr.check_f {t : Thr} (h : ¬ t.ok = true) : t.check = 280 := by rw [Thr.check, if_neg h]
/-- A state that was changed, as a result. -/
def Thr.fin (t : Thr) : Thr × Int := if t.ok then (t, 0) else (Thr.zero, 2)
theorem Thr.fin_ok {t : Thr} (h : t.ok = true) : t.fin = (t, 0) := by rw [Thr.fin, if_pos h]
theorem Thr.fin_bad {t : Thr} (h : ¬ t.ok = true) : t.fin = (Thr.zero, 2) := by rw [Thr.fin, if_neg h]

set_option maxHeartbeats 2000000 in
theorem ended_calls (B p : Nat) (pv mv : Value) (t : Thr) (w : World) (h : ThrB w B p pv mv t) (hl : t.Lens) :
    Calls Try.prog 70 #[.pointer (some ⟨p, 0, none⟩)] w (RetB B t.fin w) := by
  have hv := h.val
  obtain ⟨A1, c1, rfl⟩ := own_slice h.2.2.1
  obtain ⟨A2, c2, rfl⟩ := own_slice h.2.2.2
  obtain ⟨gr, ou, ps, ms, en⟩ := t
  have hblk := h.2.1
  simp only at hblk
  have g0 : w.cell? ⟨p, 0, none⟩ = some (.int .i64 gr) := by rw [hblk.cell 0]; rfl
  have g1 : w.cell? ⟨p, 1, none⟩ = some (.int .i64 ou) := by rw [hblk.cell 1]; rfl
  have g2 : w.cell? ⟨p, 2, none⟩ = some (.slice A1 ps.length c1) := by rw [hblk.cell 2]; rfl
  have g3 : w.cell? ⟨p, 3, none⟩ = some (.slice A2 ms.length c2) := by rw [hblk.cell 3]; rfl
  have g4 : w.cell? ⟨p, 4, none⟩ = some (.bool en) := by rw [hblk.cell 4]; rfl
  have hpl := hblk.lt
  have H := Lib.hid h; clear h hblk
  have HV := Lib.hid hv; clear hv
  have HL := Lib.hid hl; clear hl
  obtain ⟨W0, hW0⟩ : ∃ W0, W0 = w.alloc (.cells #[.int .i64 0, .int .i64 0, .slice none 0 0, .slice none 0 0, .bool false] 25) := ⟨_, rfl⟩
  have hB0 : Below w.heap.size w W0 := by rw [hW0]; exact (Below.refl _ _).alloc (Nat.le_refl _) _
  have hz : Blk W0 w.heap.size 25 #[.int .i64 0, .int .i64 0, .slice none 0 0, .slice none 0 0, .bool false] := by rw [hW0]; exact Blk.new _ _ _
  have hsz := hz.lt
  have HB0 := Lib.hid hB0; clear hB0
  have HZ := Lib.hid hz; clear hz
  have HW := Lib.hid hW0; clear hW0
  by_cases hok : Thr.ok ⟨gr, ou, ps, ms, en⟩ = true
  · have Hc := Lib.hid (Thr.check_t hok)
    have Hf := Lib.hid (Thr.fin_ok hok)
    clear hok
    go_enter Try.func70, Try.ntmps70
    go_wp2_with fail
    rw [← HW.out]
    refine (check_calls ⟨gr, ou, ps, ms, en⟩ _ _ (HV.out.below HB0.out (Nat.le_refl _)) HL.out).mono ?_
    rintro e w2 ⟨rfl, hb⟩
    rw [Hc.out]
    have hblk := (H.out.2.1.below HB0.out H.out.2.1.lt).below hb (Nat.lt_of_lt_of_le H.out.2.1.lt HB0.out.size)
    have hz := HZ.out.below hb HZ.out.lt
    obtain ⟨⟨g0, g1, g2, g3, g4⟩, -⟩ := hblk.five
    obtain ⟨⟨z0, z1, z2, z3, z4⟩, ⟨y0, y1, y2, y3, y4⟩⟩ := hz.five
    clear hblk hz
    have Hb := Lib.hid (HB0.out.trans (hb.mono HB0.out.size)); clear hb
    go_wp2
    exact bodyPost_ret (v := .tuple #[.agg #[.int .i64 gr, .int .i64 ou, .slice A1 ps.length c1, .slice A2 ms.length c2, .bool en], .int .i64 0]) (by simp [results, Try.results70, go_sem, *]) rfl
      ⟨_, by rw [Hf.out], by rw [Hf.out]; exact ThrF.below (B := B) (w := w) ⟨_, _, _, _, rfl, H.out.2.2.1, H.out.2.2.2⟩ (below_set5 Hb.out (Nat.le_refl _) _ _ _ _ _) (Nat.le_refl _), below_set5 Hb.out (Nat.le_refl _) _ _ _ _ _⟩
  · have Hc := Lib.hid (Thr.check_f hok)
    have Hf := Lib.hid (Thr.fin_bad hok)
    clear hok
    go_enter Try.func70, Try.ntmps70
    go_wp2_with fail
    rw [← HW.out]
    refine (check_calls ⟨gr, ou, ps, ms, en⟩ _ _ (HV.out.below HB0.out (Nat.le_refl _)) HL.out).mono ?_
    rintro e w2 ⟨rfl, hb⟩
    rw [Hc.out]
    have hblk := (H.out.2.1.below HB0.out H.out.2.1.lt).below hb (Nat.lt_of_lt_of_le H.out.2.1.lt HB0.out.size)
    have hz := HZ.out.below hb HZ.out.lt
    obtain ⟨⟨g0, g1, g2, g3, g4⟩, -⟩ := hblk.five
    obtain ⟨⟨z0, z1, z2, z3, z4⟩, ⟨y0, y1, y2, y3, y4⟩⟩ := hz.five
    clear hblk hz
    have Hb := Lib.hid (HB0.out.trans (hb.mono HB0.out.size)); clear hb
    go_wp2
    exact bodyPost_ret (v := .tuple #[.agg #[.int .i64 0, .int .i64 0, .slice none 0 0, .slice none 0 0, .bool false], .int .i64 2]) (by simp [results, Try.results70, go_sem, *]) rfl
      ⟨_, by rw [Hf.out], by rw [Hf.out]; exact ThrF.zero _ _, below_set5 Hb.out (Nat.le_refl _) _ _ _ _ _⟩
end Go.Proofs.Ythdlmnkefheliaa
