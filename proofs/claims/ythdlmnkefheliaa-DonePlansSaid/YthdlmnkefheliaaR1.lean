import Derived.Test.YthdlmnkefheliaaD5
import Derived.Test.YthdlmnkefheliaaD14
import Derived.Test.YthdlmnkefheliaaD16
import Derived.RegionTactic
import Derived.Deep.RegionLaw
set_option linter.unusedVariables false
set_option linter.unusedSimpArgs false
namespace Go.Proofs.Ythdlmnkefheliaa
open Go.RowKit
def ThrU (w : World) (B p : Nat) (pv mv : Value) (t : Thr) : Prop :=
  B ≤ p ∧ Blk w p 25 #[.int .i64 t.grain, .int .i64 t.out, pv, mv, .bool t.ended] ∧ w.ownsRow B 51 2 pv t.procs.length (t.procs.flatMap encH) ∧ w.ownsRow B 54 3 mv t.mail.length (t.mail.flatMap encL)
theorem ThrU.val {w : World} {B p : Nat} {pv mv : Value} {t : Thr} (h : ThrU w B p pv mv t) : ThrV w (.agg #[.int .i64 t.grain, .int .i64 t.out, pv, mv, .bool t.ended]) t := by
  obtain ⟨_, _, h1, h2⟩ := h
  obtain ⟨A1, c1, rfl, a1, a2, a3⟩ := own_to_rows (enc := encH) (fun _ => rfl) (by omega) h1
  obtain ⟨A2, c2, rfl, b1, b2, b3⟩ := own_to_rows (enc := encL) (fun _ => rfl) (by omega) h2
  exact ⟨A1, c1, A2, c2, rfl, a1, a2, a3, b1, b2, b3⟩

theorem ThrU.below {w w1 : World} {B p B1 : Nat} {pv mv : Value} {t : Thr} (h : ThrU w B p pv mv t) (hb : Below B1 w w1) (hB : w.heap.size ≤ B1) : ThrU w1 B p pv mv t := by
  obtain ⟨h0, h1, h2, h3⟩ := h
  have hb' := hb.mono hB
  exact ⟨h0, h1.below hb' h1.lt, h2.kept (only_of_below hb' none) (by cases pv.ownBlock <;> simp), h3.kept (only_of_below hb' none) (by cases mv.ownBlock <;> simp)⟩

theorem ThrU.setOut {w : World} {B p : Nat} {pv mv : Value} {t : Thr} (h : ThrU w B p pv mv t) (n : Int) : ThrU (w.setCell ⟨p, 1, none⟩ (.int .i64 n)) B p pv mv { t with out := n } :=
  ⟨h.1, h.2.1.set_ 1 _, own_set_far h.2.2.1 h.2.1 (by decide) _ _, own_set_far h.2.2.2 h.2.1 (by decide) _ _⟩
theorem ThrU.setEnded {w : World} {B p : Nat} {pv mv : Value} {t : Thr} (h : ThrU w B p pv mv t) (b : Bool) : ThrU (w.setCell ⟨p, 4, none⟩ (.bool b)) B p pv mv { t with ended := b } :=
  ⟨h.1, h.2.1.set_ 4 _, own_set_far h.2.2.1 h.2.1 (by decide) _ _, own_set_far h.2.2.2 h.2.1 (by decide) _ _⟩
theorem ThrU.drew {w : World} {B p : Nat} {pv mv : Value} {t : Thr} (h : ThrU w B p pv mv t) : ThrU w.drew B p pv mv t := h
theorem ThrU.drewN {w : World} {B p : Nat} {pv mv : Value} {t : Thr} (h : ThrU w B p pv mv t) (n : Nat) : ThrU (w.drewN n) B p pv mv t := h

theorem ThrU.lower {w : World} {B B' p : Nat} {pv mv : Value} {t : Thr} (h : ThrU w B p pv mv t) (hB : B' ≤ B) : ThrU w B' p pv mv t :=
  ⟨Nat.le_trans hB h.1, h.2.1, own_lower h.2.2.1 hB, own_lower h.2.2.2 hB⟩
theorem ThrU.setPG {w : World} {B p g c : Nat} {mv : Value} {t : Thr} {k : Nat} {x : Int × Int} (h : ThrU w B p (.slice (some ⟨g, 0, none⟩) t.procs.length c) mv t) (hx : t.procs[k]? = some x) (n : Int) :
    ThrU (w.setCell ⟨g, k * 2, none⟩ (.int .i64 n)) B p (.slice (some ⟨g, 0, none⟩) t.procs.length c) mv (t.setP k (n, x.2)) ∧ B ≤ g := by
  obtain ⟨h1, h2, h3, h4⟩ := h
  have hk : k < t.procs.length := (List.getElem?_eq_some_iff.1 hx).1
  obtain ⟨cur, hb⟩ := own_blk h3
  refine ⟨⟨h1, h2.far (p := ⟨g, k * 2, none⟩) (Blk.ne_ h2 hb (by decide)) _, ?_, own_set_far h4 hb (by decide) _ _⟩, (h3.lt g rfl).1⟩
  have := own_set_in h3 (k * 2) (.int .i64 n) (by omega)
  have he := flatMap_set encH 2 (fun _ => rfl) t.procs k 0 x (n, x.2) (.int .i64 n) hx (by omega) rfl
  rw [Nat.add_zero] at he
  rw [he] at this
  simpa [Thr.setP] using this
theorem ThrU.setPW {w : World} {B p g c : Nat} {mv : Value} {t : Thr} {k : Nat} {x : Int × Int} (h : ThrU w B p (.slice (some ⟨g, 0, none⟩) t.procs.length c) mv t) (hx : t.procs[k]? = some x) (n : Int) :
    ThrU (w.setCell ⟨g, k * 2 + 1, none⟩ (.int .i64 n)) B p (.slice (some ⟨g, 0, none⟩) t.procs.length c) mv (t.setP k (x.1, n)) ∧ B ≤ g := by
  obtain ⟨h1, h2, h3, h4⟩ := h
  have hk : k < t.procs.length := (List.getElem?_eq_some_iff.1 hx).1
  obtain ⟨cur, hb⟩ := own_blk h3
  refine ⟨⟨h1, h2.far (p := ⟨g, k * 2 + 1, none⟩) (Blk.ne_ h2 hb (by decide)) _, ?_, own_set_far h4 hb (by decide) _ _⟩, (h3.lt g rfl).1⟩
  have := own_set_in h3 (k * 2 + 1) (.int .i64 n) (by omega)
  have he := flatMap_set encH 2 (fun _ => rfl) t.procs k 1 x (x.1, n) (.int .i64 n) hx (by omega) rfl
  rw [he] at this
  simpa [Thr.setP] using this
theorem ThrU.cellP {w : World} {B p g c : Nat} {mv : Value} {t : Thr} {k : Nat} {x : Int × Int} (h : ThrU w B p (.slice (some ⟨g, 0, none⟩) t.procs.length c) mv t) (hx : t.procs[k]? = some x) :
    (w.cell? ⟨g, k * 2, none⟩ = some (.int .i64 x.1) ∧ w.cell? ⟨g, k * 2 + 1, none⟩ = some (.int .i64 x.2)) ∧ w.frozen? ⟨g, k * 2, none⟩ = false ∧ w.frozen? ⟨g, k * 2 + 1, none⟩ = false := by
  have e0 := flatMap_get encH 2 (fun _ => rfl) t.procs k 0 x hx (by omega)
  have e1 := flatMap_get encH 2 (fun _ => rfl) t.procs k 1 x hx (by omega)
  rw [Nat.add_zero] at e0
  have a0 := own_cell_in h.2.2.1 _ _ (e0.trans (rfl : (encH x)[0]? = some (.int .i64 x.1)))
  have a1 := own_cell_in h.2.2.1 _ _ (e1.trans (rfl : (encH x)[1]? = some (.int .i64 x.2)))
  exact ⟨⟨a0.1, a1.1⟩, a0.2, a1.2⟩

theorem ThrU.alloc {w : World} {B p : Nat} {pv mv : Value} {t : Thr} (h : ThrU w B p pv mv t) (o : Obj) : ThrU (w.alloc o) B p pv mv t := h.below ((Below.refl _ _).alloc (Nat.le_refl _) o) (Nat.le_refl _)
theorem inRange_iff (n : Nat) (q : Int) : inRange n q = true ↔ 0 ≤ q ∧ q < n := by rw [inRange, bd_iff]; omega

set_option maxHeartbeats 4000000 in
theorem asked_calls (t : Thr) (v : Value) (proc : Int) (w : World) (hv : ThrV w v t) (hl : t.Lens) :
    Calls Try.prog 88 #[v, .int .i64 proc] w fun e w' => e = .returned (.int .i64 (begunE t [proc])) ∧ Below w.heap.size w w' := by
  have hv0 := hv
  obtain ⟨gr, ou, ps, ms, en⟩ := t
  obtain ⟨A1, c1, A2, c2, rfl, k1, k2, k3, k4, k5, k6⟩ := hv
  clear k1 k2 k3 k4 k5 k6
  simp only at hv0 ⊢
  have hlp : ps.length ≤ 100000 := hl.1
  have HL := Lib.hid hl; clear hl
  obtain ⟨W0, hW0⟩ : ∃ W0, W0 = w.alloc (.cells #[.int .i64 gr, .int .i64 ou, .slice A1 ps.length c1, .slice A2 ms.length c2, .bool en] 25) := ⟨_, rfl⟩
  have hB0 : Below w.heap.size w W0 := by rw [hW0]; exact (Below.refl _ _).alloc (Nat.le_refl _) _
  have hz : Blk W0 w.heap.size 25 #[.int .i64 gr, .int .i64 ou, .slice A1 ps.length c1, .slice A2 ms.length c2, .bool en] := by rw [hW0]; exact Blk.new _ _ _
  have HV := Lib.hid (hv0.below hB0 (Nat.le_refl _)); clear hv0
  have hsz := hz.lt
  have HZ := Lib.hid hz; clear hz
  have HB0 := Lib.hid hB0; clear hB0
  have HW := Lib.hid hW0; clear hW0
  by_cases hok : Thr.ok ⟨gr, ou, ps, ms, en⟩ = true
  case neg =>
    have Hc := Lib.hid (Thr.check_f hok)
    have Hf := Lib.hid (show begunE ⟨gr, ou, ps, ms, en⟩ [proc] = 280 from by rw [begunE, if_neg hok])
    clear hok
    go_enter Try.func88, Try.ntmps88
    go_wp2_with fail
    rw [← HW.out]
    refine (refCheck_calls ⟨gr, ou, ps, ms, en⟩ _ _ HV.out HL.out).mono ?_
    rintro e w2 ⟨rfl, hb⟩
    rw [Hc.out]
    obtain ⟨⟨z0, z1, z2, z3, z4⟩, -⟩ := (HZ.out.below hb hsz).five
    have Hb := Lib.hid (HB0.out.trans (hb.mono HB0.out.size)); clear hb
    go_wp2
    go_ret
    exact ⟨by rw [Hf.out]; rfl, Hb.out⟩
  have Hc := Lib.hid (Thr.check_t hok)
  have hf : begunE ⟨gr, ou, ps, ms, en⟩ [proc] = if inRange ps.length proc = true then 0 else 1 := by rw [begunE, if_pos hok]; simp
  clear hok
  by_cases h0 : proc < 0
  · have h0b : decide (proc < 0) = true := decide_eq_true h0
    have Hf := Lib.hid (hf.trans (if_neg (by rw [inRange_iff]; omega))); clear hf
    go_enter Try.func88, Try.ntmps88
    go_wp2_with fail
    rw [← HW.out]
    refine (refCheck_calls ⟨gr, ou, ps, ms, en⟩ _ _ HV.out HL.out).mono ?_
    rintro e w2 ⟨rfl, hb⟩
    rw [Hc.out]
    obtain ⟨⟨z0, z1, z2, z3, z4⟩, -⟩ := (HZ.out.below hb hsz).five
    have Hb := Lib.hid (HB0.out.trans (hb.mono HB0.out.size)); clear hb
    go_wp2
    go_ret
    exact ⟨by rw [Hf.out]; rfl, Hb.out⟩
  have h0b : decide (proc < 0) = false := decide_eq_false h0
  by_cases h1 : (ps.length : Int) ≤ proc
  · have h1b : decide ((ps.length : Int) ≤ proc) = true := decide_eq_true h1
    have Hf := Lib.hid (hf.trans (if_neg (by rw [inRange_iff]; omega))); clear hf
    go_enter Try.func88, Try.ntmps88
    go_wp2_with fail
    rw [← HW.out]
    refine (refCheck_calls ⟨gr, ou, ps, ms, en⟩ _ _ HV.out HL.out).mono ?_
    rintro e w2 ⟨rfl, hb⟩
    rw [Hc.out]
    obtain ⟨⟨z0, z1, z2, z3, z4⟩, -⟩ := (HZ.out.below hb hsz).five
    have Hb := Lib.hid (HB0.out.trans (hb.mono HB0.out.size)); clear hb
    go_wp2
    go_ret
    exact ⟨by rw [Hf.out]; rfl, Hb.out⟩
  · have h1b : decide ((ps.length : Int) ≤ proc) = false := decide_eq_false h1
    have Hf := Lib.hid (hf.trans (if_pos (by rw [inRange_iff]; omega))); clear hf
    go_enter Try.func88, Try.ntmps88
    go_wp2_with fail
    rw [← HW.out]
    refine (refCheck_calls ⟨gr, ou, ps, ms, en⟩ _ _ HV.out HL.out).mono ?_
    rintro e w2 ⟨rfl, hb⟩
    rw [Hc.out]
    obtain ⟨⟨z0, z1, z2, z3, z4⟩, -⟩ := (HZ.out.below hb hsz).five
    have Hb := Lib.hid (HB0.out.trans (hb.mono HB0.out.size)); clear hb
    go_wp2
    go_ret
    exact ⟨by rw [Hf.out]; rfl, Hb.out⟩
theorem oneL (xs : List (Int × Int × Int)) : ∀ u ∈ xs.flatMap encL, u.oneCell' = true := by
  intro u hu
  obtain ⟨x, _, hx⟩ := List.mem_flatMap.1 hu
  simp only [encL, List.mem_cons, List.not_mem_nil, or_false] at hx
  rcases hx with rfl | rfl | rfl <;> rfl
theorem oneH (xs : List (Int × Int)) : ∀ u ∈ xs.flatMap encH, u.oneCell' = true := by
  intro u hu
  obtain ⟨x, _, hx⟩ := List.mem_flatMap.1 hu
  simp only [encH, List.mem_cons, List.not_mem_nil, or_false] at hx
  rcases hx with rfl | rfl <;> rfl

def FreshT (t : Thr) (w : World) (e : Ending) (w' : World) : Prop := ∃ v, e = .returned v ∧ ThrF w.heap.size w' v t ∧ Below w.heap.size w w'

set_option maxRecDepth 100000 in
set_option maxHeartbeats 4000000 in
theorem copied_calls (t : Thr) (v : Value) (w : World) (hv : ThrV w v t) (hl : t.Lens) :
    Calls Try.prog 89 #[v] w (FreshT t w) := by
  obtain ⟨i0, hi, hz0, hz1, hz2⟩ := info_parts info51
  have Hi := Lib.hid (And.intro hi (And.intro hz0 (And.intro hz1 hz2))); clear hi hz0 hz1 hz2
  obtain ⟨i1, hi, hz0, hz1, hz2⟩ := info_parts info54
  have Hj := Lib.hid (And.intro hi (And.intro hz0 (And.intro hz1 hz2))); clear hi hz0 hz1 hz2
  obtain ⟨gr, ou, ps, ms, en⟩ := t
  obtain ⟨A1, c1, A2, c2, rfl, k1, k2, k3, k4, k5, k6⟩ := hv
  obtain ⟨hl1, hl2⟩ := hl
  simp only at k3 k6 hl1 hl2
  clear k1 k2 k4 k5
  obtain ⟨W0, hW0⟩ : ∃ W0, W0 = (((w.alloc (.cells #[.int .i64 gr, .int .i64 ou, .slice A1 ps.length c1, .slice A2 ms.length c2, .bool en] 25)).alloc (.cells #[.int .i64 0, .int .i64 0, .slice none 0 0, .slice none 0 0, .bool false] 25)).alloc (.cells #[.int .i64 gr, .int .i64 ou, .slice A1 ps.length c1, .slice A2 ms.length c2, .bool en] 25)) := ⟨_, rfl⟩
  have s1 : (w.alloc (.cells #[.int .i64 gr, .int .i64 ou, .slice A1 ps.length c1, .slice A2 ms.length c2, .bool en] 25)).heap.size = w.heap.size + 1 := by simp
  have s2 : ((w.alloc (.cells #[.int .i64 gr, .int .i64 ou, .slice A1 ps.length c1, .slice A2 ms.length c2, .bool en] 25)).alloc (.cells #[.int .i64 0, .int .i64 0, .slice none 0 0, .slice none 0 0, .bool false] 25)).heap.size = w.heap.size + 1 + 1 := by simp
  have hB0 : Below w.heap.size w W0 := by rw [hW0]; exact (((Below.refl _ _).alloc (Nat.le_refl _) _).alloc (by simp) _).alloc (by simp; omega) _
  have hz1 : Blk W0 (w.heap.size + 1) 25 #[.int .i64 0, .int .i64 0, .slice none 0 0, .slice none 0 0, .bool false] := by
    rw [hW0]
    have := (Blk.new (w.alloc (.cells #[.int .i64 gr, .int .i64 ou, .slice A1 ps.length c1, .slice A2 ms.length c2, .bool en] 25)) 25 #[.int .i64 0, .int .i64 0, .slice none 0 0, .slice none 0 0, .bool false])
    rw [s1] at this
    exact this.alloc _
  have hz2 : Blk W0 (w.heap.size + 1 + 1) 25 #[.int .i64 gr, .int .i64 ou, .slice A1 ps.length c1, .slice A2 ms.length c2, .bool en] := by
    rw [hW0]
    have := (Blk.new ((w.alloc (.cells #[.int .i64 gr, .int .i64 ou, .slice A1 ps.length c1, .slice A2 ms.length c2, .bool en] 25)).alloc (.cells #[.int .i64 0, .int .i64 0, .slice none 0 0, .slice none 0 0, .bool false] 25)) 25 #[.int .i64 gr, .int .i64 ou, .slice A1 ps.length c1, .slice A2 ms.length c2, .bool en])
    rw [s2] at this
    exact this
  have hz0 : Blk W0 w.heap.size 25 #[.int .i64 gr, .int .i64 ou, .slice A1 ps.length c1, .slice A2 ms.length c2, .bool en] := by
    rw [hW0]; exact ((Blk.new w 25 _).alloc _).alloc _
  have s3 : W0.heap.size = w.heap.size + 1 + 1 + 1 := by rw [hW0]; simp
  have HR1 := Lib.hid (k3.reads (by decide) (k := 2) (n := ps.length) (flatMap_len encH 2 (fun _ => rfl) ps)); clear k3
  have HR2 := Lib.hid (k6.reads (by decide) (k := 3) (n := ms.length) (flatMap_len encL 3 (fun _ => rfl) ms)); clear k6
  have HZ0 := Lib.hid hz0; clear hz0
  have HZ1 := Lib.hid hz1; clear hz1
  have HZ2 := Lib.hid hz2; clear hz2
  have HB0 := Lib.hid hB0; clear hB0
  have HW := Lib.hid hW0; clear hW0
  have S3 := Lib.hid s3; clear s1 s2 s3
  go_enter Try.func89, Try.ntmps89
  have hown0 : (W0.alloc (.cells #[] 51)).ownsRow w.heap.size 51 2 (.slice (some ⟨w.heap.size + 1 + 1 + 1, 0, none⟩) 0 0) 0 [] := by
    have := World.ownsRow_made (base := w.heap.size) (e := 51) (size := 2) W0 #[] 0 HB0.out.size (Nat.zero_le _) rfl
    rwa [S3.out] at this
  have HO0 := Lib.hid hown0; clear hown0
  have HA := Lib.hid (show ∀ W : World, W.heap.size ≤ W.heap.size from fun _ => Nat.le_refl _)
  go_wp2_with (at_builtin; rw [← HW.out]; refine wpList_append_any _ rfl (.tmp 5) (.tmp 7) 22 rfl w.heap.size 51 i0 _ 2 16 Try.underlying22 Hi.out.1 Hi.out.2.1 Hi.out.2.2.1 Hi.out.2.2.2 rfl (by decide) (.slice (some ⟨w.heap.size + 1 + 1 + 1, 0, none⟩) 0 0) 0 [] rfl HO0.out w.heap.size A1 ps.length c1 (ps.flatMap encH) rfl ((HR1.out.below HB0.out).alloc HB0.out.size _) (oneH ps) (by simp only [maxLen]; omega) (by omega) (by have := HB0.out.size; simp; omega) ?_)
  intro v1 w1 hown hg _
  obtain ⟨A1', c1', rfl⟩ := own_slice hown
  have hbel : Below W0.heap.size W0 w1 := ((Below.refl _ W0).alloc (Nat.le_refl _) _).grown hg (by simp) (fun k hk => by simp [Value.ownBlock] at hk; rw [S3.out]; omega)
  have Hown := Lib.hid hown; clear hown hg
  have Hb1 := Lib.hid hbel; clear hbel
  have hlt0 : w.heap.size < W0.heap.size := HZ0.out.lt
  have hlt1 : w.heap.size + 1 < W0.heap.size := HZ1.out.lt
  have hlt2 : w.heap.size + 1 + 1 < W0.heap.size := HZ2.out.lt
  obtain ⟨⟨-, -, -, a3, -⟩, -⟩ := (HZ0.out.below Hb1.out hlt0).five
  obtain ⟨⟨u0, u1, u2, u3, u4⟩, ⟨q0, q1, q2, q3, q4⟩⟩ := (HZ2.out.below Hb1.out hlt2).five
  have HU1 := Lib.hid (HZ2.out.below Hb1.out hlt2)
  have hs1 : w.heap.size + 1 + 1 + 1 ≤ w1.heap.size := by have := Hb1.out.size; rw [S3.out] at this; exact this
  have hs2 : w.heap.size < w1.heap.size := by omega
  have hs3 : w.heap.size + 1 < w1.heap.size := by omega
  have hs4 : w.heap.size + 1 + 1 < w1.heap.size := by omega
  obtain ⟨W1, hW1⟩ : ∃ W1, W1 = w1.setCell ⟨w.heap.size + 1 + 1, 2, none⟩ (.slice A1' ps.length c1') := ⟨_, rfl⟩
  have hsz1 : W1.heap.size = w1.heap.size := by rw [hW1]; simp [World.setCell]
  have hbw : Below w.heap.size w W1 := by rw [hW1]; exact (HB0.out.trans (Hb1.out.mono HB0.out.size)).setCell (by show w.heap.size ≤ w.heap.size + 1 + 1; omega) _
  have hown1 : (W1.alloc (.cells #[] 54)).ownsRow w.heap.size 54 3 (.slice (some ⟨w1.heap.size, 0, none⟩) 0 0) 0 [] := by
    have := World.ownsRow_made (base := w.heap.size) (e := 54) (size := 3) W1 #[] 0 hbw.size (Nat.zero_le _) rfl
    rwa [hsz1] at this
  have hrow1 : W1.ownsRow w.heap.size 51 2 (.slice A1' ps.length c1') ps.length (ps.flatMap encH) := by
    rw [hW1]
    have h := own_set_far Hown.out HU1.out (by decide) 2 (.slice A1' ps.length c1')
    simpa using h
  have hU2 : Blk W1 (w.heap.size + 1 + 1) 25 #[.int .i64 gr, .int .i64 ou, .slice A1' ps.length c1', .slice A2 ms.length c2, .bool en] := by rw [hW1]; exact HU1.out.set_ 2 _
  have hZ12 : Blk W1 (w.heap.size + 1) 25 #[.int .i64 0, .int .i64 0, .slice none 0 0, .slice none 0 0, .bool false] := by
    rw [hW1]; exact (HZ1.out.below Hb1.out hlt1).far (p := ⟨w.heap.size + 1 + 1, 2, none⟩) (by show w.heap.size + 1 ≠ w.heap.size + 1 + 1; omega) _
  have hrd2 : Reads (W1.alloc (.cells #[] 54)) w.heap.size 3 A2 ms.length (ms.flatMap encL) := (HR2.out.below hbw).alloc hbw.size _
  have HW1 := Lib.hid hW1; clear hW1
  have Hown1 := Lib.hid hown1; clear hown1
  have Hrow1 := Lib.hid hrow1; clear hrow1
  have HU2 := Lib.hid hU2; clear hU2
  have HZ12 := Lib.hid hZ12; clear hZ12
  have HRD2 := Lib.hid hrd2; clear hrd2
  have Hbw := Lib.hid hbw; clear hbw
  have Hsz1 := Lib.hid hsz1; clear hsz1
  go_wp2_with (at_builtin; rw [← HW1.out]; refine wpList_append_any _ rfl (.tmp 10) (.tmp 12) 23 rfl w.heap.size 54 i1 _ 3 24 Try.underlying23 Hj.out.1 Hj.out.2.1 Hj.out.2.2.1 Hj.out.2.2.2 rfl (by decide) (.slice (some ⟨w1.heap.size, 0, none⟩) 0 0) 0 [] rfl Hown1.out w.heap.size A2 ms.length c2 (ms.flatMap encL) rfl HRD2.out (oneL ms) (by simp only [maxLen]; omega) (by omega) (by have := Hbw.out.size; simp; omega) ?_)
  intro v2 w2 hown hg _
  obtain ⟨A2', c2', rfl⟩ := own_slice hown
  have hbel : Below W1.heap.size W1 w2 := ((Below.refl _ W1).alloc (Nat.le_refl _) _).grown hg (by simp) (fun k hk => by simp [Value.ownBlock] at hk; rw [Hsz1.out]; omega)
  have Hown2 := Lib.hid hown; clear hown hg
  have Hb2 := Lib.hid hbel; clear hbel
  have hlt3 : w.heap.size + 1 < W1.heap.size := HZ12.out.lt
  have hlt4 : w.heap.size + 1 + 1 < W1.heap.size := HU2.out.lt
  clear a3 u0 u1 u2 u3 u4 q0 q1 q2 q3 q4
  obtain ⟨⟨u0, u1, u2, u3, u4⟩, ⟨q0, q1, q2, q3, q4⟩⟩ := (HU2.out.below Hb2.out hlt4).five
  obtain ⟨⟨z0, z1, z2, z3, z4⟩, ⟨y0, y1, y2, y3, y4⟩⟩ := (HZ12.out.below Hb2.out hlt3).five
  have HUF := Lib.hid ((HU2.out.below Hb2.out hlt4).set_ 3 (.slice A2' ms.length c2'))
  have HUB := Lib.hid (HU2.out.below Hb2.out hlt4)
  have HZF := Lib.hid ((HZ12.out.below Hb2.out hlt3).far (p := ⟨w.heap.size + 1 + 1, 3, none⟩) (by show w.heap.size + 1 ≠ w.heap.size + 1 + 1; omega) (.slice A2' ms.length c2'))
  have HBF := Lib.hid ((Hbw.out.trans (Hb2.out.mono Hbw.out.size)).setCell (p := ⟨w.heap.size + 1 + 1, 3, none⟩) (by show w.heap.size ≤ w.heap.size + 1 + 1; omega) (.slice A2' ms.length c2'))
  have HRF := Lib.hid (own_set_far (own_below Hrow1.out Hb2.out (Nat.le_refl _)) HUB.out (by decide) 3 (.slice A2' ms.length c2'))
  have HMF := Lib.hid (own_set_far Hown2.out HUB.out (by decide) 3 (.slice A2' ms.length c2'))
  go_wp2
  refine bodyPost_ret (v := .agg #[.int .i64 gr, .int .i64 ou, .slice A1' ps.length c1', .slice A2' ms.length c2', .bool en]) (by simp [results, Try.results89, go_sem, *]) rfl ⟨_, rfl, ?_, below_set5 HBF.out (Nat.le_succ _) _ _ _ _ _⟩
  refine ThrF.set5 (B := w.heap.size) (t := ⟨gr, ou, ps, ms, en⟩) ⟨_, _, _, _, rfl, HRF.out, ?_⟩ HZF.out _ _ _ _ _
  exact HMF.out

/-- A state as a result, told as it is or refused. -/
theorem told_calls (r : Thr × Int) (B : Nat) (t : Thr) (v : Value) (w : World) (hr : r = t.fin) (hF : ThrF B w v t) (hl : t.Lens) :
    Calls Try.prog 90 #[v] w (RetB B r w) := by
  subst hr
  have hF0 := hF
  obtain ⟨gr, ou, ps, ms, en⟩ := t
  obtain ⟨A1, c1, A2, c2, rfl, -, -⟩ := hF
  simp only at hF0 ⊢
  have HL := Lib.hid hl; clear hl
  obtain ⟨W0, hW0⟩ : ∃ W0, W0 = ((w.alloc (.cells #[.int .i64 gr, .int .i64 ou, .slice A1 ps.length c1, .slice A2 ms.length c2, .bool en] 25)).alloc (.cells #[.int .i64 0, .int .i64 0, .slice none 0 0, .slice none 0 0, .bool false] 25)) := ⟨_, rfl⟩
  have s1 : (w.alloc (.cells #[.int .i64 gr, .int .i64 ou, .slice A1 ps.length c1, .slice A2 ms.length c2, .bool en] 25)).heap.size = w.heap.size + 1 := by simp
  have hB0 : Below w.heap.size w W0 := by rw [hW0]; exact ((Below.refl _ _).alloc (Nat.le_refl _) _).alloc (by simp) _
  have hz1 : Blk W0 (w.heap.size + 1) 25 #[.int .i64 0, .int .i64 0, .slice none 0 0, .slice none 0 0, .bool false] := by
    rw [hW0]
    have := (Blk.new (w.alloc (.cells #[.int .i64 gr, .int .i64 ou, .slice A1 ps.length c1, .slice A2 ms.length c2, .bool en] 25)) 25 #[.int .i64 0, .int .i64 0, .slice none 0 0, .slice none 0 0, .bool false])
    rw [s1] at this
    exact this
  have hz0 : Blk W0 w.heap.size 25 #[.int .i64 gr, .int .i64 ou, .slice A1 ps.length c1, .slice A2 ms.length c2, .bool en] := by
    rw [hW0]; exact (Blk.new w 25 _).alloc _
  have hlt0 := hz0.lt
  have hlt1 := hz1.lt
  have HF := Lib.hid (hF0.below hB0 (Nat.le_refl _)); clear hF0
  have HZ0 := Lib.hid hz0; clear hz0
  have HZ1 := Lib.hid hz1; clear hz1
  have HB0 := Lib.hid hB0; clear hB0
  have HW := Lib.hid hW0; clear hW0 s1
  by_cases hok : Thr.ok ⟨gr, ou, ps, ms, en⟩ = true
  · have Hc := Lib.hid (Thr.check_t hok)
    have Hf := Lib.hid (Thr.fin_ok hok)
    clear hok
    go_enter Try.func90, Try.ntmps90
    go_wp2_with fail
    rw [← HW.out]
    refine (refCheck_calls ⟨gr, ou, ps, ms, en⟩ _ _ HF.out.val HL.out).mono ?_
    rintro e w2 ⟨rfl, hb⟩
    rw [Hc.out]
    obtain ⟨⟨u0, u1, u2, u3, u4⟩, -⟩ := (HZ0.out.below hb hlt0).five
    obtain ⟨⟨z0, z1, z2, z3, z4⟩, ⟨y0, y1, y2, y3, y4⟩⟩ := (HZ1.out.below hb hlt1).five
    have HZ2 := Lib.hid (HZ1.out.below hb hlt1)
    have HF2 := Lib.hid (HF.out.below hb (Nat.le_refl _))
    have Hb := Lib.hid (HB0.out.trans (hb.mono HB0.out.size)); clear hb
    go_wp2
    exact bodyPost_ret (v := .tuple #[.agg #[.int .i64 gr, .int .i64 ou, .slice A1 ps.length c1, .slice A2 ms.length c2, .bool en], .int .i64 0]) (by simp [results, Try.results90, go_sem, *]) rfl
      ⟨_, by rw [Hf.out], by rw [Hf.out]; exact HF2.out.set5 HZ2.out _ _ _ _ _, below_set5 Hb.out (Nat.le_succ _) _ _ _ _ _⟩
  · have Hc := Lib.hid (Thr.check_f hok)
    have Hf := Lib.hid (Thr.fin_bad hok)
    clear hok
    go_enter Try.func90, Try.ntmps90
    go_wp2_with fail
    rw [← HW.out]
    refine (refCheck_calls ⟨gr, ou, ps, ms, en⟩ _ _ HF.out.val HL.out).mono ?_
    rintro e w2 ⟨rfl, hb⟩
    rw [Hc.out]
    obtain ⟨⟨z0, z1, z2, z3, z4⟩, ⟨y0, y1, y2, y3, y4⟩⟩ := (HZ1.out.below hb hlt1).five
    have Hb := Lib.hid (HB0.out.trans (hb.mono HB0.out.size)); clear hb
    go_wp2
    exact bodyPost_ret (v := .tuple #[.agg #[.int .i64 0, .int .i64 0, .slice none 0 0, .slice none 0 0, .bool false], .int .i64 2]) (by simp [results, Try.results90, go_sem, *]) rfl
      ⟨_, by rw [Hf.out], by rw [Hf.out]; exact ThrF.zero _ _, below_set5 Hb.out (Nat.le_succ _) _ _ _ _ _⟩
end Go.Proofs.Ythdlmnkefheliaa
