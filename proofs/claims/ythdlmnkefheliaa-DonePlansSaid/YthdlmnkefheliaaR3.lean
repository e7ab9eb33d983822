import Derived.Test.YthdlmnkefheliaaR1
import Derived.Test.YthdlmnkefheliaaD32
import Derived.Test.YthdlmnkefheliaaD17
import Derived.Deep.AppendLies
set_option linter.unusedVariables false
set_option linter.unusedSimpArgs false
namespace Go.Proofs.Ythdlmnkefheliaa
open Go.RowKit
attribute [local go_sem ↓] Go.wp_at_zero Go.wp_at_succ

/-- The rows of a state of the call's own. -/
def RowsU (w : World) (B : Nat) (A1 : Option Addr) (np c1 : Nat) (A2 : Option Addr) (nm c2 : Nat) (ps : List (Int × Int)) (ms : List (Int × Int × Int)) : Prop :=
  w.ownsRow B 51 2 (.slice A1 np c1) np (ps.flatMap encH) ∧ w.ownsRow B 54 3 (.slice A2 nm c2) nm (ms.flatMap encL)
section
variable {w w1 W w3 : World} {B b B1 np nm c1 c2 : Nat} {A1 A2 : Option Addr} {ps : List (Int × Int)} {ms : List (Int × Int × Int)}
theorem RowsU.alloc (h : RowsU w B A1 np c1 A2 nm c2 ps ms) (o : Obj) : RowsU (w.alloc o) B A1 np c1 A2 nm c2 ps ms := ⟨h.1.alloc o, h.2.alloc o⟩
theorem RowsU.drewN (h : RowsU w B A1 np c1 A2 nm c2 ps ms) (n : Nat) : RowsU (w.drewN n) B A1 np c1 A2 nm c2 ps ms := h
theorem RowsU.drew (h : RowsU w B A1 np c1 A2 nm c2 ps ms) : RowsU w.drew B A1 np c1 A2 nm c2 ps ms := h
theorem RowsU.below (h : RowsU w B A1 np c1 A2 nm c2 ps ms) (hb : Below B1 w w1) (hB : w.heap.size ≤ B1) : RowsU w1 B A1 np c1 A2 nm c2 ps ms := ⟨own_below h.1 hb hB, own_below h.2 hb hB⟩
theorem RowsU.lower (h : RowsU w B A1 np c1 A2 nm c2 ps ms) (hB : b ≤ B) : RowsU w b A1 np c1 A2 nm c2 ps ms := ⟨own_lower h.1 hB, own_lower h.2 hB⟩
theorem RowsU.thrF (h : RowsU w B A1 np c1 A2 nm c2 ps ms) (hp : ps.length = np) (hm : ms.length = nm) (gr ou : Int) (en : Bool) :
    ThrF B w (.agg #[.int .i64 gr, .int .i64 ou, .slice A1 np c1, .slice A2 nm c2, .bool en]) ⟨gr, ou, ps, ms, en⟩ := by
  subst hp hm; exact ⟨_, _, _, _, rfl, h.1, h.2⟩
theorem RowsU.setU {p : Nat} {cs : Array Value} (h : RowsU w B A1 np c1 A2 nm c2 ps ms) (hp : Blk w p 25 cs) (i : Nat) (u : Value) : RowsU (w.setCell ⟨p, i, none⟩ u) B A1 np c1 A2 nm c2 ps ms :=
  ⟨own_set_far h.1 hp (by decide) i u, own_set_far h.2 hp (by decide) i u⟩
theorem RowsU.setG {g k : Nat} {x : Int × Int} (h : RowsU w B (some ⟨g, 0, none⟩) np c1 A2 nm c2 ps ms) (hp : ps.length = np) (hx : ps[k]? = some x) (n : Int) :
    RowsU (w.setCell ⟨g, k * 2, none⟩ (.int .i64 n)) B (some ⟨g, 0, none⟩) np c1 A2 nm c2 (ps.set k (n, x.2)) ms ∧ B ≤ g := by
  subst hp
  have hk : k < ps.length := (List.getElem?_eq_some_iff.1 hx).1
  obtain ⟨cur, hb⟩ := own_blk h.1
  have := own_set_in h.1 (k * 2) (.int .i64 n) (by omega)
  have he := flatMap_set encH 2 (fun _ => rfl) ps k 0 x (n, x.2) (.int .i64 n) hx (by omega) rfl
  rw [Nat.add_zero] at he
  rw [he] at this
  exact ⟨⟨this, own_set_far h.2 hb (by decide) _ _⟩, (h.1.lt g rfl).1⟩
theorem RowsU.setW {g k : Nat} {x : Int × Int} (h : RowsU w B (some ⟨g, 0, none⟩) np c1 A2 nm c2 ps ms) (hp : ps.length = np) (hx : ps[k]? = some x) (n : Int) :
    RowsU (w.setCell ⟨g, k * 2 + 1, none⟩ (.int .i64 n)) B (some ⟨g, 0, none⟩) np c1 A2 nm c2 (ps.set k (x.1, n)) ms ∧ B ≤ g := by
  subst hp
  have hk : k < ps.length := (List.getElem?_eq_some_iff.1 hx).1
  obtain ⟨cur, hb⟩ := own_blk h.1
  have := own_set_in h.1 (k * 2 + 1) (.int .i64 n) (by omega)
  have he := flatMap_set encH 2 (fun _ => rfl) ps k 1 x (x.1, n) (.int .i64 n) hx (by omega) rfl
  rw [he] at this
  exact ⟨⟨this, own_set_far h.2 hb (by decide) _ _⟩, (h.1.lt g rfl).1⟩
theorem RowsU.cells {g k : Nat} {x : Int × Int} (h : RowsU w B (some ⟨g, 0, none⟩) np c1 A2 nm c2 ps ms) (hx : ps[k]? = some x) :
    (w.cell? ⟨g, k * 2, none⟩ = some (.int .i64 x.1) ∧ w.cell? ⟨g, k * 2 + 1, none⟩ = some (.int .i64 x.2)) ∧ w.frozen? ⟨g, k * 2, none⟩ = false ∧ w.frozen? ⟨g, k * 2 + 1, none⟩ = false ∧ g < w.heap.size := by
  have e0 := flatMap_get encH 2 (fun _ => rfl) ps k 0 x hx (by omega)
  have e1 := flatMap_get encH 2 (fun _ => rfl) ps k 1 x hx (by omega)
  rw [Nat.add_zero] at e0
  have a0 := own_cell_in h.1 _ _ (e0.trans (rfl : (encH x)[0]? = some (.int .i64 x.1)))
  have a1 := own_cell_in h.1 _ _ (e1.trans (rfl : (encH x)[1]? = some (.int .i64 x.2)))
  exact ⟨⟨a0.1, a1.1⟩, a0.2, a1.2, (h.1.lt g rfl).2⟩
theorem RowsU.blkG {g : Nat} (h : RowsU w B (some ⟨g, 0, none⟩) np c1 A2 nm c2 ps ms) : ∃ cur, Blk w g 51 cur := own_blk h.1
theorem RowsU.append {l : Int × Int × Int} {mv : Value} {o : Obj} (h : RowsU W B A1 np c1 A2 nm c2 ps ms) (hg : (W.alloc o).grownBy w3 (.slice A2 nm c2 : Value).ownBlock)
    (hown : w3.ownsRow B 54 3 mv (nm + 1) (ms.flatMap encL ++ [.int .i64 l.1, .int .i64 l.2.1, .int .i64 l.2.2])) :
    ∃ A2' c2', mv = .slice A2' (nm + 1) c2' ∧ RowsU w3 B A1 np c1 A2' (nm + 1) c2' ps (ms ++ [l]) := by
  obtain ⟨A', c', rfl⟩ := own_slice hown
  exact ⟨A', c', rfl, (h.1.alloc o).kept hg (own_own_ne h.1 h.2 (by decide)), by rw [encL_snoc]; exact hown⟩
theorem RowsU.append_blk {p T : Nat} {cs : Array Value} {o : Obj} (h : RowsU W B A1 np c1 A2 nm c2 ps ms) (hg : (W.alloc o).grownBy w3 (.slice A2 nm c2 : Value).ownBlock) (hb : Blk W p T cs) (hT : 54 ≠ T) : Blk w3 p T cs :=
  (hb.alloc o).grown hg (Ne.symm (own_blk_ne h.2 hb hT))
theorem RowsU.append_below {B0 : Nat} {w0 : World} {o : Obj} (h : RowsU W B A1 np c1 A2 nm c2 ps ms) (hg : (W.alloc o).grownBy w3 (.slice A2 nm c2 : Value).ownBlock) (hb : Below B0 w0 W) (hB : B0 ≤ B) (hs : B0 ≤ W.heap.size) : Below B0 w0 w3 :=
  (hb.alloc hs o).grown hg (by simp; omega) (fun k hk => Nat.le_trans hB (h.2.lt k hk).1)
end

theorem busyE_of {t : Thr} {proc : Int} {more : List Int} {E : Int} (h : begunE t (proc :: more) = E) (hn : E ≠ 0) : busyE t proc more = E := by rw [busyE, if_neg (by rw [h]; exact hn)]; exact h
theorem busyE_empty {t : Thr} {proc : Int} {more : List Int} (h : begunE t (proc :: more) = 0) (hg : (t.proc proc).1 = 0) : busyE t proc more = 282 := by
  rw [busyE, if_pos h, if_pos (show (t.procs.getD proc.toNat (0, 0)).1 = 0 from hg)]
theorem busyE_good {t : Thr} {proc : Int} {more : List Int} (h : begunE t (proc :: more) = 0) (hg : (t.proc proc).1 ≠ 0) : busyE t proc more = 0 := by
  rw [busyE, if_pos h, if_neg (show ¬ (t.procs.getD proc.toNat (0, 0)).1 = 0 from hg)]

set_option maxRecDepth 100000 in
set_option maxHeartbeats 4000000 in
theorem refStart_calls (t : Thr) (v : Value) (proc : Int) (w : World) (hv : ThrV w v t) (hl : t.Lens) :
    Calls Try.prog 82 #[v, .int .i64 proc] w (RetT (startM t proc) w) := by
  have hv0 := hv
  obtain ⟨gr, ou, ps, ms, en⟩ := t
  obtain ⟨A1, c1, A2, c2, rfl, k1, k2, k3, k4, k5, k6⟩ := hv
  clear k1 k2 k3 k4 k5 k6
  simp only at hv0 ⊢
  have HL := Lib.hid hl; clear hl
  obtain ⟨W0, hW0⟩ : ∃ W0, W0 = ((w.alloc (.cells #[.int .i64 gr, .int .i64 ou, .slice A1 ps.length c1, .slice A2 ms.length c2, .bool en] 25)).alloc (.cells #[.int .i64 0, .int .i64 0, .slice none 0 0, .slice none 0 0, .bool false] 25)) := ⟨_, rfl⟩
  have hB0 : Below w.heap.size w W0 := by rw [hW0]; exact ((Below.refl _ _).alloc (Nat.le_refl _) _).alloc (by simp) _
  have hz : Blk W0 (w.heap.size + 1) 25 #[.int .i64 0, .int .i64 0, .slice none 0 0, .slice none 0 0, .bool false] := by
    rw [hW0]
    have := Blk.new (w.alloc (.cells #[.int .i64 gr, .int .i64 ou, .slice A1 ps.length c1, .slice A2 ms.length c2, .bool en] 25)) 25 #[.int .i64 0, .int .i64 0, .slice none 0 0, .slice none 0 0, .bool false]
    rw [show (w.alloc (.cells #[.int .i64 gr, .int .i64 ou, .slice A1 ps.length c1, .slice A2 ms.length c2, .bool en] 25)).heap.size = w.heap.size + 1 from by simp] at this
    exact this
  have hz0 : Blk W0 w.heap.size 25 #[.int .i64 gr, .int .i64 ou, .slice A1 ps.length c1, .slice A2 ms.length c2, .bool en] := by rw [hW0]; exact (Blk.new w 25 _).alloc _
  have HV := Lib.hid (hv0.below hB0 (Nat.le_refl _)); clear hv0
  have hsz := hz.lt
  have hsz0 := hz0.lt
  have HZ := Lib.hid hz; clear hz
  have HP := Lib.hid hz0; clear hz0
  have HB0 := Lib.hid hB0; clear hB0
  have HW := Lib.hid hW0; clear hW0
  obtain ⟨E, hE⟩ : ∃ E, begunE ⟨gr, ou, ps, ms, en⟩ [proc] = E := ⟨_, rfl⟩
  have HE := Lib.hid hE
  obtain ⟨i1, hi, hz0, hz1, hz2⟩ := info_parts info54
  have Hj := Lib.hid (And.intro hi (And.intro hz0 (And.intro hz1 hz2))); clear hi hz0 hz1 hz2
  have hca := asked_calls ⟨gr, ou, ps, ms, en⟩ _ proc _ HV.out HL.out
  rw [hE] at hca
  have Hca := Lib.hid hca; clear hca
  by_cases hn : E = 0
  case neg =>
    have Hf := Lib.hid (show startM ⟨gr, ou, ps, ms, en⟩ proc = (Thr.zero, E) from by rw [startM, if_neg (by rw [hE]; exact hn), hE])
    have hnb : (E != 0) = true := by simpa using hn
    clear hn hE
    go_enter Try.func82, Try.ntmps82
    go_wp2_with fail
    rw [← HW.out]
    refine (Hca.out).mono ?_
    rintro e w1 ⟨rfl, hb⟩
    have HB1 := Lib.hid (HB0.out.trans (hb.mono HB0.out.size))
    have HZ1 := Lib.hid (HZ.out.below hb HZ.out.lt)
    have HP1 := Lib.hid (HP.out.below hb HP.out.lt)
    have HV1 := Lib.hid (HV.out.below hb (Nat.le_refl _))
    clear hb
    try clear a0 a1 a2 a3 a4 z0 z1 z2 z3 z4 y0 y1 y2 y3 y4
    obtain ⟨⟨a0, a1, a2, a3, a4⟩, -⟩ := HP1.out.five
    obtain ⟨⟨z0, z1, z2, z3, z4⟩, ⟨y0, y1, y2, y3, y4⟩⟩ := HZ1.out.five
    have lz1 := HZ1.out.lt
    have lp1 := HP1.out.lt
    go_wp2
    exact bodyPost_ret (v := .tuple #[.agg #[.int .i64 0, .int .i64 0, .slice none 0 0, .slice none 0 0, .bool false], .int .i64 E]) (by simp [results, Try.results82, go_sem, *]) rfl
      ⟨_, by rw [Hf.out], by rw [Hf.out]; exact ThrF.zero _ _, below_set5 HB1.out (Nat.le_succ _) _ _ _ _ _⟩
  subst hn
  have Hgd := Lib.hid (Thr.good_iff.1 (begunE_ok hE).1)
  have hl1 := Hgd.out.pl1
  have hl2 := Hgd.out.ml
  have g0 := Hgd.out.gr0
  have g1 := Hgd.out.gr1
  have g2 := Hgd.out.ou0
  have g3 := Hgd.out.ou1
  simp only at hl1 hl2 g0 g1 g2 g3
  have Hf0 := Lib.hid (show startM ⟨gr, ou, ps, ms, en⟩ proc = (Thr.issue ⟨gr, ou, ps, ms, false⟩ 1 proc).fin from by rw [startM, if_pos hE])
  clear hE
  go_enter Try.func82, Try.ntmps82
  go_wp2_with fail
  rw [← HW.out]
  refine (Hca.out).mono ?_
  rintro e w1 ⟨rfl, hb⟩
  have HB1 := Lib.hid (HB0.out.trans (hb.mono HB0.out.size))
  have HZ1 := Lib.hid (HZ.out.below hb HZ.out.lt)
  have HP1 := Lib.hid (HP.out.below hb HP.out.lt)
  have HV1 := Lib.hid (HV.out.below hb (Nat.le_refl _))
  clear hb
  try clear a0 a1 a2 a3 a4 z0 z1 z2 z3 z4 y0 y1 y2 y3 y4
  obtain ⟨⟨a0, a1, a2, a3, a4⟩, -⟩ := HP1.out.five
  obtain ⟨⟨z0, z1, z2, z3, z4⟩, ⟨y0, y1, y2, y3, y4⟩⟩ := HZ1.out.five
  have lz1 := HZ1.out.lt
  have lp1 := HP1.out.lt
  go_wp2_with fail
  refine (copied_calls ⟨gr, ou, ps, ms, en⟩ _ _ HV1.out HL.out).mono ?_
  rintro e w2 ⟨v2, rfl, hF, hb⟩
  obtain ⟨A1', c1', A2', c2', rfl, ho1, ho2⟩ := hF
  simp only at ho1 ho2
  have HRr2 := Lib.hid (show RowsU w2 (w.heap.size + 2) A1' ps.length c1' A2' ms.length c2' ps ms from RowsU.lower ⟨ho1, ho2⟩ (by have := HZ1.out.lt; omega))
  clear ho1 ho2
  have HB2 := Lib.hid (HB1.out.trans (hb.mono HB1.out.size))
  have HZ2 := Lib.hid (HZ1.out.below hb HZ1.out.lt)
  have HP2 := Lib.hid (HP1.out.below hb HP1.out.lt)
  have HV2 := Lib.hid (HV1.out.below hb (Nat.le_refl _))
  clear hb
  try clear a0 a1 a2 a3 a4 z0 z1 z2 z3 z4 y0 y1 y2 y3 y4
  obtain ⟨⟨a0, a1, a2, a3, a4⟩, -⟩ := HP2.out.five
  obtain ⟨⟨z0, z1, z2, z3, z4⟩, ⟨y0, y1, y2, y3, y4⟩⟩ := HZ2.out.five
  have lz2 := HZ2.out.lt
  have lp2 := HP2.out.lt
  obtain ⟨WU, hWU⟩ : ∃ WU, WU = (w2).alloc (.cells #[.int .i64 gr, .int .i64 (ou + gr), .slice A1' ps.length c1', .slice A2' ms.length c2', .bool false] 25) := ⟨_, rfl⟩
  have HszU := Lib.hid (show WU.heap.size = w2.heap.size + 1 from by rw [hWU]; simp)
  have HUU : Hid (Blk WU w2.heap.size 25 #[.int .i64 gr, .int .i64 (ou + gr), .slice A1' ps.length c1', .slice A2' ms.length c2', .bool false]) := Lib.hid (by
    have := Blk.new (w2) 25 #[.int .i64 gr, .int .i64 (ou + gr), .slice A1' ps.length c1', .slice A2' ms.length c2', .bool false]
    rw [hWU]; simpa using this)
  have HRU : Hid (RowsU WU (w.heap.size + 2) A1' ps.length c1' A2' ms.length c2' ps ms) := Lib.hid (by rw [hWU]; exact HRr2.out.alloc _)
  have HZU : Hid (Blk WU (w.heap.size + 1) 25 #[.int .i64 0, .int .i64 0, .slice none 0 0, .slice none 0 0, .bool false]) := Lib.hid (by rw [hWU]; exact HZ2.out.alloc _)
  have HBU : Hid (Below w.heap.size w WU) := Lib.hid (by rw [hWU]; exact HB2.out.alloc HB2.out.size _)
  have HWU := Lib.hid hWU; clear hWU
  go_wp2_with (at_builtin; refine wpList_append_own _ rfl (.tmp 25) (.tmp 30) 23 rfl (w.heap.size + 2) 54 i1 _ 3 24 Try.underlying23 Hj.out.1 Hj.out.2.1 Hj.out.2.2.1 Hj.out.2.2.2 rfl (by decide) (.slice A2' ms.length c2') ms.length (ms.flatMap encL) rfl ((by have := HRU.out.2.alloc (.cells #[.int .i64 1, .int .i64 proc, .int .i64 gr] 54); rw [HWU.out] at this; exact this)) ⟨w2.heap.size + 1, 0, none⟩ 1 1 [.int .i64 1, .int .i64 proc, .int .i64 gr] rfl rfl ?c1 ?c2 ?c3 ?c4 ?c5 ?_)
  case c1 =>
    intro j u hu
    rw [add_lit0]
    have := (Blk.new WU 54 #[.int .i64 1, .int .i64 proc, .int .i64 gr]).cell j
    rw [HszU.out] at this
    rw [HWU.out] at this
    rw [this]
    simpa using hu
  case c2 => simp [Value.oneCell']
  case c3 => simp only [maxLen]; omega
  case c4 => omega
  case c5 => have := HB2.out.size; simp; omega
  intro mv' w3 hown hg _
  rw [← HWU.out] at hg
  obtain ⟨A3, c3, rfl, hR3⟩ := RowsU.append (l := (1, proc, gr)) HRU.out hg hown
  have hU3 := HRU.out.append_blk hg HUU.out (by decide)
  have hz3 := HRU.out.append_blk hg HZU.out (by decide)
  have hb3 := HRU.out.append_below hg HBU.out (by omega) HBU.out.size
  clear hown hg
  try clear a0 a1 a2 a3 a4
  clear z0 z1 z2 z3 z4 y0 y1 y2 y3 y4
  obtain ⟨⟨u0, u1, u2, u3, u4⟩, ⟨f0, f1, f2, f3, f4⟩⟩ := hU3.five
  have lu3 := hU3.lt
  have lz3 := hz3.lt
  obtain ⟨⟨z0, z1, z2, z3, z4⟩, ⟨y0, y1, y2, y3, y4⟩⟩ := hz3.five
  have HR3 := Lib.hid hR3
  have HU3 := Lib.hid hU3
  have HZ3 := Lib.hid hz3
  have HB3 := Lib.hid hb3
  clear hR3 hU3 hz3 hb3
  go_wp2_with fail
  refine calls_at (fun W => ThrF (w.heap.size + 2) W (.agg #[.int .i64 gr, .int .i64 (ou + gr), .slice A1' ps.length c1', .slice A3 (ms.length + 1) c3, .bool false]) ⟨gr, ou + gr, ps, ms ++ [(1, proc, gr)], false⟩ ∧ Blk W (w.heap.size + 1) 25 #[.int .i64 0, .int .i64 0, .slice none 0 0, .slice none 0 0, .bool false] ∧ Below w.heap.size w W) ⟨(HR3.out.setU HU3.out 3 _).thrF rfl (by simp) _ _ _, HZ3.out.far (p := ⟨w2.heap.size, 3, none⟩) (by show w.heap.size + 1 ≠ w2.heap.size; omega) _, HB3.out.setCell (by show w.heap.size ≤ w2.heap.size; exact HB2.out.size) _⟩ ?_
  rintro W5 ⟨hF5, hz5, hb5⟩
  clear z0 z1 z2 z3 z4 y0 y1 y2 y3 y4
  obtain ⟨r, hr⟩ : ∃ r, r = Thr.fin ⟨gr, ou + gr, ps, ms ++ [(1, proc, gr)], false⟩ := ⟨_, rfl⟩
  have hf := Hf0.out.trans hr.symm
  have Hf := Lib.hid hf
  refine (told_calls r _ ⟨gr, ou + gr, ps, ms ++ [(1, proc, gr)], false⟩ _ W5 hr hF5 ⟨by simp only; omega, by simp only [List.length_append, List.length_cons, List.length_nil]; omega⟩).mono ?_
  obtain ⟨⟨gr', ou', ps', ms', en'⟩, n'⟩ := r
  rintro e w6 ⟨v6, rfl, hv6, hb6⟩
  have hv6' := hv6
  obtain ⟨J1, j1, J2, j2, rfl, -, -⟩ := hv6'
  have hz6 := hz5.below hb6 hz5.lt
  obtain ⟨⟨z0, z1, z2, z3, z4⟩, ⟨y0, y1, y2, y3, y4⟩⟩ := hz6.five
  have lz6 := hz6.lt
  have Hz6 := Lib.hid hz6
  have Hv6 := Lib.hid (hv6.lower (B' := w.heap.size) (by omega))
  have Hb6 := Lib.hid (hb5.trans (hb6.mono hb5.size))
  clear hf hr hF5 hz5 hb5 hv6 hb6 hz6
  go_wp2
  exact bodyPost_ret (v := .tuple #[.agg #[.int .i64 gr', .int .i64 ou', .slice J1 ps'.length j1, .slice J2 ms'.length j2, .bool en'], .int .i64 n']) (by simp [results, Try.results82, go_sem, *]) rfl
    ⟨_, by rw [Hf.out], by rw [Hf.out]; exact Hv6.out.set5 Hz6.out _ _ _ _ _, below_set5 Hb6.out (Nat.le_succ _) _ _ _ _ _⟩
end Go.Proofs.Ythdlmnkefheliaa
