import Derived.Test.YthdlmnkefheliaaR10
import Derived.Test.YthdlmnkefheliaaR11
import Derived.Test.YthdlmnkefheliaaL3
set_option linter.unusedVariables false
set_option linter.unusedSimpArgs false
namespace Go.Proofs.Ythdlmnkefheliaa
open Go.RowKit
attribute [local go_sem ↓] Go.wp_at_zero Go.wp_at_succ

theorem own_five {B e k n : Nat} {w : World} {v : Value} {xs : List Value} (h : w.ownsRow B e k v n xs) {g : Nat} {cs : Array Value} (hg : Blk w g 25 cs) (hne : e ≠ (25 : Nat)) (a b c d f : Value) :
    (((((w.setCell ⟨g, 0, none⟩ a).setCell ⟨g, 1, none⟩ b).setCell ⟨g, 2, none⟩ c).setCell ⟨g, 3, none⟩ d).setCell ⟨g, 4, none⟩ f).ownsRow B e k v n xs :=
  own_set_far (own_set_far (own_set_far (own_set_far (own_set_far h hg hne _ _) (hg.set_ 0 a) hne _ _) ((hg.set_ 0 a).set_ 1 b) hne _ _) (((hg.set_ 0 a).set_ 1 b).set_ 2 c) hne _ _) ((((hg.set_ 0 a).set_ 1 b).set_ 2 c).set_ 3 d) hne _ _
theorem balanceM_bad {t : Thr} (h : ¬ t.ok = true) : balanceM t = (Thr.zero, 0, 280) := by
  have : begunE t [] = 280 := by rw [begunE, if_neg h]
  rw [balanceM, this]; rfl
theorem begunE_nil {t : Thr} (h : t.ok = true) : begunE t [] = 0 := by rw [begunE, if_pos h]; rfl
theorem balanceM_big {t : Thr} (h : t.ok = true) {x : Int × Int} (hx : x ∈ t.procs) (hb : 1000 < x.1) : balanceM t = (Thr.zero, 0, 2) := by
  have hp : (planM (t.procs.map Prod.fst)).2 = 1 := by
    rw [planM]
    have : ((t.procs.map Prod.fst).any fun x => !bd 0 1000 x) = true := by
      rw [List.any_eq_true]
      exact ⟨x.1, List.mem_map_of_mem hx, by rw [Bool.not_eq_true', ← Bool.not_eq_true, bd_iff]; omega⟩
    rw [this]
    simp
  rw [balanceM, if_pos (begunE_nil h), if_neg (by rw [hp]; decide)]
theorem balanceM_go {t : Thr} (h : t.ok = true) (hb : ∀ x ∈ t.procs, x.1 ≤ 1000) : (planM (t.procs.map Prod.fst)).2 = 0 ∧ balanceM t = balGo (planM (t.procs.map Prod.fst)).1 0 t := by
  have hg := Thr.good_iff.1 h
  have hp : (planM (t.procs.map Prod.fst)).2 = 0 := by
    rw [planM]
    have h1 : ((t.procs.map Prod.fst).any fun x => !bd 0 1000 x) = false := by
      rw [List.any_eq_false]
      intro y hy
      obtain ⟨x, hx, rfl⟩ := List.mem_map.1 hy
      have := hg.pr x hx
      rw [holderOk, Bool.and_eq_true, bd_iff] at this
      rw [Bool.not_eq_true, Bool.not_eq_false', bd_iff]
      exact ⟨this.1.1, hb x hx⟩
    have h2 : bd 1 16 ((t.procs.map Prod.fst).length : Int) = true := by
      rw [bd_iff, List.length_map]
      have := hg.pl0
      have := hg.pl1
      omega
    rw [h1, h2]; rfl
  exact ⟨hp, by rw [balanceM, if_pos (begunE_nil h), if_pos hp]⟩
theorem refPlanr_calls (r : List (Int × Int) × Int) (n : Nat) (l0 : List Int) (A : Option Addr) (c : Nat) (w : World) (hr' : r = planM l0) (hn' : n = l0.length) (hlen : l0.length ≤ 100000) (hr : Rd w A (l0.flatMap encI)) :
    Calls Try.prog 24 #[.slice A n c] w (RetP w r) := by
  subst hr' hn'; exact refPlan_calls l0 A c w hlen hr
theorem refMover_calls (r : Thr × Int) (t : Thr) (v : Value) (proc to_ : Int) (w : World) (hr : r = moveM t proc to_) (hv : ThrV w v t) (hl : t.Lens) :
    Calls Try.prog 64 #[v, .int .i64 proc, .int .i64 to_] w (RetT r w) := by
  subst hr; exact refMove_calls t v proc to_ w hv hl

set_option maxRecDepth 100000 in
set_option maxHeartbeats 4000000 in
theorem refBalance_calls (t : Thr) (v : Value) (w : World) (hv : ThrV w v t) (hl : t.Lens) :
    Calls Try.prog 26 #[v] w (RetV (balanceM t) w) := by
  have hv0 := hv
  obtain ⟨gr, ou, ps, ms, en⟩ := t
  obtain ⟨A1, c1, A2, c2, rfl, k1, k2, k3, k4, k5, k6⟩ := hv
  clear k1 k2 k4 k5 k6
  simp only at hv0 k3 ⊢
  have HL := Lib.hid hl; clear hl
  obtain ⟨W0, hW0⟩ : ∃ W0, W0 = ((w.alloc (.cells #[.int .i64 gr, .int .i64 ou, .slice A1 ps.length c1, .slice A2 ms.length c2, .bool en] 25)).alloc (.cells #[.int .i64 0, .int .i64 0, .slice none 0 0, .slice none 0 0, .bool false] 25)) := ⟨_, rfl⟩
  have hB0 : Below w.heap.size w W0 := by rw [hW0]; exact ((Below.refl _ _).alloc (Nat.le_refl _) _).alloc (by simp) _
  have hbx : Blk W0 w.heap.size 25 #[.int .i64 gr, .int .i64 ou, .slice A1 ps.length c1, .slice A2 ms.length c2, .bool en] := by rw [hW0]; exact (Blk.new w 25 _).alloc _
  have hz : Blk W0 (w.heap.size + 1) 25 #[.int .i64 0, .int .i64 0, .slice none 0 0, .slice none 0 0, .bool false] := by
    rw [hW0]
    have := Blk.new (w.alloc (.cells #[.int .i64 gr, .int .i64 ou, .slice A1 ps.length c1, .slice A2 ms.length c2, .bool en] 25)) 25 #[.int .i64 0, .int .i64 0, .slice none 0 0, .slice none 0 0, .bool false]
    rw [show (w.alloc (.cells #[.int .i64 gr, .int .i64 ou, .slice A1 ps.length c1, .slice A2 ms.length c2, .bool en] 25)).heap.size = w.heap.size + 1 from by simp] at this
    exact this
  have hsz := hz.lt
  have HVw := Lib.hid hv0
  have HR := Lib.hid k3; clear k3
  have HV := Lib.hid (hv0.below hB0 (Nat.le_refl _)); clear hv0
  have HBX := Lib.hid hbx; clear hbx
  have HZ := Lib.hid hz; clear hz
  have HB0 := Lib.hid hB0; clear hB0
  have HW := Lib.hid hW0; clear hW0
  by_cases hok : Thr.ok ⟨gr, ou, ps, ms, en⟩ = true
  case neg =>
    have Hf := Lib.hid (balanceM_bad hok)
    have hck := Thr.check_f hok
    have Hck := Lib.hid hck; clear hck hok
    go_enter Try.func26, Try.ntmps26
    go_wp2_with fail
    rw [← HW.out]
    refine (refCheckr_calls 280 ⟨gr, ou, ps, ms, en⟩ _ _ Hck.out HV.out HL.out.2).mono ?_
    rintro e w1 ⟨rfl, hb1⟩
    obtain ⟨⟨z0, z1, z2, z3, z4⟩, ⟨y0, y1, y2, y3, y4⟩⟩ := (HZ.out.below hb1 hsz).five
    have Hb1 := Lib.hid (HB0.out.trans (hb1.mono HB0.out.size)); clear hb1
    go_wp2
    exact bodyPost_ret (v := .tuple #[.agg #[.int .i64 0, .int .i64 0, .slice none 0 0, .slice none 0 0, .bool false], .int .i64 0, .int .i64 280]) (by simp [results, Try.results26, go_sem, *]) rfl
      ⟨_, by rw [Hf.out], by rw [Hf.out]; exact (ThrF.zero w.heap.size _).val, below_set5 Hb1.out (Nat.le_succ _) _ _ _ _ _⟩
  have hck := Thr.check_t hok
  have Hck := Lib.hid hck; clear hck
  have Hok := Lib.hid hok
  have hgd := Thr.good_iff.1 hok
  have hl1 : ps.length ≤ 16 := hgd.pl1
  have hl0 : 1 ≤ ps.length := hgd.pl0
  clear hgd hok
  obtain ⟨i3, hi3, hy0, hy1, hy2⟩ := info_parts info3
  have Hi3 := Lib.hid (And.intro hi3 (And.intro hy0 (And.intro hy1 hy2))); clear hi3 hy0 hy1 hy2
  go_enter Try.func26, Try.ntmps26
  go_wp2_with fail
  rw [← HW.out]
  refine (refCheckr_calls 0 ⟨gr, ou, ps, ms, en⟩ _ _ Hck.out HV.out HL.out.2).mono ?_
  rintro e w1 ⟨rfl, hb1⟩
  have HBX1 := Lib.hid (HBX.out.below hb1 (Nat.lt_of_succ_lt hsz))
  have HZ1 := Lib.hid (HZ.out.below hb1 hsz)
  have Hb1 := Lib.hid (HB0.out.trans (hb1.mono HB0.out.size)); clear hb1
  have hz1lt := HZ1.out.lt
  have hown0 := World.ownsRow_made (base := w1.heap.size) (e := 3) (size := 1) w1 #[] 0 (Nat.le_refl _) (Nat.zero_le _) rfl
  have Hown0 := Lib.hid hown0; clear hown0
  go_wp2_with fail
  go_loopw [6, 7] (fun o i wr => ∃ k : Nat, k ≤ ps.length ∧ i = .int .i64 k ∧ (∀ j x, j < k → ps[j]? = some x → x.1 ≤ 1000) ∧ wr.ownsRow w1.heap.size 3 1 o k (((ps.take k).map Prod.fst).flatMap encI) ∧ Below w1.heap.size w1 wr) (fun _ i _ => ps.length - (intOf i).toNat)
  case atStart => exact ⟨0, Nat.zero_le _, rfl, fun j x h => absurd h (by omega), Hown0.out, (Below.refl _ _).alloc (Nat.le_refl _) _⟩
  case round =>
    obtain ⟨k, hk, rfl, hsm, hoo, hB1⟩ := hrel
    have Hsm := Lib.hid hsm; clear hsm
    have HBXr := Lib.hid (HBX1.out.below hB1 HBX1.out.lt)
    have HZr := Lib.hid (HZ1.out.below hB1 HZ1.out.lt)
    have HB1' := Lib.hid hB1; clear hB1
    have hbxlt := HBXr.out.lt
    have hzlt := HZr.out.lt
    obtain ⟨⟨b0, b1, b2, b3, b4⟩, -⟩ := HBXr.out.five
    obtain ⟨A', c', rfl⟩ := own_slice hoo
    have Hoo := Lib.hid hoo; clear hoo
    by_cases hlt : k < ps.length
    · obtain ⟨x, hx⟩ : ∃ x, ps[k]? = some x := ⟨_, List.getElem?_eq_getElem hlt⟩
      obtain ⟨gp, off, rfl, c0, c1'⟩ := Rd.atH ((HR.out.below Hb1.out (Nat.le_refl _)).below HB1'.out (Nat.le_refl _)) hx
      obtain ⟨x1, x2⟩ := x
      simp only at c0 c1'
      have Hx := Lib.hid hx; clear hx
      by_cases hgt : 1000 < x1
      · have hdg : decide ((1000 : Int) < x1) = true := decide_eq_true hgt
        have Hf := Lib.hid (balanceM_big Hok.out (List.mem_of_getElem? Hx.out) hgt)
        obtain ⟨⟨z0, z1, z2, z3, z4⟩, ⟨y0, y1, y2, y3, y4⟩⟩ := HZr.out.five
        go_wp2
        exact bodyPost_ret (v := .tuple #[.agg #[.int .i64 0, .int .i64 0, .slice none 0 0, .slice none 0 0, .bool false], .int .i64 0, .int .i64 2]) (by simp [results, Try.results26, go_sem, *]) rfl
          ⟨_, by rw [Hf.out], by rw [Hf.out]; exact (ThrF.zero w.heap.size _).val, below_set5 (Hb1.out.trans (HB1'.out.mono Hb1.out.size)) (Nat.le_succ _) _ _ _ _ _⟩
      · have hdg : decide ((1000 : Int) < x1) = false := decide_eq_false hgt
        have hbn := Blk.new wr 3 #[.int .i64 x1]
        have Hbn := Lib.hid hbn; clear hbn
        have Hoo2 := Lib.hid (Hoo.out.alloc (.cells #[.int .i64 x1] 3))
        have hb2 := HB1'.out.alloc HB1'.out.size (.cells #[.int .i64 x1] 3)
        have Hb2 := Lib.hid hb2; clear hb2
        have hmax : k + 1 ≤ maxLen := by simp only [maxLen]; omega
        have hby : (k + 1) * 8 ≤ 140737488355328 := by omega
        have hbs := Hb2.out.size
        have Hcc := Lib.hid (And.intro hmax (And.intro hby hbs)); clear hmax hby hbs
        go_wp2_with (at_builtin; refine wpList_append_own _ rfl (.tmp 34) (.tmp 41) 35 rfl w1.heap.size 3 i3 _ 1 8 Try.underlying35 Hi3.out.1 Hi3.out.2.1 Hi3.out.2.2.1 Hi3.out.2.2.2 rfl (by decide) (.slice A' k c') k (((ps.take k).map Prod.fst).flatMap encI) rfl Hoo2.out ⟨wr.heap.size, 0, none⟩ 1 1 [.int .i64 x1] rfl rfl ?c1 ?c2 Hcc.out.1 Hcc.out.2.1 Hcc.out.2.2 ?_)
        case c2 => simp [Value.oneCell']
        intro v7 w7 hown hg _
        have Hb9 := Lib.hid (Hb2.out.grown hg Hcc.out.2.2 (fun k hk => (Hoo2.out.lt k hk).1))
        have Hoo9 := Lib.hid hown; clear hown hg
        go_wp2
        go_roundw
        case rel => exact ⟨k + 1, by omega, by go_num, fun j y hj hy => by
          rcases Nat.lt_or_ge j k with h1 | h1
          · exact Hsm.out j y h1 hy
          · obtain rfl : j = k := by omega
            have hxx := Hx.out
            rw [hy] at hxx
            injection hxx with hxx
            subst hxx
            simp only
            omega, by
          have := Hoo9.out
          obtain ⟨hkk, hxx⟩ := List.getElem?_eq_some_iff.1 Hx.out
          rw [List.take_succ_eq_append_getElem hkk, hxx, List.map_append, List.flatMap_append]
          simpa [encI] using this, Hb9.out⟩
        case measure => simp [intOf]; omega
    · have hke : k = ps.length := by omega
      subst hke
      have hall : ∀ x ∈ ps, x.1 ≤ 1000 := fun x hx => by
        obtain ⟨j, hj, he⟩ := List.getElem_of_mem hx
        exact Hsm.out j x hj (by rw [List.getElem?_eq_getElem hj, he])
      have hbg := balanceM_go Hok.out hall
      obtain ⟨l0, hl0'⟩ : ∃ l0, l0 = ps.map Prod.fst := ⟨_, rfl⟩
      have hll : ps.length = l0.length := by rw [hl0']; simp
      have hoo' := Hoo.out
      rw [List.take_length, ← hl0'] at hoo'
      simp only at hbg
      rw [← hl0'] at hbg
      have Hoo' := Lib.hid (own_rd hoo'); clear hoo'
      have Hll := Lib.hid hll; clear hll hl0' hall
      obtain ⟨r, hr⟩ : ∃ r, r = planM l0 := ⟨_, rfl⟩
      rw [← hr] at hbg
      obtain ⟨R, hR⟩ : ∃ R, R = balanceM ⟨gr, ou, ps, ms, en⟩ := ⟨_, rfl⟩
      rw [← hR] at hbg
      have HRR := Lib.hid hR; clear hR
      have hmvl := planM_len l0
      rw [← hr] at hmvl
      have Hr := Lib.hid hr; clear hr
      have Hbg := Lib.hid hbg; clear hbg
      have hHBw := Hb1.out.trans (HB1'.out.mono Hb1.out.size)
      have HBw := Lib.hid hHBw; clear hHBw
      go_wp2_with fail
      refine (refPlanr_calls r ps.length l0 A' c' _ Hr.out Hll.out (by rw [← Hll.out]; omega) Hoo'.out).mono ?_
      obtain ⟨mvs, pe⟩ := r
      obtain ⟨hpe, hgo⟩ := Hbg.out
      simp only at hpe hgo hmvl
      subst hpe
      rintro e w2 ⟨v2, rfl, hmv, hb2⟩
      simp only at hmv
      obtain ⟨Am, cm, rfl⟩ := own_slice hmv
      have Hmv := Lib.hid (own_lower hmv HBw.out.size); clear hmv
      have HBX2 := Lib.hid (HBXr.out.below hb2 hbxlt)
      have HZ2 := Lib.hid (HZr.out.below hb2 hzlt)
      have HB2 := Lib.hid (HBw.out.trans (hb2.mono HBw.out.size)); clear hb2
      have Hgo := Lib.hid hgo.symm; clear hgo
      clear b0 b1 b2 b3 b4
      go_wp2_with fail
      go_loopw [9] (fun i wr => ∃ (k : Nat) (t' : Thr) (D1 : Option Addr) (d1 : Nat) (D2 : Option Addr) (d2 : Nat), k ≤ mvs.length ∧ i = .int .i64 k ∧ balGo (mvs.drop k) k t' = R ∧ t'.Lens ∧
        Blk wr w.heap.size 25 #[.int .i64 t'.grain, .int .i64 t'.out, .slice D1 t'.procs.length d1, .slice D2 t'.mail.length d2, .bool t'.ended] ∧ Firm w wr (.agg #[.int .i64 t'.grain, .int .i64 t'.out, .slice D1 t'.procs.length d1, .slice D2 t'.mail.length d2, .bool t'.ended]) t' ∧
        Blk wr (w.heap.size + 1) 25 #[.int .i64 0, .int .i64 0, .slice none 0 0, .slice none 0 0, .bool false] ∧ wr.ownsRow w.heap.size 42 2 (.slice Am mvs.length cm) mvs.length (mvs.flatMap encH) ∧ Below w.heap.size w wr) (fun i _ => mvs.length - (intOf i).toNat)
      case atStart => exact ⟨0, _, _, _, _, _, Nat.zero_le _, rfl, Hgo.out, HL.out, HBX2.out, .inl HVw.out, HZ2.out, Hmv.out, HB2.out⟩
      case round =>
        clear HBX1 HZ1 HBXr HZr Hmv HBX2 HZ2 Hgo
        obtain ⟨k, t', D1, d1, D2, d2, hk, rfl, hgo, hlen', hblk, hfirm, hz, hmv, hbr⟩ := hrel
        obtain ⟨gr', ou', ps', ms', en'⟩ := t'
        simp only at hblk hfirm
        obtain ⟨⟨b0, b1, b2, b3, b4⟩, -⟩ := hblk.five
        have hblt := hblk.lt
        have hzlt := hz.lt
        have Hbr := Lib.hid hbr
        have Hz := Lib.hid hz
        have Hblk := Lib.hid hblk
        have Hfirm := Lib.hid hfirm
        have Hmv := Lib.hid hmv
        have Hvt := Lib.hid (hfirm.val hbr)
        have Hgo := Lib.hid hgo
        have Hlen := Lib.hid hlen'
        clear hbr hz hblk hfirm hmv hgo hlen'
        by_cases hlt : k < mvs.length
        · obtain ⟨x, hx⟩ : ∃ x, mvs[k]? = some x := ⟨_, List.getElem?_eq_getElem hlt⟩
          obtain ⟨gm, om, rfl, c0, c1'⟩ := Rd.atH (own_rd Hmv.out) hx
          obtain ⟨m1, m2⟩ := x
          simp only at c0 c1'
          have Hx := Lib.hid hx; clear hx
          obtain ⟨r, hr⟩ : ∃ r, r = moveM ⟨gr', ou', ps', ms', en'⟩ m1 m2 := ⟨_, rfl⟩
          have Hrm := Lib.hid hr; clear hr
          have hdrop : mvs.drop k = (m1, m2) :: mvs.drop (k + 1) := by
            obtain ⟨h1, h2⟩ := List.getElem?_eq_some_iff.1 Hx.out
            rw [List.drop_eq_getElem_cons h1, h2]
          have hgo' : (if r.2 = 0 then balGo (mvs.drop (k + 1)) (k + 1) r.1 else if r.2 = 281 then (⟨gr', ou', ps', ms', en'⟩, (k : Int), 0) else (Thr.zero, 0, r.2)) = R := by
            rw [← Hgo.out, hdrop, balGo, ← Hrm.out]
          have Hgo' := Lib.hid hgo'; clear hgo' hdrop
          have hlnok := fun (h0 : r.2 = 0) => ok_lens (show r.1.ok = true from by rw [Hrm.out]; exact moveM_ok (by rw [← Hrm.out]; exact h0))
          have Hlnok := Lib.hid hlnok; clear hlnok
          obtain ⟨⟨gr2, ou2, ps2, ms2, en2⟩, e2⟩ := r
          have hgmlt : gm < wr.heap.size := ((Hmv.out).lt gm rfl).2
          have hallS : ∀ W, Below wr.heap.size wr W → (Hid (Below wr.heap.size wr W) ∧ W.cell? ⟨w.heap.size, 0, none⟩ = some (.int .i64 gr') ∧ W.cell? ⟨w.heap.size, 1, none⟩ = some (.int .i64 ou') ∧ W.cell? ⟨w.heap.size, 2, none⟩ = some (.slice D1 ps'.length d1) ∧ W.cell? ⟨w.heap.size, 3, none⟩ = some (.slice D2 ms'.length d2) ∧ W.cell? ⟨w.heap.size, 4, none⟩ = some (.bool en') ∧
              W.cell? ⟨gm, om + k * 2, none⟩ = some (.int .i64 m1) ∧ W.cell? ⟨gm, om + k * 2 + 1, none⟩ = some (.int .i64 m2)) := fun W hb =>
            ⟨Lib.hid hb, (hb.cell (p := ⟨w.heap.size, 0, none⟩) hblt).trans b0, (hb.cell (p := ⟨w.heap.size, 1, none⟩) hblt).trans b1, (hb.cell (p := ⟨w.heap.size, 2, none⟩) hblt).trans b2, (hb.cell (p := ⟨w.heap.size, 3, none⟩) hblt).trans b3, (hb.cell (p := ⟨w.heap.size, 4, none⟩) hblt).trans b4,
              (hb.cell (p := ⟨gm, om + k * 2, none⟩) hgmlt).trans c0, (hb.cell (p := ⟨gm, om + k * 2 + 1, none⟩) hgmlt).trans c1'⟩
          have HallS := Lib.hid hallS; clear hallS
          go_wp2_with fail
          go_region_held3 (fun W => Hid (Below wr.heap.size wr W) ∧ W.cell? ⟨w.heap.size, 0, none⟩ = some (.int .i64 gr') ∧ W.cell? ⟨w.heap.size, 1, none⟩ = some (.int .i64 ou') ∧ W.cell? ⟨w.heap.size, 2, none⟩ = some (.slice D1 ps'.length d1) ∧ W.cell? ⟨w.heap.size, 3, none⟩ = some (.slice D2 ms'.length d2) ∧ W.cell? ⟨w.heap.size, 4, none⟩ = some (.bool en') ∧
              W.cell? ⟨gm, om + k * 2, none⟩ = some (.int .i64 m1) ∧ W.cell? ⟨gm, om + k * 2 + 1, none⟩ = some (.int .i64 m2))
            ((refine HallS.out _ ?_; go_split_ands; first
              | exact (Below.refl _ _)
              | exact (Below.refl _ _).drew
              | exact Hb6.out
              | exact (Below.refl _ _).alloc (Nat.le_refl _) _
              | exact ((Below.refl _ _).alloc (Nat.le_refl _) _).drew
              | exact (Hb6.out.alloc Hb6.out.size _)
              | exact below_set5 Hb6.out (Nat.le_refl _) _ _ _ _ _))
            (first
              | (go_at_call 64
                 have hbc : Below wr.heap.size wr _ := Hid.out (by go_split_ands; assumption)
                 refine (refMover_calls (⟨gr2, ou2, ps2, ms2, en2⟩, e2) ⟨gr', ou', ps', ms', en'⟩ _ m1 m2 _ Hrm.out (Hvt.out.below hbc (Nat.le_refl _)) Hlen.out).mono ?_
                 rintro e w6 ⟨v6, rfl, hv6, hb6⟩
                 simp only at hv6
                 obtain ⟨G1, g1, G2, g2, rfl, -, -⟩ := id hv6
                 have Hb6 := Lib.hid (hbc.trans (hb6.mono hbc.size))
                 have HF6 := Lib.hid (hv6.lower (B' := w.heap.size) (Nat.le_trans (Nat.le_of_lt hblt) hbc.size))
                 try (have hn6 := (show Blk (wr.alloc (.cells #[.int .i64 0, .int .i64 0, .slice none 0 0, .slice none 0 0, .bool false] 25)).drew wr.heap.size 25 #[.int .i64 0, .int .i64 0, .slice none 0 0, .slice none 0 0, .bool false] from Blk.new wr 25 _).below hb6 (by simp)
                      obtain ⟨⟨n0, n1, n2, n3, n4⟩, ⟨o0, o1, o2, o3, o4⟩⟩ := hn6.five
                      have Hn6 := Lib.hid hn6
                      have ln6 := hn6.lt
                      clear hn6)
                 clear hbc hb6 hv6))
          all_goals
            first
              | refine exit_at (fun W => (Blk W wr.heap.size 25 #[.int .i64 gr2, .int .i64 ou2, .slice G1 ps2.length g1, .slice G2 ms2.length g2, .bool en2] ∧ wr.heap.size ≤ wr.heap.size) ∧ ThrF w.heap.size W (.agg #[.int .i64 gr2, .int .i64 ou2, .slice G1 ps2.length g1, .slice G2 ms2.length g2, .bool en2]) ⟨gr2, ou2, ps2, ms2, en2⟩ ∧ Below wr.heap.size wr W) ⟨⟨Hn6.out.five5, Nat.le_refl _⟩, HF6.out.set5 Hn6.out _ _ _ _ _, ?_⟩ ?_
              | refine exit_at (fun W => (Blk W w6.heap.size 25 #[.int .i64 gr2, .int .i64 ou2, .slice G1 ps2.length g1, .slice G2 ms2.length g2, .bool en2] ∧ wr.heap.size ≤ w6.heap.size) ∧ ThrF w.heap.size W (.agg #[.int .i64 gr2, .int .i64 ou2, .slice G1 ps2.length g1, .slice G2 ms2.length g2, .bool en2]) ⟨gr2, ou2, ps2, ms2, en2⟩ ∧ Below wr.heap.size wr W) ⟨⟨Blk.new _ _ _, Hb6.out.size⟩, HF6.out.alloc _, ?_⟩ ?_
            · go_split_ands; exact Hid.out (by assumption)
            clear b0 b1 b2 b3 b4 c0 c1' HallS
            try clear Hn6
            try clear n0 n1 n2 n3 n4 o0 o1 o2 o3 o4 ln6
            rintro wx ⟨⟨hun, hule⟩, hfx, hbx⟩
            clear HF6
            obtain ⟨⟨u0', u1', u2', u3', u4'⟩, -⟩ := hun.five
            have hblk3 := Hblk.out.below hbx hblt
            obtain ⟨⟨b0, b1, b2, b3, b4⟩, ⟨f0, f1, f2, f3, f4⟩⟩ := hblk3.five
            have hz3 := Hz.out.below hbx hzlt
            obtain ⟨⟨z0, z1, z2, z3, z4⟩, ⟨y0, y1, y2, y3, y4⟩⟩ := hz3.five
            have hblt3 := hblk3.lt
            have hzlt3 := hz3.lt
            have Hf3 := Lib.hid (Hfirm.out.below hbx)
            have Hz3 := Lib.hid hz3
            have Hblk3 := Lib.hid hblk3
            have Hmv3 := Lib.hid (own_below Hmv.out hbx (Nat.le_refl _))
            have Hbr3 := Lib.hid (Hbr.out.trans (hbx.mono Hbr.out.size))
            have Hfx := Lib.hid hfx
            have hult := hun.lt
            clear hun hfx hbx hblk3 hz3
            by_cases he1 : e2 = 281
            · subst he1
              have hr1 : balanceM ⟨gr, ou, ps, ms, en⟩ = (⟨gr', ou', ps', ms', en'⟩, (k : Int), 0) := by rw [← HRR.out, ← Hgo'.out]; rfl
              have Hr1 := Lib.hid hr1; clear hr1
              go_wp2
              exact bodyPost_ret (v := .tuple #[.agg #[.int .i64 gr', .int .i64 ou', .slice D1 ps'.length d1, .slice D2 ms'.length d2, .bool en'], .int .i64 k, .int .i64 0]) (by simp [results, Try.results26, go_sem, *]) rfl
                ⟨_, by rw [Hr1.out], by rw [Hr1.out]; exact Hf3.out.set5 Hbr3.out Hz3.out (Nat.le_succ _) _ _ _ _ _, below_set5 Hbr3.out (Nat.le_succ _) _ _ _ _ _⟩
            · have he1b : (e2 == 281) = false := by simpa using he1
              by_cases he0 : e2 = 0
              · subst he0
                have hgo2 : balGo (mvs.drop (k + 1)) (k + 1) ⟨gr2, ou2, ps2, ms2, en2⟩ = R := by have := Hgo'.out; simpa using this
                have Hgo2 := Lib.hid hgo2
                have Hln2 := Lib.hid (show Thr.Lens ⟨gr2, ou2, ps2, ms2, en2⟩ from Hlnok.out rfl)
                clear hgo2 z0 z1 z2 z3 z4 y0 y1 y2 y3 y4 he1
                go_wp2
                go_roundw
                case rel => exact ⟨k + 1, ⟨gr2, ou2, ps2, ms2, en2⟩, _, _, _, _, by omega, by go_num, Hgo2.out, Hln2.out, Hblk3.out.five5, .inr (Hfx.out.set5 Hblk3.out _ _ _ _ _), Hz3.out.far5 (by omega), own_five Hmv3.out Hblk3.out (by decide) _ _ _ _ _, below_set5 Hbr3.out (Nat.le_refl _) _ _ _ _ _⟩
                case measure => simp [intOf]; omega
              · have he0b : (e2 != 0) = true := by simpa using he0
                have hr1 : balanceM ⟨gr, ou, ps, ms, en⟩ = (Thr.zero, 0, e2) := by
                  rw [← HRR.out, ← Hgo'.out, if_neg he0, if_neg he1]
                have Hr1 := Lib.hid hr1; clear hr1
                clear he0 he1
                go_wp2
                exact bodyPost_ret (v := .tuple #[.agg #[.int .i64 0, .int .i64 0, .slice none 0 0, .slice none 0 0, .bool false], .int .i64 0, .int .i64 e2]) (by simp [results, Try.results26, go_sem, *]) rfl
                  ⟨_, by rw [Hr1.out], by rw [Hr1.out]; exact (ThrF.zero w.heap.size _).val, below_set5 Hbr3.out (Nat.le_succ _) _ _ _ _ _⟩
        · have hke : k = mvs.length := by omega
          subst hke
          have hr0 := Hgo.out
          rw [List.drop_length] at hr0
          have hr1 : balanceM ⟨gr, ou, ps, ms, en⟩ = (⟨gr', ou', ps', ms', en'⟩, (mvs.length : Int), 0) := by rw [← HRR.out, ← hr0]; rfl
          have Hr1 := Lib.hid hr1; clear hr1 hr0
          obtain ⟨⟨z0, z1, z2, z3, z4⟩, ⟨y0, y1, y2, y3, y4⟩⟩ := Hz.out.five
          go_wp2
          exact bodyPost_ret (v := .tuple #[.agg #[.int .i64 gr', .int .i64 ou', .slice D1 ps'.length d1, .slice D2 ms'.length d2, .bool en'], .int .i64 (mvs.length : Int), .int .i64 0]) (by simp [results, Try.results26, go_sem, *]) rfl
            ⟨_, by rw [Hr1.out], by rw [Hr1.out]; exact Hfirm.out.set5 Hbr.out Hz.out (Nat.le_succ _) _ _ _ _ _, below_set5 Hbr.out (Nat.le_succ _) _ _ _ _ _⟩
end Go.Proofs.Ythdlmnkefheliaa
