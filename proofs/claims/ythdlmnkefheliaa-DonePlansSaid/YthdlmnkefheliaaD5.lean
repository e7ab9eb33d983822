import Derived.Test.YthdlmnkefheliaaD4
set_option linter.unusedVariables false
set_option linter.unusedSimpArgs false
namespace Go.Proofs.Ythdlmnkefheliaa
open Go.RowKit

theorem refWeights_calls' (ws : Int) (t : Thr) (v : Value) (w : World) (hv : ThrV w v t) (he : ws = wsumL t.procs t.mail) (hw : t.Wts) :
    Calls Try.prog 59 #[v] w fun e w' => e = .returned (.int .i64 ws) ∧ Below w.heap.size w w' := by
  rw [he]; exact refWeights_calls t v w hv hw
theorem check_bad {t : Thr} (h : t.ok = false) : t.check = 280 := by rw [Thr.check, h]; rfl
theorem check_good {t : Thr} (h : t.ok = true) : t.check = 0 := by rw [Thr.check, h]; rfl
set_option maxHeartbeats 4000000 in
theorem refCheck_calls (t : Thr) (v : Value) (w : World) (hv : ThrV w v t) (hl : t.Lens) :
    Calls Try.prog 21 #[v] w fun e w' => e = .returned (.int .i64 t.check) ∧ Below w.heap.size w w' := by
  obtain ⟨gr, ou, ps, ms, en⟩ := t
  obtain ⟨A1, c1, A2, c2, rfl, k1, k2, k3, k4, k5, k6⟩ := hv
  obtain ⟨hl1, hl2⟩ := hl
  simp only at hl1 hl2 k1 k2 k3 k4 k5 k6
  obtain ⟨W0, hW0⟩ : ∃ W0, W0 = w.alloc (.cells #[.int .i64 gr, .int .i64 ou, .slice A1 ps.length c1, .slice A2 ms.length c2, .bool en] 25) := ⟨_, rfl⟩
  have hB0 : Below w.heap.size w W0 := by rw [hW0]; exact (Below.refl _ _).alloc (Nat.le_refl _) _
  have HV := Lib.hid (show ThrV W0 _ ⟨gr, ou, ps, ms, en⟩ from ThrV.below ⟨A1, c1, A2, c2, rfl, k1, k2, k3, k4, k5, k6⟩ hB0 (Nat.le_refl _))
  clear k1 k2 k4 k5
  have HR1 := Lib.hid (k3.below hB0 (Nat.le_refl _)); clear k3
  have HR2 := Lib.hid (k6.below hB0 (Nat.le_refl _)); clear k6
  have hsz : w.heap.size < W0.heap.size := by rw [hW0]; simp
  have HC : ∀ i u, (#[.int .i64 gr, .int .i64 ou, .slice A1 ps.length c1, .slice A2 ms.length c2, .bool en] : Array Value)[i]? = some u → W0.cell? ⟨w.heap.size, i, none⟩ = some u := by
    intro i u hu; rw [hW0]; unfold World.cell?; rw [heap_alloc_new]; simpa using hu
  have HCC := Lib.hid HC; clear HC
  have HB0 := Lib.hid hB0; clear hB0
  have HW := Lib.hid hW0; clear hW0
  by_cases a0 : gr < 2
  · have b : decide (gr < 2) = true := decide_eq_true a0
    have hfin : Thr.check ⟨gr, ou, ps, ms, en⟩ = 280 := check_bad (by simp only [Thr.ok, Thr.headOk]; rw [show bd 2 1048576 gr = false from by rw [← Bool.not_eq_true, bd_iff]; omega]; simp)
    have Hfin := Lib.hid hfin; clear hfin
    go_enter Try.func21, Try.ntmps21
    go_wp2
    go_ret
    exact ⟨by rw [Hfin.out]; rfl, (Below.refl _ _).alloc (Nat.le_refl _) _⟩
  have b0 : decide (gr < 2) = false := decide_eq_false a0
  by_cases a1 : 1048576 < gr
  · have b : decide (1048576 < gr) = true := decide_eq_true a1
    have hfin : Thr.check ⟨gr, ou, ps, ms, en⟩ = 280 := check_bad (by simp only [Thr.ok, Thr.headOk]; rw [show bd 2 1048576 gr = false from by rw [← Bool.not_eq_true, bd_iff]; omega]; simp)
    have Hfin := Lib.hid hfin; clear hfin
    go_enter Try.func21, Try.ntmps21
    go_wp2
    go_ret
    exact ⟨by rw [Hfin.out]; rfl, (Below.refl _ _).alloc (Nat.le_refl _) _⟩
  have b1 : decide (1048576 < gr) = false := decide_eq_false a1
  by_cases a2 : ps.length < 1
  · have b : decide (ps.length < 1) = true := decide_eq_true a2
    have hfin : Thr.check ⟨gr, ou, ps, ms, en⟩ = 280 := check_bad (by simp only [Thr.ok, Thr.headOk]; rw [show bd 1 16 (ps.length : Int) = false from by rw [← Bool.not_eq_true, bd_iff]; omega]; simp)
    have Hfin := Lib.hid hfin; clear hfin
    go_enter Try.func21, Try.ntmps21
    go_wp2
    go_ret
    exact ⟨by rw [Hfin.out]; rfl, (Below.refl _ _).alloc (Nat.le_refl _) _⟩
  have b2 : decide (ps.length < 1) = false := decide_eq_false a2
  by_cases a3 : 16 < ps.length
  · have b : decide (16 < ps.length) = true := decide_eq_true a3
    have hfin : Thr.check ⟨gr, ou, ps, ms, en⟩ = 280 := check_bad (by simp only [Thr.ok, Thr.headOk]; rw [show bd 1 16 (ps.length : Int) = false from by rw [← Bool.not_eq_true, bd_iff]; omega]; simp)
    have Hfin := Lib.hid hfin; clear hfin
    go_enter Try.func21, Try.ntmps21
    go_wp2
    go_ret
    exact ⟨by rw [Hfin.out]; rfl, (Below.refl _ _).alloc (Nat.le_refl _) _⟩
  have b3 : decide (16 < ps.length) = false := decide_eq_false a3
  by_cases a4 : 4000 < ms.length
  · have b : decide (4000 < ms.length) = true := decide_eq_true a4
    have hfin : Thr.check ⟨gr, ou, ps, ms, en⟩ = 280 := check_bad (by simp only [Thr.ok, Thr.headOk]; rw [show decide (ms.length ≤ 4000) = false from decide_eq_false (by omega)]; simp)
    have Hfin := Lib.hid hfin; clear hfin
    go_enter Try.func21, Try.ntmps21
    go_wp2
    go_ret
    exact ⟨by rw [Hfin.out]; rfl, (Below.refl _ _).alloc (Nat.le_refl _) _⟩
  have b4 : decide (4000 < ms.length) = false := decide_eq_false a4
  by_cases a5 : ou < 0
  · have b : decide (ou < 0) = true := decide_eq_true a5
    have hfin : Thr.check ⟨gr, ou, ps, ms, en⟩ = 280 := check_bad (by simp only [Thr.ok, Thr.headOk]; rw [show bd 0 1099511627776 ou = false from by rw [← Bool.not_eq_true, bd_iff]; omega]; simp)
    have Hfin := Lib.hid hfin; clear hfin
    go_enter Try.func21, Try.ntmps21
    go_wp2
    go_ret
    exact ⟨by rw [Hfin.out]; rfl, (Below.refl _ _).alloc (Nat.le_refl _) _⟩
  have b5 : decide (ou < 0) = false := decide_eq_false a5
  by_cases a6 : 1099511627776 < ou
  · have b : decide (1099511627776 < ou) = true := decide_eq_true a6
    have hfin : Thr.check ⟨gr, ou, ps, ms, en⟩ = 280 := check_bad (by simp only [Thr.ok, Thr.headOk]; rw [show bd 0 1099511627776 ou = false from by rw [← Bool.not_eq_true, bd_iff]; omega]; simp)
    have Hfin := Lib.hid hfin; clear hfin
    go_enter Try.func21, Try.ntmps21
    go_wp2
    go_ret
    exact ⟨by rw [Hfin.out]; rfl, (Below.refl _ _).alloc (Nat.le_refl _) _⟩
  have b6 : decide (1099511627776 < ou) = false := decide_eq_false a6
  have H1 := Lib.hid (show bd 2 1048576 gr = true from by rw [bd_iff]; omega)
  have H2 := Lib.hid (show bd 1 16 ps.length = true from by rw [bd_iff]; omega)
  have H4 := Lib.hid (show bd 0 1099511627776 ou = true from by rw [bd_iff]; omega)
  have h3 : ms.length ≤ 4000 := by omega
  have hps : ps.length ≤ 16 := by omega
  have hps1 : 1 ≤ ps.length := by omega
  go_enter Try.func21, Try.ntmps21
  go_wp2
  clear a0 a1 a2 a3 a4 a5 a6 b0 b1 b2 b3 b4 b5 b6
  go_loopw [3] (fun i wr => ∃ k : Nat, k ≤ ps.length ∧ i = .int .i64 k ∧ (∀ j x, j < k → ps[j]? = some x → holderOk x = true) ∧ Below W0.heap.size W0 wr) (fun i _ => ps.length - (intOf i).toNat)
  case atStart => exact ⟨0, Nat.zero_le _, rfl, fun j x h => absurd h (by omega), by rw [HW.out]; exact Below.refl _ _⟩
  case round =>
    obtain ⟨k, hk, rfl, hq, hB⟩ := hrel
    have Hq := Lib.hid hq; clear hq
    have gg2 := (hB.cell (p := ⟨w.heap.size, 2, none⟩) hsz).trans (HCC.out 2 _ rfl)
    have HB := Lib.hid hB; clear hB
    by_cases hlt : k < ps.length
    · obtain ⟨x, hx⟩ : ∃ x, ps[k]? = some x := ⟨_, List.getElem?_eq_getElem hlt⟩
      obtain ⟨g, off, rfl, e0, e1⟩ := Rd.atH (HR1.out.below HB.out (Nat.le_refl _)) hx
      obtain ⟨x1, x2⟩ := x
      simp only at e0 e1
      have Hx := Lib.hid hx; clear hx
      by_cases h0 : x1 < 0
      · have b : decide (x1 < 0) = true := decide_eq_true h0
        have hnh : holderOk (x1, x2) = false := by
          rw [← Bool.not_eq_true, holder_iff]
          simp only; omega
        have Hfin := Lib.hid (check_bad (t := ⟨gr, ou, ps, ms, en⟩) (by
          have : ps.any (fun x => !holderOk x) = true := List.any_eq_true.2 ⟨_, List.mem_of_getElem? Hx.out, by rw [hnh]; rfl⟩
          simp [Thr.ok, this]))
        clear hnh
        go_wp2
        go_ret
        exact ⟨by rw [Hfin.out]; rfl, HB0.out.trans ((HB.out.alloc HB.out.size _).mono (Nat.le_of_lt hsz))⟩
      have i0 : decide (x1 < 0) = false := decide_eq_false h0
      by_cases h1 : 1000000 < x1
      · have b : decide (1000000 < x1) = true := decide_eq_true h1
        have hnh : holderOk (x1, x2) = false := by
          rw [← Bool.not_eq_true, holder_iff]
          simp only; omega
        have Hfin := Lib.hid (check_bad (t := ⟨gr, ou, ps, ms, en⟩) (by
          have : ps.any (fun x => !holderOk x) = true := List.any_eq_true.2 ⟨_, List.mem_of_getElem? Hx.out, by rw [hnh]; rfl⟩
          simp [Thr.ok, this]))
        clear hnh
        go_wp2
        go_ret
        exact ⟨by rw [Hfin.out]; rfl, HB0.out.trans ((HB.out.alloc HB.out.size _).mono (Nat.le_of_lt hsz))⟩
      have i1 : decide (1000000 < x1) = false := decide_eq_false h1
      by_cases h2 : x2 < 0
      · have b : decide (x2 < 0) = true := decide_eq_true h2
        have hnh : holderOk (x1, x2) = false := by
          rw [← Bool.not_eq_true, holder_iff]
          simp only; omega
        have Hfin := Lib.hid (check_bad (t := ⟨gr, ou, ps, ms, en⟩) (by
          have : ps.any (fun x => !holderOk x) = true := List.any_eq_true.2 ⟨_, List.mem_of_getElem? Hx.out, by rw [hnh]; rfl⟩
          simp [Thr.ok, this]))
        clear hnh
        go_wp2
        go_ret
        exact ⟨by rw [Hfin.out]; rfl, HB0.out.trans ((HB.out.alloc HB.out.size _).mono (Nat.le_of_lt hsz))⟩
      have i2 : decide (x2 < 0) = false := decide_eq_false h2
      by_cases h3' : 1099511627776 < x2
      · have b : decide (1099511627776 < x2) = true := decide_eq_true h3'
        have hnh : holderOk (x1, x2) = false := by
          rw [← Bool.not_eq_true, holder_iff]
          simp only; omega
        have Hfin := Lib.hid (check_bad (t := ⟨gr, ou, ps, ms, en⟩) (by
          have : ps.any (fun x => !holderOk x) = true := List.any_eq_true.2 ⟨_, List.mem_of_getElem? Hx.out, by rw [hnh]; rfl⟩
          simp [Thr.ok, this]))
        clear hnh
        go_wp2
        go_ret
        exact ⟨by rw [Hfin.out]; rfl, HB0.out.trans ((HB.out.alloc HB.out.size _).mono (Nat.le_of_lt hsz))⟩
      have i3 : decide (1099511627776 < x2) = false := decide_eq_false h3'
      have go : ∀ (hz : ((x1 == 0) == (x2 == 0)) = true), holderOk (x1, x2) = true := fun hz => by
        have h0 := bd_iff 0 1000000 x1
        have h1 := bd_iff 0 1099511627776 x2
        rw [holderOk]
        simp only [hz, Bool.and_true, Bool.and_eq_true]
        exact ⟨h0.2 (by omega), h1.2 (by omega)⟩
      have bad : ∀ (hz : ((x1 == 0) == (x2 == 0)) = false), Thr.check ⟨gr, ou, ps, ms, en⟩ = 280 := fun hz => check_bad (by
          have hnh : holderOk (x1, x2) = false := by rw [holderOk]; simp only [hz, Bool.and_false]
          have : ps.any (fun x => !holderOk x) = true := List.any_eq_true.2 ⟨_, List.mem_of_getElem? Hx.out, by rw [hnh]; rfl⟩
          simp [Thr.ok, this])
      have Hgo := Lib.hid go; clear go
      have Hbad := Lib.hid bad; clear bad
      rcases z1 : (x1 == 0) with _ | _ <;> rcases z2 : (x2 == 0) with _ | _
      case' false.true | true.false =>
        have Hfin := Lib.hid (Hbad.out (by rw [z1, z2]; rfl))
        go_wp2
        go_ret
        exact ⟨by rw [Hfin.out]; rfl, HB0.out.trans ((HB.out.alloc HB.out.size _).mono (Nat.le_of_lt hsz))⟩
      all_goals
        have Hh := Lib.hid (Hgo.out (by rw [z1, z2]; rfl))
        go_wp2
        go_roundw
        case rel => exact ⟨k + 1, by omega, by go_num, fun j y hj hy => by
          rcases Nat.lt_or_ge j k with h1 | h1
          · exact Hq.out j y h1 hy
          · have : j = k := by omega
            subst this
            have hxx := Hx.out
            rw [hy] at hxx
            injection hxx with hxx
            rw [hxx]; exact Hh.out, by first | exact HB.out | exact HB.out.alloc HB.out.size _⟩
        case measure => simp [intOf]; omega
    · have hke : k = ps.length := by omega
      subst hke
      have H6 := Lib.hid (show ps.any (fun x => !holderOk x) = false from by
        rw [List.any_eq_false]; intro x hx
        obtain ⟨j, hj⟩ := List.mem_iff_getElem?.1 hx
        simpa using Hq.out j x (List.getElem?_eq_some_iff.1 hj).1 hj)
      clear Hq
      go_wp2
      obtain ⟨W1, hW1⟩ : ∃ W1 : World, W1 = wr := ⟨_, rfl⟩
      have HW1 := Lib.hid hW1; clear hW1
      clear gg2
      go_loopw [5] (fun i wr => ∃ k : Nat, k ≤ ms.length ∧ i = .int .i64 k ∧ (∀ j x, j < k → ms[j]? = some x → letterOk ps.length x = true) ∧ Below W0.heap.size W0 wr) (fun i _ => ms.length - (intOf i).toNat)
      case atStart => exact ⟨0, Nat.zero_le _, rfl, fun j x h => absurd h (by omega), HB.out⟩
      case round =>
        obtain ⟨k, hk, rfl, hq, hB⟩ := hrel
        have Hq := Lib.hid hq; clear hq
        have gg0 := (hB.cell (p := ⟨w.heap.size, 0, none⟩) hsz).trans (HCC.out 0 _ rfl)
        have gg1 := (hB.cell (p := ⟨w.heap.size, 1, none⟩) hsz).trans (HCC.out 1 _ rfl)
        have gg2 := (hB.cell (p := ⟨w.heap.size, 2, none⟩) hsz).trans (HCC.out 2 _ rfl)
        have gg3 := (hB.cell (p := ⟨w.heap.size, 3, none⟩) hsz).trans (HCC.out 3 _ rfl)
        have gg4 := (hB.cell (p := ⟨w.heap.size, 4, none⟩) hsz).trans (HCC.out 4 _ rfl)
        have HB' := Lib.hid hB; clear hB
        by_cases hlt : k < ms.length
        · obtain ⟨x, hx⟩ : ∃ x, ms[k]? = some x := ⟨_, List.getElem?_eq_getElem hlt⟩
          obtain ⟨g, off, rfl, e0, e1, e2⟩ := Rd.atL (HR2.out.below HB'.out (Nat.le_refl _)) hx
          have Hx := Lib.hid hx; clear hx
          rcases hh : letterOk ps.length x with _ | _
          · have Hfin := Lib.hid (check_bad (t := ⟨gr, ou, ps, ms, en⟩) (by
              have : ms.any (fun x => !letterOk ps.length x) = true := List.any_eq_true.2 ⟨_, List.mem_of_getElem? Hx.out, by rw [hh]; rfl⟩
              simp [Thr.ok, this]))
            have Hh := Lib.hid hh; clear hh
            go_wp2
            (first | go_region_with (go_at_call 58; refine (refLetter_calls ⟨gr, ou, ps, ms, en⟩ x _ _ (HV.out.below HB'.out.drew (Nat.le_refl _)) hps1 hps).mono ?_; rintro e w3 ⟨rfl, hb3⟩; have Hb3 := Lib.hid (HB'.out.drew.trans (hb3.mono HB'.out.size)); clear hb3; simp only [Hh.out]) | fail)
            all_goals
              go_wp2
              go_ret
              exact ⟨by rw [Hfin.out]; rfl, HB0.out.trans (Hb3.out.mono (Nat.le_of_lt hsz))⟩
          · have Hh := Lib.hid hh; clear hh
            go_wp2
            (first | go_region_with (go_at_call 58; refine (refLetter_calls ⟨gr, ou, ps, ms, en⟩ x _ _ (HV.out.below HB'.out.drew (Nat.le_refl _)) hps1 hps).mono ?_; rintro e w3 ⟨rfl, hb3⟩; have Hb3 := Lib.hid (HB'.out.drew.trans (hb3.mono HB'.out.size)); clear hb3; simp only [Hh.out]) | fail)
            all_goals
              go_wp2
              go_roundw
              case rel => exact ⟨k + 1, by omega, by go_num, fun j y hj hy => by
                rcases Nat.lt_or_ge j k with h1 | h1
                · exact Hq.out j y h1 hy
                · have : j = k := by omega
                  subst this
                  have hxx := Hx.out
                  rw [hy] at hxx
                  injection hxx with hxx
                  rw [hxx]; exact Hh.out, Hb3.out⟩
              case measure => simp [intOf]; omega
        · have hke : k = ms.length := by omega
          subst hke
          have H7 := Lib.hid (show ms.any (fun x => !letterOk ps.length x) = false from by
            rw [List.any_eq_false]; intro x hx
            obtain ⟨j, hj⟩ := List.mem_iff_getElem?.1 hx
            simpa using Hq.out j x (List.getElem?_eq_some_iff.1 hj).1 hj)
          clear Hq
          obtain ⟨ws, hws⟩ : ∃ ws, ws = wsumL ps ms := ⟨_, rfl⟩
          have HWT := Lib.hid (show Thr.Wts ⟨gr, ou, ps, ms, en⟩ from wts_of (t := ⟨gr, ou, ps, ms, en⟩) H2.out h3 H6.out H7.out)
          have hgen : Thr.check ⟨gr, ou, ps, ms, en⟩ = if ws = ou ∧ (en = true → ou = 0) then 0 else 280 := by
            have h6 := H6.out
            have h7 := H7.out
            split
            · rename_i hc
              refine check_good ?_
              simp only [Thr.ok, Thr.headOk, H1.out, H2.out, H4.out, h6, h7, decide_eq_true h3, Thr.wsum, ← hws, hc.1]
              cases en
              · simp
              · simp [hc.2 rfl]
            · rename_i hc
              refine check_bad ?_
              simp only [Thr.ok, Thr.headOk, Thr.wsum, ← hws]
              rw [← Bool.not_eq_true]
              intro hq
              simp only [Bool.and_eq_true] at hq
              refine hc ⟨by simpa using hq.2.2.2, fun he => ?_⟩
              subst he
              simpa using hq.1.2.2.2.2
          have Hgen := Lib.hid hgen; clear hgen
          have Hws := Lib.hid hws; clear hws
          by_cases hc : ws = ou
          · have hcb : (ws != ou) = false := by simpa using hc
            cases en with
            | false =>
              have Hfin := Lib.hid (Hgen.out.trans (if_pos ⟨hc, fun h => by cases h⟩))
              clear hc
              go_wp2
              (first | go_region_with (go_at_call 59; refine (refWeights_calls' ws _ _ _ (HV.out.below HB'.out.drew (Nat.le_refl _)) Hws.out HWT.out).mono ?_; rintro e w3 ⟨rfl, hb3⟩; have Hb3 := Lib.hid (HB'.out.drew.trans (hb3.mono HB'.out.size)); clear hb3; have gg5 := (Hb3.out.cell (p := ⟨w.heap.size, 1, none⟩) hsz).trans (HCC.out 1 _ rfl); have gg6 := (Hb3.out.cell (p := ⟨w.heap.size, 4, none⟩) hsz).trans (HCC.out 4 _ rfl)) | fail)
              all_goals
                go_wp2
                go_ret
                exact ⟨by rw [Hfin.out]; rfl, HB0.out.trans (Hb3.out.mono (Nat.le_of_lt hsz))⟩
            | true =>
              by_cases ho : ou = 0
              · have hob : (ou != 0) = false := by simpa using ho
                have Hfin := Lib.hid (Hgen.out.trans (if_pos ⟨hc, fun _ => ho⟩))
                clear hc ho
                go_wp2
                (first | go_region_with (go_at_call 59; refine (refWeights_calls' ws _ _ _ (HV.out.below HB'.out.drew (Nat.le_refl _)) Hws.out HWT.out).mono ?_; rintro e w3 ⟨rfl, hb3⟩; have Hb3 := Lib.hid (HB'.out.drew.trans (hb3.mono HB'.out.size)); clear hb3; have gg5 := (Hb3.out.cell (p := ⟨w.heap.size, 1, none⟩) hsz).trans (HCC.out 1 _ rfl); have gg6 := (Hb3.out.cell (p := ⟨w.heap.size, 4, none⟩) hsz).trans (HCC.out 4 _ rfl)) | fail)
                all_goals
                  go_wp2
                  go_ret
                  exact ⟨by rw [Hfin.out]; rfl, HB0.out.trans (Hb3.out.mono (Nat.le_of_lt hsz))⟩
              · have hob : (ou != 0) = true := by simpa using ho
                have Hfin := Lib.hid (Hgen.out.trans (if_neg fun h => ho (h.2 rfl)))
                clear hc ho
                go_wp2
                (first | go_region_with (go_at_call 59; refine (refWeights_calls' ws _ _ _ (HV.out.below HB'.out.drew (Nat.le_refl _)) Hws.out HWT.out).mono ?_; rintro e w3 ⟨rfl, hb3⟩; have Hb3 := Lib.hid (HB'.out.drew.trans (hb3.mono HB'.out.size)); clear hb3; have gg5 := (Hb3.out.cell (p := ⟨w.heap.size, 1, none⟩) hsz).trans (HCC.out 1 _ rfl); have gg6 := (Hb3.out.cell (p := ⟨w.heap.size, 4, none⟩) hsz).trans (HCC.out 4 _ rfl)) | fail)
                all_goals
                  go_wp2
                  go_ret
                  exact ⟨by rw [Hfin.out]; rfl, HB0.out.trans (Hb3.out.mono (Nat.le_of_lt hsz))⟩
          · have hcb : (ws != ou) = true := by simpa using hc
            have Hfin := Lib.hid (Hgen.out.trans (if_neg fun h => hc h.1))
            clear hc
            have hund : (undef : Value) = .tuple #[] := rfl
            cases en
            all_goals
              go_wp2
              (first | go_region_with (go_at_call 59; refine (refWeights_calls' ws _ _ _ (HV.out.below HB'.out.drew (Nat.le_refl _)) Hws.out HWT.out).mono ?_; rintro e w3 ⟨rfl, hb3⟩; have Hb3 := Lib.hid (HB'.out.drew.trans (hb3.mono HB'.out.size)); clear hb3; have gg5 := (Hb3.out.cell (p := ⟨w.heap.size, 1, none⟩) hsz).trans (HCC.out 1 _ rfl); have gg6 := (Hb3.out.cell (p := ⟨w.heap.size, 4, none⟩) hsz).trans (HCC.out 4 _ rfl)) | fail)
              all_goals
                go_wp2
                go_ret
                exact ⟨by rw [Hfin.out]; rfl, HB0.out.trans (Hb3.out.mono (Nat.le_of_lt hsz))⟩
end Go.Proofs.Ythdlmnkefheliaa
