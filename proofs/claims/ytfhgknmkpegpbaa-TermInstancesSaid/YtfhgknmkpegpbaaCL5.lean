/- The walk of TermInstances. -/
import Derived.Test.YtfhgknmkpegpbaaM8
import Derived.Test.YtfhgknmkpegpbaaCT46
import Derived.Test.YtfhgknmkpegpbaaCT56
import Derived.Test.YtfhgknmkpegpbaaCP6
set_option linter.unusedVariables false
set_option linter.unusedSimpArgs false
namespace Go.Proofs.Ytfhgknmkpegpbaa
open Go.RowKit

set_option maxRecDepth 100000 in
set_option maxHeartbeats 8000000 in
theorem instancesLaw_calls (p : Tm) (vp : Value) (s : List Tm) (As : Option Addr) (cs : Nat) (t : Tm) (vt : Value) (P : Nat → Prop) (w : World) (hp : TmV P w vp p) (hs : TmC P w As cs s) (hlens : s.length * 56 ≤ 140737488351232) (ht : TmV P w vt t) :
    Calls Try.prog 7 #[vp, .slice As s.length cs, vt] w fun e w' => e = .returned (.bool true) ∧ Below w.heap.size w w' := by
  obtain ⟨Ap, cp, rfl, sp, hpc⟩ := hp
  obtain ⟨At, ct, rfl, st, htc⟩ := ht
  have hl1s := hs.len.1; have hl2s := hs.len.2.1
  obtain ⟨W0, hW0⟩ : ∃ W0, W0 = ((w.alloc (.cells #[.int .i64 p.k, .int .i64 p.n, .string p.s, .slice Ap p.l.length cp] 25)).alloc (.cells #[.int .i64 t.k, .int .i64 t.n, .string t.s, .slice At t.l.length ct] 25)) := ⟨_, rfl⟩
  have HB := Lib.hid (show Below w.heap.size w W0 from by rw [hW0]; exact (((Below.refl _ _).alloc (by simp; try omega) _).alloc (by simp; try omega) _))
  have Hbp := Lib.hid (show Blk W0 (w.heap.size) 25 #[.int .i64 p.k, .int .i64 p.n, .string p.s, .slice Ap p.l.length cp] from by rw [hW0]; exact ((Blk.new' rfl).alloc _))
  have Hbt := Lib.hid (show Blk W0 (w.heap.size + 1) 25 #[.int .i64 t.k, .int .i64 t.n, .string t.s, .slice At t.l.length ct] from by rw [hW0]; exact (Blk.new' (by simp)))
  have Hpc := Lib.hid ((hpc.mono (Q := (fun _ => True)) (fun _ _ => trivial)).stay HB.out (Nat.le_refl _)); clear hpc
  have Hsc := Lib.hid ((hs.mono (Q := (fun _ => True)) (fun _ _ => trivial)).stay HB.out (Nat.le_refl _)); clear hs
  have Htc := Lib.hid ((htc.mono (Q := (fun _ => True)) (fun _ _ => trivial)).stay HB.out (Nat.le_refl _)); clear htc
  have HW := Lib.hid hW0; clear hW0
  go_enter Try.func7, Try.ntmps7
  go_wp2_with fail
  rw [← HW.out]
  clear HW
  refine (sane_calls W0).mono ?_
  rintro e w1 ⟨rfl, hb⟩
  replace HB := Lib.hid (HB.out.trans (hb.mono HB.out.size))
  replace Hbp := Lib.hid (Hbp.out.below hb Hbp.out.lt)
  replace Hbt := Lib.hid (Hbt.out.below hb Hbt.out.lt)
  replace Hpc := Lib.hid (Hpc.out.stay hb (Nat.le_refl _))
  replace Hsc := Lib.hid (Hsc.out.stay hb (Nat.le_refl _))
  replace Htc := Lib.hid (Htc.out.stay hb (Nat.le_refl _))
  clear hb
  obtain ⟨⟨bp0, bp1, bp2, bp3⟩, -⟩ := Hbp.out.four
  have bpl := Hbp.out.lt
  obtain ⟨⟨bt0, bt1, bt2, bt3⟩, -⟩ := Hbt.out.four
  have btl := Hbt.out.lt
  go_wp2_with fail
  obtain ⟨Wlit, hWlit⟩ : ∃ W, W = w1.alloc (.cells #[.int .i64 p.k, .int .i64 p.n, .string p.s, .slice Ap p.l.length cp, .int .i64 t.k, .int .i64 t.n, .string t.s, .slice At t.l.length ct] 25) := ⟨_, rfl⟩
  rw [← hWlit]
  have hb : Below w1.heap.size w1 Wlit := by rw [hWlit]; exact (Below.refl _ _).alloc (Nat.le_refl _) _
  have hlit : TmC (fun _ => True) Wlit (some ⟨w1.heap.size, 0, none⟩) 2 [p, t] := by
    rw [hWlit]; exact (TmC.lit3 (P := (fun _ => True)) [(p, Ap, cp), (t, At, ct)] (fun e he => by
      simp only [List.mem_cons, List.not_mem_nil, or_false] at he
      rcases he with rfl | rfl
      · exact ⟨sp, Hpc.out⟩
      · exact ⟨st, Htc.out⟩
      ) (by simp)).mono (fun _ _ => trivial)
  clear bp0 bp1 bp2 bp3 bpl bt0 bt1 bt2 bt3 btl
  replace HB := Lib.hid (HB.out.trans (hb.mono HB.out.size))
  replace Hbp := Lib.hid (Hbp.out.below hb Hbp.out.lt)
  replace Hbt := Lib.hid (Hbt.out.below hb Hbt.out.lt)
  replace Hpc := Lib.hid (Hpc.out.stay hb (Nat.le_refl _))
  replace Hsc := Lib.hid (Hsc.out.stay hb (Nat.le_refl _))
  replace Htc := Lib.hid (Htc.out.stay hb (Nat.le_refl _))
  clear hb hWlit
  have hcall := right_calls [p, t] _ _ _ _ hlit; clear hlit
  obtain ⟨r, hr⟩ : ∃ r, r = rightB [p, t] := ⟨_, rfl⟩
  rw [← hr] at hcall
  have Hcall := Lib.hid hcall; clear hcall
  have Hr := Lib.hid hr; clear hr
  refine (Hcall.out).mono ?_
  rintro e w2 ⟨rfl, hb⟩
  replace HB := Lib.hid (HB.out.trans (hb.mono HB.out.size))
  replace Hbp := Lib.hid (Hbp.out.below hb Hbp.out.lt)
  replace Hbt := Lib.hid (Hbt.out.below hb Hbt.out.lt)
  replace Hpc := Lib.hid (Hpc.out.stay hb (Nat.le_refl _))
  replace Hsc := Lib.hid (Hsc.out.stay hb (Nat.le_refl _))
  replace Htc := Lib.hid (Htc.out.stay hb (Nat.le_refl _))
  clear hb
  clear Hcall
  cases r
  case false =>
    go_wp2
    go_ret
    exact ⟨rfl, HB.out⟩
  have hall := (rightB_iff.1 Hr.out.symm).2
  have ip := hall p (by simp)
  have it := hall t (by simp)
  clear hall Hr
  obtain ⟨⟨bp0, bp1, bp2, bp3⟩, -⟩ := Hbp.out.four
  have bpl := Hbp.out.lt
  obtain ⟨⟨bt0, bt1, bt2, bt3⟩, -⟩ := Hbt.out.four
  have btl := Hbt.out.lt
  go_wp2_with fail
  obtain ⟨Wrr, hWrr⟩ : ∃ W, W = w2.alloc (.cells #[.slice As s.length cs] 22) := ⟨_, rfl⟩
  rw [← hWrr]
  have hb : Below w2.heap.size w2 Wrr := by rw [hWrr]; exact (Below.refl _ _).alloc (Nat.le_refl _) _
  have hrr : RowsT Wrr (some ⟨w2.heap.size, 0, none⟩) [(s, As, cs)] := by
    rw [hWrr]; exact RowsT.lit (es := [(s, As, cs)]) (fun e he => by
      simp only [List.mem_cons, List.not_mem_nil, or_false] at he
      subst he
      exact Hsc.out
      )
  clear bp0 bp1 bp2 bp3 bpl bt0 bt1 bt2 bt3 btl
  replace HB := Lib.hid (HB.out.trans (hb.mono HB.out.size))
  replace Hbp := Lib.hid (Hbp.out.below hb Hbp.out.lt)
  replace Hbt := Lib.hid (Hbt.out.below hb Hbt.out.lt)
  replace Hpc := Lib.hid (Hpc.out.stay hb (Nat.le_refl _))
  replace Hsc := Lib.hid (Hsc.out.stay hb (Nat.le_refl _))
  replace Htc := Lib.hid (Htc.out.stay hb (Nat.le_refl _))
  clear hb hWrr
  have hcall := little_calls [(s, As, cs)] _ 1 Wrr hrr (by simp); clear hrr
  obtain ⟨q, hq⟩ : ∃ q, q = littleB [s] := ⟨_, rfl⟩
  rw [show ([(s, As, cs)] : List TV).map (fun e => e.1) = [s] from rfl, ← hq] at hcall
  have Hcall := Lib.hid hcall; clear hcall; have Hq := Lib.hid hq; clear hq
  refine (Hcall.out).mono ?_
  rintro e w3 ⟨rfl, hb⟩
  replace HB := Lib.hid (HB.out.trans (hb.mono HB.out.size))
  replace Hbp := Lib.hid (Hbp.out.below hb Hbp.out.lt)
  replace Hbt := Lib.hid (Hbt.out.below hb Hbt.out.lt)
  replace Hpc := Lib.hid (Hpc.out.stay hb (Nat.le_refl _))
  replace Hsc := Lib.hid (Hsc.out.stay hb (Nat.le_refl _))
  replace Htc := Lib.hid (Htc.out.stay hb (Nat.le_refl _))
  clear hb
  clear Hcall
  cases q
  case false =>
    go_wp2
    go_ret
    exact ⟨rfl, HB.out⟩
  have Hlts := Lib.hid ((littleB_iff.1 Hq.out.symm s (by simp)).2); clear Hq
  obtain ⟨q, hq⟩ : ∃ q, q = subB s := ⟨_, rfl⟩
  have hcall := refIsSubst_calls s _ As cs w3 Hsc.out (fun x hx => by have := smallB_size (Hlts.out) hx; omega)
  rw [← hq] at hcall
  have Hcall := Lib.hid hcall; clear hcall; have Hq := Lib.hid hq; clear hq
  obtain ⟨⟨bp0, bp1, bp2, bp3⟩, -⟩ := Hbp.out.four
  have bpl := Hbp.out.lt
  obtain ⟨⟨bt0, bt1, bt2, bt3⟩, -⟩ := Hbt.out.four
  have btl := Hbt.out.lt
  go_wp2_with fail
  refine (Hcall.out).mono ?_
  rintro e w4 ⟨rfl, hb⟩
  clear bp0 bp1 bp2 bp3 bpl bt0 bt1 bt2 bt3 btl
  replace HB := Lib.hid (HB.out.trans (hb.mono HB.out.size))
  replace Hbp := Lib.hid (Hbp.out.below hb Hbp.out.lt)
  replace Hbt := Lib.hid (Hbt.out.below hb Hbt.out.lt)
  replace Hpc := Lib.hid (Hpc.out.stay hb (Nat.le_refl _))
  replace Hsc := Lib.hid (Hsc.out.stay hb (Nat.le_refl _))
  replace Htc := Lib.hid (Htc.out.stay hb (Nat.le_refl _))
  clear hb
  clear Hcall
  cases q
  case false =>
    go_wp2
    go_ret
    exact ⟨rfl, HB.out⟩
  have iss : subB s = true := Hq.out.symm; clear Hq
  have hv := vnt_inst ip it
  obtain ⟨q1, eq1⟩ : ∃ q, q = instB p t := ⟨_, rfl⟩
  obtain ⟨q2, eq2⟩ : ∃ q, q = instB t p := ⟨_, rfl⟩
  rw [← eq1, ← eq2] at hv
  have Hq1 := Lib.hid (show ∀ W v v2, TmV (fun _ => True) W v p → TmV (fun _ => True) W v2 t → Calls Try.prog 38 #[v, v2] W (RetB W q1) from fun W v v2 h1 h2 => by have h3 := instance_calls p t _ _ W v v2 h1 h2 ip it; rw [show (matchR p t).isSome = q1 from eq1.symm] at h3; exact h3)
  have Hq2 := Lib.hid (show ∀ W v v2, TmV (fun _ => True) W v t → TmV (fun _ => True) W v2 p → Calls Try.prog 38 #[v, v2] W (RetB W q2) from fun W v v2 h1 h2 => by have h3 := instance_calls t p _ _ W v v2 h1 h2 it ip; rw [show (matchR t p).isSome = q2 from eq2.symm] at h3; exact h3)
  have Hv1 := Lib.hid (show ∀ W v v2, TmV (fun _ => True) W v p → TmV (fun _ => True) W v2 t → Calls Try.prog 39 #[v, v2] W (RetB W (q1 && q2)) from fun W v v2 h1 h2 => by have h3 := variantLaw_calls p t _ _ W v v2 h1 h2 ip it; rw [hv] at h3; exact h3)
  have Hm := Lib.hid (fun (W : World) (v v2 : Value) (h1 : TmV (fun _ => True) W v p) (h2 : TmV (fun _ => True) W v2 t) => match_ok p t _ _ W v v2 h1 h2 ip it)
  obtain ⟨R, hR⟩ : ∃ R, R = matchR p t := ⟨_, rfl⟩
  rw [← hR] at Hm
  have Hbk := Lib.hid (show ∀ m, R = some m → substR p m = some t from fun m h => match_back ip it (hR ▸ h))
  have Ip := Lib.hid ip; have It := Lib.hid it; have Is := Lib.hid iss; clear hv eq1 eq2 hR ip it iss
  go_wp2_with fail
  cases q1
  case false =>
    have hq : (false != false) = false := rfl
    simp only [Bool.false_and] at Hv1
    have Sq1 := Lib.hid (show ∀ W, Hid (Below w4.heap.size w4 W) → Calls Try.prog 38 #[.agg #[.int .i64 p.k, .int .i64 p.n, .string p.s, .slice Ap p.l.length cp], .agg #[.int .i64 t.k, .int .i64 t.n, .string t.s, .slice At t.l.length ct]] W (RetB W false) from fun W hb => Hq1.out W _ _ ⟨Ap, cp, rfl, sp, Hpc.out.stay hb.out (Nat.le_refl _)⟩ ⟨At, ct, rfl, st, Htc.out.stay hb.out (Nat.le_refl _)⟩)
    have Sv1 := Lib.hid (show ∀ W, Hid (Below w4.heap.size w4 W) → Calls Try.prog 39 #[.agg #[.int .i64 p.k, .int .i64 p.n, .string p.s, .slice Ap p.l.length cp], .agg #[.int .i64 t.k, .int .i64 t.n, .string t.s, .slice At t.l.length ct]] W (RetB W false) from fun W hb => Hv1.out W _ _ ⟨Ap, cp, rfl, sp, Hpc.out.stay hb.out (Nat.le_refl _)⟩ ⟨At, ct, rfl, st, Htc.out.stay hb.out (Nat.le_refl _)⟩)
    obtain ⟨⟨bp0, bp1, bp2, bp3⟩, -⟩ := Hbp.out.four
    have bpl := Hbp.out.lt
    obtain ⟨⟨bt0, bt1, bt2, bt3⟩, -⟩ := Hbt.out.four
    have btl := Hbt.out.lt
    refine wp_region_noPanic ?_
    refine wp_region_held_drew (S := SW w4 [(⟨w.heap.size, 0, none⟩, .int .i64 p.k), (⟨w.heap.size, 1, none⟩, .int .i64 p.n), (⟨w.heap.size, 2, none⟩, .string p.s), (⟨w.heap.size, 3, none⟩, .slice Ap p.l.length cp), (⟨w.heap.size + 1, 0, none⟩, .int .i64 t.k), (⟨w.heap.size + 1, 1, none⟩, .int .i64 t.n), (⟨w.heap.size + 1, 2, none⟩, .string t.s), (⟨w.heap.size + 1, 3, none⟩, .slice At t.l.length ct)]) (by kernel_rfl) ?_ (fun hHeld => ?_)
    · exact SW.start (fun p hp => by simp only [List.mem_cons, List.not_mem_nil, or_false] at hp; rcases hp with rfl | rfl | rfl | rfl | rfl | rfl | rfl | rfl <;> assumption)
    refine takeH (i := 0) (d := 39) (.agg #[.int .i64 p.k, .int .i64 p.n, .string p.s, .slice Ap p.l.length cp]) (by kernel_rfl) (by kernel_rfl) (by kernel_rfl) (by kernel_rfl) (fun _ _ _ _ h => h) (fun o ho => ?_) hHeld ?_
    · simp only [List.getElem?_toArray, List.getElem?_cons_zero, List.getElem?_cons_succ, Option.some.injEq] at ho
      subst ho
      refine Or.inl ⟨by rfl, fun w hSw => ?_⟩
      have s0 := hSw.at 0 rfl
      have s1 := hSw.at 1 rfl
      have s2 := hSw.at 2 rfl
      have s3 := hSw.at 3 rfl
      go_simp
    simp only [Act.put, List.setIfInBounds_toArray, List.set_cons_zero, List.set_cons_succ]
    refine takeH (i := 1) (d := 40) (.agg #[.int .i64 t.k, .int .i64 t.n, .string t.s, .slice At t.l.length ct]) (by kernel_rfl) (by kernel_rfl) (by kernel_rfl) (by kernel_rfl) (fun _ _ _ _ h => h) (fun o ho => ?_) hHeld ?_
    · simp only [List.getElem?_toArray, List.getElem?_cons_zero, List.getElem?_cons_succ, Option.some.injEq] at ho
      subst ho
      refine Or.inl ⟨by rfl, fun w hSw => ?_⟩
      have s0 := hSw.at 4 rfl
      have s1 := hSw.at 5 rfl
      have s2 := hSw.at 6 rfl
      have s3 := hSw.at 7 rfl
      go_simp
    simp only [Act.put, List.setIfInBounds_toArray, List.set_cons_zero, List.set_cons_succ]
    refine takeH (i := 8) (d := 47) (.agg #[.int .i64 p.k, .int .i64 p.n, .string p.s, .slice Ap p.l.length cp]) (by kernel_rfl) (by kernel_rfl) (by kernel_rfl) (by kernel_rfl) (fun _ _ _ _ h => h) (fun o ho => ?_) hHeld ?_
    · simp only [List.getElem?_toArray, List.getElem?_cons_zero, List.getElem?_cons_succ, Option.some.injEq] at ho
      subst ho
      refine Or.inl ⟨by rfl, fun w hSw => ?_⟩
      have s0 := hSw.at 0 rfl
      have s1 := hSw.at 1 rfl
      have s2 := hSw.at 2 rfl
      have s3 := hSw.at 3 rfl
      go_simp
    simp only [Act.put, List.setIfInBounds_toArray, List.set_cons_zero, List.set_cons_succ]
    refine takeH (i := 9) (d := 48) (.agg #[.int .i64 t.k, .int .i64 t.n, .string t.s, .slice At t.l.length ct]) (by kernel_rfl) (by kernel_rfl) (by kernel_rfl) (by kernel_rfl) (fun _ _ _ _ h => h) (fun o ho => ?_) hHeld ?_
    · simp only [List.getElem?_toArray, List.getElem?_cons_zero, List.getElem?_cons_succ, Option.some.injEq] at ho
      subst ho
      refine Or.inl ⟨by rfl, fun w hSw => ?_⟩
      have s0 := hSw.at 4 rfl
      have s1 := hSw.at 5 rfl
      have s2 := hSw.at 6 rfl
      have s3 := hSw.at 7 rfl
      go_simp
    simp only [Act.put, List.setIfInBounds_toArray, List.set_cons_zero, List.set_cons_succ]
    refine stepH (i := 2) (by kernel_rfl) (by kernel_rfl) (fun o ho K2 hK => ?_)
    simp only [List.getElem?_toArray, List.getElem?_cons_zero, List.getElem?_cons_succ, Option.some.injEq] at ho
    subst ho
    go_simp
    refine (Sq1.out _ hHeld.1).mono ?_
    rintro e wx ⟨rfl, hb⟩
    dsimp only
    refine hK.out _ _ (hHeld.below hb) (fun hHeld => ?_)
    clear hK K2 hb
    try simp only [Act.put, List.setIfInBounds_toArray, List.set_cons_zero, List.set_cons_succ]
    refine takeH (i := 3) (d := 42) (.bool false) (by kernel_rfl) (by kernel_rfl) (by kernel_rfl) (by kernel_rfl) (fun _ _ _ _ h => h) (fun o ho => ?_) hHeld ?_
    · simp only [List.getElem?_toArray, List.getElem?_cons_zero, List.getElem?_cons_succ, Option.some.injEq] at ho
      subst ho
      refine Or.inl ⟨by rfl, fun w hSw => ?_⟩
      go_simp
    simp only [Act.put, List.setIfInBounds_toArray, List.set_cons_zero, List.set_cons_succ]
    refine takeH (i := 4) (d := 43) undef (by kernel_rfl) (by kernel_rfl) (by kernel_rfl) (by kernel_rfl) (fun _ _ _ _ h => h) (fun o ho => ?_) hHeld ?_
    · simp only [List.getElem?_toArray, List.getElem?_cons_zero, List.getElem?_cons_succ, Option.some.injEq] at ho
      subst ho
      exact Or.inr ⟨by rfl, rfl⟩
    simp only [Act.put, List.setIfInBounds_toArray, List.set_cons_zero, List.set_cons_succ]
    refine takeH (i := 5) (d := 44) undef (by kernel_rfl) (by kernel_rfl) (by kernel_rfl) (by kernel_rfl) (fun _ _ _ _ h => h) (fun o ho => ?_) hHeld ?_
    · simp only [List.getElem?_toArray, List.getElem?_cons_zero, List.getElem?_cons_succ, Option.some.injEq] at ho
      subst ho
      exact Or.inr ⟨by rfl, rfl⟩
    simp only [Act.put, List.setIfInBounds_toArray, List.set_cons_zero, List.set_cons_succ]
    refine stepH (i := 6) (by kernel_rfl) (by kernel_rfl) (fun o ho K2 hK => ?_)
    simp only [List.getElem?_toArray, List.getElem?_cons_zero, List.getElem?_cons_succ, Option.some.injEq] at ho
    subst ho
    rw [if_neg (by intro h; cases h)]
    refine hK.out _ _ hHeld (fun hHeld => ?_)
    clear hK K2
    try simp only [Act.put, List.setIfInBounds_toArray, List.set_cons_zero, List.set_cons_succ]
    refine takeH (i := 7) (d := 46) (.bool false) (by kernel_rfl) (by kernel_rfl) (by kernel_rfl) (by kernel_rfl) (fun _ _ _ _ h => h) (fun o ho => ?_) hHeld ?_
    · simp only [List.getElem?_toArray, List.getElem?_cons_zero, List.getElem?_cons_succ, Option.some.injEq] at ho
      subst ho
      refine Or.inl ⟨by rfl, fun w hSw => ?_⟩
      go_simp
    simp only [Act.put, List.setIfInBounds_toArray, List.set_cons_zero, List.set_cons_succ]
    refine stepH (i := 10) (by kernel_rfl) (by kernel_rfl) (fun o ho K2 hK => ?_)
    simp only [List.getElem?_toArray, List.getElem?_cons_zero, List.getElem?_cons_succ, Option.some.injEq] at ho
    subst ho
    go_simp
    refine (Sv1.out _ hHeld.1).mono ?_
    rintro e wx ⟨rfl, hb⟩
    dsimp only
    refine hK.out _ _ (hHeld.below hb) (fun hHeld => ?_)
    clear hK K2 hb
    try simp only [Act.put, List.setIfInBounds_toArray, List.set_cons_zero, List.set_cons_succ]
    refine takeH (i := 11) (d := 50) (.bool false) (by kernel_rfl) (by kernel_rfl) (by kernel_rfl) (by kernel_rfl) (fun _ _ _ _ h => h) (fun o ho => ?_) hHeld ?_
    · simp only [List.getElem?_toArray, List.getElem?_cons_zero, List.getElem?_cons_succ, Option.some.injEq] at ho
      subst ho
      refine Or.inl ⟨by rfl, fun w hSw => ?_⟩
      go_simp
    simp only [Act.put, List.setIfInBounds_toArray, List.set_cons_zero, List.set_cons_succ]
    refine wpAnyH_done (by kernel_rfl) ?_ _
    refine NoPanic.normal ?_
    obtain ⟨wr5, hwr5⟩ : ∃ W, W = wx := ⟨_, rfl⟩
    have hb : Below w4.heap.size w4 wx := hHeld.1.out
    clear bp0 bp1 bp2 bp3 bpl bt0 bt1 bt2 bt3 btl
    replace HB := Lib.hid (HB.out.trans (hb.mono HB.out.size))
    replace Hbp := Lib.hid (Hbp.out.below hb Hbp.out.lt)
    replace Hbt := Lib.hid (Hbt.out.below hb Hbt.out.lt)
    replace Hpc := Lib.hid (Hpc.out.stay hb (Nat.le_refl _))
    replace Hsc := Lib.hid (Hsc.out.stay hb (Nat.le_refl _))
    replace Htc := Lib.hid (Htc.out.stay hb (Nat.le_refl _))
    clear hb hHeld hwr5 wr5
    cases R with
    | none =>
      obtain ⟨⟨bp0, bp1, bp2, bp3⟩, -⟩ := Hbp.out.four
      have bpl := Hbp.out.lt
      obtain ⟨⟨bt0, bt1, bt2, bt3⟩, -⟩ := Hbt.out.four
      have btl := Hbt.out.lt
      go_wp2_with fail
      refine (Hm.out _ _ _ ⟨Ap, cp, rfl, sp, Hpc.out⟩ ⟨At, ct, rfl, st, Htc.out⟩).mono ?_
      rintro e w6 ⟨A6, c6, rfl, -, hb⟩
      clear bp0 bp1 bp2 bp3 bpl bt0 bt1 bt2 bt3 btl
      replace HB := Lib.hid (HB.out.trans (hb.mono HB.out.size))
      replace Hbp := Lib.hid (Hbp.out.below hb Hbp.out.lt)
      replace Hbt := Lib.hid (Hbt.out.below hb Hbt.out.lt)
      replace Hpc := Lib.hid (Hpc.out.stay hb (Nat.le_refl _))
      replace Hsc := Lib.hid (Hsc.out.stay hb (Nat.le_refl _))
      replace Htc := Lib.hid (Htc.out.stay hb (Nat.le_refl _))
      clear hb
      obtain ⟨X, hX⟩ : ∃ X, X = substR p s := ⟨_, rfl⟩
      cases X with
      | none =>
        have hcall := subst_err _ _ w6 _ As cs ⟨Ap, cp, rfl, sp, Hpc.out⟩ Hsc.out hX.symm (subst_errE Ip.out Is.out)
        have Hcall := Lib.hid hcall; clear hcall hX
        obtain ⟨⟨bp0, bp1, bp2, bp3⟩, -⟩ := Hbp.out.four
        have bpl := Hbp.out.lt
        obtain ⟨⟨bt0, bt1, bt2, bt3⟩, -⟩ := Hbt.out.four
        have btl := Hbt.out.lt
        go_wp2_with fail
        refine Hcall.out.mono ?_
        rintro e w30 ⟨A0, c0, rfl, -, -, hb⟩
        clear bp0 bp1 bp2 bp3 bpl bt0 bt1 bt2 bt3 btl
        replace HB := Lib.hid (HB.out.trans (hb.mono HB.out.size))
        replace Hbp := Lib.hid (Hbp.out.below hb Hbp.out.lt)
        replace Hbt := Lib.hid (Hbt.out.below hb Hbt.out.lt)
        replace Hpc := Lib.hid (Hpc.out.stay hb (Nat.le_refl _))
        replace Hsc := Lib.hid (Hsc.out.stay hb (Nat.le_refl _))
        replace Htc := Lib.hid (Htc.out.stay hb (Nat.le_refl _))
        clear hb Hcall
        go_wp2
        go_ret
        exact ⟨rfl, HB.out.alloc HB.out.size _⟩
      | some x =>
        obtain ⟨ix, m2, hm2, hvars⟩ := match_inst Ip.out Is.out hX.symm
        have Ix := Lib.hid ix; have Hm2 := Lib.hid hm2; have Hvars := Lib.hid hvars; clear ix hm2 hvars
        have hcall := subst_ok _ _ w6 _ As cs ⟨Ap, cp, rfl, sp, Hpc.out⟩ Hsc.out hX.symm
        have Hcall := Lib.hid hcall; clear hcall hX
        obtain ⟨⟨bp0, bp1, bp2, bp3⟩, -⟩ := Hbp.out.four
        have bpl := Hbp.out.lt
        obtain ⟨⟨bt0, bt1, bt2, bt3⟩, -⟩ := Hbt.out.four
        have btl := Hbt.out.lt
        go_wp2_with fail
        refine (Hcall.out).mono ?_
        rintro e w32 ⟨Ax, cx, rfl, sx, hxc, hb⟩
        clear bp0 bp1 bp2 bp3 bpl bt0 bt1 bt2 bt3 btl
        replace HB := Lib.hid (HB.out.trans (hb.mono HB.out.size))
        replace Hbp := Lib.hid (Hbp.out.below hb Hbp.out.lt)
        replace Hbt := Lib.hid (Hbt.out.below hb Hbt.out.lt)
        replace Hpc := Lib.hid (Hpc.out.stay hb (Nat.le_refl _))
        replace Hsc := Lib.hid (Hsc.out.stay hb (Nat.le_refl _))
        replace Htc := Lib.hid (Htc.out.stay hb (Nat.le_refl _))
        clear hb
        have Hxc := Lib.hid (hxc.mono (Q := (fun _ => True)) (fun _ _ => trivial)); clear hxc
        obtain ⟨V32, hV32⟩ : ∃ V, V = w32.alloc (.cells #[.int .i64 x.k, .int .i64 x.n, .string x.s, .slice Ax x.l.length cx] 25) := ⟨_, rfl⟩
        have hb : Below w32.heap.size w32 V32 := by rw [hV32]; exact (Below.refl _ _).alloc (Nat.le_refl _) _
        have Hbx := Lib.hid (show Blk V32 w32.heap.size 25 #[.int .i64 x.k, .int .i64 x.n, .string x.s, .slice Ax x.l.length cx] from by rw [hV32]; exact Blk.new _ _ _)
        replace HB := Lib.hid (HB.out.trans (hb.mono HB.out.size))
        replace Hbp := Lib.hid (Hbp.out.below hb Hbp.out.lt)
        replace Hbt := Lib.hid (Hbt.out.below hb Hbt.out.lt)
        replace Hpc := Lib.hid (Hpc.out.stay hb (Nat.le_refl _))
        replace Hsc := Lib.hid (Hsc.out.stay hb (Nat.le_refl _))
        replace Htc := Lib.hid (Htc.out.stay hb (Nat.le_refl _))
        replace Hxc := Lib.hid (Hxc.out.stay hb (Nat.le_refl _))
        clear hb
        have HV32 := Lib.hid hV32; clear hV32
        go_upto_region 17 with (fail)
        rw [← HV32.out]
        clear HV32
        clear Hcall
        have hcall := match_ok p x _ _ V32 _ _ ⟨Ap, cp, rfl, sp, Hpc.out⟩ ⟨Ax, cx, rfl, sx, Hxc.out⟩ Ip.out Ix.out
        rw [Hm2.out] at hcall
        have Hcall := Lib.hid hcall; clear hcall
        obtain ⟨⟨bp0, bp1, bp2, bp3⟩, -⟩ := Hbp.out.four
        have bpl := Hbp.out.lt
        obtain ⟨⟨bt0, bt1, bt2, bt3⟩, -⟩ := Hbt.out.four
        have btl := Hbt.out.lt
        obtain ⟨⟨bx0, bx1, bx2, bx3⟩, -⟩ := Hbx.out.four
        have bxl := Hbx.out.lt
        go_wp2_with fail
        refine Hcall.out.mono ?_
        rintro e w40 ⟨Am2, cm2, rfl, hm2c, hb⟩
        clear bp0 bp1 bp2 bp3 bpl bt0 bt1 bt2 bt3 btl bx0 bx1 bx2 bx3 bxl
        replace HB := Lib.hid (HB.out.trans (hb.mono HB.out.size))
        replace Hbp := Lib.hid (Hbp.out.below hb Hbp.out.lt)
        replace Hbt := Lib.hid (Hbt.out.below hb Hbt.out.lt)
        replace Hbx := Lib.hid (Hbx.out.below hb Hbx.out.lt)
        replace Hpc := Lib.hid (Hpc.out.stay hb (Nat.le_refl _))
        replace Hsc := Lib.hid (Hsc.out.stay hb (Nat.le_refl _))
        replace Htc := Lib.hid (Htc.out.stay hb (Nat.le_refl _))
        replace Hxc := Lib.hid (Hxc.out.stay hb (Nat.le_refl _))
        clear hb Hcall
        replace hm2c : TmC (fun _ => True) w40 Am2 cm2 m2 := hm2c
        have Hm2c := Lib.hid hm2c; clear hm2c
        rw [show (some m2).isSome = true from rfl, show (some m2).getD [] = m2 from rfl]
        obtain ⟨⟨bp0, bp1, bp2, bp3⟩, -⟩ := Hbp.out.four
        have bpl := Hbp.out.lt
        obtain ⟨⟨bt0, bt1, bt2, bt3⟩, -⟩ := Hbt.out.four
        have btl := Hbt.out.lt
        obtain ⟨⟨bx0, bx1, bx2, bx3⟩, -⟩ := Hbx.out.four
        have bxl := Hbx.out.lt
        go_wp2_with fail
        obtain ⟨Wlit2, hWlit2⟩ : ∃ W, W = w40.alloc (.cells #[.int .i64 p.k, .int .i64 p.n, .string p.s, .slice Ap p.l.length cp] 25) := ⟨_, rfl⟩
        rw [← hWlit2]
        have hb : Below w40.heap.size w40 Wlit2 := by rw [hWlit2]; exact (Below.refl _ _).alloc (Nat.le_refl _) _
        have hlit2 : TmC (fun _ => True) Wlit2 (some ⟨w40.heap.size, 0, none⟩) 1 [p] := by
          rw [hWlit2]; exact (TmC.lit3 (P := (fun _ => True)) [(p, Ap, cp)] (fun e he => by
            simp only [List.mem_cons, List.not_mem_nil, or_false] at he
            subst he
            exact ⟨sp, Hpc.out⟩
            ) (by simp)).mono (fun _ _ => trivial)
        clear bp0 bp1 bp2 bp3 bpl bt0 bt1 bt2 bt3 btl bx0 bx1 bx2 bx3 bxl
        replace HB := Lib.hid (HB.out.trans (hb.mono HB.out.size))
        replace Hbp := Lib.hid (Hbp.out.below hb Hbp.out.lt)
        replace Hbt := Lib.hid (Hbt.out.below hb Hbt.out.lt)
        replace Hbx := Lib.hid (Hbx.out.below hb Hbx.out.lt)
        replace Hpc := Lib.hid (Hpc.out.stay hb (Nat.le_refl _))
        replace Hsc := Lib.hid (Hsc.out.stay hb (Nat.le_refl _))
        replace Htc := Lib.hid (Htc.out.stay hb (Nat.le_refl _))
        replace Hxc := Lib.hid (Hxc.out.stay hb (Nat.le_refl _))
        replace Hm2c := Lib.hid (Hm2c.out.stay hb (Nat.le_refl _))
        clear hb hWlit2
        have hcall := vars_ok [p] _ _ _ _ hlit2 (by rw [allB_one]; exact Ip.out); clear hlit2
        obtain ⟨vs, hvs⟩ : ∃ vs, vs = varsL [p] := ⟨_, rfl⟩
        rw [← hvs] at hcall Hvars
        have Hcall := Lib.hid hcall; clear hcall hvs
        refine Hcall.out.mono ?_
        rintro e wV ⟨Av, cv, rfl, hrd, hv1, hv2, hb⟩
        replace HB := Lib.hid (HB.out.trans (hb.mono HB.out.size))
        replace Hbp := Lib.hid (Hbp.out.below hb Hbp.out.lt)
        replace Hbt := Lib.hid (Hbt.out.below hb Hbt.out.lt)
        replace Hbx := Lib.hid (Hbx.out.below hb Hbx.out.lt)
        replace Hpc := Lib.hid (Hpc.out.stay hb (Nat.le_refl _))
        replace Hsc := Lib.hid (Hsc.out.stay hb (Nat.le_refl _))
        replace Htc := Lib.hid (Htc.out.stay hb (Nat.le_refl _))
        replace Hxc := Lib.hid (Hxc.out.stay hb (Nat.le_refl _))
        replace Hm2c := Lib.hid (Hm2c.out.stay hb (Nat.le_refl _))
        clear hb Hcall
        have Hrd := Lib.hid hrd; clear hrd
        have HsL := Lib.hid (Hsc.out.inside.mono (Q := (· < wV.heap.size)) (fun g h => h.2)); have HmL := Lib.hid (Hm2c.out.inside.mono (Q := (· < wV.heap.size)) (fun g h => h.2))
        have hms := Hm2c.out.len.1; have hms2 := Hm2c.out.len.2.1
        have HBV := HB
        clear Hbp Hbt Hbx Hpc Hsc Htc Hxc Hm2c HB
        go_wp2
        go_loopw [110] (fun i wr => ∃ k : Nat, k ≤ vs.length ∧ i = .int .i64 k ∧ Hid (Below wV.heap.size wV wr)) (fun i _ => vs.length - (intOf i).toNat)
        case atStart => exact ⟨0, Nat.zero_le _, rfl, Lib.hid (Below.refl _ _)⟩
        case round =>
          obtain ⟨k, hk, rfl, HL⟩ := hrel
          by_cases hlt : k < vs.length
          case neg =>
            go_wp2
            go_ret
            exact ⟨rfl, HBV.out.trans (HL.out.mono HBV.out.size)⟩
          obtain ⟨n, hn⟩ : ∃ n, vs[k]? = some n := ⟨_, List.getElem?_eq_getElem hlt⟩
          obtain ⟨j, rfl, hj5, hmj⟩ := Hvars.out n (List.mem_of_getElem? hn)
          obtain ⟨gv, ov, rfl, n0⟩ := (Hrd.out.below HL.out (Nat.le_refl _)).atI hn
          have Hmj := Lib.hid hmj; clear hmj hn
          go_wp2_with fail
          refine (v_calls (j : Int) wr).mono ?_
          rintro e u1 ⟨rfl, hb⟩
          unfold vV
          obtain ⟨U2, hU2⟩ : ∃ U, U = u1.alloc (.cells #[.int .i64 1, .int .i64 (j : Int), .string ⟨#[]⟩, .slice none 0 0] 25) := ⟨_, rfl⟩
          have hb1 := HL.out.trans (hb.mono HL.out.size)
          have HL2 := Lib.hid (show Below wV.heap.size wV U2 from by rw [hU2]; exact hb1.alloc hb1.size _)
          have HK := Lib.hid (show Blk U2 u1.heap.size 25 #[.int .i64 1, .int .i64 (j : Int), .string ⟨#[]⟩, .slice none 0 0] from by rw [hU2]; exact Blk.new _ _ _)
          have HUS := Lib.hid (show wV.heap.size ≤ u1.heap.size from hb1.size)
          have HU2 := Lib.hid hU2; clear hU2 hb hb1 n0
          go_upto_region 25 with (fail)
          rw [← HU2.out]
          clear HU2
          by_cases hj : j < s.length
          case neg =>
            have d1 : decide ((j : Int) < (s.length : Int)) = false := decide_eq_false (by omega)
            have hz := Hmj.out; rw [sgL_none hj] at hz
            clear Hmj
            go_upto_region 27 with (fail)
            obtain ⟨gm, om, Aq, cq, hAm, -, ⟨m0, m1, m2_, m3⟩, sq, hqc⟩ := (HmL.out.stay HL2.out (Nat.le_refl _)).at_ hz
            have hjm : j < m2.length := (List.getElem?_eq_some_iff.1 hz).1
            have hcall := fun (W : World) (hb : Hid (Below U2.heap.size U2 W)) => refSame_calls (Tm.va j) _ _ W _ _ (Tm.va j) ⟨Aq, cq, rfl, sq, hqc.stay hb.out (Nat.le_refl _)⟩ (TmV.va (fun _ => True) _ _)
            simp only [sameB_refl] at hcall
            simp only [vV] at hcall
            have Hcall := Lib.hid hcall; clear hcall hz
            obtain ⟨⟨k0, k1, k2, k3⟩, -⟩ := HK.out.four
            have d2 : decide ((m2.length : Int) ≤ (j : Int)) = false := decide_eq_false (by omega)
            subst hAm
            simp only [va_k, va_n, va_s, va_l, List.length_nil] at m0 m1 m2_ m3 sq Hcall
            have d3 : decide (m2.length ≤ j) = false := decide_eq_false (by omega)
            have hj0 : (0 : Int) ≤ (j : Int) := by omega
            have hj1 : (j : Int) < (m2.length : Int) := by omega
            go_wp2_with fail
            refine wp_region_noPanic ?_
            refine wp_region_held_drew (S := SW U2 [(⟨u1.heap.size, 0, none⟩, .int .i64 1), (⟨u1.heap.size, 1, none⟩, .int .i64 (j : Int)), (⟨u1.heap.size, 2, none⟩, .string ⟨#[]⟩), (⟨u1.heap.size, 3, none⟩, .slice none 0 0), (⟨gm, om + j * 4, none⟩, .int .i64 1), (⟨gm, om + j * 4 + 1, none⟩, .int .i64 (j : Int)), (⟨gm, om + j * 4 + 2, none⟩, .string ⟨#[]⟩), (⟨gm, om + j * 4 + 3, none⟩, .slice Aq 0 cq)]) (by kernel_rfl) ?_ (fun hHeld => ?_)
            · exact SW.start (fun p hp => by simp only [List.mem_cons, List.not_mem_nil, or_false] at hp; rcases hp with rfl | rfl | rfl | rfl | rfl | rfl | rfl | rfl <;> assumption)
            refine takeH (i := 0) (d := 132) (.int .i64 (j : Int)) (by kernel_rfl) (by kernel_rfl) (by kernel_rfl) (by kernel_rfl) (fun _ _ _ _ h => h) (fun o ho => ?_) hHeld ?_
            · simp only [List.getElem?_toArray, List.getElem?_cons_zero, List.getElem?_cons_succ, Option.some.injEq] at ho
              subst ho
              refine Or.inl ⟨by rfl, fun w hSw => ?_⟩
              go_simp
            simp only [Act.put, List.setIfInBounds_toArray, List.set_cons_zero, List.set_cons_succ]
            refine takeH (i := 1) (d := 133) (.slice (some ⟨gm, om, none⟩) m2.length cm2) (by kernel_rfl) (by kernel_rfl) (by kernel_rfl) (by kernel_rfl) (fun _ _ _ _ h => h) (fun o ho => ?_) hHeld ?_
            · simp only [List.getElem?_toArray, List.getElem?_cons_zero, List.getElem?_cons_succ, Option.some.injEq] at ho
              subst ho
              refine Or.inl ⟨by rfl, fun w hSw => ?_⟩
              go_simp
            simp only [Act.put, List.setIfInBounds_toArray, List.set_cons_zero, List.set_cons_succ]
            refine takeH (i := 2) (d := 134) (.int .i64 (m2.length : Int)) (by kernel_rfl) (by kernel_rfl) (by kernel_rfl) (by kernel_rfl) (fun _ _ _ _ h => h) (fun o ho => ?_) hHeld ?_
            · simp only [List.getElem?_toArray, List.getElem?_cons_zero, List.getElem?_cons_succ, Option.some.injEq] at ho
              subst ho
              refine Or.inl ⟨by rfl, fun w hSw => ?_⟩
              go_simp
            simp only [Act.put, List.setIfInBounds_toArray, List.set_cons_zero, List.set_cons_succ]
            refine takeH (i := 3) (d := 135) (.bool false) (by kernel_rfl) (by kernel_rfl) (by kernel_rfl) (by kernel_rfl) (fun _ _ _ _ h => h) (fun o ho => ?_) hHeld ?_
            · simp only [List.getElem?_toArray, List.getElem?_cons_zero, List.getElem?_cons_succ, Option.some.injEq] at ho
              subst ho
              refine Or.inl ⟨by rfl, fun w hSw => ?_⟩
              go_simp
            simp only [Act.put, List.setIfInBounds_toArray, List.set_cons_zero, List.set_cons_succ]
            refine takeH (i := 4) (d := 136) (.bool false) (by kernel_rfl) (by kernel_rfl) (by kernel_rfl) (by kernel_rfl) (fun _ _ _ _ h => h) (fun o ho => ?_) hHeld ?_
            · simp only [List.getElem?_toArray, List.getElem?_cons_zero, List.getElem?_cons_succ, Option.some.injEq] at ho
              subst ho
              refine Or.inl ⟨by rfl, fun w hSw => ?_⟩
              go_simp
            simp only [Act.put, List.setIfInBounds_toArray, List.set_cons_zero, List.set_cons_succ]
            refine takeH (i := 5) (d := 137) (.slice (some ⟨gm, om, none⟩) m2.length cm2) (by kernel_rfl) (by kernel_rfl) (by kernel_rfl) (by kernel_rfl) (fun _ _ _ _ h => h) (fun o ho => ?_) hHeld ?_
            · simp only [List.getElem?_toArray, List.getElem?_cons_zero, List.getElem?_cons_succ, Option.some.injEq] at ho
              subst ho
              refine Or.inl ⟨by rfl, fun w hSw => ?_⟩
              go_simp
            simp only [Act.put, List.setIfInBounds_toArray, List.set_cons_zero, List.set_cons_succ]
            refine takeH (i := 6) (d := 138) (.int .i64 (j : Int)) (by kernel_rfl) (by kernel_rfl) (by kernel_rfl) (by kernel_rfl) (fun _ _ _ _ h => h) (fun o ho => ?_) hHeld ?_
            · simp only [List.getElem?_toArray, List.getElem?_cons_zero, List.getElem?_cons_succ, Option.some.injEq] at ho
              subst ho
              refine Or.inl ⟨by rfl, fun w hSw => ?_⟩
              go_simp
            simp only [Act.put, List.setIfInBounds_toArray, List.set_cons_zero, List.set_cons_succ]
            refine takeH (i := 7) (d := 139) (.pointer (some ⟨gm, om + j * 4, none⟩)) (by kernel_rfl) (by kernel_rfl) (by kernel_rfl) (by kernel_rfl) (fun _ _ _ _ h => h) (fun o ho => ?_) hHeld ?_
            · simp only [List.getElem?_toArray, List.getElem?_cons_zero, List.getElem?_cons_succ, Option.some.injEq] at ho
              subst ho
              refine Or.inl ⟨by rfl, fun w hSw => ?_⟩
              go_simp
            simp only [Act.put, List.setIfInBounds_toArray, List.set_cons_zero, List.set_cons_succ]
            refine takeH (i := 8) (d := 140) (.agg #[.int .i64 1, .int .i64 (j : Int), .string ⟨#[]⟩, .slice Aq 0 cq]) (by kernel_rfl) (by kernel_rfl) (by kernel_rfl) (by kernel_rfl) (fun _ _ _ _ h => h) (fun o ho => ?_) hHeld ?_
            · simp only [List.getElem?_toArray, List.getElem?_cons_zero, List.getElem?_cons_succ, Option.some.injEq] at ho
              subst ho
              refine Or.inl ⟨by rfl, fun w hSw => ?_⟩
              have s0 := hSw.at 4 rfl
              have s1 := hSw.at 5 rfl
              have s2 := hSw.at 6 rfl
              have s3 := hSw.at 7 rfl
              go_simp
            simp only [Act.put, List.setIfInBounds_toArray, List.set_cons_zero, List.set_cons_succ]
            refine takeH (i := 9) (d := 141) (.agg #[.int .i64 1, .int .i64 (j : Int), .string ⟨#[]⟩, .slice none 0 0]) (by kernel_rfl) (by kernel_rfl) (by kernel_rfl) (by kernel_rfl) (fun _ _ _ _ h => h) (fun o ho => ?_) hHeld ?_
            · simp only [List.getElem?_toArray, List.getElem?_cons_zero, List.getElem?_cons_succ, Option.some.injEq] at ho
              subst ho
              refine Or.inl ⟨by rfl, fun w hSw => ?_⟩
              have s0 := hSw.at 0 rfl
              have s1 := hSw.at 1 rfl
              have s2 := hSw.at 2 rfl
              have s3 := hSw.at 3 rfl
              go_simp
            simp only [Act.put, List.setIfInBounds_toArray, List.set_cons_zero, List.set_cons_succ]
            refine stepH (i := 10) (by kernel_rfl) (by kernel_rfl) (fun o ho K2 hK => ?_)
            simp only [List.getElem?_toArray, List.getElem?_cons_zero, List.getElem?_cons_succ, Option.some.injEq] at ho
            subst ho
            go_simp
            refine (Hcall.out _ hHeld.1).mono ?_
            rintro e wx ⟨rfl, hb⟩
            dsimp only
            refine hK.out _ _ (hHeld.below hb) (fun hHeld => ?_)
            clear hK K2 hb
            try simp only [Act.put, List.setIfInBounds_toArray, List.set_cons_zero, List.set_cons_succ]
            refine takeH (i := 11) (d := 143) (.bool false) (by kernel_rfl) (by kernel_rfl) (by kernel_rfl) (by kernel_rfl) (fun _ _ _ _ h => h) (fun o ho => ?_) hHeld ?_
            · simp only [List.getElem?_toArray, List.getElem?_cons_zero, List.getElem?_cons_succ, Option.some.injEq] at ho
              subst ho
              refine Or.inl ⟨by rfl, fun w hSw => ?_⟩
              go_simp
            simp only [Act.put, List.setIfInBounds_toArray, List.set_cons_zero, List.set_cons_succ]
            refine takeH (i := 12) (d := 144) (.bool false) (by kernel_rfl) (by kernel_rfl) (by kernel_rfl) (by kernel_rfl) (fun _ _ _ _ h => h) (fun o ho => ?_) hHeld ?_
            · simp only [List.getElem?_toArray, List.getElem?_cons_zero, List.getElem?_cons_succ, Option.some.injEq] at ho
              subst ho
              refine Or.inl ⟨by rfl, fun w hSw => ?_⟩
              go_simp
            simp only [Act.put, List.setIfInBounds_toArray, List.set_cons_zero, List.set_cons_succ]
            refine wpAnyH_done (by kernel_rfl) ?_ _
            refine NoPanic.normal ?_
            have HL9 := Lib.hid (HL2.out.trans (hHeld.1.out.mono HL2.out.size)); clear hHeld k0 k1 k2 k3 m0 m1 m2_ m3
            go_wp2
            go_roundw
            case rel => exact ⟨k + 1, by omega, by go_num, HL9⟩
            case measure => simp [intOf]; omega
          have d1 : decide ((j : Int) < (s.length : Int)) = true := decide_eq_true (by omega)
          obtain ⟨y, hy⟩ : ∃ y, s[j]? = some y := ⟨_, List.getElem?_eq_getElem hj⟩
          have hsg := sgL_at hy
          obtain ⟨gs, os, Ay, cy, hAs, -, ⟨e0, e1, e2, e3⟩, sy, hyc⟩ := (HsL.out.stay HL2.out (Nat.le_refl _)).at_ hy
          have hcall := refFree_calls y _ U2 _ ⟨Ay, cy, rfl, sy, hyc⟩
          obtain ⟨f, hf⟩ : ∃ f, f = freeB y := ⟨_, rfl⟩
          rw [← hf] at hcall hsg
          have Hcall := Lib.hid hcall; have Hyc := Lib.hid hyc; have Hsg := Lib.hid hsg; clear hcall hyc hf hsg hy
          subst hAs
          go_wp2_with fail
          refine Hcall.out.mono ?_
          rintro e u3 ⟨rfl, hb⟩
          have HL3 := Lib.hid (HL2.out.trans (hb.mono HL2.out.size)); have HB23 := Lib.hid (show Below wV.heap.size U2 u3 from hb.mono HL2.out.size); have HK3 := Lib.hid (HK.out.below hb HK.out.lt)
          replace e0 := keep_cell hb e0; replace e1 := keep_cell hb e1; replace e2 := keep_cell hb e2; replace e3 := keep_cell hb e3
          clear hb Hcall HK HL2
          cases f
          case true =>
            have hz := Hmj.out; rw [Hsg.out, if_pos rfl] at hz
            clear Hmj Hsg e0 e1 e2 e3
            have HK := HK3; clear HK3
            go_upto_region 27 with (fail)
            obtain ⟨gm, om, Aq, cq, hAm, -, ⟨m0, m1, m2_, m3⟩, sq, hqc⟩ := (HmL.out.stay HL3.out (Nat.le_refl _)).at_ hz
            have hjm : j < m2.length := (List.getElem?_eq_some_iff.1 hz).1
            have hcall := fun (W : World) (hb : Hid (Below u3.heap.size u3 W)) => refSame_calls (Tm.va j) _ _ W _ _ (Tm.va j) ⟨Aq, cq, rfl, sq, hqc.stay hb.out (Nat.le_refl _)⟩ (TmV.va (fun _ => True) _ _)
            simp only [sameB_refl] at hcall
            simp only [vV] at hcall
            have Hcall := Lib.hid hcall; clear hcall hz
            obtain ⟨⟨k0, k1, k2, k3⟩, -⟩ := HK.out.four
            have d2 : decide ((m2.length : Int) ≤ (j : Int)) = false := decide_eq_false (by omega)
            subst hAm
            simp only [va_k, va_n, va_s, va_l, List.length_nil] at m0 m1 m2_ m3 sq Hcall
            have d3 : decide (m2.length ≤ j) = false := decide_eq_false (by omega)
            have hj0 : (0 : Int) ≤ (j : Int) := by omega
            have hj1 : (j : Int) < (m2.length : Int) := by omega
            go_wp2_with fail
            refine wp_region_noPanic ?_
            refine wp_region_held_drew (S := SW u3 [(⟨u1.heap.size, 0, none⟩, .int .i64 1), (⟨u1.heap.size, 1, none⟩, .int .i64 (j : Int)), (⟨u1.heap.size, 2, none⟩, .string ⟨#[]⟩), (⟨u1.heap.size, 3, none⟩, .slice none 0 0), (⟨gm, om + j * 4, none⟩, .int .i64 1), (⟨gm, om + j * 4 + 1, none⟩, .int .i64 (j : Int)), (⟨gm, om + j * 4 + 2, none⟩, .string ⟨#[]⟩), (⟨gm, om + j * 4 + 3, none⟩, .slice Aq 0 cq)]) (by kernel_rfl) ?_ (fun hHeld => ?_)
            · exact SW.start (fun p hp => by simp only [List.mem_cons, List.not_mem_nil, or_false] at hp; rcases hp with rfl | rfl | rfl | rfl | rfl | rfl | rfl | rfl <;> assumption)
            refine takeH (i := 0) (d := 132) (.int .i64 (j : Int)) (by kernel_rfl) (by kernel_rfl) (by kernel_rfl) (by kernel_rfl) (fun _ _ _ _ h => h) (fun o ho => ?_) hHeld ?_
            · simp only [List.getElem?_toArray, List.getElem?_cons_zero, List.getElem?_cons_succ, Option.some.injEq] at ho
              subst ho
              refine Or.inl ⟨by rfl, fun w hSw => ?_⟩
              go_simp
            simp only [Act.put, List.setIfInBounds_toArray, List.set_cons_zero, List.set_cons_succ]
            refine takeH (i := 1) (d := 133) (.slice (some ⟨gm, om, none⟩) m2.length cm2) (by kernel_rfl) (by kernel_rfl) (by kernel_rfl) (by kernel_rfl) (fun _ _ _ _ h => h) (fun o ho => ?_) hHeld ?_
            · simp only [List.getElem?_toArray, List.getElem?_cons_zero, List.getElem?_cons_succ, Option.some.injEq] at ho
              subst ho
              refine Or.inl ⟨by rfl, fun w hSw => ?_⟩
              go_simp
            simp only [Act.put, List.setIfInBounds_toArray, List.set_cons_zero, List.set_cons_succ]
            refine takeH (i := 2) (d := 134) (.int .i64 (m2.length : Int)) (by kernel_rfl) (by kernel_rfl) (by kernel_rfl) (by kernel_rfl) (fun _ _ _ _ h => h) (fun o ho => ?_) hHeld ?_
            · simp only [List.getElem?_toArray, List.getElem?_cons_zero, List.getElem?_cons_succ, Option.some.injEq] at ho
              subst ho
              refine Or.inl ⟨by rfl, fun w hSw => ?_⟩
              go_simp
            simp only [Act.put, List.setIfInBounds_toArray, List.set_cons_zero, List.set_cons_succ]
            refine takeH (i := 3) (d := 135) (.bool false) (by kernel_rfl) (by kernel_rfl) (by kernel_rfl) (by kernel_rfl) (fun _ _ _ _ h => h) (fun o ho => ?_) hHeld ?_
            · simp only [List.getElem?_toArray, List.getElem?_cons_zero, List.getElem?_cons_succ, Option.some.injEq] at ho
              subst ho
              refine Or.inl ⟨by rfl, fun w hSw => ?_⟩
              go_simp
            simp only [Act.put, List.setIfInBounds_toArray, List.set_cons_zero, List.set_cons_succ]
            refine takeH (i := 4) (d := 136) (.bool false) (by kernel_rfl) (by kernel_rfl) (by kernel_rfl) (by kernel_rfl) (fun _ _ _ _ h => h) (fun o ho => ?_) hHeld ?_
            · simp only [List.getElem?_toArray, List.getElem?_cons_zero, List.getElem?_cons_succ, Option.some.injEq] at ho
              subst ho
              refine Or.inl ⟨by rfl, fun w hSw => ?_⟩
              go_simp
            simp only [Act.put, List.setIfInBounds_toArray, List.set_cons_zero, List.set_cons_succ]
            refine takeH (i := 5) (d := 137) (.slice (some ⟨gm, om, none⟩) m2.length cm2) (by kernel_rfl) (by kernel_rfl) (by kernel_rfl) (by kernel_rfl) (fun _ _ _ _ h => h) (fun o ho => ?_) hHeld ?_
            · simp only [List.getElem?_toArray, List.getElem?_cons_zero, List.getElem?_cons_succ, Option.some.injEq] at ho
              subst ho
              refine Or.inl ⟨by rfl, fun w hSw => ?_⟩
              go_simp
            simp only [Act.put, List.setIfInBounds_toArray, List.set_cons_zero, List.set_cons_succ]
            refine takeH (i := 6) (d := 138) (.int .i64 (j : Int)) (by kernel_rfl) (by kernel_rfl) (by kernel_rfl) (by kernel_rfl) (fun _ _ _ _ h => h) (fun o ho => ?_) hHeld ?_
            · simp only [List.getElem?_toArray, List.getElem?_cons_zero, List.getElem?_cons_succ, Option.some.injEq] at ho
              subst ho
              refine Or.inl ⟨by rfl, fun w hSw => ?_⟩
              go_simp
            simp only [Act.put, List.setIfInBounds_toArray, List.set_cons_zero, List.set_cons_succ]
            refine takeH (i := 7) (d := 139) (.pointer (some ⟨gm, om + j * 4, none⟩)) (by kernel_rfl) (by kernel_rfl) (by kernel_rfl) (by kernel_rfl) (fun _ _ _ _ h => h) (fun o ho => ?_) hHeld ?_
            · simp only [List.getElem?_toArray, List.getElem?_cons_zero, List.getElem?_cons_succ, Option.some.injEq] at ho
              subst ho
              refine Or.inl ⟨by rfl, fun w hSw => ?_⟩
              go_simp
            simp only [Act.put, List.setIfInBounds_toArray, List.set_cons_zero, List.set_cons_succ]
            refine takeH (i := 8) (d := 140) (.agg #[.int .i64 1, .int .i64 (j : Int), .string ⟨#[]⟩, .slice Aq 0 cq]) (by kernel_rfl) (by kernel_rfl) (by kernel_rfl) (by kernel_rfl) (fun _ _ _ _ h => h) (fun o ho => ?_) hHeld ?_
            · simp only [List.getElem?_toArray, List.getElem?_cons_zero, List.getElem?_cons_succ, Option.some.injEq] at ho
              subst ho
              refine Or.inl ⟨by rfl, fun w hSw => ?_⟩
              have s0 := hSw.at 4 rfl
              have s1 := hSw.at 5 rfl
              have s2 := hSw.at 6 rfl
              have s3 := hSw.at 7 rfl
              go_simp
            simp only [Act.put, List.setIfInBounds_toArray, List.set_cons_zero, List.set_cons_succ]
            refine takeH (i := 9) (d := 141) (.agg #[.int .i64 1, .int .i64 (j : Int), .string ⟨#[]⟩, .slice none 0 0]) (by kernel_rfl) (by kernel_rfl) (by kernel_rfl) (by kernel_rfl) (fun _ _ _ _ h => h) (fun o ho => ?_) hHeld ?_
            · simp only [List.getElem?_toArray, List.getElem?_cons_zero, List.getElem?_cons_succ, Option.some.injEq] at ho
              subst ho
              refine Or.inl ⟨by rfl, fun w hSw => ?_⟩
              have s0 := hSw.at 0 rfl
              have s1 := hSw.at 1 rfl
              have s2 := hSw.at 2 rfl
              have s3 := hSw.at 3 rfl
              go_simp
            simp only [Act.put, List.setIfInBounds_toArray, List.set_cons_zero, List.set_cons_succ]
            refine stepH (i := 10) (by kernel_rfl) (by kernel_rfl) (fun o ho K2 hK => ?_)
            simp only [List.getElem?_toArray, List.getElem?_cons_zero, List.getElem?_cons_succ, Option.some.injEq] at ho
            subst ho
            go_simp
            refine (Hcall.out _ hHeld.1).mono ?_
            rintro e wx ⟨rfl, hb⟩
            dsimp only
            refine hK.out _ _ (hHeld.below hb) (fun hHeld => ?_)
            clear hK K2 hb
            try simp only [Act.put, List.setIfInBounds_toArray, List.set_cons_zero, List.set_cons_succ]
            refine takeH (i := 11) (d := 143) (.bool false) (by kernel_rfl) (by kernel_rfl) (by kernel_rfl) (by kernel_rfl) (fun _ _ _ _ h => h) (fun o ho => ?_) hHeld ?_
            · simp only [List.getElem?_toArray, List.getElem?_cons_zero, List.getElem?_cons_succ, Option.some.injEq] at ho
              subst ho
              refine Or.inl ⟨by rfl, fun w hSw => ?_⟩
              go_simp
            simp only [Act.put, List.setIfInBounds_toArray, List.set_cons_zero, List.set_cons_succ]
            refine takeH (i := 12) (d := 144) (.bool false) (by kernel_rfl) (by kernel_rfl) (by kernel_rfl) (by kernel_rfl) (fun _ _ _ _ h => h) (fun o ho => ?_) hHeld ?_
            · simp only [List.getElem?_toArray, List.getElem?_cons_zero, List.getElem?_cons_succ, Option.some.injEq] at ho
              subst ho
              refine Or.inl ⟨by rfl, fun w hSw => ?_⟩
              go_simp
            simp only [Act.put, List.setIfInBounds_toArray, List.set_cons_zero, List.set_cons_succ]
            refine wpAnyH_done (by kernel_rfl) ?_ _
            refine NoPanic.normal ?_
            have HL9 := Lib.hid (HL3.out.trans (hHeld.1.out.mono HL3.out.size)); clear hHeld k0 k1 k2 k3 m0 m1 m2_ m3
            go_wp2
            go_roundw
            case rel => exact ⟨k + 1, by omega, by go_num, HL9⟩
            case measure => simp [intOf]; omega
          have hz := Hmj.out; rw [Hsg.out, if_neg (by simp)] at hz
          clear Hmj Hsg
          obtain ⟨U4, hU4⟩ : ∃ U, U = (((u3.setCell ⟨u1.heap.size, 0, none⟩ (.int .i64 y.k)).setCell ⟨u1.heap.size, 1, none⟩ (.int .i64 y.n)).setCell ⟨u1.heap.size, 2, none⟩ (.string y.s)).setCell ⟨u1.heap.size, 3, none⟩ (.slice Ay y.l.length cy) := ⟨_, rfl⟩
          have HK := Lib.hid (show Blk U4 u1.heap.size 25 #[.int .i64 y.k, .int .i64 y.n, .string y.s, .slice Ay y.l.length cy] from by rw [hU4]; exact set4_at u3 u1.heap.size _ 25 HK3.out rfl _ _ _ _)
          have hus := HUS.out
          have HL4 := Lib.hid (show Below wV.heap.size wV U4 from by rw [hU4]; exact (((HL3.out.setCell (p := ⟨u1.heap.size, 0, none⟩) hus _).setCell (p := ⟨u1.heap.size, 1, none⟩) hus _).setCell (p := ⟨u1.heap.size, 2, none⟩) hus _).setCell (p := ⟨u1.heap.size, 3, none⟩) hus _)
          obtain ⟨⟨k0, k1, k2, k3⟩, ⟨f0, f1, f2, f3⟩⟩ := HK3.out.four; have kl := HK3.out.lt
          have HyT := Lib.hid ((Hyc.out.belowP (show Below wV.heap.size U2 U4 from by rw [hU4]; exact (((HB23.out.setCell (p := ⟨u1.heap.size, 0, none⟩) hus _).setCell (p := ⟨u1.heap.size, 1, none⟩) hus _).setCell (p := ⟨u1.heap.size, 2, none⟩) hus _).setCell (p := ⟨u1.heap.size, 3, none⟩) hus _) (fun g hg => hg)).mono (Q := fun _ => True) (fun _ _ => trivial)); clear Hyc HB23
          have HU4 := Lib.hid hU4; clear hU4 HK3 HL3 hus
          go_upto_region 27 with (fail)
          rw [← HU4.out]
          clear HU4 k0 k1 k2 k3 f0 f1 f2 f3 kl e0 e1 e2 e3
          obtain ⟨gm, om, Aq, cq, hAm, -, ⟨m0, m1, m2_, m3⟩, sq, hqc⟩ := (HmL.out.stay HL4.out (Nat.le_refl _)).at_ hz
          have hjm : j < m2.length := (List.getElem?_eq_some_iff.1 hz).1
          have hcall := fun (W : World) (hb : Hid (Below U4.heap.size U4 W)) => refSame_calls y _ _ W _ _ y ⟨Aq, cq, rfl, sq, hqc.stay hb.out (Nat.le_refl _)⟩ ⟨Ay, cy, rfl, sy, HyT.out.stay hb.out (Nat.le_refl _)⟩
          simp only [sameB_refl] at hcall
          have Hcall := Lib.hid hcall; clear hcall hz
          obtain ⟨⟨k0, k1, k2, k3⟩, -⟩ := HK.out.four
          have d2 : decide ((m2.length : Int) ≤ (j : Int)) = false := decide_eq_false (by omega)
          subst hAm
          have d3 : decide (m2.length ≤ j) = false := decide_eq_false (by omega)
          have hj0 : (0 : Int) ≤ (j : Int) := by omega
          have hj1 : (j : Int) < (m2.length : Int) := by omega
          go_wp2_with fail
          refine wp_region_noPanic ?_
          refine wp_region_held_drew (S := SW U4 [(⟨u1.heap.size, 0, none⟩, .int .i64 y.k), (⟨u1.heap.size, 1, none⟩, .int .i64 y.n), (⟨u1.heap.size, 2, none⟩, .string y.s), (⟨u1.heap.size, 3, none⟩, .slice Ay y.l.length cy), (⟨gm, om + j * 4, none⟩, .int .i64 y.k), (⟨gm, om + j * 4 + 1, none⟩, .int .i64 y.n), (⟨gm, om + j * 4 + 2, none⟩, .string y.s), (⟨gm, om + j * 4 + 3, none⟩, .slice Aq y.l.length cq)]) (by kernel_rfl) ?_ (fun hHeld => ?_)
          · exact SW.start (fun p hp => by simp only [List.mem_cons, List.not_mem_nil, or_false] at hp; rcases hp with rfl | rfl | rfl | rfl | rfl | rfl | rfl | rfl <;> assumption)
          refine takeH (i := 0) (d := 132) (.int .i64 (j : Int)) (by kernel_rfl) (by kernel_rfl) (by kernel_rfl) (by kernel_rfl) (fun _ _ _ _ h => h) (fun o ho => ?_) hHeld ?_
          · simp only [List.getElem?_toArray, List.getElem?_cons_zero, List.getElem?_cons_succ, Option.some.injEq] at ho
            subst ho
            refine Or.inl ⟨by rfl, fun w hSw => ?_⟩
            go_simp
          simp only [Act.put, List.setIfInBounds_toArray, List.set_cons_zero, List.set_cons_succ]
          refine takeH (i := 1) (d := 133) (.slice (some ⟨gm, om, none⟩) m2.length cm2) (by kernel_rfl) (by kernel_rfl) (by kernel_rfl) (by kernel_rfl) (fun _ _ _ _ h => h) (fun o ho => ?_) hHeld ?_
          · simp only [List.getElem?_toArray, List.getElem?_cons_zero, List.getElem?_cons_succ, Option.some.injEq] at ho
            subst ho
            refine Or.inl ⟨by rfl, fun w hSw => ?_⟩
            go_simp
          simp only [Act.put, List.setIfInBounds_toArray, List.set_cons_zero, List.set_cons_succ]
          refine takeH (i := 2) (d := 134) (.int .i64 (m2.length : Int)) (by kernel_rfl) (by kernel_rfl) (by kernel_rfl) (by kernel_rfl) (fun _ _ _ _ h => h) (fun o ho => ?_) hHeld ?_
          · simp only [List.getElem?_toArray, List.getElem?_cons_zero, List.getElem?_cons_succ, Option.some.injEq] at ho
            subst ho
            refine Or.inl ⟨by rfl, fun w hSw => ?_⟩
            go_simp
          simp only [Act.put, List.setIfInBounds_toArray, List.set_cons_zero, List.set_cons_succ]
          refine takeH (i := 3) (d := 135) (.bool false) (by kernel_rfl) (by kernel_rfl) (by kernel_rfl) (by kernel_rfl) (fun _ _ _ _ h => h) (fun o ho => ?_) hHeld ?_
          · simp only [List.getElem?_toArray, List.getElem?_cons_zero, List.getElem?_cons_succ, Option.some.injEq] at ho
            subst ho
            refine Or.inl ⟨by rfl, fun w hSw => ?_⟩
            go_simp
          simp only [Act.put, List.setIfInBounds_toArray, List.set_cons_zero, List.set_cons_succ]
          refine takeH (i := 4) (d := 136) (.bool false) (by kernel_rfl) (by kernel_rfl) (by kernel_rfl) (by kernel_rfl) (fun _ _ _ _ h => h) (fun o ho => ?_) hHeld ?_
          · simp only [List.getElem?_toArray, List.getElem?_cons_zero, List.getElem?_cons_succ, Option.some.injEq] at ho
            subst ho
            refine Or.inl ⟨by rfl, fun w hSw => ?_⟩
            go_simp
          simp only [Act.put, List.setIfInBounds_toArray, List.set_cons_zero, List.set_cons_succ]
          refine takeH (i := 5) (d := 137) (.slice (some ⟨gm, om, none⟩) m2.length cm2) (by kernel_rfl) (by kernel_rfl) (by kernel_rfl) (by kernel_rfl) (fun _ _ _ _ h => h) (fun o ho => ?_) hHeld ?_
          · simp only [List.getElem?_toArray, List.getElem?_cons_zero, List.getElem?_cons_succ, Option.some.injEq] at ho
            subst ho
            refine Or.inl ⟨by rfl, fun w hSw => ?_⟩
            go_simp
          simp only [Act.put, List.setIfInBounds_toArray, List.set_cons_zero, List.set_cons_succ]
          refine takeH (i := 6) (d := 138) (.int .i64 (j : Int)) (by kernel_rfl) (by kernel_rfl) (by kernel_rfl) (by kernel_rfl) (fun _ _ _ _ h => h) (fun o ho => ?_) hHeld ?_
          · simp only [List.getElem?_toArray, List.getElem?_cons_zero, List.getElem?_cons_succ, Option.some.injEq] at ho
            subst ho
            refine Or.inl ⟨by rfl, fun w hSw => ?_⟩
            go_simp
          simp only [Act.put, List.setIfInBounds_toArray, List.set_cons_zero, List.set_cons_succ]
          refine takeH (i := 7) (d := 139) (.pointer (some ⟨gm, om + j * 4, none⟩)) (by kernel_rfl) (by kernel_rfl) (by kernel_rfl) (by kernel_rfl) (fun _ _ _ _ h => h) (fun o ho => ?_) hHeld ?_
          · simp only [List.getElem?_toArray, List.getElem?_cons_zero, List.getElem?_cons_succ, Option.some.injEq] at ho
            subst ho
            refine Or.inl ⟨by rfl, fun w hSw => ?_⟩
            go_simp
          simp only [Act.put, List.setIfInBounds_toArray, List.set_cons_zero, List.set_cons_succ]
          refine takeH (i := 8) (d := 140) (.agg #[.int .i64 y.k, .int .i64 y.n, .string y.s, .slice Aq y.l.length cq]) (by kernel_rfl) (by kernel_rfl) (by kernel_rfl) (by kernel_rfl) (fun _ _ _ _ h => h) (fun o ho => ?_) hHeld ?_
          · simp only [List.getElem?_toArray, List.getElem?_cons_zero, List.getElem?_cons_succ, Option.some.injEq] at ho
            subst ho
            refine Or.inl ⟨by rfl, fun w hSw => ?_⟩
            have s0 := hSw.at 4 rfl
            have s1 := hSw.at 5 rfl
            have s2 := hSw.at 6 rfl
            have s3 := hSw.at 7 rfl
            go_simp
          simp only [Act.put, List.setIfInBounds_toArray, List.set_cons_zero, List.set_cons_succ]
          refine takeH (i := 9) (d := 141) (.agg #[.int .i64 y.k, .int .i64 y.n, .string y.s, .slice Ay y.l.length cy]) (by kernel_rfl) (by kernel_rfl) (by kernel_rfl) (by kernel_rfl) (fun _ _ _ _ h => h) (fun o ho => ?_) hHeld ?_
          · simp only [List.getElem?_toArray, List.getElem?_cons_zero, List.getElem?_cons_succ, Option.some.injEq] at ho
            subst ho
            refine Or.inl ⟨by rfl, fun w hSw => ?_⟩
            have s0 := hSw.at 0 rfl
            have s1 := hSw.at 1 rfl
            have s2 := hSw.at 2 rfl
            have s3 := hSw.at 3 rfl
            go_simp
          simp only [Act.put, List.setIfInBounds_toArray, List.set_cons_zero, List.set_cons_succ]
          refine stepH (i := 10) (by kernel_rfl) (by kernel_rfl) (fun o ho K2 hK => ?_)
          simp only [List.getElem?_toArray, List.getElem?_cons_zero, List.getElem?_cons_succ, Option.some.injEq] at ho
          subst ho
          go_simp
          refine (Hcall.out _ hHeld.1).mono ?_
          rintro e wx ⟨rfl, hb⟩
          dsimp only
          refine hK.out _ _ (hHeld.below hb) (fun hHeld => ?_)
          clear hK K2 hb
          try simp only [Act.put, List.setIfInBounds_toArray, List.set_cons_zero, List.set_cons_succ]
          refine takeH (i := 11) (d := 143) (.bool false) (by kernel_rfl) (by kernel_rfl) (by kernel_rfl) (by kernel_rfl) (fun _ _ _ _ h => h) (fun o ho => ?_) hHeld ?_
          · simp only [List.getElem?_toArray, List.getElem?_cons_zero, List.getElem?_cons_succ, Option.some.injEq] at ho
            subst ho
            refine Or.inl ⟨by rfl, fun w hSw => ?_⟩
            go_simp
          simp only [Act.put, List.setIfInBounds_toArray, List.set_cons_zero, List.set_cons_succ]
          refine takeH (i := 12) (d := 144) (.bool false) (by kernel_rfl) (by kernel_rfl) (by kernel_rfl) (by kernel_rfl) (fun _ _ _ _ h => h) (fun o ho => ?_) hHeld ?_
          · simp only [List.getElem?_toArray, List.getElem?_cons_zero, List.getElem?_cons_succ, Option.some.injEq] at ho
            subst ho
            refine Or.inl ⟨by rfl, fun w hSw => ?_⟩
            go_simp
          simp only [Act.put, List.setIfInBounds_toArray, List.set_cons_zero, List.set_cons_succ]
          refine wpAnyH_done (by kernel_rfl) ?_ _
          refine NoPanic.normal ?_
          have HL9 := Lib.hid (HL4.out.trans (hHeld.1.out.mono HL4.out.size)); clear hHeld k0 k1 k2 k3 m0 m1 m2_ m3
          go_wp2
          go_roundw
          case rel => exact ⟨k + 1, by omega, by go_num, HL9⟩
          case measure => simp [intOf]; omega
    | some m =>
      obtain ⟨⟨bp0, bp1, bp2, bp3⟩, -⟩ := Hbp.out.four
      have bpl := Hbp.out.lt
      obtain ⟨⟨bt0, bt1, bt2, bt3⟩, -⟩ := Hbt.out.four
      have btl := Hbt.out.lt
      go_wp2_with fail
      refine (Hm.out _ _ _ ⟨Ap, cp, rfl, sp, Hpc.out⟩ ⟨At, ct, rfl, st, Htc.out⟩).mono ?_
      rintro e w6 ⟨Am, cm, rfl, hmc, hb⟩
      clear bp0 bp1 bp2 bp3 bpl bt0 bt1 bt2 bt3 btl
      replace HB := Lib.hid (HB.out.trans (hb.mono HB.out.size))
      replace Hbp := Lib.hid (Hbp.out.below hb Hbp.out.lt)
      replace Hbt := Lib.hid (Hbt.out.below hb Hbt.out.lt)
      replace Hpc := Lib.hid (Hpc.out.stay hb (Nat.le_refl _))
      replace Hsc := Lib.hid (Hsc.out.stay hb (Nat.le_refl _))
      replace Htc := Lib.hid (Htc.out.stay hb (Nat.le_refl _))
      clear hb
      replace hmc : TmC (fun _ => True) w6 Am cm m := hmc
      have hcall := subst_ok _ _ w6 _ Am cm ⟨Ap, cp, rfl, sp, Hpc.out⟩ hmc (Hbk.out m rfl)
      have Hcall := Lib.hid hcall; clear hcall hmc
      rw [show (some m).isSome = true from rfl, show (some m).getD [] = m from rfl]
      obtain ⟨⟨bp0, bp1, bp2, bp3⟩, -⟩ := Hbp.out.four
      have bpl := Hbp.out.lt
      obtain ⟨⟨bt0, bt1, bt2, bt3⟩, -⟩ := Hbt.out.four
      have btl := Hbt.out.lt
      go_wp2_with fail
      refine Hcall.out.mono ?_
      rintro e w7 ⟨Att, ctt, rfl, stt, httc, hb⟩
      clear bp0 bp1 bp2 bp3 bpl bt0 bt1 bt2 bt3 btl
      replace HB := Lib.hid (HB.out.trans (hb.mono HB.out.size))
      replace Hbp := Lib.hid (Hbp.out.below hb Hbp.out.lt)
      replace Hbt := Lib.hid (Hbt.out.below hb Hbt.out.lt)
      replace Hpc := Lib.hid (Hpc.out.stay hb (Nat.le_refl _))
      replace Hsc := Lib.hid (Hsc.out.stay hb (Nat.le_refl _))
      replace Htc := Lib.hid (Htc.out.stay hb (Nat.le_refl _))
      clear hb Hcall
      have Httc := Lib.hid httc; clear httc
      obtain ⟨V7, hV7⟩ : ∃ V, V = w7.alloc (.cells #[.int .i64 t.k, .int .i64 t.n, .string t.s, .slice Att t.l.length ctt] 25) := ⟨_, rfl⟩
      have hb : Below w7.heap.size w7 V7 := by rw [hV7]; exact (Below.refl _ _).alloc (Nat.le_refl _) _
      have Hbtt := Lib.hid (show Blk V7 w7.heap.size 25 #[.int .i64 t.k, .int .i64 t.n, .string t.s, .slice Att t.l.length ctt] from by rw [hV7]; exact Blk.new _ _ _)
      replace HB := Lib.hid (HB.out.trans (hb.mono HB.out.size))
      replace Hbp := Lib.hid (Hbp.out.below hb Hbp.out.lt)
      replace Hbt := Lib.hid (Hbt.out.below hb Hbt.out.lt)
      replace Hpc := Lib.hid (Hpc.out.stay hb (Nat.le_refl _))
      replace Hsc := Lib.hid (Hsc.out.stay hb (Nat.le_refl _))
      replace Htc := Lib.hid (Htc.out.stay hb (Nat.le_refl _))
      replace Httc := Lib.hid (Httc.out.stay hb (Nat.le_refl _))
      clear hb; have HV7 := Lib.hid hV7; clear hV7
      go_upto_region 12 with (fail)
      rw [← HV7.out]
      clear HV7
      have hcall := refSame_calls t _ _ V7 _ _ t ⟨Att, ctt, rfl, stt, Httc.out⟩ ⟨At, ct, rfl, st, Htc.out⟩
      rw [sameB_refl] at hcall
      have Hcall := Lib.hid hcall; clear hcall
      obtain ⟨⟨bp0, bp1, bp2, bp3⟩, -⟩ := Hbp.out.four
      have bpl := Hbp.out.lt
      obtain ⟨⟨bt0, bt1, bt2, bt3⟩, -⟩ := Hbt.out.four
      have btl := Hbt.out.lt
      obtain ⟨⟨btt0, btt1, btt2, btt3⟩, -⟩ := Hbtt.out.four
      have bttl := Hbtt.out.lt
      go_wp2_with fail
      refine (Hcall.out).mono ?_
      rintro e w22 ⟨rfl, hb⟩
      clear bp0 bp1 bp2 bp3 bpl bt0 bt1 bt2 bt3 btl btt0 btt1 btt2 btt3 bttl
      replace HB := Lib.hid (HB.out.trans (hb.mono HB.out.size))
      replace Hbp := Lib.hid (Hbp.out.below hb Hbp.out.lt)
      replace Hbt := Lib.hid (Hbt.out.below hb Hbt.out.lt)
      replace Hbtt := Lib.hid (Hbtt.out.below hb Hbtt.out.lt)
      replace Hpc := Lib.hid (Hpc.out.stay hb (Nat.le_refl _))
      replace Hsc := Lib.hid (Hsc.out.stay hb (Nat.le_refl _))
      replace Htc := Lib.hid (Htc.out.stay hb (Nat.le_refl _))
      replace Httc := Lib.hid (Httc.out.stay hb (Nat.le_refl _))
      clear hb
      clear Hcall
      obtain ⟨X, hX⟩ : ∃ X, X = substR p s := ⟨_, rfl⟩
      cases X with
      | none =>
        have hcall := subst_err _ _ w22 _ As cs ⟨Ap, cp, rfl, sp, Hpc.out⟩ Hsc.out hX.symm (subst_errE Ip.out Is.out)
        have Hcall := Lib.hid hcall; clear hcall hX
        obtain ⟨⟨bp0, bp1, bp2, bp3⟩, -⟩ := Hbp.out.four
        have bpl := Hbp.out.lt
        obtain ⟨⟨bt0, bt1, bt2, bt3⟩, -⟩ := Hbt.out.four
        have btl := Hbt.out.lt
        obtain ⟨⟨btt0, btt1, btt2, btt3⟩, -⟩ := Hbtt.out.four
        have bttl := Hbtt.out.lt
        go_wp2_with fail
        refine Hcall.out.mono ?_
        rintro e w30 ⟨A0, c0, rfl, -, -, hb⟩
        clear bp0 bp1 bp2 bp3 bpl bt0 bt1 bt2 bt3 btl btt0 btt1 btt2 btt3 bttl
        replace HB := Lib.hid (HB.out.trans (hb.mono HB.out.size))
        replace Hbp := Lib.hid (Hbp.out.below hb Hbp.out.lt)
        replace Hbt := Lib.hid (Hbt.out.below hb Hbt.out.lt)
        replace Hbtt := Lib.hid (Hbtt.out.below hb Hbtt.out.lt)
        replace Hpc := Lib.hid (Hpc.out.stay hb (Nat.le_refl _))
        replace Hsc := Lib.hid (Hsc.out.stay hb (Nat.le_refl _))
        replace Htc := Lib.hid (Htc.out.stay hb (Nat.le_refl _))
        replace Httc := Lib.hid (Httc.out.stay hb (Nat.le_refl _))
        clear hb Hcall
        go_wp2
        go_ret
        exact ⟨rfl, HB.out.alloc HB.out.size _⟩
      | some x =>
        obtain ⟨ix, m2, hm2, hvars⟩ := match_inst Ip.out Is.out hX.symm
        have Ix := Lib.hid ix; have Hm2 := Lib.hid hm2; have Hvars := Lib.hid hvars; clear ix hm2 hvars
        have hcall := subst_ok _ _ w22 _ As cs ⟨Ap, cp, rfl, sp, Hpc.out⟩ Hsc.out hX.symm
        have Hcall := Lib.hid hcall; clear hcall hX
        obtain ⟨⟨bp0, bp1, bp2, bp3⟩, -⟩ := Hbp.out.four
        have bpl := Hbp.out.lt
        obtain ⟨⟨bt0, bt1, bt2, bt3⟩, -⟩ := Hbt.out.four
        have btl := Hbt.out.lt
        obtain ⟨⟨btt0, btt1, btt2, btt3⟩, -⟩ := Hbtt.out.four
        have bttl := Hbtt.out.lt
        go_wp2_with fail
        refine (Hcall.out).mono ?_
        rintro e w32 ⟨Ax, cx, rfl, sx, hxc, hb⟩
        clear bp0 bp1 bp2 bp3 bpl bt0 bt1 bt2 bt3 btl btt0 btt1 btt2 btt3 bttl
        replace HB := Lib.hid (HB.out.trans (hb.mono HB.out.size))
        replace Hbp := Lib.hid (Hbp.out.below hb Hbp.out.lt)
        replace Hbt := Lib.hid (Hbt.out.below hb Hbt.out.lt)
        replace Hbtt := Lib.hid (Hbtt.out.below hb Hbtt.out.lt)
        replace Hpc := Lib.hid (Hpc.out.stay hb (Nat.le_refl _))
        replace Hsc := Lib.hid (Hsc.out.stay hb (Nat.le_refl _))
        replace Htc := Lib.hid (Htc.out.stay hb (Nat.le_refl _))
        replace Httc := Lib.hid (Httc.out.stay hb (Nat.le_refl _))
        clear hb
        have Hxc := Lib.hid (hxc.mono (Q := (fun _ => True)) (fun _ _ => trivial)); clear hxc
        obtain ⟨V32, hV32⟩ : ∃ V, V = w32.alloc (.cells #[.int .i64 x.k, .int .i64 x.n, .string x.s, .slice Ax x.l.length cx] 25) := ⟨_, rfl⟩
        have hb : Below w32.heap.size w32 V32 := by rw [hV32]; exact (Below.refl _ _).alloc (Nat.le_refl _) _
        have Hbx := Lib.hid (show Blk V32 w32.heap.size 25 #[.int .i64 x.k, .int .i64 x.n, .string x.s, .slice Ax x.l.length cx] from by rw [hV32]; exact Blk.new _ _ _)
        replace HB := Lib.hid (HB.out.trans (hb.mono HB.out.size))
        replace Hbp := Lib.hid (Hbp.out.below hb Hbp.out.lt)
        replace Hbt := Lib.hid (Hbt.out.below hb Hbt.out.lt)
        replace Hbtt := Lib.hid (Hbtt.out.below hb Hbtt.out.lt)
        replace Hpc := Lib.hid (Hpc.out.stay hb (Nat.le_refl _))
        replace Hsc := Lib.hid (Hsc.out.stay hb (Nat.le_refl _))
        replace Htc := Lib.hid (Htc.out.stay hb (Nat.le_refl _))
        replace Httc := Lib.hid (Httc.out.stay hb (Nat.le_refl _))
        replace Hxc := Lib.hid (Hxc.out.stay hb (Nat.le_refl _))
        clear hb
        have HV32 := Lib.hid hV32; clear hV32
        go_upto_region 17 with (fail)
        rw [← HV32.out]
        clear HV32
        clear Hcall
        have hcall := match_ok p x _ _ V32 _ _ ⟨Ap, cp, rfl, sp, Hpc.out⟩ ⟨Ax, cx, rfl, sx, Hxc.out⟩ Ip.out Ix.out
        rw [Hm2.out] at hcall
        have Hcall := Lib.hid hcall; clear hcall
        obtain ⟨⟨bp0, bp1, bp2, bp3⟩, -⟩ := Hbp.out.four
        have bpl := Hbp.out.lt
        obtain ⟨⟨bt0, bt1, bt2, bt3⟩, -⟩ := Hbt.out.four
        have btl := Hbt.out.lt
        obtain ⟨⟨btt0, btt1, btt2, btt3⟩, -⟩ := Hbtt.out.four
        have bttl := Hbtt.out.lt
        obtain ⟨⟨bx0, bx1, bx2, bx3⟩, -⟩ := Hbx.out.four
        have bxl := Hbx.out.lt
        go_wp2_with fail
        refine Hcall.out.mono ?_
        rintro e w40 ⟨Am2, cm2, rfl, hm2c, hb⟩
        clear bp0 bp1 bp2 bp3 bpl bt0 bt1 bt2 bt3 btl btt0 btt1 btt2 btt3 bttl bx0 bx1 bx2 bx3 bxl
        replace HB := Lib.hid (HB.out.trans (hb.mono HB.out.size))
        replace Hbp := Lib.hid (Hbp.out.below hb Hbp.out.lt)
        replace Hbt := Lib.hid (Hbt.out.below hb Hbt.out.lt)
        replace Hbtt := Lib.hid (Hbtt.out.below hb Hbtt.out.lt)
        replace Hbx := Lib.hid (Hbx.out.below hb Hbx.out.lt)
        replace Hpc := Lib.hid (Hpc.out.stay hb (Nat.le_refl _))
        replace Hsc := Lib.hid (Hsc.out.stay hb (Nat.le_refl _))
        replace Htc := Lib.hid (Htc.out.stay hb (Nat.le_refl _))
        replace Httc := Lib.hid (Httc.out.stay hb (Nat.le_refl _))
        replace Hxc := Lib.hid (Hxc.out.stay hb (Nat.le_refl _))
        clear hb Hcall
        replace hm2c : TmC (fun _ => True) w40 Am2 cm2 m2 := hm2c
        have Hm2c := Lib.hid hm2c; clear hm2c
        rw [show (some m2).isSome = true from rfl, show (some m2).getD [] = m2 from rfl]
        obtain ⟨⟨bp0, bp1, bp2, bp3⟩, -⟩ := Hbp.out.four
        have bpl := Hbp.out.lt
        obtain ⟨⟨bt0, bt1, bt2, bt3⟩, -⟩ := Hbt.out.four
        have btl := Hbt.out.lt
        obtain ⟨⟨btt0, btt1, btt2, btt3⟩, -⟩ := Hbtt.out.four
        have bttl := Hbtt.out.lt
        obtain ⟨⟨bx0, bx1, bx2, bx3⟩, -⟩ := Hbx.out.four
        have bxl := Hbx.out.lt
        go_wp2_with fail
        obtain ⟨Wlit2, hWlit2⟩ : ∃ W, W = w40.alloc (.cells #[.int .i64 p.k, .int .i64 p.n, .string p.s, .slice Ap p.l.length cp] 25) := ⟨_, rfl⟩
        rw [← hWlit2]
        have hb : Below w40.heap.size w40 Wlit2 := by rw [hWlit2]; exact (Below.refl _ _).alloc (Nat.le_refl _) _
        have hlit2 : TmC (fun _ => True) Wlit2 (some ⟨w40.heap.size, 0, none⟩) 1 [p] := by
          rw [hWlit2]; exact (TmC.lit3 (P := (fun _ => True)) [(p, Ap, cp)] (fun e he => by
            simp only [List.mem_cons, List.not_mem_nil, or_false] at he
            subst he
            exact ⟨sp, Hpc.out⟩
            ) (by simp)).mono (fun _ _ => trivial)
        clear bp0 bp1 bp2 bp3 bpl bt0 bt1 bt2 bt3 btl btt0 btt1 btt2 btt3 bttl bx0 bx1 bx2 bx3 bxl
        replace HB := Lib.hid (HB.out.trans (hb.mono HB.out.size))
        replace Hbp := Lib.hid (Hbp.out.below hb Hbp.out.lt)
        replace Hbt := Lib.hid (Hbt.out.below hb Hbt.out.lt)
        replace Hbtt := Lib.hid (Hbtt.out.below hb Hbtt.out.lt)
        replace Hbx := Lib.hid (Hbx.out.below hb Hbx.out.lt)
        replace Hpc := Lib.hid (Hpc.out.stay hb (Nat.le_refl _))
        replace Hsc := Lib.hid (Hsc.out.stay hb (Nat.le_refl _))
        replace Htc := Lib.hid (Htc.out.stay hb (Nat.le_refl _))
        replace Httc := Lib.hid (Httc.out.stay hb (Nat.le_refl _))
        replace Hxc := Lib.hid (Hxc.out.stay hb (Nat.le_refl _))
        replace Hm2c := Lib.hid (Hm2c.out.stay hb (Nat.le_refl _))
        clear hb hWlit2
        have hcall := vars_ok [p] _ _ _ _ hlit2 (by rw [allB_one]; exact Ip.out); clear hlit2
        obtain ⟨vs, hvs⟩ : ∃ vs, vs = varsL [p] := ⟨_, rfl⟩
        rw [← hvs] at hcall Hvars
        have Hcall := Lib.hid hcall; clear hcall hvs
        refine Hcall.out.mono ?_
        rintro e wV ⟨Av, cv, rfl, hrd, hv1, hv2, hb⟩
        replace HB := Lib.hid (HB.out.trans (hb.mono HB.out.size))
        replace Hbp := Lib.hid (Hbp.out.below hb Hbp.out.lt)
        replace Hbt := Lib.hid (Hbt.out.below hb Hbt.out.lt)
        replace Hbtt := Lib.hid (Hbtt.out.below hb Hbtt.out.lt)
        replace Hbx := Lib.hid (Hbx.out.below hb Hbx.out.lt)
        replace Hpc := Lib.hid (Hpc.out.stay hb (Nat.le_refl _))
        replace Hsc := Lib.hid (Hsc.out.stay hb (Nat.le_refl _))
        replace Htc := Lib.hid (Htc.out.stay hb (Nat.le_refl _))
        replace Httc := Lib.hid (Httc.out.stay hb (Nat.le_refl _))
        replace Hxc := Lib.hid (Hxc.out.stay hb (Nat.le_refl _))
        replace Hm2c := Lib.hid (Hm2c.out.stay hb (Nat.le_refl _))
        clear hb Hcall
        have Hrd := Lib.hid hrd; clear hrd
        have HsL := Lib.hid (Hsc.out.inside.mono (Q := (· < wV.heap.size)) (fun g h => h.2)); have HmL := Lib.hid (Hm2c.out.inside.mono (Q := (· < wV.heap.size)) (fun g h => h.2))
        have hms := Hm2c.out.len.1; have hms2 := Hm2c.out.len.2.1
        have HBV := HB
        clear Hbp Hbt Hbtt Hbx Hpc Hsc Htc Httc Hxc Hm2c HB
        go_wp2
        go_loopw [110] (fun i wr => ∃ k : Nat, k ≤ vs.length ∧ i = .int .i64 k ∧ Hid (Below wV.heap.size wV wr)) (fun i _ => vs.length - (intOf i).toNat)
        case atStart => exact ⟨0, Nat.zero_le _, rfl, Lib.hid (Below.refl _ _)⟩
        case round =>
          obtain ⟨k, hk, rfl, HL⟩ := hrel
          by_cases hlt : k < vs.length
          case neg =>
            go_wp2
            go_ret
            exact ⟨rfl, HBV.out.trans (HL.out.mono HBV.out.size)⟩
          obtain ⟨n, hn⟩ : ∃ n, vs[k]? = some n := ⟨_, List.getElem?_eq_getElem hlt⟩
          obtain ⟨j, rfl, hj5, hmj⟩ := Hvars.out n (List.mem_of_getElem? hn)
          obtain ⟨gv, ov, rfl, n0⟩ := (Hrd.out.below HL.out (Nat.le_refl _)).atI hn
          have Hmj := Lib.hid hmj; clear hmj hn
          go_wp2_with fail
          refine (v_calls (j : Int) wr).mono ?_
          rintro e u1 ⟨rfl, hb⟩
          unfold vV
          obtain ⟨U2, hU2⟩ : ∃ U, U = u1.alloc (.cells #[.int .i64 1, .int .i64 (j : Int), .string ⟨#[]⟩, .slice none 0 0] 25) := ⟨_, rfl⟩
          have hb1 := HL.out.trans (hb.mono HL.out.size)
          have HL2 := Lib.hid (show Below wV.heap.size wV U2 from by rw [hU2]; exact hb1.alloc hb1.size _)
          have HK := Lib.hid (show Blk U2 u1.heap.size 25 #[.int .i64 1, .int .i64 (j : Int), .string ⟨#[]⟩, .slice none 0 0] from by rw [hU2]; exact Blk.new _ _ _)
          have HUS := Lib.hid (show wV.heap.size ≤ u1.heap.size from hb1.size)
          have HU2 := Lib.hid hU2; clear hU2 hb hb1 n0
          go_upto_region 25 with (fail)
          rw [← HU2.out]
          clear HU2
          by_cases hj : j < s.length
          case neg =>
            have d1 : decide ((j : Int) < (s.length : Int)) = false := decide_eq_false (by omega)
            have hz := Hmj.out; rw [sgL_none hj] at hz
            clear Hmj
            go_upto_region 27 with (fail)
            obtain ⟨gm, om, Aq, cq, hAm, -, ⟨m0, m1, m2_, m3⟩, sq, hqc⟩ := (HmL.out.stay HL2.out (Nat.le_refl _)).at_ hz
            have hjm : j < m2.length := (List.getElem?_eq_some_iff.1 hz).1
            have hcall := fun (W : World) (hb : Hid (Below U2.heap.size U2 W)) => refSame_calls (Tm.va j) _ _ W _ _ (Tm.va j) ⟨Aq, cq, rfl, sq, hqc.stay hb.out (Nat.le_refl _)⟩ (TmV.va (fun _ => True) _ _)
            simp only [sameB_refl] at hcall
            simp only [vV] at hcall
            have Hcall := Lib.hid hcall; clear hcall hz
            obtain ⟨⟨k0, k1, k2, k3⟩, -⟩ := HK.out.four
            have d2 : decide ((m2.length : Int) ≤ (j : Int)) = false := decide_eq_false (by omega)
            subst hAm
            simp only [va_k, va_n, va_s, va_l, List.length_nil] at m0 m1 m2_ m3 sq Hcall
            have d3 : decide (m2.length ≤ j) = false := decide_eq_false (by omega)
            have hj0 : (0 : Int) ≤ (j : Int) := by omega
            have hj1 : (j : Int) < (m2.length : Int) := by omega
            go_wp2_with fail
            refine wp_region_noPanic ?_
            refine wp_region_held_drew (S := SW U2 [(⟨u1.heap.size, 0, none⟩, .int .i64 1), (⟨u1.heap.size, 1, none⟩, .int .i64 (j : Int)), (⟨u1.heap.size, 2, none⟩, .string ⟨#[]⟩), (⟨u1.heap.size, 3, none⟩, .slice none 0 0), (⟨gm, om + j * 4, none⟩, .int .i64 1), (⟨gm, om + j * 4 + 1, none⟩, .int .i64 (j : Int)), (⟨gm, om + j * 4 + 2, none⟩, .string ⟨#[]⟩), (⟨gm, om + j * 4 + 3, none⟩, .slice Aq 0 cq)]) (by kernel_rfl) ?_ (fun hHeld => ?_)
            · exact SW.start (fun p hp => by simp only [List.mem_cons, List.not_mem_nil, or_false] at hp; rcases hp with rfl | rfl | rfl | rfl | rfl | rfl | rfl | rfl <;> assumption)
            refine takeH (i := 0) (d := 132) (.int .i64 (j : Int)) (by kernel_rfl) (by kernel_rfl) (by kernel_rfl) (by kernel_rfl) (fun _ _ _ _ h => h) (fun o ho => ?_) hHeld ?_
            · simp only [List.getElem?_toArray, List.getElem?_cons_zero, List.getElem?_cons_succ, Option.some.injEq] at ho
              subst ho
              refine Or.inl ⟨by rfl, fun w hSw => ?_⟩
              go_simp
            simp only [Act.put, List.setIfInBounds_toArray, List.set_cons_zero, List.set_cons_succ]
            refine takeH (i := 1) (d := 133) (.slice (some ⟨gm, om, none⟩) m2.length cm2) (by kernel_rfl) (by kernel_rfl) (by kernel_rfl) (by kernel_rfl) (fun _ _ _ _ h => h) (fun o ho => ?_) hHeld ?_
            · simp only [List.getElem?_toArray, List.getElem?_cons_zero, List.getElem?_cons_succ, Option.some.injEq] at ho
              subst ho
              refine Or.inl ⟨by rfl, fun w hSw => ?_⟩
              go_simp
            simp only [Act.put, List.setIfInBounds_toArray, List.set_cons_zero, List.set_cons_succ]
            refine takeH (i := 2) (d := 134) (.int .i64 (m2.length : Int)) (by kernel_rfl) (by kernel_rfl) (by kernel_rfl) (by kernel_rfl) (fun _ _ _ _ h => h) (fun o ho => ?_) hHeld ?_
            · simp only [List.getElem?_toArray, List.getElem?_cons_zero, List.getElem?_cons_succ, Option.some.injEq] at ho
              subst ho
              refine Or.inl ⟨by rfl, fun w hSw => ?_⟩
              go_simp
            simp only [Act.put, List.setIfInBounds_toArray, List.set_cons_zero, List.set_cons_succ]
            refine takeH (i := 3) (d := 135) (.bool false) (by kernel_rfl) (by kernel_rfl) (by kernel_rfl) (by kernel_rfl) (fun _ _ _ _ h => h) (fun o ho => ?_) hHeld ?_
            · simp only [List.getElem?_toArray, List.getElem?_cons_zero, List.getElem?_cons_succ, Option.some.injEq] at ho
              subst ho
              refine Or.inl ⟨by rfl, fun w hSw => ?_⟩
              go_simp
            simp only [Act.put, List.setIfInBounds_toArray, List.set_cons_zero, List.set_cons_succ]
            refine takeH (i := 4) (d := 136) (.bool false) (by kernel_rfl) (by kernel_rfl) (by kernel_rfl) (by kernel_rfl) (fun _ _ _ _ h => h) (fun o ho => ?_) hHeld ?_
            · simp only [List.getElem?_toArray, List.getElem?_cons_zero, List.getElem?_cons_succ, Option.some.injEq] at ho
              subst ho
              refine Or.inl ⟨by rfl, fun w hSw => ?_⟩
              go_simp
            simp only [Act.put, List.setIfInBounds_toArray, List.set_cons_zero, List.set_cons_succ]
            refine takeH (i := 5) (d := 137) (.slice (some ⟨gm, om, none⟩) m2.length cm2) (by kernel_rfl) (by kernel_rfl) (by kernel_rfl) (by kernel_rfl) (fun _ _ _ _ h => h) (fun o ho => ?_) hHeld ?_
            · simp only [List.getElem?_toArray, List.getElem?_cons_zero, List.getElem?_cons_succ, Option.some.injEq] at ho
              subst ho
              refine Or.inl ⟨by rfl, fun w hSw => ?_⟩
              go_simp
            simp only [Act.put, List.setIfInBounds_toArray, List.set_cons_zero, List.set_cons_succ]
            refine takeH (i := 6) (d := 138) (.int .i64 (j : Int)) (by kernel_rfl) (by kernel_rfl) (by kernel_rfl) (by kernel_rfl) (fun _ _ _ _ h => h) (fun o ho => ?_) hHeld ?_
            · simp only [List.getElem?_toArray, List.getElem?_cons_zero, List.getElem?_cons_succ, Option.some.injEq] at ho
              subst ho
              refine Or.inl ⟨by rfl, fun w hSw => ?_⟩
              go_simp
            simp only [Act.put, List.setIfInBounds_toArray, List.set_cons_zero, List.set_cons_succ]
            refine takeH (i := 7) (d := 139) (.pointer (some ⟨gm, om + j * 4, none⟩)) (by kernel_rfl) (by kernel_rfl) (by kernel_rfl) (by kernel_rfl) (fun _ _ _ _ h => h) (fun o ho => ?_) hHeld ?_
            · simp only [List.getElem?_toArray, List.getElem?_cons_zero, List.getElem?_cons_succ, Option.some.injEq] at ho
              subst ho
              refine Or.inl ⟨by rfl, fun w hSw => ?_⟩
              go_simp
            simp only [Act.put, List.setIfInBounds_toArray, List.set_cons_zero, List.set_cons_succ]
            refine takeH (i := 8) (d := 140) (.agg #[.int .i64 1, .int .i64 (j : Int), .string ⟨#[]⟩, .slice Aq 0 cq]) (by kernel_rfl) (by kernel_rfl) (by kernel_rfl) (by kernel_rfl) (fun _ _ _ _ h => h) (fun o ho => ?_) hHeld ?_
            · simp only [List.getElem?_toArray, List.getElem?_cons_zero, List.getElem?_cons_succ, Option.some.injEq] at ho
              subst ho
              refine Or.inl ⟨by rfl, fun w hSw => ?_⟩
              have s0 := hSw.at 4 rfl
              have s1 := hSw.at 5 rfl
              have s2 := hSw.at 6 rfl
              have s3 := hSw.at 7 rfl
              go_simp
            simp only [Act.put, List.setIfInBounds_toArray, List.set_cons_zero, List.set_cons_succ]
            refine takeH (i := 9) (d := 141) (.agg #[.int .i64 1, .int .i64 (j : Int), .string ⟨#[]⟩, .slice none 0 0]) (by kernel_rfl) (by kernel_rfl) (by kernel_rfl) (by kernel_rfl) (fun _ _ _ _ h => h) (fun o ho => ?_) hHeld ?_
            · simp only [List.getElem?_toArray, List.getElem?_cons_zero, List.getElem?_cons_succ, Option.some.injEq] at ho
              subst ho
              refine Or.inl ⟨by rfl, fun w hSw => ?_⟩
              have s0 := hSw.at 0 rfl
              have s1 := hSw.at 1 rfl
              have s2 := hSw.at 2 rfl
              have s3 := hSw.at 3 rfl
              go_simp
            simp only [Act.put, List.setIfInBounds_toArray, List.set_cons_zero, List.set_cons_succ]
            refine stepH (i := 10) (by kernel_rfl) (by kernel_rfl) (fun o ho K2 hK => ?_)
            simp only [List.getElem?_toArray, List.getElem?_cons_zero, List.getElem?_cons_succ, Option.some.injEq] at ho
            subst ho
            go_simp
            refine (Hcall.out _ hHeld.1).mono ?_
            rintro e wx ⟨rfl, hb⟩
            dsimp only
            refine hK.out _ _ (hHeld.below hb) (fun hHeld => ?_)
            clear hK K2 hb
            try simp only [Act.put, List.setIfInBounds_toArray, List.set_cons_zero, List.set_cons_succ]
            refine takeH (i := 11) (d := 143) (.bool false) (by kernel_rfl) (by kernel_rfl) (by kernel_rfl) (by kernel_rfl) (fun _ _ _ _ h => h) (fun o ho => ?_) hHeld ?_
            · simp only [List.getElem?_toArray, List.getElem?_cons_zero, List.getElem?_cons_succ, Option.some.injEq] at ho
              subst ho
              refine Or.inl ⟨by rfl, fun w hSw => ?_⟩
              go_simp
            simp only [Act.put, List.setIfInBounds_toArray, List.set_cons_zero, List.set_cons_succ]
            refine takeH (i := 12) (d := 144) (.bool false) (by kernel_rfl) (by kernel_rfl) (by kernel_rfl) (by kernel_rfl) (fun _ _ _ _ h => h) (fun o ho => ?_) hHeld ?_
            · simp only [List.getElem?_toArray, List.getElem?_cons_zero, List.getElem?_cons_succ, Option.some.injEq] at ho
              subst ho
              refine Or.inl ⟨by rfl, fun w hSw => ?_⟩
              go_simp
            simp only [Act.put, List.setIfInBounds_toArray, List.set_cons_zero, List.set_cons_succ]
            refine wpAnyH_done (by kernel_rfl) ?_ _
            refine NoPanic.normal ?_
            have HL9 := Lib.hid (HL2.out.trans (hHeld.1.out.mono HL2.out.size)); clear hHeld k0 k1 k2 k3 m0 m1 m2_ m3
            go_wp2
            go_roundw
            case rel => exact ⟨k + 1, by omega, by go_num, HL9⟩
            case measure => simp [intOf]; omega
          have d1 : decide ((j : Int) < (s.length : Int)) = true := decide_eq_true (by omega)
          obtain ⟨y, hy⟩ : ∃ y, s[j]? = some y := ⟨_, List.getElem?_eq_getElem hj⟩
          have hsg := sgL_at hy
          obtain ⟨gs, os, Ay, cy, hAs, -, ⟨e0, e1, e2, e3⟩, sy, hyc⟩ := (HsL.out.stay HL2.out (Nat.le_refl _)).at_ hy
          have hcall := refFree_calls y _ U2 _ ⟨Ay, cy, rfl, sy, hyc⟩
          obtain ⟨f, hf⟩ : ∃ f, f = freeB y := ⟨_, rfl⟩
          rw [← hf] at hcall hsg
          have Hcall := Lib.hid hcall; have Hyc := Lib.hid hyc; have Hsg := Lib.hid hsg; clear hcall hyc hf hsg hy
          subst hAs
          go_wp2_with fail
          refine Hcall.out.mono ?_
          rintro e u3 ⟨rfl, hb⟩
          have HL3 := Lib.hid (HL2.out.trans (hb.mono HL2.out.size)); have HB23 := Lib.hid (show Below wV.heap.size U2 u3 from hb.mono HL2.out.size); have HK3 := Lib.hid (HK.out.below hb HK.out.lt)
          replace e0 := keep_cell hb e0; replace e1 := keep_cell hb e1; replace e2 := keep_cell hb e2; replace e3 := keep_cell hb e3
          clear hb Hcall HK HL2
          cases f
          case true =>
            have hz := Hmj.out; rw [Hsg.out, if_pos rfl] at hz
            clear Hmj Hsg e0 e1 e2 e3
            have HK := HK3; clear HK3
            go_upto_region 27 with (fail)
            obtain ⟨gm, om, Aq, cq, hAm, -, ⟨m0, m1, m2_, m3⟩, sq, hqc⟩ := (HmL.out.stay HL3.out (Nat.le_refl _)).at_ hz
            have hjm : j < m2.length := (List.getElem?_eq_some_iff.1 hz).1
            have hcall := fun (W : World) (hb : Hid (Below u3.heap.size u3 W)) => refSame_calls (Tm.va j) _ _ W _ _ (Tm.va j) ⟨Aq, cq, rfl, sq, hqc.stay hb.out (Nat.le_refl _)⟩ (TmV.va (fun _ => True) _ _)
            simp only [sameB_refl] at hcall
            simp only [vV] at hcall
            have Hcall := Lib.hid hcall; clear hcall hz
            obtain ⟨⟨k0, k1, k2, k3⟩, -⟩ := HK.out.four
            have d2 : decide ((m2.length : Int) ≤ (j : Int)) = false := decide_eq_false (by omega)
            subst hAm
            simp only [va_k, va_n, va_s, va_l, List.length_nil] at m0 m1 m2_ m3 sq Hcall
            have d3 : decide (m2.length ≤ j) = false := decide_eq_false (by omega)
            have hj0 : (0 : Int) ≤ (j : Int) := by omega
            have hj1 : (j : Int) < (m2.length : Int) := by omega
            go_wp2_with fail
            refine wp_region_noPanic ?_
            refine wp_region_held_drew (S := SW u3 [(⟨u1.heap.size, 0, none⟩, .int .i64 1), (⟨u1.heap.size, 1, none⟩, .int .i64 (j : Int)), (⟨u1.heap.size, 2, none⟩, .string ⟨#[]⟩), (⟨u1.heap.size, 3, none⟩, .slice none 0 0), (⟨gm, om + j * 4, none⟩, .int .i64 1), (⟨gm, om + j * 4 + 1, none⟩, .int .i64 (j : Int)), (⟨gm, om + j * 4 + 2, none⟩, .string ⟨#[]⟩), (⟨gm, om + j * 4 + 3, none⟩, .slice Aq 0 cq)]) (by kernel_rfl) ?_ (fun hHeld => ?_)
            · exact SW.start (fun p hp => by simp only [List.mem_cons, List.not_mem_nil, or_false] at hp; rcases hp with rfl | rfl | rfl | rfl | rfl | rfl | rfl | rfl <;> assumption)
            refine takeH (i := 0) (d := 132) (.int .i64 (j : Int)) (by kernel_rfl) (by kernel_rfl) (by kernel_rfl) (by kernel_rfl) (fun _ _ _ _ h => h) (fun o ho => ?_) hHeld ?_
            · simp only [List.getElem?_toArray, List.getElem?_cons_zero, List.getElem?_cons_succ, Option.some.injEq] at ho
              subst ho
              refine Or.inl ⟨by rfl, fun w hSw => ?_⟩
              go_simp
            simp only [Act.put, List.setIfInBounds_toArray, List.set_cons_zero, List.set_cons_succ]
            refine takeH (i := 1) (d := 133) (.slice (some ⟨gm, om, none⟩) m2.length cm2) (by kernel_rfl) (by kernel_rfl) (by kernel_rfl) (by kernel_rfl) (fun _ _ _ _ h => h) (fun o ho => ?_) hHeld ?_
            · simp only [List.getElem?_toArray, List.getElem?_cons_zero, List.getElem?_cons_succ, Option.some.injEq] at ho
              subst ho
              refine Or.inl ⟨by rfl, fun w hSw => ?_⟩
              go_simp
            simp only [Act.put, List.setIfInBounds_toArray, List.set_cons_zero, List.set_cons_succ]
            refine takeH (i := 2) (d := 134) (.int .i64 (m2.length : Int)) (by kernel_rfl) (by kernel_rfl) (by kernel_rfl) (by kernel_rfl) (fun _ _ _ _ h => h) (fun o ho => ?_) hHeld ?_
            · simp only [List.getElem?_toArray, List.getElem?_cons_zero, List.getElem?_cons_succ, Option.some.injEq] at ho
              subst ho
              refine Or.inl ⟨by rfl, fun w hSw => ?_⟩
              go_simp
            simp only [Act.put, List.setIfInBounds_toArray, List.set_cons_zero, List.set_cons_succ]
            refine takeH (i := 3) (d := 135) (.bool false) (by kernel_rfl) (by kernel_rfl) (by kernel_rfl) (by kernel_rfl) (fun _ _ _ _ h => h) (fun o ho => ?_) hHeld ?_
            · simp only [List.getElem?_toArray, List.getElem?_cons_zero, List.getElem?_cons_succ, Option.some.injEq] at ho
              subst ho
              refine Or.inl ⟨by rfl, fun w hSw => ?_⟩
              go_simp
            simp only [Act.put, List.setIfInBounds_toArray, List.set_cons_zero, List.set_cons_succ]
            refine takeH (i := 4) (d := 136) (.bool false) (by kernel_rfl) (by kernel_rfl) (by kernel_rfl) (by kernel_rfl) (fun _ _ _ _ h => h) (fun o ho => ?_) hHeld ?_
            · simp only [List.getElem?_toArray, List.getElem?_cons_zero, List.getElem?_cons_succ, Option.some.injEq] at ho
              subst ho
              refine Or.inl ⟨by rfl, fun w hSw => ?_⟩
              go_simp
            simp only [Act.put, List.setIfInBounds_toArray, List.set_cons_zero, List.set_cons_succ]
            refine takeH (i := 5) (d := 137) (.slice (some ⟨gm, om, none⟩) m2.length cm2) (by kernel_rfl) (by kernel_rfl) (by kernel_rfl) (by kernel_rfl) (fun _ _ _ _ h => h) (fun o ho => ?_) hHeld ?_
            · simp only [List.getElem?_toArray, List.getElem?_cons_zero, List.getElem?_cons_succ, Option.some.injEq] at ho
              subst ho
              refine Or.inl ⟨by rfl, fun w hSw => ?_⟩
              go_simp
            simp only [Act.put, List.setIfInBounds_toArray, List.set_cons_zero, List.set_cons_succ]
            refine takeH (i := 6) (d := 138) (.int .i64 (j : Int)) (by kernel_rfl) (by kernel_rfl) (by kernel_rfl) (by kernel_rfl) (fun _ _ _ _ h => h) (fun o ho => ?_) hHeld ?_
            · simp only [List.getElem?_toArray, List.getElem?_cons_zero, List.getElem?_cons_succ, Option.some.injEq] at ho
              subst ho
              refine Or.inl ⟨by rfl, fun w hSw => ?_⟩
              go_simp
            simp only [Act.put, List.setIfInBounds_toArray, List.set_cons_zero, List.set_cons_succ]
            refine takeH (i := 7) (d := 139) (.pointer (some ⟨gm, om + j * 4, none⟩)) (by kernel_rfl) (by kernel_rfl) (by kernel_rfl) (by kernel_rfl) (fun _ _ _ _ h => h) (fun o ho => ?_) hHeld ?_
            · simp only [List.getElem?_toArray, List.getElem?_cons_zero, List.getElem?_cons_succ, Option.some.injEq] at ho
              subst ho
              refine Or.inl ⟨by rfl, fun w hSw => ?_⟩
              go_simp
            simp only [Act.put, List.setIfInBounds_toArray, List.set_cons_zero, List.set_cons_succ]
            refine takeH (i := 8) (d := 140) (.agg #[.int .i64 1, .int .i64 (j : Int), .string ⟨#[]⟩, .slice Aq 0 cq]) (by kernel_rfl) (by kernel_rfl) (by kernel_rfl) (by kernel_rfl) (fun _ _ _ _ h => h) (fun o ho => ?_) hHeld ?_
            · simp only [List.getElem?_toArray, List.getElem?_cons_zero, List.getElem?_cons_succ, Option.some.injEq] at ho
              subst ho
              refine Or.inl ⟨by rfl, fun w hSw => ?_⟩
              have s0 := hSw.at 4 rfl
              have s1 := hSw.at 5 rfl
              have s2 := hSw.at 6 rfl
              have s3 := hSw.at 7 rfl
              go_simp
            simp only [Act.put, List.setIfInBounds_toArray, List.set_cons_zero, List.set_cons_succ]
            refine takeH (i := 9) (d := 141) (.agg #[.int .i64 1, .int .i64 (j : Int), .string ⟨#[]⟩, .slice none 0 0]) (by kernel_rfl) (by kernel_rfl) (by kernel_rfl) (by kernel_rfl) (fun _ _ _ _ h => h) (fun o ho => ?_) hHeld ?_
            · simp only [List.getElem?_toArray, List.getElem?_cons_zero, List.getElem?_cons_succ, Option.some.injEq] at ho
              subst ho
              refine Or.inl ⟨by rfl, fun w hSw => ?_⟩
              have s0 := hSw.at 0 rfl
              have s1 := hSw.at 1 rfl
              have s2 := hSw.at 2 rfl
              have s3 := hSw.at 3 rfl
              go_simp
            simp only [Act.put, List.setIfInBounds_toArray, List.set_cons_zero, List.set_cons_succ]
            refine stepH (i := 10) (by kernel_rfl) (by kernel_rfl) (fun o ho K2 hK => ?_)
            simp only [List.getElem?_toArray, List.getElem?_cons_zero, List.getElem?_cons_succ, Option.some.injEq] at ho
            subst ho
            go_simp
            refine (Hcall.out _ hHeld.1).mono ?_
            rintro e wx ⟨rfl, hb⟩
            dsimp only
            refine hK.out _ _ (hHeld.below hb) (fun hHeld => ?_)
            clear hK K2 hb
            try simp only [Act.put, List.setIfInBounds_toArray, List.set_cons_zero, List.set_cons_succ]
            refine takeH (i := 11) (d := 143) (.bool false) (by kernel_rfl) (by kernel_rfl) (by kernel_rfl) (by kernel_rfl) (fun _ _ _ _ h => h) (fun o ho => ?_) hHeld ?_
            · simp only [List.getElem?_toArray, List.getElem?_cons_zero, List.getElem?_cons_succ, Option.some.injEq] at ho
              subst ho
              refine Or.inl ⟨by rfl, fun w hSw => ?_⟩
              go_simp
            simp only [Act.put, List.setIfInBounds_toArray, List.set_cons_zero, List.set_cons_succ]
            refine takeH (i := 12) (d := 144) (.bool false) (by kernel_rfl) (by kernel_rfl) (by kernel_rfl) (by kernel_rfl) (fun _ _ _ _ h => h) (fun o ho => ?_) hHeld ?_
            · simp only [List.getElem?_toArray, List.getElem?_cons_zero, List.getElem?_cons_succ, Option.some.injEq] at ho
              subst ho
              refine Or.inl ⟨by rfl, fun w hSw => ?_⟩
              go_simp
            simp only [Act.put, List.setIfInBounds_toArray, List.set_cons_zero, List.set_cons_succ]
            refine wpAnyH_done (by kernel_rfl) ?_ _
            refine NoPanic.normal ?_
            have HL9 := Lib.hid (HL3.out.trans (hHeld.1.out.mono HL3.out.size)); clear hHeld k0 k1 k2 k3 m0 m1 m2_ m3
            go_wp2
            go_roundw
            case rel => exact ⟨k + 1, by omega, by go_num, HL9⟩
            case measure => simp [intOf]; omega
          have hz := Hmj.out; rw [Hsg.out, if_neg (by simp)] at hz
          clear Hmj Hsg
          obtain ⟨U4, hU4⟩ : ∃ U, U = (((u3.setCell ⟨u1.heap.size, 0, none⟩ (.int .i64 y.k)).setCell ⟨u1.heap.size, 1, none⟩ (.int .i64 y.n)).setCell ⟨u1.heap.size, 2, none⟩ (.string y.s)).setCell ⟨u1.heap.size, 3, none⟩ (.slice Ay y.l.length cy) := ⟨_, rfl⟩
          have HK := Lib.hid (show Blk U4 u1.heap.size 25 #[.int .i64 y.k, .int .i64 y.n, .string y.s, .slice Ay y.l.length cy] from by rw [hU4]; exact set4_at u3 u1.heap.size _ 25 HK3.out rfl _ _ _ _)
          have hus := HUS.out
          have HL4 := Lib.hid (show Below wV.heap.size wV U4 from by rw [hU4]; exact (((HL3.out.setCell (p := ⟨u1.heap.size, 0, none⟩) hus _).setCell (p := ⟨u1.heap.size, 1, none⟩) hus _).setCell (p := ⟨u1.heap.size, 2, none⟩) hus _).setCell (p := ⟨u1.heap.size, 3, none⟩) hus _)
          obtain ⟨⟨k0, k1, k2, k3⟩, ⟨f0, f1, f2, f3⟩⟩ := HK3.out.four; have kl := HK3.out.lt
          have HyT := Lib.hid ((Hyc.out.belowP (show Below wV.heap.size U2 U4 from by rw [hU4]; exact (((HB23.out.setCell (p := ⟨u1.heap.size, 0, none⟩) hus _).setCell (p := ⟨u1.heap.size, 1, none⟩) hus _).setCell (p := ⟨u1.heap.size, 2, none⟩) hus _).setCell (p := ⟨u1.heap.size, 3, none⟩) hus _) (fun g hg => hg)).mono (Q := fun _ => True) (fun _ _ => trivial)); clear Hyc HB23
          have HU4 := Lib.hid hU4; clear hU4 HK3 HL3 hus
          go_upto_region 27 with (fail)
          rw [← HU4.out]
          clear HU4 k0 k1 k2 k3 f0 f1 f2 f3 kl e0 e1 e2 e3
          obtain ⟨gm, om, Aq, cq, hAm, -, ⟨m0, m1, m2_, m3⟩, sq, hqc⟩ := (HmL.out.stay HL4.out (Nat.le_refl _)).at_ hz
          have hjm : j < m2.length := (List.getElem?_eq_some_iff.1 hz).1
          have hcall := fun (W : World) (hb : Hid (Below U4.heap.size U4 W)) => refSame_calls y _ _ W _ _ y ⟨Aq, cq, rfl, sq, hqc.stay hb.out (Nat.le_refl _)⟩ ⟨Ay, cy, rfl, sy, HyT.out.stay hb.out (Nat.le_refl _)⟩
          simp only [sameB_refl] at hcall
          have Hcall := Lib.hid hcall; clear hcall hz
          obtain ⟨⟨k0, k1, k2, k3⟩, -⟩ := HK.out.four
          have d2 : decide ((m2.length : Int) ≤ (j : Int)) = false := decide_eq_false (by omega)
          subst hAm
          have d3 : decide (m2.length ≤ j) = false := decide_eq_false (by omega)
          have hj0 : (0 : Int) ≤ (j : Int) := by omega
          have hj1 : (j : Int) < (m2.length : Int) := by omega
          go_wp2_with fail
          refine wp_region_noPanic ?_
          refine wp_region_held_drew (S := SW U4 [(⟨u1.heap.size, 0, none⟩, .int .i64 y.k), (⟨u1.heap.size, 1, none⟩, .int .i64 y.n), (⟨u1.heap.size, 2, none⟩, .string y.s), (⟨u1.heap.size, 3, none⟩, .slice Ay y.l.length cy), (⟨gm, om + j * 4, none⟩, .int .i64 y.k), (⟨gm, om + j * 4 + 1, none⟩, .int .i64 y.n), (⟨gm, om + j * 4 + 2, none⟩, .string y.s), (⟨gm, om + j * 4 + 3, none⟩, .slice Aq y.l.length cq)]) (by kernel_rfl) ?_ (fun hHeld => ?_)
          · exact SW.start (fun p hp => by simp only [List.mem_cons, List.not_mem_nil, or_false] at hp; rcases hp with rfl | rfl | rfl | rfl | rfl | rfl | rfl | rfl <;> assumption)
          refine takeH (i := 0) (d := 132) (.int .i64 (j : Int)) (by kernel_rfl) (by kernel_rfl) (by kernel_rfl) (by kernel_rfl) (fun _ _ _ _ h => h) (fun o ho => ?_) hHeld ?_
          · simp only [List.getElem?_toArray, List.getElem?_cons_zero, List.getElem?_cons_succ, Option.some.injEq] at ho
            subst ho
            refine Or.inl ⟨by rfl, fun w hSw => ?_⟩
            go_simp
          simp only [Act.put, List.setIfInBounds_toArray, List.set_cons_zero, List.set_cons_succ]
          refine takeH (i := 1) (d := 133) (.slice (some ⟨gm, om, none⟩) m2.length cm2) (by kernel_rfl) (by kernel_rfl) (by kernel_rfl) (by kernel_rfl) (fun _ _ _ _ h => h) (fun o ho => ?_) hHeld ?_
          · simp only [List.getElem?_toArray, List.getElem?_cons_zero, List.getElem?_cons_succ, Option.some.injEq] at ho
            subst ho
            refine Or.inl ⟨by rfl, fun w hSw => ?_⟩
            go_simp
          simp only [Act.put, List.setIfInBounds_toArray, List.set_cons_zero, List.set_cons_succ]
          refine takeH (i := 2) (d := 134) (.int .i64 (m2.length : Int)) (by kernel_rfl) (by kernel_rfl) (by kernel_rfl) (by kernel_rfl) (fun _ _ _ _ h => h) (fun o ho => ?_) hHeld ?_
          · simp only [List.getElem?_toArray, List.getElem?_cons_zero, List.getElem?_cons_succ, Option.some.injEq] at ho
            subst ho
            refine Or.inl ⟨by rfl, fun w hSw => ?_⟩
            go_simp
          simp only [Act.put, List.setIfInBounds_toArray, List.set_cons_zero, List.set_cons_succ]
          refine takeH (i := 3) (d := 135) (.bool false) (by kernel_rfl) (by kernel_rfl) (by kernel_rfl) (by kernel_rfl) (fun _ _ _ _ h => h) (fun o ho => ?_) hHeld ?_
          · simp only [List.getElem?_toArray, List.getElem?_cons_zero, List.getElem?_cons_succ, Option.some.injEq] at ho
            subst ho
            refine Or.inl ⟨by rfl, fun w hSw => ?_⟩
            go_simp
          simp only [Act.put, List.setIfInBounds_toArray, List.set_cons_zero, List.set_cons_succ]
          refine takeH (i := 4) (d := 136) (.bool false) (by kernel_rfl) (by kernel_rfl) (by kernel_rfl) (by kernel_rfl) (fun _ _ _ _ h => h) (fun o ho => ?_) hHeld ?_
          · simp only [List.getElem?_toArray, List.getElem?_cons_zero, List.getElem?_cons_succ, Option.some.injEq] at ho
            subst ho
            refine Or.inl ⟨by rfl, fun w hSw => ?_⟩
            go_simp
          simp only [Act.put, List.setIfInBounds_toArray, List.set_cons_zero, List.set_cons_succ]
          refine takeH (i := 5) (d := 137) (.slice (some ⟨gm, om, none⟩) m2.length cm2) (by kernel_rfl) (by kernel_rfl) (by kernel_rfl) (by kernel_rfl) (fun _ _ _ _ h => h) (fun o ho => ?_) hHeld ?_
          · simp only [List.getElem?_toArray, List.getElem?_cons_zero, List.getElem?_cons_succ, Option.some.injEq] at ho
            subst ho
            refine Or.inl ⟨by rfl, fun w hSw => ?_⟩
            go_simp
          simp only [Act.put, List.setIfInBounds_toArray, List.set_cons_zero, List.set_cons_succ]
          refine takeH (i := 6) (d := 138) (.int .i64 (j : Int)) (by kernel_rfl) (by kernel_rfl) (by kernel_rfl) (by kernel_rfl) (fun _ _ _ _ h => h) (fun o ho => ?_) hHeld ?_
          · simp only [List.getElem?_toArray, List.getElem?_cons_zero, List.getElem?_cons_succ, Option.some.injEq] at ho
            subst ho
            refine Or.inl ⟨by rfl, fun w hSw => ?_⟩
            go_simp
          simp only [Act.put, List.setIfInBounds_toArray, List.set_cons_zero, List.set_cons_succ]
          refine takeH (i := 7) (d := 139) (.pointer (some ⟨gm, om + j * 4, none⟩)) (by kernel_rfl) (by kernel_rfl) (by kernel_rfl) (by kernel_rfl) (fun _ _ _ _ h => h) (fun o ho => ?_) hHeld ?_
          · simp only [List.getElem?_toArray, List.getElem?_cons_zero, List.getElem?_cons_succ, Option.some.injEq] at ho
            subst ho
            refine Or.inl ⟨by rfl, fun w hSw => ?_⟩
            go_simp
          simp only [Act.put, List.setIfInBounds_toArray, List.set_cons_zero, List.set_cons_succ]
          refine takeH (i := 8) (d := 140) (.agg #[.int .i64 y.k, .int .i64 y.n, .string y.s, .slice Aq y.l.length cq]) (by kernel_rfl) (by kernel_rfl) (by kernel_rfl) (by kernel_rfl) (fun _ _ _ _ h => h) (fun o ho => ?_) hHeld ?_
          · simp only [List.getElem?_toArray, List.getElem?_cons_zero, List.getElem?_cons_succ, Option.some.injEq] at ho
            subst ho
            refine Or.inl ⟨by rfl, fun w hSw => ?_⟩
            have s0 := hSw.at 4 rfl
            have s1 := hSw.at 5 rfl
            have s2 := hSw.at 6 rfl
            have s3 := hSw.at 7 rfl
            go_simp
          simp only [Act.put, List.setIfInBounds_toArray, List.set_cons_zero, List.set_cons_succ]
          refine takeH (i := 9) (d := 141) (.agg #[.int .i64 y.k, .int .i64 y.n, .string y.s, .slice Ay y.l.length cy]) (by kernel_rfl) (by kernel_rfl) (by kernel_rfl) (by kernel_rfl) (fun _ _ _ _ h => h) (fun o ho => ?_) hHeld ?_
          · simp only [List.getElem?_toArray, List.getElem?_cons_zero, List.getElem?_cons_succ, Option.some.injEq] at ho
            subst ho
            refine Or.inl ⟨by rfl, fun w hSw => ?_⟩
            have s0 := hSw.at 0 rfl
            have s1 := hSw.at 1 rfl
            have s2 := hSw.at 2 rfl
            have s3 := hSw.at 3 rfl
            go_simp
          simp only [Act.put, List.setIfInBounds_toArray, List.set_cons_zero, List.set_cons_succ]
          refine stepH (i := 10) (by kernel_rfl) (by kernel_rfl) (fun o ho K2 hK => ?_)
          simp only [List.getElem?_toArray, List.getElem?_cons_zero, List.getElem?_cons_succ, Option.some.injEq] at ho
          subst ho
          go_simp
          refine (Hcall.out _ hHeld.1).mono ?_
          rintro e wx ⟨rfl, hb⟩
          dsimp only
          refine hK.out _ _ (hHeld.below hb) (fun hHeld => ?_)
          clear hK K2 hb
          try simp only [Act.put, List.setIfInBounds_toArray, List.set_cons_zero, List.set_cons_succ]
          refine takeH (i := 11) (d := 143) (.bool false) (by kernel_rfl) (by kernel_rfl) (by kernel_rfl) (by kernel_rfl) (fun _ _ _ _ h => h) (fun o ho => ?_) hHeld ?_
          · simp only [List.getElem?_toArray, List.getElem?_cons_zero, List.getElem?_cons_succ, Option.some.injEq] at ho
            subst ho
            refine Or.inl ⟨by rfl, fun w hSw => ?_⟩
            go_simp
          simp only [Act.put, List.setIfInBounds_toArray, List.set_cons_zero, List.set_cons_succ]
          refine takeH (i := 12) (d := 144) (.bool false) (by kernel_rfl) (by kernel_rfl) (by kernel_rfl) (by kernel_rfl) (fun _ _ _ _ h => h) (fun o ho => ?_) hHeld ?_
          · simp only [List.getElem?_toArray, List.getElem?_cons_zero, List.getElem?_cons_succ, Option.some.injEq] at ho
            subst ho
            refine Or.inl ⟨by rfl, fun w hSw => ?_⟩
            go_simp
          simp only [Act.put, List.setIfInBounds_toArray, List.set_cons_zero, List.set_cons_succ]
          refine wpAnyH_done (by kernel_rfl) ?_ _
          refine NoPanic.normal ?_
          have HL9 := Lib.hid (HL4.out.trans (hHeld.1.out.mono HL4.out.size)); clear hHeld k0 k1 k2 k3 m0 m1 m2_ m3
          go_wp2
          go_roundw
          case rel => exact ⟨k + 1, by omega, by go_num, HL9⟩
          case measure => simp [intOf]; omega
  have hq : (q2 != q2) = false := by cases q2 <;> rfl
  simp only [Bool.true_and] at Hv1
  have Sq1 := Lib.hid (show ∀ W, Hid (Below w4.heap.size w4 W) → Calls Try.prog 38 #[.agg #[.int .i64 p.k, .int .i64 p.n, .string p.s, .slice Ap p.l.length cp], .agg #[.int .i64 t.k, .int .i64 t.n, .string t.s, .slice At t.l.length ct]] W (RetB W true) from fun W hb => Hq1.out W _ _ ⟨Ap, cp, rfl, sp, Hpc.out.stay hb.out (Nat.le_refl _)⟩ ⟨At, ct, rfl, st, Htc.out.stay hb.out (Nat.le_refl _)⟩)
  have Sq2 := Lib.hid (show ∀ W, Hid (Below w4.heap.size w4 W) → Calls Try.prog 38 #[.agg #[.int .i64 t.k, .int .i64 t.n, .string t.s, .slice At t.l.length ct], .agg #[.int .i64 p.k, .int .i64 p.n, .string p.s, .slice Ap p.l.length cp]] W (RetB W q2) from fun W hb => Hq2.out W _ _ ⟨At, ct, rfl, st, Htc.out.stay hb.out (Nat.le_refl _)⟩ ⟨Ap, cp, rfl, sp, Hpc.out.stay hb.out (Nat.le_refl _)⟩)
  have Sv1 := Lib.hid (show ∀ W, Hid (Below w4.heap.size w4 W) → Calls Try.prog 39 #[.agg #[.int .i64 p.k, .int .i64 p.n, .string p.s, .slice Ap p.l.length cp], .agg #[.int .i64 t.k, .int .i64 t.n, .string t.s, .slice At t.l.length ct]] W (RetB W q2) from fun W hb => Hv1.out W _ _ ⟨Ap, cp, rfl, sp, Hpc.out.stay hb.out (Nat.le_refl _)⟩ ⟨At, ct, rfl, st, Htc.out.stay hb.out (Nat.le_refl _)⟩)
  obtain ⟨⟨bp0, bp1, bp2, bp3⟩, -⟩ := Hbp.out.four
  have bpl := Hbp.out.lt
  obtain ⟨⟨bt0, bt1, bt2, bt3⟩, -⟩ := Hbt.out.four
  have btl := Hbt.out.lt
  refine wp_region_noPanic ?_
  refine wp_region_held_drew (S := SW w4 [(⟨w.heap.size, 0, none⟩, .int .i64 p.k), (⟨w.heap.size, 1, none⟩, .int .i64 p.n), (⟨w.heap.size, 2, none⟩, .string p.s), (⟨w.heap.size, 3, none⟩, .slice Ap p.l.length cp), (⟨w.heap.size + 1, 0, none⟩, .int .i64 t.k), (⟨w.heap.size + 1, 1, none⟩, .int .i64 t.n), (⟨w.heap.size + 1, 2, none⟩, .string t.s), (⟨w.heap.size + 1, 3, none⟩, .slice At t.l.length ct)]) (by kernel_rfl) ?_ (fun hHeld => ?_)
  · exact SW.start (fun p hp => by simp only [List.mem_cons, List.not_mem_nil, or_false] at hp; rcases hp with rfl | rfl | rfl | rfl | rfl | rfl | rfl | rfl <;> assumption)
  refine takeH (i := 0) (d := 39) (.agg #[.int .i64 p.k, .int .i64 p.n, .string p.s, .slice Ap p.l.length cp]) (by kernel_rfl) (by kernel_rfl) (by kernel_rfl) (by kernel_rfl) (fun _ _ _ _ h => h) (fun o ho => ?_) hHeld ?_
  · simp only [List.getElem?_toArray, List.getElem?_cons_zero, List.getElem?_cons_succ, Option.some.injEq] at ho
    subst ho
    refine Or.inl ⟨by rfl, fun w hSw => ?_⟩
    have s0 := hSw.at 0 rfl
    have s1 := hSw.at 1 rfl
    have s2 := hSw.at 2 rfl
    have s3 := hSw.at 3 rfl
    go_simp
  simp only [Act.put, List.setIfInBounds_toArray, List.set_cons_zero, List.set_cons_succ]
  refine takeH (i := 1) (d := 40) (.agg #[.int .i64 t.k, .int .i64 t.n, .string t.s, .slice At t.l.length ct]) (by kernel_rfl) (by kernel_rfl) (by kernel_rfl) (by kernel_rfl) (fun _ _ _ _ h => h) (fun o ho => ?_) hHeld ?_
  · simp only [List.getElem?_toArray, List.getElem?_cons_zero, List.getElem?_cons_succ, Option.some.injEq] at ho
    subst ho
    refine Or.inl ⟨by rfl, fun w hSw => ?_⟩
    have s0 := hSw.at 4 rfl
    have s1 := hSw.at 5 rfl
    have s2 := hSw.at 6 rfl
    have s3 := hSw.at 7 rfl
    go_simp
  simp only [Act.put, List.setIfInBounds_toArray, List.set_cons_zero, List.set_cons_succ]
  refine takeH (i := 8) (d := 47) (.agg #[.int .i64 p.k, .int .i64 p.n, .string p.s, .slice Ap p.l.length cp]) (by kernel_rfl) (by kernel_rfl) (by kernel_rfl) (by kernel_rfl) (fun _ _ _ _ h => h) (fun o ho => ?_) hHeld ?_
  · simp only [List.getElem?_toArray, List.getElem?_cons_zero, List.getElem?_cons_succ, Option.some.injEq] at ho
    subst ho
    refine Or.inl ⟨by rfl, fun w hSw => ?_⟩
    have s0 := hSw.at 0 rfl
    have s1 := hSw.at 1 rfl
    have s2 := hSw.at 2 rfl
    have s3 := hSw.at 3 rfl
    go_simp
  simp only [Act.put, List.setIfInBounds_toArray, List.set_cons_zero, List.set_cons_succ]
  refine takeH (i := 9) (d := 48) (.agg #[.int .i64 t.k, .int .i64 t.n, .string t.s, .slice At t.l.length ct]) (by kernel_rfl) (by kernel_rfl) (by kernel_rfl) (by kernel_rfl) (fun _ _ _ _ h => h) (fun o ho => ?_) hHeld ?_
  · simp only [List.getElem?_toArray, List.getElem?_cons_zero, List.getElem?_cons_succ, Option.some.injEq] at ho
    subst ho
    refine Or.inl ⟨by rfl, fun w hSw => ?_⟩
    have s0 := hSw.at 4 rfl
    have s1 := hSw.at 5 rfl
    have s2 := hSw.at 6 rfl
    have s3 := hSw.at 7 rfl
    go_simp
  simp only [Act.put, List.setIfInBounds_toArray, List.set_cons_zero, List.set_cons_succ]
  refine stepH (i := 2) (by kernel_rfl) (by kernel_rfl) (fun o ho K2 hK => ?_)
  simp only [List.getElem?_toArray, List.getElem?_cons_zero, List.getElem?_cons_succ, Option.some.injEq] at ho
  subst ho
  go_simp
  refine (Sq1.out _ hHeld.1).mono ?_
  rintro e wx ⟨rfl, hb⟩
  dsimp only
  refine hK.out _ _ (hHeld.below hb) (fun hHeld => ?_)
  clear hK K2 hb
  try simp only [Act.put, List.setIfInBounds_toArray, List.set_cons_zero, List.set_cons_succ]
  refine takeH (i := 3) (d := 42) (.bool true) (by kernel_rfl) (by kernel_rfl) (by kernel_rfl) (by kernel_rfl) (fun _ _ _ _ h => h) (fun o ho => ?_) hHeld ?_
  · simp only [List.getElem?_toArray, List.getElem?_cons_zero, List.getElem?_cons_succ, Option.some.injEq] at ho
    subst ho
    refine Or.inl ⟨by rfl, fun w hSw => ?_⟩
    go_simp
  simp only [Act.put, List.setIfInBounds_toArray, List.set_cons_zero, List.set_cons_succ]
  refine takeH (i := 4) (d := 43) (.agg #[.int .i64 t.k, .int .i64 t.n, .string t.s, .slice At t.l.length ct]) (by kernel_rfl) (by kernel_rfl) (by kernel_rfl) (by kernel_rfl) (fun _ _ _ _ h => h) (fun o ho => ?_) hHeld ?_
  · simp only [List.getElem?_toArray, List.getElem?_cons_zero, List.getElem?_cons_succ, Option.some.injEq] at ho
    subst ho
    refine Or.inl ⟨by rfl, fun w hSw => ?_⟩
    have s0 := hSw.at 4 rfl
    have s1 := hSw.at 5 rfl
    have s2 := hSw.at 6 rfl
    have s3 := hSw.at 7 rfl
    go_simp
  simp only [Act.put, List.setIfInBounds_toArray, List.set_cons_zero, List.set_cons_succ]
  refine takeH (i := 5) (d := 44) (.agg #[.int .i64 p.k, .int .i64 p.n, .string p.s, .slice Ap p.l.length cp]) (by kernel_rfl) (by kernel_rfl) (by kernel_rfl) (by kernel_rfl) (fun _ _ _ _ h => h) (fun o ho => ?_) hHeld ?_
  · simp only [List.getElem?_toArray, List.getElem?_cons_zero, List.getElem?_cons_succ, Option.some.injEq] at ho
    subst ho
    refine Or.inl ⟨by rfl, fun w hSw => ?_⟩
    have s0 := hSw.at 0 rfl
    have s1 := hSw.at 1 rfl
    have s2 := hSw.at 2 rfl
    have s3 := hSw.at 3 rfl
    go_simp
  simp only [Act.put, List.setIfInBounds_toArray, List.set_cons_zero, List.set_cons_succ]
  refine stepH (i := 6) (by kernel_rfl) (by kernel_rfl) (fun o ho K2 hK => ?_)
  simp only [List.getElem?_toArray, List.getElem?_cons_zero, List.getElem?_cons_succ, Option.some.injEq] at ho
  subst ho
  go_simp
  refine (Sq2.out _ hHeld.1).mono ?_
  rintro e wx ⟨rfl, hb⟩
  dsimp only
  refine hK.out _ _ (hHeld.below hb) (fun hHeld => ?_)
  clear hK K2 hb
  try simp only [Act.put, List.setIfInBounds_toArray, List.set_cons_zero, List.set_cons_succ]
  refine takeH (i := 7) (d := 46) (.bool q2) (by kernel_rfl) (by kernel_rfl) (by kernel_rfl) (by kernel_rfl) (fun _ _ _ _ h => h) (fun o ho => ?_) hHeld ?_
  · simp only [List.getElem?_toArray, List.getElem?_cons_zero, List.getElem?_cons_succ, Option.some.injEq] at ho
    subst ho
    refine Or.inl ⟨by rfl, fun w hSw => ?_⟩
    go_simp
  simp only [Act.put, List.setIfInBounds_toArray, List.set_cons_zero, List.set_cons_succ]
  refine stepH (i := 10) (by kernel_rfl) (by kernel_rfl) (fun o ho K2 hK => ?_)
  simp only [List.getElem?_toArray, List.getElem?_cons_zero, List.getElem?_cons_succ, Option.some.injEq] at ho
  subst ho
  go_simp
  refine (Sv1.out _ hHeld.1).mono ?_
  rintro e wx ⟨rfl, hb⟩
  dsimp only
  refine hK.out _ _ (hHeld.below hb) (fun hHeld => ?_)
  clear hK K2 hb
  try simp only [Act.put, List.setIfInBounds_toArray, List.set_cons_zero, List.set_cons_succ]
  refine takeH (i := 11) (d := 50) (.bool false) (by kernel_rfl) (by kernel_rfl) (by kernel_rfl) (by kernel_rfl) (fun _ _ _ _ h => h) (fun o ho => ?_) hHeld ?_
  · simp only [List.getElem?_toArray, List.getElem?_cons_zero, List.getElem?_cons_succ, Option.some.injEq] at ho
    subst ho
    refine Or.inl ⟨by rfl, fun w hSw => ?_⟩
    go_simp
  simp only [Act.put, List.setIfInBounds_toArray, List.set_cons_zero, List.set_cons_succ]
  refine wpAnyH_done (by kernel_rfl) ?_ _
  refine NoPanic.normal ?_
  obtain ⟨wr5, hwr5⟩ : ∃ W, W = wx := ⟨_, rfl⟩
  have hb : Below w4.heap.size w4 wx := hHeld.1.out
  clear bp0 bp1 bp2 bp3 bpl bt0 bt1 bt2 bt3 btl
  replace HB := Lib.hid (HB.out.trans (hb.mono HB.out.size))
  replace Hbp := Lib.hid (Hbp.out.below hb Hbp.out.lt)
  replace Hbt := Lib.hid (Hbt.out.below hb Hbt.out.lt)
  replace Hpc := Lib.hid (Hpc.out.stay hb (Nat.le_refl _))
  replace Hsc := Lib.hid (Hsc.out.stay hb (Nat.le_refl _))
  replace Htc := Lib.hid (Htc.out.stay hb (Nat.le_refl _))
  clear hb hHeld hwr5 wr5
  cases R with
  | none =>
    obtain ⟨⟨bp0, bp1, bp2, bp3⟩, -⟩ := Hbp.out.four
    have bpl := Hbp.out.lt
    obtain ⟨⟨bt0, bt1, bt2, bt3⟩, -⟩ := Hbt.out.four
    have btl := Hbt.out.lt
    go_wp2_with fail
    refine (Hm.out _ _ _ ⟨Ap, cp, rfl, sp, Hpc.out⟩ ⟨At, ct, rfl, st, Htc.out⟩).mono ?_
    rintro e w6 ⟨A6, c6, rfl, -, hb⟩
    clear bp0 bp1 bp2 bp3 bpl bt0 bt1 bt2 bt3 btl
    replace HB := Lib.hid (HB.out.trans (hb.mono HB.out.size))
    replace Hbp := Lib.hid (Hbp.out.below hb Hbp.out.lt)
    replace Hbt := Lib.hid (Hbt.out.below hb Hbt.out.lt)
    replace Hpc := Lib.hid (Hpc.out.stay hb (Nat.le_refl _))
    replace Hsc := Lib.hid (Hsc.out.stay hb (Nat.le_refl _))
    replace Htc := Lib.hid (Htc.out.stay hb (Nat.le_refl _))
    clear hb
    obtain ⟨X, hX⟩ : ∃ X, X = substR p s := ⟨_, rfl⟩
    cases X with
    | none =>
      have hcall := subst_err _ _ w6 _ As cs ⟨Ap, cp, rfl, sp, Hpc.out⟩ Hsc.out hX.symm (subst_errE Ip.out Is.out)
      have Hcall := Lib.hid hcall; clear hcall hX
      obtain ⟨⟨bp0, bp1, bp2, bp3⟩, -⟩ := Hbp.out.four
      have bpl := Hbp.out.lt
      obtain ⟨⟨bt0, bt1, bt2, bt3⟩, -⟩ := Hbt.out.four
      have btl := Hbt.out.lt
      go_wp2_with fail
      refine Hcall.out.mono ?_
      rintro e w30 ⟨A0, c0, rfl, -, -, hb⟩
      clear bp0 bp1 bp2 bp3 bpl bt0 bt1 bt2 bt3 btl
      replace HB := Lib.hid (HB.out.trans (hb.mono HB.out.size))
      replace Hbp := Lib.hid (Hbp.out.below hb Hbp.out.lt)
      replace Hbt := Lib.hid (Hbt.out.below hb Hbt.out.lt)
      replace Hpc := Lib.hid (Hpc.out.stay hb (Nat.le_refl _))
      replace Hsc := Lib.hid (Hsc.out.stay hb (Nat.le_refl _))
      replace Htc := Lib.hid (Htc.out.stay hb (Nat.le_refl _))
      clear hb Hcall
      go_wp2
      go_ret
      exact ⟨rfl, HB.out.alloc HB.out.size _⟩
    | some x =>
      obtain ⟨ix, m2, hm2, hvars⟩ := match_inst Ip.out Is.out hX.symm
      have Ix := Lib.hid ix; have Hm2 := Lib.hid hm2; have Hvars := Lib.hid hvars; clear ix hm2 hvars
      have hcall := subst_ok _ _ w6 _ As cs ⟨Ap, cp, rfl, sp, Hpc.out⟩ Hsc.out hX.symm
      have Hcall := Lib.hid hcall; clear hcall hX
      obtain ⟨⟨bp0, bp1, bp2, bp3⟩, -⟩ := Hbp.out.four
      have bpl := Hbp.out.lt
      obtain ⟨⟨bt0, bt1, bt2, bt3⟩, -⟩ := Hbt.out.four
      have btl := Hbt.out.lt
      go_wp2_with fail
      refine (Hcall.out).mono ?_
      rintro e w32 ⟨Ax, cx, rfl, sx, hxc, hb⟩
      clear bp0 bp1 bp2 bp3 bpl bt0 bt1 bt2 bt3 btl
      replace HB := Lib.hid (HB.out.trans (hb.mono HB.out.size))
      replace Hbp := Lib.hid (Hbp.out.below hb Hbp.out.lt)
      replace Hbt := Lib.hid (Hbt.out.below hb Hbt.out.lt)
      replace Hpc := Lib.hid (Hpc.out.stay hb (Nat.le_refl _))
      replace Hsc := Lib.hid (Hsc.out.stay hb (Nat.le_refl _))
      replace Htc := Lib.hid (Htc.out.stay hb (Nat.le_refl _))
      clear hb
      have Hxc := Lib.hid (hxc.mono (Q := (fun _ => True)) (fun _ _ => trivial)); clear hxc
      obtain ⟨V32, hV32⟩ : ∃ V, V = w32.alloc (.cells #[.int .i64 x.k, .int .i64 x.n, .string x.s, .slice Ax x.l.length cx] 25) := ⟨_, rfl⟩
      have hb : Below w32.heap.size w32 V32 := by rw [hV32]; exact (Below.refl _ _).alloc (Nat.le_refl _) _
      have Hbx := Lib.hid (show Blk V32 w32.heap.size 25 #[.int .i64 x.k, .int .i64 x.n, .string x.s, .slice Ax x.l.length cx] from by rw [hV32]; exact Blk.new _ _ _)
      replace HB := Lib.hid (HB.out.trans (hb.mono HB.out.size))
      replace Hbp := Lib.hid (Hbp.out.below hb Hbp.out.lt)
      replace Hbt := Lib.hid (Hbt.out.below hb Hbt.out.lt)
      replace Hpc := Lib.hid (Hpc.out.stay hb (Nat.le_refl _))
      replace Hsc := Lib.hid (Hsc.out.stay hb (Nat.le_refl _))
      replace Htc := Lib.hid (Htc.out.stay hb (Nat.le_refl _))
      replace Hxc := Lib.hid (Hxc.out.stay hb (Nat.le_refl _))
      clear hb
      have HV32 := Lib.hid hV32; clear hV32
      go_upto_region 17 with (fail)
      rw [← HV32.out]
      clear HV32
      clear Hcall
      have hcall := match_ok p x _ _ V32 _ _ ⟨Ap, cp, rfl, sp, Hpc.out⟩ ⟨Ax, cx, rfl, sx, Hxc.out⟩ Ip.out Ix.out
      rw [Hm2.out] at hcall
      have Hcall := Lib.hid hcall; clear hcall
      obtain ⟨⟨bp0, bp1, bp2, bp3⟩, -⟩ := Hbp.out.four
      have bpl := Hbp.out.lt
      obtain ⟨⟨bt0, bt1, bt2, bt3⟩, -⟩ := Hbt.out.four
      have btl := Hbt.out.lt
      obtain ⟨⟨bx0, bx1, bx2, bx3⟩, -⟩ := Hbx.out.four
      have bxl := Hbx.out.lt
      go_wp2_with fail
      refine Hcall.out.mono ?_
      rintro e w40 ⟨Am2, cm2, rfl, hm2c, hb⟩
      clear bp0 bp1 bp2 bp3 bpl bt0 bt1 bt2 bt3 btl bx0 bx1 bx2 bx3 bxl
      replace HB := Lib.hid (HB.out.trans (hb.mono HB.out.size))
      replace Hbp := Lib.hid (Hbp.out.below hb Hbp.out.lt)
      replace Hbt := Lib.hid (Hbt.out.below hb Hbt.out.lt)
      replace Hbx := Lib.hid (Hbx.out.below hb Hbx.out.lt)
      replace Hpc := Lib.hid (Hpc.out.stay hb (Nat.le_refl _))
      replace Hsc := Lib.hid (Hsc.out.stay hb (Nat.le_refl _))
      replace Htc := Lib.hid (Htc.out.stay hb (Nat.le_refl _))
      replace Hxc := Lib.hid (Hxc.out.stay hb (Nat.le_refl _))
      clear hb Hcall
      replace hm2c : TmC (fun _ => True) w40 Am2 cm2 m2 := hm2c
      have Hm2c := Lib.hid hm2c; clear hm2c
      rw [show (some m2).isSome = true from rfl, show (some m2).getD [] = m2 from rfl]
      obtain ⟨⟨bp0, bp1, bp2, bp3⟩, -⟩ := Hbp.out.four
      have bpl := Hbp.out.lt
      obtain ⟨⟨bt0, bt1, bt2, bt3⟩, -⟩ := Hbt.out.four
      have btl := Hbt.out.lt
      obtain ⟨⟨bx0, bx1, bx2, bx3⟩, -⟩ := Hbx.out.four
      have bxl := Hbx.out.lt
      go_wp2_with fail
      obtain ⟨Wlit2, hWlit2⟩ : ∃ W, W = w40.alloc (.cells #[.int .i64 p.k, .int .i64 p.n, .string p.s, .slice Ap p.l.length cp] 25) := ⟨_, rfl⟩
      rw [← hWlit2]
      have hb : Below w40.heap.size w40 Wlit2 := by rw [hWlit2]; exact (Below.refl _ _).alloc (Nat.le_refl _) _
      have hlit2 : TmC (fun _ => True) Wlit2 (some ⟨w40.heap.size, 0, none⟩) 1 [p] := by
        rw [hWlit2]; exact (TmC.lit3 (P := (fun _ => True)) [(p, Ap, cp)] (fun e he => by
          simp only [List.mem_cons, List.not_mem_nil, or_false] at he
          subst he
          exact ⟨sp, Hpc.out⟩
          ) (by simp)).mono (fun _ _ => trivial)
      clear bp0 bp1 bp2 bp3 bpl bt0 bt1 bt2 bt3 btl bx0 bx1 bx2 bx3 bxl
      replace HB := Lib.hid (HB.out.trans (hb.mono HB.out.size))
      replace Hbp := Lib.hid (Hbp.out.below hb Hbp.out.lt)
      replace Hbt := Lib.hid (Hbt.out.below hb Hbt.out.lt)
      replace Hbx := Lib.hid (Hbx.out.below hb Hbx.out.lt)
      replace Hpc := Lib.hid (Hpc.out.stay hb (Nat.le_refl _))
      replace Hsc := Lib.hid (Hsc.out.stay hb (Nat.le_refl _))
      replace Htc := Lib.hid (Htc.out.stay hb (Nat.le_refl _))
      replace Hxc := Lib.hid (Hxc.out.stay hb (Nat.le_refl _))
      replace Hm2c := Lib.hid (Hm2c.out.stay hb (Nat.le_refl _))
      clear hb hWlit2
      have hcall := vars_ok [p] _ _ _ _ hlit2 (by rw [allB_one]; exact Ip.out); clear hlit2
      obtain ⟨vs, hvs⟩ : ∃ vs, vs = varsL [p] := ⟨_, rfl⟩
      rw [← hvs] at hcall Hvars
      have Hcall := Lib.hid hcall; clear hcall hvs
      refine Hcall.out.mono ?_
      rintro e wV ⟨Av, cv, rfl, hrd, hv1, hv2, hb⟩
      replace HB := Lib.hid (HB.out.trans (hb.mono HB.out.size))
      replace Hbp := Lib.hid (Hbp.out.below hb Hbp.out.lt)
      replace Hbt := Lib.hid (Hbt.out.below hb Hbt.out.lt)
      replace Hbx := Lib.hid (Hbx.out.below hb Hbx.out.lt)
      replace Hpc := Lib.hid (Hpc.out.stay hb (Nat.le_refl _))
      replace Hsc := Lib.hid (Hsc.out.stay hb (Nat.le_refl _))
      replace Htc := Lib.hid (Htc.out.stay hb (Nat.le_refl _))
      replace Hxc := Lib.hid (Hxc.out.stay hb (Nat.le_refl _))
      replace Hm2c := Lib.hid (Hm2c.out.stay hb (Nat.le_refl _))
      clear hb Hcall
      have Hrd := Lib.hid hrd; clear hrd
      have HsL := Lib.hid (Hsc.out.inside.mono (Q := (· < wV.heap.size)) (fun g h => h.2)); have HmL := Lib.hid (Hm2c.out.inside.mono (Q := (· < wV.heap.size)) (fun g h => h.2))
      have hms := Hm2c.out.len.1; have hms2 := Hm2c.out.len.2.1
      have HBV := HB
      clear Hbp Hbt Hbx Hpc Hsc Htc Hxc Hm2c HB
      go_wp2
      go_loopw [110] (fun i wr => ∃ k : Nat, k ≤ vs.length ∧ i = .int .i64 k ∧ Hid (Below wV.heap.size wV wr)) (fun i _ => vs.length - (intOf i).toNat)
      case atStart => exact ⟨0, Nat.zero_le _, rfl, Lib.hid (Below.refl _ _)⟩
      case round =>
        obtain ⟨k, hk, rfl, HL⟩ := hrel
        by_cases hlt : k < vs.length
        case neg =>
          go_wp2
          go_ret
          exact ⟨rfl, HBV.out.trans (HL.out.mono HBV.out.size)⟩
        obtain ⟨n, hn⟩ : ∃ n, vs[k]? = some n := ⟨_, List.getElem?_eq_getElem hlt⟩
        obtain ⟨j, rfl, hj5, hmj⟩ := Hvars.out n (List.mem_of_getElem? hn)
        obtain ⟨gv, ov, rfl, n0⟩ := (Hrd.out.below HL.out (Nat.le_refl _)).atI hn
        have Hmj := Lib.hid hmj; clear hmj hn
        go_wp2_with fail
        refine (v_calls (j : Int) wr).mono ?_
        rintro e u1 ⟨rfl, hb⟩
        unfold vV
        obtain ⟨U2, hU2⟩ : ∃ U, U = u1.alloc (.cells #[.int .i64 1, .int .i64 (j : Int), .string ⟨#[]⟩, .slice none 0 0] 25) := ⟨_, rfl⟩
        have hb1 := HL.out.trans (hb.mono HL.out.size)
        have HL2 := Lib.hid (show Below wV.heap.size wV U2 from by rw [hU2]; exact hb1.alloc hb1.size _)
        have HK := Lib.hid (show Blk U2 u1.heap.size 25 #[.int .i64 1, .int .i64 (j : Int), .string ⟨#[]⟩, .slice none 0 0] from by rw [hU2]; exact Blk.new _ _ _)
        have HUS := Lib.hid (show wV.heap.size ≤ u1.heap.size from hb1.size)
        have HU2 := Lib.hid hU2; clear hU2 hb hb1 n0
        go_upto_region 25 with (fail)
        rw [← HU2.out]
        clear HU2
        by_cases hj : j < s.length
        case neg =>
          have d1 : decide ((j : Int) < (s.length : Int)) = false := decide_eq_false (by omega)
          have hz := Hmj.out; rw [sgL_none hj] at hz
          clear Hmj
          go_upto_region 27 with (fail)
          obtain ⟨gm, om, Aq, cq, hAm, -, ⟨m0, m1, m2_, m3⟩, sq, hqc⟩ := (HmL.out.stay HL2.out (Nat.le_refl _)).at_ hz
          have hjm : j < m2.length := (List.getElem?_eq_some_iff.1 hz).1
          have hcall := fun (W : World) (hb : Hid (Below U2.heap.size U2 W)) => refSame_calls (Tm.va j) _ _ W _ _ (Tm.va j) ⟨Aq, cq, rfl, sq, hqc.stay hb.out (Nat.le_refl _)⟩ (TmV.va (fun _ => True) _ _)
          simp only [sameB_refl] at hcall
          simp only [vV] at hcall
          have Hcall := Lib.hid hcall; clear hcall hz
          obtain ⟨⟨k0, k1, k2, k3⟩, -⟩ := HK.out.four
          have d2 : decide ((m2.length : Int) ≤ (j : Int)) = false := decide_eq_false (by omega)
          subst hAm
          simp only [va_k, va_n, va_s, va_l, List.length_nil] at m0 m1 m2_ m3 sq Hcall
          have d3 : decide (m2.length ≤ j) = false := decide_eq_false (by omega)
          have hj0 : (0 : Int) ≤ (j : Int) := by omega
          have hj1 : (j : Int) < (m2.length : Int) := by omega
          go_wp2_with fail
          refine wp_region_noPanic ?_
          refine wp_region_held_drew (S := SW U2 [(⟨u1.heap.size, 0, none⟩, .int .i64 1), (⟨u1.heap.size, 1, none⟩, .int .i64 (j : Int)), (⟨u1.heap.size, 2, none⟩, .string ⟨#[]⟩), (⟨u1.heap.size, 3, none⟩, .slice none 0 0), (⟨gm, om + j * 4, none⟩, .int .i64 1), (⟨gm, om + j * 4 + 1, none⟩, .int .i64 (j : Int)), (⟨gm, om + j * 4 + 2, none⟩, .string ⟨#[]⟩), (⟨gm, om + j * 4 + 3, none⟩, .slice Aq 0 cq)]) (by kernel_rfl) ?_ (fun hHeld => ?_)
          · exact SW.start (fun p hp => by simp only [List.mem_cons, List.not_mem_nil, or_false] at hp; rcases hp with rfl | rfl | rfl | rfl | rfl | rfl | rfl | rfl <;> assumption)
          refine takeH (i := 0) (d := 132) (.int .i64 (j : Int)) (by kernel_rfl) (by kernel_rfl) (by kernel_rfl) (by kernel_rfl) (fun _ _ _ _ h => h) (fun o ho => ?_) hHeld ?_
          · simp only [List.getElem?_toArray, List.getElem?_cons_zero, List.getElem?_cons_succ, Option.some.injEq] at ho
            subst ho
            refine Or.inl ⟨by rfl, fun w hSw => ?_⟩
            go_simp
          simp only [Act.put, List.setIfInBounds_toArray, List.set_cons_zero, List.set_cons_succ]
          refine takeH (i := 1) (d := 133) (.slice (some ⟨gm, om, none⟩) m2.length cm2) (by kernel_rfl) (by kernel_rfl) (by kernel_rfl) (by kernel_rfl) (fun _ _ _ _ h => h) (fun o ho => ?_) hHeld ?_
          · simp only [List.getElem?_toArray, List.getElem?_cons_zero, List.getElem?_cons_succ, Option.some.injEq] at ho
            subst ho
            refine Or.inl ⟨by rfl, fun w hSw => ?_⟩
            go_simp
          simp only [Act.put, List.setIfInBounds_toArray, List.set_cons_zero, List.set_cons_succ]
          refine takeH (i := 2) (d := 134) (.int .i64 (m2.length : Int)) (by kernel_rfl) (by kernel_rfl) (by kernel_rfl) (by kernel_rfl) (fun _ _ _ _ h => h) (fun o ho => ?_) hHeld ?_
          · simp only [List.getElem?_toArray, List.getElem?_cons_zero, List.getElem?_cons_succ, Option.some.injEq] at ho
            subst ho
            refine Or.inl ⟨by rfl, fun w hSw => ?_⟩
            go_simp
          simp only [Act.put, List.setIfInBounds_toArray, List.set_cons_zero, List.set_cons_succ]
          refine takeH (i := 3) (d := 135) (.bool false) (by kernel_rfl) (by kernel_rfl) (by kernel_rfl) (by kernel_rfl) (fun _ _ _ _ h => h) (fun o ho => ?_) hHeld ?_
          · simp only [List.getElem?_toArray, List.getElem?_cons_zero, List.getElem?_cons_succ, Option.some.injEq] at ho
            subst ho
            refine Or.inl ⟨by rfl, fun w hSw => ?_⟩
            go_simp
          simp only [Act.put, List.setIfInBounds_toArray, List.set_cons_zero, List.set_cons_succ]
          refine takeH (i := 4) (d := 136) (.bool false) (by kernel_rfl) (by kernel_rfl) (by kernel_rfl) (by kernel_rfl) (fun _ _ _ _ h => h) (fun o ho => ?_) hHeld ?_
          · simp only [List.getElem?_toArray, List.getElem?_cons_zero, List.getElem?_cons_succ, Option.some.injEq] at ho
            subst ho
            refine Or.inl ⟨by rfl, fun w hSw => ?_⟩
            go_simp
          simp only [Act.put, List.setIfInBounds_toArray, List.set_cons_zero, List.set_cons_succ]
          refine takeH (i := 5) (d := 137) (.slice (some ⟨gm, om, none⟩) m2.length cm2) (by kernel_rfl) (by kernel_rfl) (by kernel_rfl) (by kernel_rfl) (fun _ _ _ _ h => h) (fun o ho => ?_) hHeld ?_
          · simp only [List.getElem?_toArray, List.getElem?_cons_zero, List.getElem?_cons_succ, Option.some.injEq] at ho
            subst ho
            refine Or.inl ⟨by rfl, fun w hSw => ?_⟩
            go_simp
          simp only [Act.put, List.setIfInBounds_toArray, List.set_cons_zero, List.set_cons_succ]
          refine takeH (i := 6) (d := 138) (.int .i64 (j : Int)) (by kernel_rfl) (by kernel_rfl) (by kernel_rfl) (by kernel_rfl) (fun _ _ _ _ h => h) (fun o ho => ?_) hHeld ?_
          · simp only [List.getElem?_toArray, List.getElem?_cons_zero, List.getElem?_cons_succ, Option.some.injEq] at ho
            subst ho
            refine Or.inl ⟨by rfl, fun w hSw => ?_⟩
            go_simp
          simp only [Act.put, List.setIfInBounds_toArray, List.set_cons_zero, List.set_cons_succ]
          refine takeH (i := 7) (d := 139) (.pointer (some ⟨gm, om + j * 4, none⟩)) (by kernel_rfl) (by kernel_rfl) (by kernel_rfl) (by kernel_rfl) (fun _ _ _ _ h => h) (fun o ho => ?_) hHeld ?_
          · simp only [List.getElem?_toArray, List.getElem?_cons_zero, List.getElem?_cons_succ, Option.some.injEq] at ho
            subst ho
            refine Or.inl ⟨by rfl, fun w hSw => ?_⟩
            go_simp
          simp only [Act.put, List.setIfInBounds_toArray, List.set_cons_zero, List.set_cons_succ]
          refine takeH (i := 8) (d := 140) (.agg #[.int .i64 1, .int .i64 (j : Int), .string ⟨#[]⟩, .slice Aq 0 cq]) (by kernel_rfl) (by kernel_rfl) (by kernel_rfl) (by kernel_rfl) (fun _ _ _ _ h => h) (fun o ho => ?_) hHeld ?_
          · simp only [List.getElem?_toArray, List.getElem?_cons_zero, List.getElem?_cons_succ, Option.some.injEq] at ho
            subst ho
            refine Or.inl ⟨by rfl, fun w hSw => ?_⟩
            have s0 := hSw.at 4 rfl
            have s1 := hSw.at 5 rfl
            have s2 := hSw.at 6 rfl
            have s3 := hSw.at 7 rfl
            go_simp
          simp only [Act.put, List.setIfInBounds_toArray, List.set_cons_zero, List.set_cons_succ]
          refine takeH (i := 9) (d := 141) (.agg #[.int .i64 1, .int .i64 (j : Int), .string ⟨#[]⟩, .slice none 0 0]) (by kernel_rfl) (by kernel_rfl) (by kernel_rfl) (by kernel_rfl) (fun _ _ _ _ h => h) (fun o ho => ?_) hHeld ?_
          · simp only [List.getElem?_toArray, List.getElem?_cons_zero, List.getElem?_cons_succ, Option.some.injEq] at ho
            subst ho
            refine Or.inl ⟨by rfl, fun w hSw => ?_⟩
            have s0 := hSw.at 0 rfl
            have s1 := hSw.at 1 rfl
            have s2 := hSw.at 2 rfl
            have s3 := hSw.at 3 rfl
            go_simp
          simp only [Act.put, List.setIfInBounds_toArray, List.set_cons_zero, List.set_cons_succ]
          refine stepH (i := 10) (by kernel_rfl) (by kernel_rfl) (fun o ho K2 hK => ?_)
          simp only [List.getElem?_toArray, List.getElem?_cons_zero, List.getElem?_cons_succ, Option.some.injEq] at ho
          subst ho
          go_simp
          refine (Hcall.out _ hHeld.1).mono ?_
          rintro e wx ⟨rfl, hb⟩
          dsimp only
          refine hK.out _ _ (hHeld.below hb) (fun hHeld => ?_)
          clear hK K2 hb
          try simp only [Act.put, List.setIfInBounds_toArray, List.set_cons_zero, List.set_cons_succ]
          refine takeH (i := 11) (d := 143) (.bool false) (by kernel_rfl) (by kernel_rfl) (by kernel_rfl) (by kernel_rfl) (fun _ _ _ _ h => h) (fun o ho => ?_) hHeld ?_
          · simp only [List.getElem?_toArray, List.getElem?_cons_zero, List.getElem?_cons_succ, Option.some.injEq] at ho
            subst ho
            refine Or.inl ⟨by rfl, fun w hSw => ?_⟩
            go_simp
          simp only [Act.put, List.setIfInBounds_toArray, List.set_cons_zero, List.set_cons_succ]
          refine takeH (i := 12) (d := 144) (.bool false) (by kernel_rfl) (by kernel_rfl) (by kernel_rfl) (by kernel_rfl) (fun _ _ _ _ h => h) (fun o ho => ?_) hHeld ?_
          · simp only [List.getElem?_toArray, List.getElem?_cons_zero, List.getElem?_cons_succ, Option.some.injEq] at ho
            subst ho
            refine Or.inl ⟨by rfl, fun w hSw => ?_⟩
            go_simp
          simp only [Act.put, List.setIfInBounds_toArray, List.set_cons_zero, List.set_cons_succ]
          refine wpAnyH_done (by kernel_rfl) ?_ _
          refine NoPanic.normal ?_
          have HL9 := Lib.hid (HL2.out.trans (hHeld.1.out.mono HL2.out.size)); clear hHeld k0 k1 k2 k3 m0 m1 m2_ m3
          go_wp2
          go_roundw
          case rel => exact ⟨k + 1, by omega, by go_num, HL9⟩
          case measure => simp [intOf]; omega
        have d1 : decide ((j : Int) < (s.length : Int)) = true := decide_eq_true (by omega)
        obtain ⟨y, hy⟩ : ∃ y, s[j]? = some y := ⟨_, List.getElem?_eq_getElem hj⟩
        have hsg := sgL_at hy
        obtain ⟨gs, os, Ay, cy, hAs, -, ⟨e0, e1, e2, e3⟩, sy, hyc⟩ := (HsL.out.stay HL2.out (Nat.le_refl _)).at_ hy
        have hcall := refFree_calls y _ U2 _ ⟨Ay, cy, rfl, sy, hyc⟩
        obtain ⟨f, hf⟩ : ∃ f, f = freeB y := ⟨_, rfl⟩
        rw [← hf] at hcall hsg
        have Hcall := Lib.hid hcall; have Hyc := Lib.hid hyc; have Hsg := Lib.hid hsg; clear hcall hyc hf hsg hy
        subst hAs
        go_wp2_with fail
        refine Hcall.out.mono ?_
        rintro e u3 ⟨rfl, hb⟩
        have HL3 := Lib.hid (HL2.out.trans (hb.mono HL2.out.size)); have HB23 := Lib.hid (show Below wV.heap.size U2 u3 from hb.mono HL2.out.size); have HK3 := Lib.hid (HK.out.below hb HK.out.lt)
        replace e0 := keep_cell hb e0; replace e1 := keep_cell hb e1; replace e2 := keep_cell hb e2; replace e3 := keep_cell hb e3
        clear hb Hcall HK HL2
        cases f
        case true =>
          have hz := Hmj.out; rw [Hsg.out, if_pos rfl] at hz
          clear Hmj Hsg e0 e1 e2 e3
          have HK := HK3; clear HK3
          go_upto_region 27 with (fail)
          obtain ⟨gm, om, Aq, cq, hAm, -, ⟨m0, m1, m2_, m3⟩, sq, hqc⟩ := (HmL.out.stay HL3.out (Nat.le_refl _)).at_ hz
          have hjm : j < m2.length := (List.getElem?_eq_some_iff.1 hz).1
          have hcall := fun (W : World) (hb : Hid (Below u3.heap.size u3 W)) => refSame_calls (Tm.va j) _ _ W _ _ (Tm.va j) ⟨Aq, cq, rfl, sq, hqc.stay hb.out (Nat.le_refl _)⟩ (TmV.va (fun _ => True) _ _)
          simp only [sameB_refl] at hcall
          simp only [vV] at hcall
          have Hcall := Lib.hid hcall; clear hcall hz
          obtain ⟨⟨k0, k1, k2, k3⟩, -⟩ := HK.out.four
          have d2 : decide ((m2.length : Int) ≤ (j : Int)) = false := decide_eq_false (by omega)
          subst hAm
          simp only [va_k, va_n, va_s, va_l, List.length_nil] at m0 m1 m2_ m3 sq Hcall
          have d3 : decide (m2.length ≤ j) = false := decide_eq_false (by omega)
          have hj0 : (0 : Int) ≤ (j : Int) := by omega
          have hj1 : (j : Int) < (m2.length : Int) := by omega
          go_wp2_with fail
          refine wp_region_noPanic ?_
          refine wp_region_held_drew (S := SW u3 [(⟨u1.heap.size, 0, none⟩, .int .i64 1), (⟨u1.heap.size, 1, none⟩, .int .i64 (j : Int)), (⟨u1.heap.size, 2, none⟩, .string ⟨#[]⟩), (⟨u1.heap.size, 3, none⟩, .slice none 0 0), (⟨gm, om + j * 4, none⟩, .int .i64 1), (⟨gm, om + j * 4 + 1, none⟩, .int .i64 (j : Int)), (⟨gm, om + j * 4 + 2, none⟩, .string ⟨#[]⟩), (⟨gm, om + j * 4 + 3, none⟩, .slice Aq 0 cq)]) (by kernel_rfl) ?_ (fun hHeld => ?_)
          · exact SW.start (fun p hp => by simp only [List.mem_cons, List.not_mem_nil, or_false] at hp; rcases hp with rfl | rfl | rfl | rfl | rfl | rfl | rfl | rfl <;> assumption)
          refine takeH (i := 0) (d := 132) (.int .i64 (j : Int)) (by kernel_rfl) (by kernel_rfl) (by kernel_rfl) (by kernel_rfl) (fun _ _ _ _ h => h) (fun o ho => ?_) hHeld ?_
          · simp only [List.getElem?_toArray, List.getElem?_cons_zero, List.getElem?_cons_succ, Option.some.injEq] at ho
            subst ho
            refine Or.inl ⟨by rfl, fun w hSw => ?_⟩
            go_simp
          simp only [Act.put, List.setIfInBounds_toArray, List.set_cons_zero, List.set_cons_succ]
          refine takeH (i := 1) (d := 133) (.slice (some ⟨gm, om, none⟩) m2.length cm2) (by kernel_rfl) (by kernel_rfl) (by kernel_rfl) (by kernel_rfl) (fun _ _ _ _ h => h) (fun o ho => ?_) hHeld ?_
          · simp only [List.getElem?_toArray, List.getElem?_cons_zero, List.getElem?_cons_succ, Option.some.injEq] at ho
            subst ho
            refine Or.inl ⟨by rfl, fun w hSw => ?_⟩
            go_simp
          simp only [Act.put, List.setIfInBounds_toArray, List.set_cons_zero, List.set_cons_succ]
          refine takeH (i := 2) (d := 134) (.int .i64 (m2.length : Int)) (by kernel_rfl) (by kernel_rfl) (by kernel_rfl) (by kernel_rfl) (fun _ _ _ _ h => h) (fun o ho => ?_) hHeld ?_
          · simp only [List.getElem?_toArray, List.getElem?_cons_zero, List.getElem?_cons_succ, Option.some.injEq] at ho
            subst ho
            refine Or.inl ⟨by rfl, fun w hSw => ?_⟩
            go_simp
          simp only [Act.put, List.setIfInBounds_toArray, List.set_cons_zero, List.set_cons_succ]
          refine takeH (i := 3) (d := 135) (.bool false) (by kernel_rfl) (by kernel_rfl) (by kernel_rfl) (by kernel_rfl) (fun _ _ _ _ h => h) (fun o ho => ?_) hHeld ?_
          · simp only [List.getElem?_toArray, List.getElem?_cons_zero, List.getElem?_cons_succ, Option.some.injEq] at ho
            subst ho
            refine Or.inl ⟨by rfl, fun w hSw => ?_⟩
            go_simp
          simp only [Act.put, List.setIfInBounds_toArray, List.set_cons_zero, List.set_cons_succ]
          refine takeH (i := 4) (d := 136) (.bool false) (by kernel_rfl) (by kernel_rfl) (by kernel_rfl) (by kernel_rfl) (fun _ _ _ _ h => h) (fun o ho => ?_) hHeld ?_
          · simp only [List.getElem?_toArray, List.getElem?_cons_zero, List.getElem?_cons_succ, Option.some.injEq] at ho
            subst ho
            refine Or.inl ⟨by rfl, fun w hSw => ?_⟩
            go_simp
          simp only [Act.put, List.setIfInBounds_toArray, List.set_cons_zero, List.set_cons_succ]
          refine takeH (i := 5) (d := 137) (.slice (some ⟨gm, om, none⟩) m2.length cm2) (by kernel_rfl) (by kernel_rfl) (by kernel_rfl) (by kernel_rfl) (fun _ _ _ _ h => h) (fun o ho => ?_) hHeld ?_
          · simp only [List.getElem?_toArray, List.getElem?_cons_zero, List.getElem?_cons_succ, Option.some.injEq] at ho
            subst ho
            refine Or.inl ⟨by rfl, fun w hSw => ?_⟩
            go_simp
          simp only [Act.put, List.setIfInBounds_toArray, List.set_cons_zero, List.set_cons_succ]
          refine takeH (i := 6) (d := 138) (.int .i64 (j : Int)) (by kernel_rfl) (by kernel_rfl) (by kernel_rfl) (by kernel_rfl) (fun _ _ _ _ h => h) (fun o ho => ?_) hHeld ?_
          · simp only [List.getElem?_toArray, List.getElem?_cons_zero, List.getElem?_cons_succ, Option.some.injEq] at ho
            subst ho
            refine Or.inl ⟨by rfl, fun w hSw => ?_⟩
            go_simp
          simp only [Act.put, List.setIfInBounds_toArray, List.set_cons_zero, List.set_cons_succ]
          refine takeH (i := 7) (d := 139) (.pointer (some ⟨gm, om + j * 4, none⟩)) (by kernel_rfl) (by kernel_rfl) (by kernel_rfl) (by kernel_rfl) (fun _ _ _ _ h => h) (fun o ho => ?_) hHeld ?_
          · simp only [List.getElem?_toArray, List.getElem?_cons_zero, List.getElem?_cons_succ, Option.some.injEq] at ho
            subst ho
            refine Or.inl ⟨by rfl, fun w hSw => ?_⟩
            go_simp
          simp only [Act.put, List.setIfInBounds_toArray, List.set_cons_zero, List.set_cons_succ]
          refine takeH (i := 8) (d := 140) (.agg #[.int .i64 1, .int .i64 (j : Int), .string ⟨#[]⟩, .slice Aq 0 cq]) (by kernel_rfl) (by kernel_rfl) (by kernel_rfl) (by kernel_rfl) (fun _ _ _ _ h => h) (fun o ho => ?_) hHeld ?_
          · simp only [List.getElem?_toArray, List.getElem?_cons_zero, List.getElem?_cons_succ, Option.some.injEq] at ho
            subst ho
            refine Or.inl ⟨by rfl, fun w hSw => ?_⟩
            have s0 := hSw.at 4 rfl
            have s1 := hSw.at 5 rfl
            have s2 := hSw.at 6 rfl
            have s3 := hSw.at 7 rfl
            go_simp
          simp only [Act.put, List.setIfInBounds_toArray, List.set_cons_zero, List.set_cons_succ]
          refine takeH (i := 9) (d := 141) (.agg #[.int .i64 1, .int .i64 (j : Int), .string ⟨#[]⟩, .slice none 0 0]) (by kernel_rfl) (by kernel_rfl) (by kernel_rfl) (by kernel_rfl) (fun _ _ _ _ h => h) (fun o ho => ?_) hHeld ?_
          · simp only [List.getElem?_toArray, List.getElem?_cons_zero, List.getElem?_cons_succ, Option.some.injEq] at ho
            subst ho
            refine Or.inl ⟨by rfl, fun w hSw => ?_⟩
            have s0 := hSw.at 0 rfl
            have s1 := hSw.at 1 rfl
            have s2 := hSw.at 2 rfl
            have s3 := hSw.at 3 rfl
            go_simp
          simp only [Act.put, List.setIfInBounds_toArray, List.set_cons_zero, List.set_cons_succ]
          refine stepH (i := 10) (by kernel_rfl) (by kernel_rfl) (fun o ho K2 hK => ?_)
          simp only [List.getElem?_toArray, List.getElem?_cons_zero, List.getElem?_cons_succ, Option.some.injEq] at ho
          subst ho
          go_simp
          refine (Hcall.out _ hHeld.1).mono ?_
          rintro e wx ⟨rfl, hb⟩
          dsimp only
          refine hK.out _ _ (hHeld.below hb) (fun hHeld => ?_)
          clear hK K2 hb
          try simp only [Act.put, List.setIfInBounds_toArray, List.set_cons_zero, List.set_cons_succ]
          refine takeH (i := 11) (d := 143) (.bool false) (by kernel_rfl) (by kernel_rfl) (by kernel_rfl) (by kernel_rfl) (fun _ _ _ _ h => h) (fun o ho => ?_) hHeld ?_
          · simp only [List.getElem?_toArray, List.getElem?_cons_zero, List.getElem?_cons_succ, Option.some.injEq] at ho
            subst ho
            refine Or.inl ⟨by rfl, fun w hSw => ?_⟩
            go_simp
          simp only [Act.put, List.setIfInBounds_toArray, List.set_cons_zero, List.set_cons_succ]
          refine takeH (i := 12) (d := 144) (.bool false) (by kernel_rfl) (by kernel_rfl) (by kernel_rfl) (by kernel_rfl) (fun _ _ _ _ h => h) (fun o ho => ?_) hHeld ?_
          · simp only [List.getElem?_toArray, List.getElem?_cons_zero, List.getElem?_cons_succ, Option.some.injEq] at ho
            subst ho
            refine Or.inl ⟨by rfl, fun w hSw => ?_⟩
            go_simp
          simp only [Act.put, List.setIfInBounds_toArray, List.set_cons_zero, List.set_cons_succ]
          refine wpAnyH_done (by kernel_rfl) ?_ _
          refine NoPanic.normal ?_
          have HL9 := Lib.hid (HL3.out.trans (hHeld.1.out.mono HL3.out.size)); clear hHeld k0 k1 k2 k3 m0 m1 m2_ m3
          go_wp2
          go_roundw
          case rel => exact ⟨k + 1, by omega, by go_num, HL9⟩
          case measure => simp [intOf]; omega
        have hz := Hmj.out; rw [Hsg.out, if_neg (by simp)] at hz
        clear Hmj Hsg
        obtain ⟨U4, hU4⟩ : ∃ U, U = (((u3.setCell ⟨u1.heap.size, 0, none⟩ (.int .i64 y.k)).setCell ⟨u1.heap.size, 1, none⟩ (.int .i64 y.n)).setCell ⟨u1.heap.size, 2, none⟩ (.string y.s)).setCell ⟨u1.heap.size, 3, none⟩ (.slice Ay y.l.length cy) := ⟨_, rfl⟩
        have HK := Lib.hid (show Blk U4 u1.heap.size 25 #[.int .i64 y.k, .int .i64 y.n, .string y.s, .slice Ay y.l.length cy] from by rw [hU4]; exact set4_at u3 u1.heap.size _ 25 HK3.out rfl _ _ _ _)
        have hus := HUS.out
        have HL4 := Lib.hid (show Below wV.heap.size wV U4 from by rw [hU4]; exact (((HL3.out.setCell (p := ⟨u1.heap.size, 0, none⟩) hus _).setCell (p := ⟨u1.heap.size, 1, none⟩) hus _).setCell (p := ⟨u1.heap.size, 2, none⟩) hus _).setCell (p := ⟨u1.heap.size, 3, none⟩) hus _)
        obtain ⟨⟨k0, k1, k2, k3⟩, ⟨f0, f1, f2, f3⟩⟩ := HK3.out.four; have kl := HK3.out.lt
        have HyT := Lib.hid ((Hyc.out.belowP (show Below wV.heap.size U2 U4 from by rw [hU4]; exact (((HB23.out.setCell (p := ⟨u1.heap.size, 0, none⟩) hus _).setCell (p := ⟨u1.heap.size, 1, none⟩) hus _).setCell (p := ⟨u1.heap.size, 2, none⟩) hus _).setCell (p := ⟨u1.heap.size, 3, none⟩) hus _) (fun g hg => hg)).mono (Q := fun _ => True) (fun _ _ => trivial)); clear Hyc HB23
        have HU4 := Lib.hid hU4; clear hU4 HK3 HL3 hus
        go_upto_region 27 with (fail)
        rw [← HU4.out]
        clear HU4 k0 k1 k2 k3 f0 f1 f2 f3 kl e0 e1 e2 e3
        obtain ⟨gm, om, Aq, cq, hAm, -, ⟨m0, m1, m2_, m3⟩, sq, hqc⟩ := (HmL.out.stay HL4.out (Nat.le_refl _)).at_ hz
        have hjm : j < m2.length := (List.getElem?_eq_some_iff.1 hz).1
        have hcall := fun (W : World) (hb : Hid (Below U4.heap.size U4 W)) => refSame_calls y _ _ W _ _ y ⟨Aq, cq, rfl, sq, hqc.stay hb.out (Nat.le_refl _)⟩ ⟨Ay, cy, rfl, sy, HyT.out.stay hb.out (Nat.le_refl _)⟩
        simp only [sameB_refl] at hcall
        have Hcall := Lib.hid hcall; clear hcall hz
        obtain ⟨⟨k0, k1, k2, k3⟩, -⟩ := HK.out.four
        have d2 : decide ((m2.length : Int) ≤ (j : Int)) = false := decide_eq_false (by omega)
        subst hAm
        have d3 : decide (m2.length ≤ j) = false := decide_eq_false (by omega)
        have hj0 : (0 : Int) ≤ (j : Int) := by omega
        have hj1 : (j : Int) < (m2.length : Int) := by omega
        go_wp2_with fail
        refine wp_region_noPanic ?_
        refine wp_region_held_drew (S := SW U4 [(⟨u1.heap.size, 0, none⟩, .int .i64 y.k), (⟨u1.heap.size, 1, none⟩, .int .i64 y.n), (⟨u1.heap.size, 2, none⟩, .string y.s), (⟨u1.heap.size, 3, none⟩, .slice Ay y.l.length cy), (⟨gm, om + j * 4, none⟩, .int .i64 y.k), (⟨gm, om + j * 4 + 1, none⟩, .int .i64 y.n), (⟨gm, om + j * 4 + 2, none⟩, .string y.s), (⟨gm, om + j * 4 + 3, none⟩, .slice Aq y.l.length cq)]) (by kernel_rfl) ?_ (fun hHeld => ?_)
        · exact SW.start (fun p hp => by simp only [List.mem_cons, List.not_mem_nil, or_false] at hp; rcases hp with rfl | rfl | rfl | rfl | rfl | rfl | rfl | rfl <;> assumption)
        refine takeH (i := 0) (d := 132) (.int .i64 (j : Int)) (by kernel_rfl) (by kernel_rfl) (by kernel_rfl) (by kernel_rfl) (fun _ _ _ _ h => h) (fun o ho => ?_) hHeld ?_
        · simp only [List.getElem?_toArray, List.getElem?_cons_zero, List.getElem?_cons_succ, Option.some.injEq] at ho
          subst ho
          refine Or.inl ⟨by rfl, fun w hSw => ?_⟩
          go_simp
        simp only [Act.put, List.setIfInBounds_toArray, List.set_cons_zero, List.set_cons_succ]
        refine takeH (i := 1) (d := 133) (.slice (some ⟨gm, om, none⟩) m2.length cm2) (by kernel_rfl) (by kernel_rfl) (by kernel_rfl) (by kernel_rfl) (fun _ _ _ _ h => h) (fun o ho => ?_) hHeld ?_
        · simp only [List.getElem?_toArray, List.getElem?_cons_zero, List.getElem?_cons_succ, Option.some.injEq] at ho
          subst ho
          refine Or.inl ⟨by rfl, fun w hSw => ?_⟩
          go_simp
        simp only [Act.put, List.setIfInBounds_toArray, List.set_cons_zero, List.set_cons_succ]
        refine takeH (i := 2) (d := 134) (.int .i64 (m2.length : Int)) (by kernel_rfl) (by kernel_rfl) (by kernel_rfl) (by kernel_rfl) (fun _ _ _ _ h => h) (fun o ho => ?_) hHeld ?_
        · simp only [List.getElem?_toArray, List.getElem?_cons_zero, List.getElem?_cons_succ, Option.some.injEq] at ho
          subst ho
          refine Or.inl ⟨by rfl, fun w hSw => ?_⟩
          go_simp
        simp only [Act.put, List.setIfInBounds_toArray, List.set_cons_zero, List.set_cons_succ]
        refine takeH (i := 3) (d := 135) (.bool false) (by kernel_rfl) (by kernel_rfl) (by kernel_rfl) (by kernel_rfl) (fun _ _ _ _ h => h) (fun o ho => ?_) hHeld ?_
        · simp only [List.getElem?_toArray, List.getElem?_cons_zero, List.getElem?_cons_succ, Option.some.injEq] at ho
          subst ho
          refine Or.inl ⟨by rfl, fun w hSw => ?_⟩
          go_simp
        simp only [Act.put, List.setIfInBounds_toArray, List.set_cons_zero, List.set_cons_succ]
        refine takeH (i := 4) (d := 136) (.bool false) (by kernel_rfl) (by kernel_rfl) (by kernel_rfl) (by kernel_rfl) (fun _ _ _ _ h => h) (fun o ho => ?_) hHeld ?_
        · simp only [List.getElem?_toArray, List.getElem?_cons_zero, List.getElem?_cons_succ, Option.some.injEq] at ho
          subst ho
          refine Or.inl ⟨by rfl, fun w hSw => ?_⟩
          go_simp
        simp only [Act.put, List.setIfInBounds_toArray, List.set_cons_zero, List.set_cons_succ]
        refine takeH (i := 5) (d := 137) (.slice (some ⟨gm, om, none⟩) m2.length cm2) (by kernel_rfl) (by kernel_rfl) (by kernel_rfl) (by kernel_rfl) (fun _ _ _ _ h => h) (fun o ho => ?_) hHeld ?_
        · simp only [List.getElem?_toArray, List.getElem?_cons_zero, List.getElem?_cons_succ, Option.some.injEq] at ho
          subst ho
          refine Or.inl ⟨by rfl, fun w hSw => ?_⟩
          go_simp
        simp only [Act.put, List.setIfInBounds_toArray, List.set_cons_zero, List.set_cons_succ]
        refine takeH (i := 6) (d := 138) (.int .i64 (j : Int)) (by kernel_rfl) (by kernel_rfl) (by kernel_rfl) (by kernel_rfl) (fun _ _ _ _ h => h) (fun o ho => ?_) hHeld ?_
        · simp only [List.getElem?_toArray, List.getElem?_cons_zero, List.getElem?_cons_succ, Option.some.injEq] at ho
          subst ho
          refine Or.inl ⟨by rfl, fun w hSw => ?_⟩
          go_simp
        simp only [Act.put, List.setIfInBounds_toArray, List.set_cons_zero, List.set_cons_succ]
        refine takeH (i := 7) (d := 139) (.pointer (some ⟨gm, om + j * 4, none⟩)) (by kernel_rfl) (by kernel_rfl) (by kernel_rfl) (by kernel_rfl) (fun _ _ _ _ h => h) (fun o ho => ?_) hHeld ?_
        · simp only [List.getElem?_toArray, List.getElem?_cons_zero, List.getElem?_cons_succ, Option.some.injEq] at ho
          subst ho
          refine Or.inl ⟨by rfl, fun w hSw => ?_⟩
          go_simp
        simp only [Act.put, List.setIfInBounds_toArray, List.set_cons_zero, List.set_cons_succ]
        refine takeH (i := 8) (d := 140) (.agg #[.int .i64 y.k, .int .i64 y.n, .string y.s, .slice Aq y.l.length cq]) (by kernel_rfl) (by kernel_rfl) (by kernel_rfl) (by kernel_rfl) (fun _ _ _ _ h => h) (fun o ho => ?_) hHeld ?_
        · simp only [List.getElem?_toArray, List.getElem?_cons_zero, List.getElem?_cons_succ, Option.some.injEq] at ho
          subst ho
          refine Or.inl ⟨by rfl, fun w hSw => ?_⟩
          have s0 := hSw.at 4 rfl
          have s1 := hSw.at 5 rfl
          have s2 := hSw.at 6 rfl
          have s3 := hSw.at 7 rfl
          go_simp
        simp only [Act.put, List.setIfInBounds_toArray, List.set_cons_zero, List.set_cons_succ]
        refine takeH (i := 9) (d := 141) (.agg #[.int .i64 y.k, .int .i64 y.n, .string y.s, .slice Ay y.l.length cy]) (by kernel_rfl) (by kernel_rfl) (by kernel_rfl) (by kernel_rfl) (fun _ _ _ _ h => h) (fun o ho => ?_) hHeld ?_
        · simp only [List.getElem?_toArray, List.getElem?_cons_zero, List.getElem?_cons_succ, Option.some.injEq] at ho
          subst ho
          refine Or.inl ⟨by rfl, fun w hSw => ?_⟩
          have s0 := hSw.at 0 rfl
          have s1 := hSw.at 1 rfl
          have s2 := hSw.at 2 rfl
          have s3 := hSw.at 3 rfl
          go_simp
        simp only [Act.put, List.setIfInBounds_toArray, List.set_cons_zero, List.set_cons_succ]
        refine stepH (i := 10) (by kernel_rfl) (by kernel_rfl) (fun o ho K2 hK => ?_)
        simp only [List.getElem?_toArray, List.getElem?_cons_zero, List.getElem?_cons_succ, Option.some.injEq] at ho
        subst ho
        go_simp
        refine (Hcall.out _ hHeld.1).mono ?_
        rintro e wx ⟨rfl, hb⟩
        dsimp only
        refine hK.out _ _ (hHeld.below hb) (fun hHeld => ?_)
        clear hK K2 hb
        try simp only [Act.put, List.setIfInBounds_toArray, List.set_cons_zero, List.set_cons_succ]
        refine takeH (i := 11) (d := 143) (.bool false) (by kernel_rfl) (by kernel_rfl) (by kernel_rfl) (by kernel_rfl) (fun _ _ _ _ h => h) (fun o ho => ?_) hHeld ?_
        · simp only [List.getElem?_toArray, List.getElem?_cons_zero, List.getElem?_cons_succ, Option.some.injEq] at ho
          subst ho
          refine Or.inl ⟨by rfl, fun w hSw => ?_⟩
          go_simp
        simp only [Act.put, List.setIfInBounds_toArray, List.set_cons_zero, List.set_cons_succ]
        refine takeH (i := 12) (d := 144) (.bool false) (by kernel_rfl) (by kernel_rfl) (by kernel_rfl) (by kernel_rfl) (fun _ _ _ _ h => h) (fun o ho => ?_) hHeld ?_
        · simp only [List.getElem?_toArray, List.getElem?_cons_zero, List.getElem?_cons_succ, Option.some.injEq] at ho
          subst ho
          refine Or.inl ⟨by rfl, fun w hSw => ?_⟩
          go_simp
        simp only [Act.put, List.setIfInBounds_toArray, List.set_cons_zero, List.set_cons_succ]
        refine wpAnyH_done (by kernel_rfl) ?_ _
        refine NoPanic.normal ?_
        have HL9 := Lib.hid (HL4.out.trans (hHeld.1.out.mono HL4.out.size)); clear hHeld k0 k1 k2 k3 m0 m1 m2_ m3
        go_wp2
        go_roundw
        case rel => exact ⟨k + 1, by omega, by go_num, HL9⟩
        case measure => simp [intOf]; omega
  | some m =>
    obtain ⟨⟨bp0, bp1, bp2, bp3⟩, -⟩ := Hbp.out.four
    have bpl := Hbp.out.lt
    obtain ⟨⟨bt0, bt1, bt2, bt3⟩, -⟩ := Hbt.out.four
    have btl := Hbt.out.lt
    go_wp2_with fail
    refine (Hm.out _ _ _ ⟨Ap, cp, rfl, sp, Hpc.out⟩ ⟨At, ct, rfl, st, Htc.out⟩).mono ?_
    rintro e w6 ⟨Am, cm, rfl, hmc, hb⟩
    clear bp0 bp1 bp2 bp3 bpl bt0 bt1 bt2 bt3 btl
    replace HB := Lib.hid (HB.out.trans (hb.mono HB.out.size))
    replace Hbp := Lib.hid (Hbp.out.below hb Hbp.out.lt)
    replace Hbt := Lib.hid (Hbt.out.below hb Hbt.out.lt)
    replace Hpc := Lib.hid (Hpc.out.stay hb (Nat.le_refl _))
    replace Hsc := Lib.hid (Hsc.out.stay hb (Nat.le_refl _))
    replace Htc := Lib.hid (Htc.out.stay hb (Nat.le_refl _))
    clear hb
    replace hmc : TmC (fun _ => True) w6 Am cm m := hmc
    have hcall := subst_ok _ _ w6 _ Am cm ⟨Ap, cp, rfl, sp, Hpc.out⟩ hmc (Hbk.out m rfl)
    have Hcall := Lib.hid hcall; clear hcall hmc
    rw [show (some m).isSome = true from rfl, show (some m).getD [] = m from rfl]
    obtain ⟨⟨bp0, bp1, bp2, bp3⟩, -⟩ := Hbp.out.four
    have bpl := Hbp.out.lt
    obtain ⟨⟨bt0, bt1, bt2, bt3⟩, -⟩ := Hbt.out.four
    have btl := Hbt.out.lt
    go_wp2_with fail
    refine Hcall.out.mono ?_
    rintro e w7 ⟨Att, ctt, rfl, stt, httc, hb⟩
    clear bp0 bp1 bp2 bp3 bpl bt0 bt1 bt2 bt3 btl
    replace HB := Lib.hid (HB.out.trans (hb.mono HB.out.size))
    replace Hbp := Lib.hid (Hbp.out.below hb Hbp.out.lt)
    replace Hbt := Lib.hid (Hbt.out.below hb Hbt.out.lt)
    replace Hpc := Lib.hid (Hpc.out.stay hb (Nat.le_refl _))
    replace Hsc := Lib.hid (Hsc.out.stay hb (Nat.le_refl _))
    replace Htc := Lib.hid (Htc.out.stay hb (Nat.le_refl _))
    clear hb Hcall
    have Httc := Lib.hid httc; clear httc
    obtain ⟨V7, hV7⟩ : ∃ V, V = w7.alloc (.cells #[.int .i64 t.k, .int .i64 t.n, .string t.s, .slice Att t.l.length ctt] 25) := ⟨_, rfl⟩
    have hb : Below w7.heap.size w7 V7 := by rw [hV7]; exact (Below.refl _ _).alloc (Nat.le_refl _) _
    have Hbtt := Lib.hid (show Blk V7 w7.heap.size 25 #[.int .i64 t.k, .int .i64 t.n, .string t.s, .slice Att t.l.length ctt] from by rw [hV7]; exact Blk.new _ _ _)
    replace HB := Lib.hid (HB.out.trans (hb.mono HB.out.size))
    replace Hbp := Lib.hid (Hbp.out.below hb Hbp.out.lt)
    replace Hbt := Lib.hid (Hbt.out.below hb Hbt.out.lt)
    replace Hpc := Lib.hid (Hpc.out.stay hb (Nat.le_refl _))
    replace Hsc := Lib.hid (Hsc.out.stay hb (Nat.le_refl _))
    replace Htc := Lib.hid (Htc.out.stay hb (Nat.le_refl _))
    replace Httc := Lib.hid (Httc.out.stay hb (Nat.le_refl _))
    clear hb; have HV7 := Lib.hid hV7; clear hV7
    go_upto_region 12 with (fail)
    rw [← HV7.out]
    clear HV7
    have hcall := refSame_calls t _ _ V7 _ _ t ⟨Att, ctt, rfl, stt, Httc.out⟩ ⟨At, ct, rfl, st, Htc.out⟩
    rw [sameB_refl] at hcall
    have Hcall := Lib.hid hcall; clear hcall
    obtain ⟨⟨bp0, bp1, bp2, bp3⟩, -⟩ := Hbp.out.four
    have bpl := Hbp.out.lt
    obtain ⟨⟨bt0, bt1, bt2, bt3⟩, -⟩ := Hbt.out.four
    have btl := Hbt.out.lt
    obtain ⟨⟨btt0, btt1, btt2, btt3⟩, -⟩ := Hbtt.out.four
    have bttl := Hbtt.out.lt
    go_wp2_with fail
    refine (Hcall.out).mono ?_
    rintro e w22 ⟨rfl, hb⟩
    clear bp0 bp1 bp2 bp3 bpl bt0 bt1 bt2 bt3 btl btt0 btt1 btt2 btt3 bttl
    replace HB := Lib.hid (HB.out.trans (hb.mono HB.out.size))
    replace Hbp := Lib.hid (Hbp.out.below hb Hbp.out.lt)
    replace Hbt := Lib.hid (Hbt.out.below hb Hbt.out.lt)
    replace Hbtt := Lib.hid (Hbtt.out.below hb Hbtt.out.lt)
    replace Hpc := Lib.hid (Hpc.out.stay hb (Nat.le_refl _))
    replace Hsc := Lib.hid (Hsc.out.stay hb (Nat.le_refl _))
    replace Htc := Lib.hid (Htc.out.stay hb (Nat.le_refl _))
    replace Httc := Lib.hid (Httc.out.stay hb (Nat.le_refl _))
    clear hb
    clear Hcall
    obtain ⟨X, hX⟩ : ∃ X, X = substR p s := ⟨_, rfl⟩
    cases X with
    | none =>
      have hcall := subst_err _ _ w22 _ As cs ⟨Ap, cp, rfl, sp, Hpc.out⟩ Hsc.out hX.symm (subst_errE Ip.out Is.out)
      have Hcall := Lib.hid hcall; clear hcall hX
      obtain ⟨⟨bp0, bp1, bp2, bp3⟩, -⟩ := Hbp.out.four
      have bpl := Hbp.out.lt
      obtain ⟨⟨bt0, bt1, bt2, bt3⟩, -⟩ := Hbt.out.four
      have btl := Hbt.out.lt
      obtain ⟨⟨btt0, btt1, btt2, btt3⟩, -⟩ := Hbtt.out.four
      have bttl := Hbtt.out.lt
      go_wp2_with fail
      refine Hcall.out.mono ?_
      rintro e w30 ⟨A0, c0, rfl, -, -, hb⟩
      clear bp0 bp1 bp2 bp3 bpl bt0 bt1 bt2 bt3 btl btt0 btt1 btt2 btt3 bttl
      replace HB := Lib.hid (HB.out.trans (hb.mono HB.out.size))
      replace Hbp := Lib.hid (Hbp.out.below hb Hbp.out.lt)
      replace Hbt := Lib.hid (Hbt.out.below hb Hbt.out.lt)
      replace Hbtt := Lib.hid (Hbtt.out.below hb Hbtt.out.lt)
      replace Hpc := Lib.hid (Hpc.out.stay hb (Nat.le_refl _))
      replace Hsc := Lib.hid (Hsc.out.stay hb (Nat.le_refl _))
      replace Htc := Lib.hid (Htc.out.stay hb (Nat.le_refl _))
      replace Httc := Lib.hid (Httc.out.stay hb (Nat.le_refl _))
      clear hb Hcall
      go_wp2
      go_ret
      exact ⟨rfl, HB.out.alloc HB.out.size _⟩
    | some x =>
      obtain ⟨ix, m2, hm2, hvars⟩ := match_inst Ip.out Is.out hX.symm
      have Ix := Lib.hid ix; have Hm2 := Lib.hid hm2; have Hvars := Lib.hid hvars; clear ix hm2 hvars
      have hcall := subst_ok _ _ w22 _ As cs ⟨Ap, cp, rfl, sp, Hpc.out⟩ Hsc.out hX.symm
      have Hcall := Lib.hid hcall; clear hcall hX
      obtain ⟨⟨bp0, bp1, bp2, bp3⟩, -⟩ := Hbp.out.four
      have bpl := Hbp.out.lt
      obtain ⟨⟨bt0, bt1, bt2, bt3⟩, -⟩ := Hbt.out.four
      have btl := Hbt.out.lt
      obtain ⟨⟨btt0, btt1, btt2, btt3⟩, -⟩ := Hbtt.out.four
      have bttl := Hbtt.out.lt
      go_wp2_with fail
      refine (Hcall.out).mono ?_
      rintro e w32 ⟨Ax, cx, rfl, sx, hxc, hb⟩
      clear bp0 bp1 bp2 bp3 bpl bt0 bt1 bt2 bt3 btl btt0 btt1 btt2 btt3 bttl
      replace HB := Lib.hid (HB.out.trans (hb.mono HB.out.size))
      replace Hbp := Lib.hid (Hbp.out.below hb Hbp.out.lt)
      replace Hbt := Lib.hid (Hbt.out.below hb Hbt.out.lt)
      replace Hbtt := Lib.hid (Hbtt.out.below hb Hbtt.out.lt)
      replace Hpc := Lib.hid (Hpc.out.stay hb (Nat.le_refl _))
      replace Hsc := Lib.hid (Hsc.out.stay hb (Nat.le_refl _))
      replace Htc := Lib.hid (Htc.out.stay hb (Nat.le_refl _))
      replace Httc := Lib.hid (Httc.out.stay hb (Nat.le_refl _))
      clear hb
      have Hxc := Lib.hid (hxc.mono (Q := (fun _ => True)) (fun _ _ => trivial)); clear hxc
      obtain ⟨V32, hV32⟩ : ∃ V, V = w32.alloc (.cells #[.int .i64 x.k, .int .i64 x.n, .string x.s, .slice Ax x.l.length cx] 25) := ⟨_, rfl⟩
      have hb : Below w32.heap.size w32 V32 := by rw [hV32]; exact (Below.refl _ _).alloc (Nat.le_refl _) _
      have Hbx := Lib.hid (show Blk V32 w32.heap.size 25 #[.int .i64 x.k, .int .i64 x.n, .string x.s, .slice Ax x.l.length cx] from by rw [hV32]; exact Blk.new _ _ _)
      replace HB := Lib.hid (HB.out.trans (hb.mono HB.out.size))
      replace Hbp := Lib.hid (Hbp.out.below hb Hbp.out.lt)
      replace Hbt := Lib.hid (Hbt.out.below hb Hbt.out.lt)
      replace Hbtt := Lib.hid (Hbtt.out.below hb Hbtt.out.lt)
      replace Hpc := Lib.hid (Hpc.out.stay hb (Nat.le_refl _))
      replace Hsc := Lib.hid (Hsc.out.stay hb (Nat.le_refl _))
      replace Htc := Lib.hid (Htc.out.stay hb (Nat.le_refl _))
      replace Httc := Lib.hid (Httc.out.stay hb (Nat.le_refl _))
      replace Hxc := Lib.hid (Hxc.out.stay hb (Nat.le_refl _))
      clear hb
      have HV32 := Lib.hid hV32; clear hV32
      go_upto_region 17 with (fail)
      rw [← HV32.out]
      clear HV32
      clear Hcall
      have hcall := match_ok p x _ _ V32 _ _ ⟨Ap, cp, rfl, sp, Hpc.out⟩ ⟨Ax, cx, rfl, sx, Hxc.out⟩ Ip.out Ix.out
      rw [Hm2.out] at hcall
      have Hcall := Lib.hid hcall; clear hcall
      obtain ⟨⟨bp0, bp1, bp2, bp3⟩, -⟩ := Hbp.out.four
      have bpl := Hbp.out.lt
      obtain ⟨⟨bt0, bt1, bt2, bt3⟩, -⟩ := Hbt.out.four
      have btl := Hbt.out.lt
      obtain ⟨⟨btt0, btt1, btt2, btt3⟩, -⟩ := Hbtt.out.four
      have bttl := Hbtt.out.lt
      obtain ⟨⟨bx0, bx1, bx2, bx3⟩, -⟩ := Hbx.out.four
      have bxl := Hbx.out.lt
      go_wp2_with fail
      refine Hcall.out.mono ?_
      rintro e w40 ⟨Am2, cm2, rfl, hm2c, hb⟩
      clear bp0 bp1 bp2 bp3 bpl bt0 bt1 bt2 bt3 btl btt0 btt1 btt2 btt3 bttl bx0 bx1 bx2 bx3 bxl
      replace HB := Lib.hid (HB.out.trans (hb.mono HB.out.size))
      replace Hbp := Lib.hid (Hbp.out.below hb Hbp.out.lt)
      replace Hbt := Lib.hid (Hbt.out.below hb Hbt.out.lt)
      replace Hbtt := Lib.hid (Hbtt.out.below hb Hbtt.out.lt)
      replace Hbx := Lib.hid (Hbx.out.below hb Hbx.out.lt)
      replace Hpc := Lib.hid (Hpc.out.stay hb (Nat.le_refl _))
      replace Hsc := Lib.hid (Hsc.out.stay hb (Nat.le_refl _))
      replace Htc := Lib.hid (Htc.out.stay hb (Nat.le_refl _))
      replace Httc := Lib.hid (Httc.out.stay hb (Nat.le_refl _))
      replace Hxc := Lib.hid (Hxc.out.stay hb (Nat.le_refl _))
      clear hb Hcall
      replace hm2c : TmC (fun _ => True) w40 Am2 cm2 m2 := hm2c
      have Hm2c := Lib.hid hm2c; clear hm2c
      rw [show (some m2).isSome = true from rfl, show (some m2).getD [] = m2 from rfl]
      obtain ⟨⟨bp0, bp1, bp2, bp3⟩, -⟩ := Hbp.out.four
      have bpl := Hbp.out.lt
      obtain ⟨⟨bt0, bt1, bt2, bt3⟩, -⟩ := Hbt.out.four
      have btl := Hbt.out.lt
      obtain ⟨⟨btt0, btt1, btt2, btt3⟩, -⟩ := Hbtt.out.four
      have bttl := Hbtt.out.lt
      obtain ⟨⟨bx0, bx1, bx2, bx3⟩, -⟩ := Hbx.out.four
      have bxl := Hbx.out.lt
      go_wp2_with fail
      obtain ⟨Wlit2, hWlit2⟩ : ∃ W, W = w40.alloc (.cells #[.int .i64 p.k, .int .i64 p.n, .string p.s, .slice Ap p.l.length cp] 25) := ⟨_, rfl⟩
      rw [← hWlit2]
      have hb : Below w40.heap.size w40 Wlit2 := by rw [hWlit2]; exact (Below.refl _ _).alloc (Nat.le_refl _) _
      have hlit2 : TmC (fun _ => True) Wlit2 (some ⟨w40.heap.size, 0, none⟩) 1 [p] := by
        rw [hWlit2]; exact (TmC.lit3 (P := (fun _ => True)) [(p, Ap, cp)] (fun e he => by
          simp only [List.mem_cons, List.not_mem_nil, or_false] at he
          subst he
          exact ⟨sp, Hpc.out⟩
          ) (by simp)).mono (fun _ _ => trivial)
      clear bp0 bp1 bp2 bp3 bpl bt0 bt1 bt2 bt3 btl btt0 btt1 btt2 btt3 bttl bx0 bx1 bx2 bx3 bxl
      replace HB := Lib.hid (HB.out.trans (hb.mono HB.out.size))
      replace Hbp := Lib.hid (Hbp.out.below hb Hbp.out.lt)
      replace Hbt := Lib.hid (Hbt.out.below hb Hbt.out.lt)
      replace Hbtt := Lib.hid (Hbtt.out.below hb Hbtt.out.lt)
      replace Hbx := Lib.hid (Hbx.out.below hb Hbx.out.lt)
      replace Hpc := Lib.hid (Hpc.out.stay hb (Nat.le_refl _))
      replace Hsc := Lib.hid (Hsc.out.stay hb (Nat.le_refl _))
      replace Htc := Lib.hid (Htc.out.stay hb (Nat.le_refl _))
      replace Httc := Lib.hid (Httc.out.stay hb (Nat.le_refl _))
      replace Hxc := Lib.hid (Hxc.out.stay hb (Nat.le_refl _))
      replace Hm2c := Lib.hid (Hm2c.out.stay hb (Nat.le_refl _))
      clear hb hWlit2
      have hcall := vars_ok [p] _ _ _ _ hlit2 (by rw [allB_one]; exact Ip.out); clear hlit2
      obtain ⟨vs, hvs⟩ : ∃ vs, vs = varsL [p] := ⟨_, rfl⟩
      rw [← hvs] at hcall Hvars
      have Hcall := Lib.hid hcall; clear hcall hvs
      refine Hcall.out.mono ?_
      rintro e wV ⟨Av, cv, rfl, hrd, hv1, hv2, hb⟩
      replace HB := Lib.hid (HB.out.trans (hb.mono HB.out.size))
      replace Hbp := Lib.hid (Hbp.out.below hb Hbp.out.lt)
      replace Hbt := Lib.hid (Hbt.out.below hb Hbt.out.lt)
      replace Hbtt := Lib.hid (Hbtt.out.below hb Hbtt.out.lt)
      replace Hbx := Lib.hid (Hbx.out.below hb Hbx.out.lt)
      replace Hpc := Lib.hid (Hpc.out.stay hb (Nat.le_refl _))
      replace Hsc := Lib.hid (Hsc.out.stay hb (Nat.le_refl _))
      replace Htc := Lib.hid (Htc.out.stay hb (Nat.le_refl _))
      replace Httc := Lib.hid (Httc.out.stay hb (Nat.le_refl _))
      replace Hxc := Lib.hid (Hxc.out.stay hb (Nat.le_refl _))
      replace Hm2c := Lib.hid (Hm2c.out.stay hb (Nat.le_refl _))
      clear hb Hcall
      have Hrd := Lib.hid hrd; clear hrd
      have HsL := Lib.hid (Hsc.out.inside.mono (Q := (· < wV.heap.size)) (fun g h => h.2)); have HmL := Lib.hid (Hm2c.out.inside.mono (Q := (· < wV.heap.size)) (fun g h => h.2))
      have hms := Hm2c.out.len.1; have hms2 := Hm2c.out.len.2.1
      have HBV := HB
      clear Hbp Hbt Hbtt Hbx Hpc Hsc Htc Httc Hxc Hm2c HB
      go_wp2
      go_loopw [110] (fun i wr => ∃ k : Nat, k ≤ vs.length ∧ i = .int .i64 k ∧ Hid (Below wV.heap.size wV wr)) (fun i _ => vs.length - (intOf i).toNat)
      case atStart => exact ⟨0, Nat.zero_le _, rfl, Lib.hid (Below.refl _ _)⟩
      case round =>
        obtain ⟨k, hk, rfl, HL⟩ := hrel
        by_cases hlt : k < vs.length
        case neg =>
          go_wp2
          go_ret
          exact ⟨rfl, HBV.out.trans (HL.out.mono HBV.out.size)⟩
        obtain ⟨n, hn⟩ : ∃ n, vs[k]? = some n := ⟨_, List.getElem?_eq_getElem hlt⟩
        obtain ⟨j, rfl, hj5, hmj⟩ := Hvars.out n (List.mem_of_getElem? hn)
        obtain ⟨gv, ov, rfl, n0⟩ := (Hrd.out.below HL.out (Nat.le_refl _)).atI hn
        have Hmj := Lib.hid hmj; clear hmj hn
        go_wp2_with fail
        refine (v_calls (j : Int) wr).mono ?_
        rintro e u1 ⟨rfl, hb⟩
        unfold vV
        obtain ⟨U2, hU2⟩ : ∃ U, U = u1.alloc (.cells #[.int .i64 1, .int .i64 (j : Int), .string ⟨#[]⟩, .slice none 0 0] 25) := ⟨_, rfl⟩
        have hb1 := HL.out.trans (hb.mono HL.out.size)
        have HL2 := Lib.hid (show Below wV.heap.size wV U2 from by rw [hU2]; exact hb1.alloc hb1.size _)
        have HK := Lib.hid (show Blk U2 u1.heap.size 25 #[.int .i64 1, .int .i64 (j : Int), .string ⟨#[]⟩, .slice none 0 0] from by rw [hU2]; exact Blk.new _ _ _)
        have HUS := Lib.hid (show wV.heap.size ≤ u1.heap.size from hb1.size)
        have HU2 := Lib.hid hU2; clear hU2 hb hb1 n0
        go_upto_region 25 with (fail)
        rw [← HU2.out]
        clear HU2
        by_cases hj : j < s.length
        case neg =>
          have d1 : decide ((j : Int) < (s.length : Int)) = false := decide_eq_false (by omega)
          have hz := Hmj.out; rw [sgL_none hj] at hz
          clear Hmj
          go_upto_region 27 with (fail)
          obtain ⟨gm, om, Aq, cq, hAm, -, ⟨m0, m1, m2_, m3⟩, sq, hqc⟩ := (HmL.out.stay HL2.out (Nat.le_refl _)).at_ hz
          have hjm : j < m2.length := (List.getElem?_eq_some_iff.1 hz).1
          have hcall := fun (W : World) (hb : Hid (Below U2.heap.size U2 W)) => refSame_calls (Tm.va j) _ _ W _ _ (Tm.va j) ⟨Aq, cq, rfl, sq, hqc.stay hb.out (Nat.le_refl _)⟩ (TmV.va (fun _ => True) _ _)
          simp only [sameB_refl] at hcall
          simp only [vV] at hcall
          have Hcall := Lib.hid hcall; clear hcall hz
          obtain ⟨⟨k0, k1, k2, k3⟩, -⟩ := HK.out.four
          have d2 : decide ((m2.length : Int) ≤ (j : Int)) = false := decide_eq_false (by omega)
          subst hAm
          simp only [va_k, va_n, va_s, va_l, List.length_nil] at m0 m1 m2_ m3 sq Hcall
          have d3 : decide (m2.length ≤ j) = false := decide_eq_false (by omega)
          have hj0 : (0 : Int) ≤ (j : Int) := by omega
          have hj1 : (j : Int) < (m2.length : Int) := by omega
          go_wp2_with fail
          refine wp_region_noPanic ?_
          refine wp_region_held_drew (S := SW U2 [(⟨u1.heap.size, 0, none⟩, .int .i64 1), (⟨u1.heap.size, 1, none⟩, .int .i64 (j : Int)), (⟨u1.heap.size, 2, none⟩, .string ⟨#[]⟩), (⟨u1.heap.size, 3, none⟩, .slice none 0 0), (⟨gm, om + j * 4, none⟩, .int .i64 1), (⟨gm, om + j * 4 + 1, none⟩, .int .i64 (j : Int)), (⟨gm, om + j * 4 + 2, none⟩, .string ⟨#[]⟩), (⟨gm, om + j * 4 + 3, none⟩, .slice Aq 0 cq)]) (by kernel_rfl) ?_ (fun hHeld => ?_)
          · exact SW.start (fun p hp => by simp only [List.mem_cons, List.not_mem_nil, or_false] at hp; rcases hp with rfl | rfl | rfl | rfl | rfl | rfl | rfl | rfl <;> assumption)
          refine takeH (i := 0) (d := 132) (.int .i64 (j : Int)) (by kernel_rfl) (by kernel_rfl) (by kernel_rfl) (by kernel_rfl) (fun _ _ _ _ h => h) (fun o ho => ?_) hHeld ?_
          · simp only [List.getElem?_toArray, List.getElem?_cons_zero, List.getElem?_cons_succ, Option.some.injEq] at ho
            subst ho
            refine Or.inl ⟨by rfl, fun w hSw => ?_⟩
            go_simp
          simp only [Act.put, List.setIfInBounds_toArray, List.set_cons_zero, List.set_cons_succ]
          refine takeH (i := 1) (d := 133) (.slice (some ⟨gm, om, none⟩) m2.length cm2) (by kernel_rfl) (by kernel_rfl) (by kernel_rfl) (by kernel_rfl) (fun _ _ _ _ h => h) (fun o ho => ?_) hHeld ?_
          · simp only [List.getElem?_toArray, List.getElem?_cons_zero, List.getElem?_cons_succ, Option.some.injEq] at ho
            subst ho
            refine Or.inl ⟨by rfl, fun w hSw => ?_⟩
            go_simp
          simp only [Act.put, List.setIfInBounds_toArray, List.set_cons_zero, List.set_cons_succ]
          refine takeH (i := 2) (d := 134) (.int .i64 (m2.length : Int)) (by kernel_rfl) (by kernel_rfl) (by kernel_rfl) (by kernel_rfl) (fun _ _ _ _ h => h) (fun o ho => ?_) hHeld ?_
          · simp only [List.getElem?_toArray, List.getElem?_cons_zero, List.getElem?_cons_succ, Option.some.injEq] at ho
            subst ho
            refine Or.inl ⟨by rfl, fun w hSw => ?_⟩
            go_simp
          simp only [Act.put, List.setIfInBounds_toArray, List.set_cons_zero, List.set_cons_succ]
          refine takeH (i := 3) (d := 135) (.bool false) (by kernel_rfl) (by kernel_rfl) (by kernel_rfl) (by kernel_rfl) (fun _ _ _ _ h => h) (fun o ho => ?_) hHeld ?_
          · simp only [List.getElem?_toArray, List.getElem?_cons_zero, List.getElem?_cons_succ, Option.some.injEq] at ho
            subst ho
            refine Or.inl ⟨by rfl, fun w hSw => ?_⟩
            go_simp
          simp only [Act.put, List.setIfInBounds_toArray, List.set_cons_zero, List.set_cons_succ]
          refine takeH (i := 4) (d := 136) (.bool false) (by kernel_rfl) (by kernel_rfl) (by kernel_rfl) (by kernel_rfl) (fun _ _ _ _ h => h) (fun o ho => ?_) hHeld ?_
          · simp only [List.getElem?_toArray, List.getElem?_cons_zero, List.getElem?_cons_succ, Option.some.injEq] at ho
            subst ho
            refine Or.inl ⟨by rfl, fun w hSw => ?_⟩
            go_simp
          simp only [Act.put, List.setIfInBounds_toArray, List.set_cons_zero, List.set_cons_succ]
          refine takeH (i := 5) (d := 137) (.slice (some ⟨gm, om, none⟩) m2.length cm2) (by kernel_rfl) (by kernel_rfl) (by kernel_rfl) (by kernel_rfl) (fun _ _ _ _ h => h) (fun o ho => ?_) hHeld ?_
          · simp only [List.getElem?_toArray, List.getElem?_cons_zero, List.getElem?_cons_succ, Option.some.injEq] at ho
            subst ho
            refine Or.inl ⟨by rfl, fun w hSw => ?_⟩
            go_simp
          simp only [Act.put, List.setIfInBounds_toArray, List.set_cons_zero, List.set_cons_succ]
          refine takeH (i := 6) (d := 138) (.int .i64 (j : Int)) (by kernel_rfl) (by kernel_rfl) (by kernel_rfl) (by kernel_rfl) (fun _ _ _ _ h => h) (fun o ho => ?_) hHeld ?_
          · simp only [List.getElem?_toArray, List.getElem?_cons_zero, List.getElem?_cons_succ, Option.some.injEq] at ho
            subst ho
            refine Or.inl ⟨by rfl, fun w hSw => ?_⟩
            go_simp
          simp only [Act.put, List.setIfInBounds_toArray, List.set_cons_zero, List.set_cons_succ]
          refine takeH (i := 7) (d := 139) (.pointer (some ⟨gm, om + j * 4, none⟩)) (by kernel_rfl) (by kernel_rfl) (by kernel_rfl) (by kernel_rfl) (fun _ _ _ _ h => h) (fun o ho => ?_) hHeld ?_
          · simp only [List.getElem?_toArray, List.getElem?_cons_zero, List.getElem?_cons_succ, Option.some.injEq] at ho
            subst ho
            refine Or.inl ⟨by rfl, fun w hSw => ?_⟩
            go_simp
          simp only [Act.put, List.setIfInBounds_toArray, List.set_cons_zero, List.set_cons_succ]
          refine takeH (i := 8) (d := 140) (.agg #[.int .i64 1, .int .i64 (j : Int), .string ⟨#[]⟩, .slice Aq 0 cq]) (by kernel_rfl) (by kernel_rfl) (by kernel_rfl) (by kernel_rfl) (fun _ _ _ _ h => h) (fun o ho => ?_) hHeld ?_
          · simp only [List.getElem?_toArray, List.getElem?_cons_zero, List.getElem?_cons_succ, Option.some.injEq] at ho
            subst ho
            refine Or.inl ⟨by rfl, fun w hSw => ?_⟩
            have s0 := hSw.at 4 rfl
            have s1 := hSw.at 5 rfl
            have s2 := hSw.at 6 rfl
            have s3 := hSw.at 7 rfl
            go_simp
          simp only [Act.put, List.setIfInBounds_toArray, List.set_cons_zero, List.set_cons_succ]
          refine takeH (i := 9) (d := 141) (.agg #[.int .i64 1, .int .i64 (j : Int), .string ⟨#[]⟩, .slice none 0 0]) (by kernel_rfl) (by kernel_rfl) (by kernel_rfl) (by kernel_rfl) (fun _ _ _ _ h => h) (fun o ho => ?_) hHeld ?_
          · simp only [List.getElem?_toArray, List.getElem?_cons_zero, List.getElem?_cons_succ, Option.some.injEq] at ho
            subst ho
            refine Or.inl ⟨by rfl, fun w hSw => ?_⟩
            have s0 := hSw.at 0 rfl
            have s1 := hSw.at 1 rfl
            have s2 := hSw.at 2 rfl
            have s3 := hSw.at 3 rfl
            go_simp
          simp only [Act.put, List.setIfInBounds_toArray, List.set_cons_zero, List.set_cons_succ]
          refine stepH (i := 10) (by kernel_rfl) (by kernel_rfl) (fun o ho K2 hK => ?_)
          simp only [List.getElem?_toArray, List.getElem?_cons_zero, List.getElem?_cons_succ, Option.some.injEq] at ho
          subst ho
          go_simp
          refine (Hcall.out _ hHeld.1).mono ?_
          rintro e wx ⟨rfl, hb⟩
          dsimp only
          refine hK.out _ _ (hHeld.below hb) (fun hHeld => ?_)
          clear hK K2 hb
          try simp only [Act.put, List.setIfInBounds_toArray, List.set_cons_zero, List.set_cons_succ]
          refine takeH (i := 11) (d := 143) (.bool false) (by kernel_rfl) (by kernel_rfl) (by kernel_rfl) (by kernel_rfl) (fun _ _ _ _ h => h) (fun o ho => ?_) hHeld ?_
          · simp only [List.getElem?_toArray, List.getElem?_cons_zero, List.getElem?_cons_succ, Option.some.injEq] at ho
            subst ho
            refine Or.inl ⟨by rfl, fun w hSw => ?_⟩
            go_simp
          simp only [Act.put, List.setIfInBounds_toArray, List.set_cons_zero, List.set_cons_succ]
          refine takeH (i := 12) (d := 144) (.bool false) (by kernel_rfl) (by kernel_rfl) (by kernel_rfl) (by kernel_rfl) (fun _ _ _ _ h => h) (fun o ho => ?_) hHeld ?_
          · simp only [List.getElem?_toArray, List.getElem?_cons_zero, List.getElem?_cons_succ, Option.some.injEq] at ho
            subst ho
            refine Or.inl ⟨by rfl, fun w hSw => ?_⟩
            go_simp
          simp only [Act.put, List.setIfInBounds_toArray, List.set_cons_zero, List.set_cons_succ]
          refine wpAnyH_done (by kernel_rfl) ?_ _
          refine NoPanic.normal ?_
          have HL9 := Lib.hid (HL2.out.trans (hHeld.1.out.mono HL2.out.size)); clear hHeld k0 k1 k2 k3 m0 m1 m2_ m3
          go_wp2
          go_roundw
          case rel => exact ⟨k + 1, by omega, by go_num, HL9⟩
          case measure => simp [intOf]; omega
        have d1 : decide ((j : Int) < (s.length : Int)) = true := decide_eq_true (by omega)
        obtain ⟨y, hy⟩ : ∃ y, s[j]? = some y := ⟨_, List.getElem?_eq_getElem hj⟩
        have hsg := sgL_at hy
        obtain ⟨gs, os, Ay, cy, hAs, -, ⟨e0, e1, e2, e3⟩, sy, hyc⟩ := (HsL.out.stay HL2.out (Nat.le_refl _)).at_ hy
        have hcall := refFree_calls y _ U2 _ ⟨Ay, cy, rfl, sy, hyc⟩
        obtain ⟨f, hf⟩ : ∃ f, f = freeB y := ⟨_, rfl⟩
        rw [← hf] at hcall hsg
        have Hcall := Lib.hid hcall; have Hyc := Lib.hid hyc; have Hsg := Lib.hid hsg; clear hcall hyc hf hsg hy
        subst hAs
        go_wp2_with fail
        refine Hcall.out.mono ?_
        rintro e u3 ⟨rfl, hb⟩
        have HL3 := Lib.hid (HL2.out.trans (hb.mono HL2.out.size)); have HB23 := Lib.hid (show Below wV.heap.size U2 u3 from hb.mono HL2.out.size); have HK3 := Lib.hid (HK.out.below hb HK.out.lt)
        replace e0 := keep_cell hb e0; replace e1 := keep_cell hb e1; replace e2 := keep_cell hb e2; replace e3 := keep_cell hb e3
        clear hb Hcall HK HL2
        cases f
        case true =>
          have hz := Hmj.out; rw [Hsg.out, if_pos rfl] at hz
          clear Hmj Hsg e0 e1 e2 e3
          have HK := HK3; clear HK3
          go_upto_region 27 with (fail)
          obtain ⟨gm, om, Aq, cq, hAm, -, ⟨m0, m1, m2_, m3⟩, sq, hqc⟩ := (HmL.out.stay HL3.out (Nat.le_refl _)).at_ hz
          have hjm : j < m2.length := (List.getElem?_eq_some_iff.1 hz).1
          have hcall := fun (W : World) (hb : Hid (Below u3.heap.size u3 W)) => refSame_calls (Tm.va j) _ _ W _ _ (Tm.va j) ⟨Aq, cq, rfl, sq, hqc.stay hb.out (Nat.le_refl _)⟩ (TmV.va (fun _ => True) _ _)
          simp only [sameB_refl] at hcall
          simp only [vV] at hcall
          have Hcall := Lib.hid hcall; clear hcall hz
          obtain ⟨⟨k0, k1, k2, k3⟩, -⟩ := HK.out.four
          have d2 : decide ((m2.length : Int) ≤ (j : Int)) = false := decide_eq_false (by omega)
          subst hAm
          simp only [va_k, va_n, va_s, va_l, List.length_nil] at m0 m1 m2_ m3 sq Hcall
          have d3 : decide (m2.length ≤ j) = false := decide_eq_false (by omega)
          have hj0 : (0 : Int) ≤ (j : Int) := by omega
          have hj1 : (j : Int) < (m2.length : Int) := by omega
          go_wp2_with fail
          refine wp_region_noPanic ?_
          refine wp_region_held_drew (S := SW u3 [(⟨u1.heap.size, 0, none⟩, .int .i64 1), (⟨u1.heap.size, 1, none⟩, .int .i64 (j : Int)), (⟨u1.heap.size, 2, none⟩, .string ⟨#[]⟩), (⟨u1.heap.size, 3, none⟩, .slice none 0 0), (⟨gm, om + j * 4, none⟩, .int .i64 1), (⟨gm, om + j * 4 + 1, none⟩, .int .i64 (j : Int)), (⟨gm, om + j * 4 + 2, none⟩, .string ⟨#[]⟩), (⟨gm, om + j * 4 + 3, none⟩, .slice Aq 0 cq)]) (by kernel_rfl) ?_ (fun hHeld => ?_)
          · exact SW.start (fun p hp => by simp only [List.mem_cons, List.not_mem_nil, or_false] at hp; rcases hp with rfl | rfl | rfl | rfl | rfl | rfl | rfl | rfl <;> assumption)
          refine takeH (i := 0) (d := 132) (.int .i64 (j : Int)) (by kernel_rfl) (by kernel_rfl) (by kernel_rfl) (by kernel_rfl) (fun _ _ _ _ h => h) (fun o ho => ?_) hHeld ?_
          · simp only [List.getElem?_toArray, List.getElem?_cons_zero, List.getElem?_cons_succ, Option.some.injEq] at ho
            subst ho
            refine Or.inl ⟨by rfl, fun w hSw => ?_⟩
            go_simp
          simp only [Act.put, List.setIfInBounds_toArray, List.set_cons_zero, List.set_cons_succ]
          refine takeH (i := 1) (d := 133) (.slice (some ⟨gm, om, none⟩) m2.length cm2) (by kernel_rfl) (by kernel_rfl) (by kernel_rfl) (by kernel_rfl) (fun _ _ _ _ h => h) (fun o ho => ?_) hHeld ?_
          · simp only [List.getElem?_toArray, List.getElem?_cons_zero, List.getElem?_cons_succ, Option.some.injEq] at ho
            subst ho
            refine Or.inl ⟨by rfl, fun w hSw => ?_⟩
            go_simp
          simp only [Act.put, List.setIfInBounds_toArray, List.set_cons_zero, List.set_cons_succ]
          refine takeH (i := 2) (d := 134) (.int .i64 (m2.length : Int)) (by kernel_rfl) (by kernel_rfl) (by kernel_rfl) (by kernel_rfl) (fun _ _ _ _ h => h) (fun o ho => ?_) hHeld ?_
          · simp only [List.getElem?_toArray, List.getElem?_cons_zero, List.getElem?_cons_succ, Option.some.injEq] at ho
            subst ho
            refine Or.inl ⟨by rfl, fun w hSw => ?_⟩
            go_simp
          simp only [Act.put, List.setIfInBounds_toArray, List.set_cons_zero, List.set_cons_succ]
          refine takeH (i := 3) (d := 135) (.bool false) (by kernel_rfl) (by kernel_rfl) (by kernel_rfl) (by kernel_rfl) (fun _ _ _ _ h => h) (fun o ho => ?_) hHeld ?_
          · simp only [List.getElem?_toArray, List.getElem?_cons_zero, List.getElem?_cons_succ, Option.some.injEq] at ho
            subst ho
            refine Or.inl ⟨by rfl, fun w hSw => ?_⟩
            go_simp
          simp only [Act.put, List.setIfInBounds_toArray, List.set_cons_zero, List.set_cons_succ]
          refine takeH (i := 4) (d := 136) (.bool false) (by kernel_rfl) (by kernel_rfl) (by kernel_rfl) (by kernel_rfl) (fun _ _ _ _ h => h) (fun o ho => ?_) hHeld ?_
          · simp only [List.getElem?_toArray, List.getElem?_cons_zero, List.getElem?_cons_succ, Option.some.injEq] at ho
            subst ho
            refine Or.inl ⟨by rfl, fun w hSw => ?_⟩
            go_simp
          simp only [Act.put, List.setIfInBounds_toArray, List.set_cons_zero, List.set_cons_succ]
          refine takeH (i := 5) (d := 137) (.slice (some ⟨gm, om, none⟩) m2.length cm2) (by kernel_rfl) (by kernel_rfl) (by kernel_rfl) (by kernel_rfl) (fun _ _ _ _ h => h) (fun o ho => ?_) hHeld ?_
          · simp only [List.getElem?_toArray, List.getElem?_cons_zero, List.getElem?_cons_succ, Option.some.injEq] at ho
            subst ho
            refine Or.inl ⟨by rfl, fun w hSw => ?_⟩
            go_simp
          simp only [Act.put, List.setIfInBounds_toArray, List.set_cons_zero, List.set_cons_succ]
          refine takeH (i := 6) (d := 138) (.int .i64 (j : Int)) (by kernel_rfl) (by kernel_rfl) (by kernel_rfl) (by kernel_rfl) (fun _ _ _ _ h => h) (fun o ho => ?_) hHeld ?_
          · simp only [List.getElem?_toArray, List.getElem?_cons_zero, List.getElem?_cons_succ, Option.some.injEq] at ho
            subst ho
            refine Or.inl ⟨by rfl, fun w hSw => ?_⟩
            go_simp
          simp only [Act.put, List.setIfInBounds_toArray, List.set_cons_zero, List.set_cons_succ]
          refine takeH (i := 7) (d := 139) (.pointer (some ⟨gm, om + j * 4, none⟩)) (by kernel_rfl) (by kernel_rfl) (by kernel_rfl) (by kernel_rfl) (fun _ _ _ _ h => h) (fun o ho => ?_) hHeld ?_
          · simp only [List.getElem?_toArray, List.getElem?_cons_zero, List.getElem?_cons_succ, Option.some.injEq] at ho
            subst ho
            refine Or.inl ⟨by rfl, fun w hSw => ?_⟩
            go_simp
          simp only [Act.put, List.setIfInBounds_toArray, List.set_cons_zero, List.set_cons_succ]
          refine takeH (i := 8) (d := 140) (.agg #[.int .i64 1, .int .i64 (j : Int), .string ⟨#[]⟩, .slice Aq 0 cq]) (by kernel_rfl) (by kernel_rfl) (by kernel_rfl) (by kernel_rfl) (fun _ _ _ _ h => h) (fun o ho => ?_) hHeld ?_
          · simp only [List.getElem?_toArray, List.getElem?_cons_zero, List.getElem?_cons_succ, Option.some.injEq] at ho
            subst ho
            refine Or.inl ⟨by rfl, fun w hSw => ?_⟩
            have s0 := hSw.at 4 rfl
            have s1 := hSw.at 5 rfl
            have s2 := hSw.at 6 rfl
            have s3 := hSw.at 7 rfl
            go_simp
          simp only [Act.put, List.setIfInBounds_toArray, List.set_cons_zero, List.set_cons_succ]
          refine takeH (i := 9) (d := 141) (.agg #[.int .i64 1, .int .i64 (j : Int), .string ⟨#[]⟩, .slice none 0 0]) (by kernel_rfl) (by kernel_rfl) (by kernel_rfl) (by kernel_rfl) (fun _ _ _ _ h => h) (fun o ho => ?_) hHeld ?_
          · simp only [List.getElem?_toArray, List.getElem?_cons_zero, List.getElem?_cons_succ, Option.some.injEq] at ho
            subst ho
            refine Or.inl ⟨by rfl, fun w hSw => ?_⟩
            have s0 := hSw.at 0 rfl
            have s1 := hSw.at 1 rfl
            have s2 := hSw.at 2 rfl
            have s3 := hSw.at 3 rfl
            go_simp
          simp only [Act.put, List.setIfInBounds_toArray, List.set_cons_zero, List.set_cons_succ]
          refine stepH (i := 10) (by kernel_rfl) (by kernel_rfl) (fun o ho K2 hK => ?_)
          simp only [List.getElem?_toArray, List.getElem?_cons_zero, List.getElem?_cons_succ, Option.some.injEq] at ho
          subst ho
          go_simp
          refine (Hcall.out _ hHeld.1).mono ?_
          rintro e wx ⟨rfl, hb⟩
          dsimp only
          refine hK.out _ _ (hHeld.below hb) (fun hHeld => ?_)
          clear hK K2 hb
          try simp only [Act.put, List.setIfInBounds_toArray, List.set_cons_zero, List.set_cons_succ]
          refine takeH (i := 11) (d := 143) (.bool false) (by kernel_rfl) (by kernel_rfl) (by kernel_rfl) (by kernel_rfl) (fun _ _ _ _ h => h) (fun o ho => ?_) hHeld ?_
          · simp only [List.getElem?_toArray, List.getElem?_cons_zero, List.getElem?_cons_succ, Option.some.injEq] at ho
            subst ho
            refine Or.inl ⟨by rfl, fun w hSw => ?_⟩
            go_simp
          simp only [Act.put, List.setIfInBounds_toArray, List.set_cons_zero, List.set_cons_succ]
          refine takeH (i := 12) (d := 144) (.bool false) (by kernel_rfl) (by kernel_rfl) (by kernel_rfl) (by kernel_rfl) (fun _ _ _ _ h => h) (fun o ho => ?_) hHeld ?_
          · simp only [List.getElem?_toArray, List.getElem?_cons_zero, List.getElem?_cons_succ, Option.some.injEq] at ho
            subst ho
            refine Or.inl ⟨by rfl, fun w hSw => ?_⟩
            go_simp
          simp only [Act.put, List.setIfInBounds_toArray, List.set_cons_zero, List.set_cons_succ]
          refine wpAnyH_done (by kernel_rfl) ?_ _
          refine NoPanic.normal ?_
          have HL9 := Lib.hid (HL3.out.trans (hHeld.1.out.mono HL3.out.size)); clear hHeld k0 k1 k2 k3 m0 m1 m2_ m3
          go_wp2
          go_roundw
          case rel => exact ⟨k + 1, by omega, by go_num, HL9⟩
          case measure => simp [intOf]; omega
        have hz := Hmj.out; rw [Hsg.out, if_neg (by simp)] at hz
        clear Hmj Hsg
        obtain ⟨U4, hU4⟩ : ∃ U, U = (((u3.setCell ⟨u1.heap.size, 0, none⟩ (.int .i64 y.k)).setCell ⟨u1.heap.size, 1, none⟩ (.int .i64 y.n)).setCell ⟨u1.heap.size, 2, none⟩ (.string y.s)).setCell ⟨u1.heap.size, 3, none⟩ (.slice Ay y.l.length cy) := ⟨_, rfl⟩
        have HK := Lib.hid (show Blk U4 u1.heap.size 25 #[.int .i64 y.k, .int .i64 y.n, .string y.s, .slice Ay y.l.length cy] from by rw [hU4]; exact set4_at u3 u1.heap.size _ 25 HK3.out rfl _ _ _ _)
        have hus := HUS.out
        have HL4 := Lib.hid (show Below wV.heap.size wV U4 from by rw [hU4]; exact (((HL3.out.setCell (p := ⟨u1.heap.size, 0, none⟩) hus _).setCell (p := ⟨u1.heap.size, 1, none⟩) hus _).setCell (p := ⟨u1.heap.size, 2, none⟩) hus _).setCell (p := ⟨u1.heap.size, 3, none⟩) hus _)
        obtain ⟨⟨k0, k1, k2, k3⟩, ⟨f0, f1, f2, f3⟩⟩ := HK3.out.four; have kl := HK3.out.lt
        have HyT := Lib.hid ((Hyc.out.belowP (show Below wV.heap.size U2 U4 from by rw [hU4]; exact (((HB23.out.setCell (p := ⟨u1.heap.size, 0, none⟩) hus _).setCell (p := ⟨u1.heap.size, 1, none⟩) hus _).setCell (p := ⟨u1.heap.size, 2, none⟩) hus _).setCell (p := ⟨u1.heap.size, 3, none⟩) hus _) (fun g hg => hg)).mono (Q := fun _ => True) (fun _ _ => trivial)); clear Hyc HB23
        have HU4 := Lib.hid hU4; clear hU4 HK3 HL3 hus
        go_upto_region 27 with (fail)
        rw [← HU4.out]
        clear HU4 k0 k1 k2 k3 f0 f1 f2 f3 kl e0 e1 e2 e3
        obtain ⟨gm, om, Aq, cq, hAm, -, ⟨m0, m1, m2_, m3⟩, sq, hqc⟩ := (HmL.out.stay HL4.out (Nat.le_refl _)).at_ hz
        have hjm : j < m2.length := (List.getElem?_eq_some_iff.1 hz).1
        have hcall := fun (W : World) (hb : Hid (Below U4.heap.size U4 W)) => refSame_calls y _ _ W _ _ y ⟨Aq, cq, rfl, sq, hqc.stay hb.out (Nat.le_refl _)⟩ ⟨Ay, cy, rfl, sy, HyT.out.stay hb.out (Nat.le_refl _)⟩
        simp only [sameB_refl] at hcall
        have Hcall := Lib.hid hcall; clear hcall hz
        obtain ⟨⟨k0, k1, k2, k3⟩, -⟩ := HK.out.four
        have d2 : decide ((m2.length : Int) ≤ (j : Int)) = false := decide_eq_false (by omega)
        subst hAm
        have d3 : decide (m2.length ≤ j) = false := decide_eq_false (by omega)
        have hj0 : (0 : Int) ≤ (j : Int) := by omega
        have hj1 : (j : Int) < (m2.length : Int) := by omega
        go_wp2_with fail
        refine wp_region_noPanic ?_
        refine wp_region_held_drew (S := SW U4 [(⟨u1.heap.size, 0, none⟩, .int .i64 y.k), (⟨u1.heap.size, 1, none⟩, .int .i64 y.n), (⟨u1.heap.size, 2, none⟩, .string y.s), (⟨u1.heap.size, 3, none⟩, .slice Ay y.l.length cy), (⟨gm, om + j * 4, none⟩, .int .i64 y.k), (⟨gm, om + j * 4 + 1, none⟩, .int .i64 y.n), (⟨gm, om + j * 4 + 2, none⟩, .string y.s), (⟨gm, om + j * 4 + 3, none⟩, .slice Aq y.l.length cq)]) (by kernel_rfl) ?_ (fun hHeld => ?_)
        · exact SW.start (fun p hp => by simp only [List.mem_cons, List.not_mem_nil, or_false] at hp; rcases hp with rfl | rfl | rfl | rfl | rfl | rfl | rfl | rfl <;> assumption)
        refine takeH (i := 0) (d := 132) (.int .i64 (j : Int)) (by kernel_rfl) (by kernel_rfl) (by kernel_rfl) (by kernel_rfl) (fun _ _ _ _ h => h) (fun o ho => ?_) hHeld ?_
        · simp only [List.getElem?_toArray, List.getElem?_cons_zero, List.getElem?_cons_succ, Option.some.injEq] at ho
          subst ho
          refine Or.inl ⟨by rfl, fun w hSw => ?_⟩
          go_simp
        simp only [Act.put, List.setIfInBounds_toArray, List.set_cons_zero, List.set_cons_succ]
        refine takeH (i := 1) (d := 133) (.slice (some ⟨gm, om, none⟩) m2.length cm2) (by kernel_rfl) (by kernel_rfl) (by kernel_rfl) (by kernel_rfl) (fun _ _ _ _ h => h) (fun o ho => ?_) hHeld ?_
        · simp only [List.getElem?_toArray, List.getElem?_cons_zero, List.getElem?_cons_succ, Option.some.injEq] at ho
          subst ho
          refine Or.inl ⟨by rfl, fun w hSw => ?_⟩
          go_simp
        simp only [Act.put, List.setIfInBounds_toArray, List.set_cons_zero, List.set_cons_succ]
        refine takeH (i := 2) (d := 134) (.int .i64 (m2.length : Int)) (by kernel_rfl) (by kernel_rfl) (by kernel_rfl) (by kernel_rfl) (fun _ _ _ _ h => h) (fun o ho => ?_) hHeld ?_
        · simp only [List.getElem?_toArray, List.getElem?_cons_zero, List.getElem?_cons_succ, Option.some.injEq] at ho
          subst ho
          refine Or.inl ⟨by rfl, fun w hSw => ?_⟩
          go_simp
        simp only [Act.put, List.setIfInBounds_toArray, List.set_cons_zero, List.set_cons_succ]
        refine takeH (i := 3) (d := 135) (.bool false) (by kernel_rfl) (by kernel_rfl) (by kernel_rfl) (by kernel_rfl) (fun _ _ _ _ h => h) (fun o ho => ?_) hHeld ?_
        · simp only [List.getElem?_toArray, List.getElem?_cons_zero, List.getElem?_cons_succ, Option.some.injEq] at ho
          subst ho
          refine Or.inl ⟨by rfl, fun w hSw => ?_⟩
          go_simp
        simp only [Act.put, List.setIfInBounds_toArray, List.set_cons_zero, List.set_cons_succ]
        refine takeH (i := 4) (d := 136) (.bool false) (by kernel_rfl) (by kernel_rfl) (by kernel_rfl) (by kernel_rfl) (fun _ _ _ _ h => h) (fun o ho => ?_) hHeld ?_
        · simp only [List.getElem?_toArray, List.getElem?_cons_zero, List.getElem?_cons_succ, Option.some.injEq] at ho
          subst ho
          refine Or.inl ⟨by rfl, fun w hSw => ?_⟩
          go_simp
        simp only [Act.put, List.setIfInBounds_toArray, List.set_cons_zero, List.set_cons_succ]
        refine takeH (i := 5) (d := 137) (.slice (some ⟨gm, om, none⟩) m2.length cm2) (by kernel_rfl) (by kernel_rfl) (by kernel_rfl) (by kernel_rfl) (fun _ _ _ _ h => h) (fun o ho => ?_) hHeld ?_
        · simp only [List.getElem?_toArray, List.getElem?_cons_zero, List.getElem?_cons_succ, Option.some.injEq] at ho
          subst ho
          refine Or.inl ⟨by rfl, fun w hSw => ?_⟩
          go_simp
        simp only [Act.put, List.setIfInBounds_toArray, List.set_cons_zero, List.set_cons_succ]
        refine takeH (i := 6) (d := 138) (.int .i64 (j : Int)) (by kernel_rfl) (by kernel_rfl) (by kernel_rfl) (by kernel_rfl) (fun _ _ _ _ h => h) (fun o ho => ?_) hHeld ?_
        · simp only [List.getElem?_toArray, List.getElem?_cons_zero, List.getElem?_cons_succ, Option.some.injEq] at ho
          subst ho
          refine Or.inl ⟨by rfl, fun w hSw => ?_⟩
          go_simp
        simp only [Act.put, List.setIfInBounds_toArray, List.set_cons_zero, List.set_cons_succ]
        refine takeH (i := 7) (d := 139) (.pointer (some ⟨gm, om + j * 4, none⟩)) (by kernel_rfl) (by kernel_rfl) (by kernel_rfl) (by kernel_rfl) (fun _ _ _ _ h => h) (fun o ho => ?_) hHeld ?_
        · simp only [List.getElem?_toArray, List.getElem?_cons_zero, List.getElem?_cons_succ, Option.some.injEq] at ho
          subst ho
          refine Or.inl ⟨by rfl, fun w hSw => ?_⟩
          go_simp
        simp only [Act.put, List.setIfInBounds_toArray, List.set_cons_zero, List.set_cons_succ]
        refine takeH (i := 8) (d := 140) (.agg #[.int .i64 y.k, .int .i64 y.n, .string y.s, .slice Aq y.l.length cq]) (by kernel_rfl) (by kernel_rfl) (by kernel_rfl) (by kernel_rfl) (fun _ _ _ _ h => h) (fun o ho => ?_) hHeld ?_
        · simp only [List.getElem?_toArray, List.getElem?_cons_zero, List.getElem?_cons_succ, Option.some.injEq] at ho
          subst ho
          refine Or.inl ⟨by rfl, fun w hSw => ?_⟩
          have s0 := hSw.at 4 rfl
          have s1 := hSw.at 5 rfl
          have s2 := hSw.at 6 rfl
          have s3 := hSw.at 7 rfl
          go_simp
        simp only [Act.put, List.setIfInBounds_toArray, List.set_cons_zero, List.set_cons_succ]
        refine takeH (i := 9) (d := 141) (.agg #[.int .i64 y.k, .int .i64 y.n, .string y.s, .slice Ay y.l.length cy]) (by kernel_rfl) (by kernel_rfl) (by kernel_rfl) (by kernel_rfl) (fun _ _ _ _ h => h) (fun o ho => ?_) hHeld ?_
        · simp only [List.getElem?_toArray, List.getElem?_cons_zero, List.getElem?_cons_succ, Option.some.injEq] at ho
          subst ho
          refine Or.inl ⟨by rfl, fun w hSw => ?_⟩
          have s0 := hSw.at 0 rfl
          have s1 := hSw.at 1 rfl
          have s2 := hSw.at 2 rfl
          have s3 := hSw.at 3 rfl
          go_simp
        simp only [Act.put, List.setIfInBounds_toArray, List.set_cons_zero, List.set_cons_succ]
        refine stepH (i := 10) (by kernel_rfl) (by kernel_rfl) (fun o ho K2 hK => ?_)
        simp only [List.getElem?_toArray, List.getElem?_cons_zero, List.getElem?_cons_succ, Option.some.injEq] at ho
        subst ho
        go_simp
        refine (Hcall.out _ hHeld.1).mono ?_
        rintro e wx ⟨rfl, hb⟩
        dsimp only
        refine hK.out _ _ (hHeld.below hb) (fun hHeld => ?_)
        clear hK K2 hb
        try simp only [Act.put, List.setIfInBounds_toArray, List.set_cons_zero, List.set_cons_succ]
        refine takeH (i := 11) (d := 143) (.bool false) (by kernel_rfl) (by kernel_rfl) (by kernel_rfl) (by kernel_rfl) (fun _ _ _ _ h => h) (fun o ho => ?_) hHeld ?_
        · simp only [List.getElem?_toArray, List.getElem?_cons_zero, List.getElem?_cons_succ, Option.some.injEq] at ho
          subst ho
          refine Or.inl ⟨by rfl, fun w hSw => ?_⟩
          go_simp
        simp only [Act.put, List.setIfInBounds_toArray, List.set_cons_zero, List.set_cons_succ]
        refine takeH (i := 12) (d := 144) (.bool false) (by kernel_rfl) (by kernel_rfl) (by kernel_rfl) (by kernel_rfl) (fun _ _ _ _ h => h) (fun o ho => ?_) hHeld ?_
        · simp only [List.getElem?_toArray, List.getElem?_cons_zero, List.getElem?_cons_succ, Option.some.injEq] at ho
          subst ho
          refine Or.inl ⟨by rfl, fun w hSw => ?_⟩
          go_simp
        simp only [Act.put, List.setIfInBounds_toArray, List.set_cons_zero, List.set_cons_succ]
        refine wpAnyH_done (by kernel_rfl) ?_ _
        refine NoPanic.normal ?_
        have HL9 := Lib.hid (HL4.out.trans (hHeld.1.out.mono HL4.out.size)); clear hHeld k0 k1 k2 k3 m0 m1 m2_ m3
        go_wp2
        go_roundw
        case rel => exact ⟨k + 1, by omega, by go_num, HL9⟩
        case measure => simp [intOf]; omega
end Go.Proofs.Ytfhgknmkpegpbaa
