/- The walk of TermComposed. -/
import Derived.Test.YtfhgknmkpegpbaaM8
import Derived.Test.YtfhgknmkpegpbaaCT46
import Derived.Test.YtfhgknmkpegpbaaCT58
import Derived.Test.YtfhgknmkpegpbaaM1
set_option linter.unusedVariables false
set_option linter.unusedSimpArgs false
namespace Go.Proofs.Ytfhgknmkpegpbaa
open Go.RowKit

set_option maxRecDepth 100000 in
set_option maxHeartbeats 8000000 in
theorem composedLaw_calls (t : Tm) (vt : Value) (l : List Tm) (Al : Option Addr) (cl : Nat) (m : List Tm) (Am : Option Addr) (cm : Nat) (n : List Tm) (An : Option Addr) (cn : Nat) (P : Nat → Prop) (w : World) (ht : TmV P w vt t) (hl : TmC P w Al cl l) (hlenl : l.length * 56 ≤ 140737488351232) (hm : TmC P w Am cm m) (hlenm : m.length * 56 ≤ 140737488351232) (hn : TmC P w An cn n) (hlenn : n.length * 56 ≤ 140737488351232) :
    Calls Try.prog 10 #[vt, .slice Al l.length cl, .slice Am m.length cm, .slice An n.length cn] w fun e w' => e = .returned (.bool true) ∧ Below w.heap.size w w' := by
  obtain ⟨At, ct, rfl, st, htc⟩ := ht
  have hl1l := hl.len.1; have hl2l := hl.len.2.1
  have hl1m := hm.len.1; have hl2m := hm.len.2.1
  have hl1n := hn.len.1; have hl2n := hn.len.2.1
  obtain ⟨W0, hW0⟩ : ∃ W0, W0 = (w.alloc (.cells #[.int .i64 t.k, .int .i64 t.n, .string t.s, .slice At t.l.length ct] 25)) := ⟨_, rfl⟩
  have HB := Lib.hid (show Below w.heap.size w W0 from by rw [hW0]; exact ((Below.refl _ _).alloc (by simp; try omega) _))
  have Hbt := Lib.hid (show Blk W0 (w.heap.size) 25 #[.int .i64 t.k, .int .i64 t.n, .string t.s, .slice At t.l.length ct] from by rw [hW0]; exact (Blk.new' rfl))
  have Htc := Lib.hid ((htc.mono (Q := (fun _ => True)) (fun _ _ => trivial)).stay HB.out (Nat.le_refl _)); clear htc
  have Hlc := Lib.hid ((hl.mono (Q := (fun _ => True)) (fun _ _ => trivial)).stay HB.out (Nat.le_refl _)); clear hl
  have Hmc := Lib.hid ((hm.mono (Q := (fun _ => True)) (fun _ _ => trivial)).stay HB.out (Nat.le_refl _)); clear hm
  have Hnc := Lib.hid ((hn.mono (Q := (fun _ => True)) (fun _ _ => trivial)).stay HB.out (Nat.le_refl _)); clear hn
  have HW := Lib.hid hW0; clear hW0
  go_enter Try.func10, Try.ntmps10
  go_wp2_with fail
  rw [← HW.out]
  clear HW
  refine (sane_calls W0).mono ?_
  rintro e w1 ⟨rfl, hb⟩
  replace HB := Lib.hid (HB.out.trans (hb.mono HB.out.size))
  replace Hbt := Lib.hid (Hbt.out.below hb Hbt.out.lt)
  replace Htc := Lib.hid (Htc.out.stay hb (Nat.le_refl _))
  replace Hlc := Lib.hid (Hlc.out.stay hb (Nat.le_refl _))
  replace Hmc := Lib.hid (Hmc.out.stay hb (Nat.le_refl _))
  replace Hnc := Lib.hid (Hnc.out.stay hb (Nat.le_refl _))
  clear hb
  obtain ⟨⟨bt0, bt1, bt2, bt3⟩, -⟩ := Hbt.out.four
  have btl := Hbt.out.lt
  go_wp2_with fail
  obtain ⟨Wlit, hWlit⟩ : ∃ W, W = w1.alloc (.cells #[.int .i64 t.k, .int .i64 t.n, .string t.s, .slice At t.l.length ct] 25) := ⟨_, rfl⟩
  rw [← hWlit]
  have hb : Below w1.heap.size w1 Wlit := by rw [hWlit]; exact (Below.refl _ _).alloc (Nat.le_refl _) _
  have hlit : TmC (fun _ => True) Wlit (some ⟨w1.heap.size, 0, none⟩) 1 [t] := by
    rw [hWlit]; exact (TmC.lit3 (P := (fun _ => True)) [(t, At, ct)] (fun e he => by
      simp only [List.mem_cons, List.not_mem_nil, or_false] at he
      subst he
      exact ⟨st, Htc.out⟩
      ) (by simp)).mono (fun _ _ => trivial)
  clear bt0 bt1 bt2 bt3 btl
  replace HB := Lib.hid (HB.out.trans (hb.mono HB.out.size))
  replace Hbt := Lib.hid (Hbt.out.below hb Hbt.out.lt)
  replace Htc := Lib.hid (Htc.out.stay hb (Nat.le_refl _))
  replace Hlc := Lib.hid (Hlc.out.stay hb (Nat.le_refl _))
  replace Hmc := Lib.hid (Hmc.out.stay hb (Nat.le_refl _))
  replace Hnc := Lib.hid (Hnc.out.stay hb (Nat.le_refl _))
  clear hb hWlit
  have hcall := right_calls [t] _ _ _ _ hlit; clear hlit
  obtain ⟨r, hr⟩ : ∃ r, r = rightB [t] := ⟨_, rfl⟩
  rw [← hr] at hcall
  have Hcall := Lib.hid hcall; clear hcall
  have Hr := Lib.hid hr; clear hr
  refine (Hcall.out).mono ?_
  rintro e w2 ⟨rfl, hb⟩
  replace HB := Lib.hid (HB.out.trans (hb.mono HB.out.size))
  replace Hbt := Lib.hid (Hbt.out.below hb Hbt.out.lt)
  replace Htc := Lib.hid (Htc.out.stay hb (Nat.le_refl _))
  replace Hlc := Lib.hid (Hlc.out.stay hb (Nat.le_refl _))
  replace Hmc := Lib.hid (Hmc.out.stay hb (Nat.le_refl _))
  replace Hnc := Lib.hid (Hnc.out.stay hb (Nat.le_refl _))
  clear hb
  clear Hcall
  cases r
  case false =>
    go_wp2
    go_ret
    exact ⟨rfl, HB.out⟩
  have it := (rightB_iff.1 Hr.out.symm).2 t (by simp); clear Hr
  have It := Lib.hid it; clear it
  obtain ⟨⟨bt0, bt1, bt2, bt3⟩, -⟩ := Hbt.out.four
  have btl := Hbt.out.lt
  go_wp2_with fail
  obtain ⟨Wrr, hWrr⟩ : ∃ W, W = w2.alloc (.cells #[.slice Al l.length cl, .slice Am m.length cm, .slice An n.length cn] 22) := ⟨_, rfl⟩
  rw [← hWrr]
  have hb : Below w2.heap.size w2 Wrr := by rw [hWrr]; exact (Below.refl _ _).alloc (Nat.le_refl _) _
  have hrr : RowsT Wrr (some ⟨w2.heap.size, 0, none⟩) [(l, Al, cl), (m, Am, cm), (n, An, cn)] := by
    rw [hWrr]; exact RowsT.lit (es := [(l, Al, cl), (m, Am, cm), (n, An, cn)]) (fun e he => by
      simp only [List.mem_cons, List.not_mem_nil, or_false] at he
      rcases he with rfl | rfl | rfl
      · exact Hlc.out
      · exact Hmc.out
      · exact Hnc.out
      )
  clear bt0 bt1 bt2 bt3 btl
  replace HB := Lib.hid (HB.out.trans (hb.mono HB.out.size))
  replace Hbt := Lib.hid (Hbt.out.below hb Hbt.out.lt)
  replace Htc := Lib.hid (Htc.out.stay hb (Nat.le_refl _))
  replace Hlc := Lib.hid (Hlc.out.stay hb (Nat.le_refl _))
  replace Hmc := Lib.hid (Hmc.out.stay hb (Nat.le_refl _))
  replace Hnc := Lib.hid (Hnc.out.stay hb (Nat.le_refl _))
  clear hb hWrr
  have hcall := little_calls [(l, Al, cl), (m, Am, cm), (n, An, cn)] _ 3 Wrr hrr (by simp); clear hrr
  obtain ⟨q, hq⟩ : ∃ q, q = littleB [l, m, n] := ⟨_, rfl⟩
  rw [show ([(l, Al, cl), (m, Am, cm), (n, An, cn)] : List TV).map (fun e => e.1) = [l, m, n] from rfl, ← hq] at hcall
  have Hcall := Lib.hid hcall; clear hcall; have Hq := Lib.hid hq; clear hq
  refine (Hcall.out).mono ?_
  rintro e w3 ⟨rfl, hb⟩
  replace HB := Lib.hid (HB.out.trans (hb.mono HB.out.size))
  replace Hbt := Lib.hid (Hbt.out.below hb Hbt.out.lt)
  replace Htc := Lib.hid (Htc.out.stay hb (Nat.le_refl _))
  replace Hlc := Lib.hid (Hlc.out.stay hb (Nat.le_refl _))
  replace Hmc := Lib.hid (Hmc.out.stay hb (Nat.le_refl _))
  replace Hnc := Lib.hid (Hnc.out.stay hb (Nat.le_refl _))
  clear hb
  clear Hcall
  cases q
  case false =>
    go_wp2
    go_ret
    exact ⟨rfl, HB.out⟩
  have Hltl := Lib.hid ((littleB_iff.1 Hq.out.symm l (by simp)).2)
  have Hltm := Lib.hid ((littleB_iff.1 Hq.out.symm m (by simp)).2)
  have Hltn := Lib.hid ((littleB_iff.1 Hq.out.symm n (by simp)).2)
  clear Hq
  obtain ⟨q, hq⟩ : ∃ q, q = subB l := ⟨_, rfl⟩
  have hcall := refIsSubst_calls l _ Al cl w3 Hlc.out (fun x hx => by have := smallB_size (Hltl.out) hx; omega)
  rw [← hq] at hcall
  have Hcall := Lib.hid hcall; clear hcall; have Hq := Lib.hid hq; clear hq
  obtain ⟨⟨bt0, bt1, bt2, bt3⟩, -⟩ := Hbt.out.four
  have btl := Hbt.out.lt
  go_wp2_with fail
  refine (Hcall.out).mono ?_
  rintro e w4 ⟨rfl, hb⟩
  clear bt0 bt1 bt2 bt3 btl
  replace HB := Lib.hid (HB.out.trans (hb.mono HB.out.size))
  replace Hbt := Lib.hid (Hbt.out.below hb Hbt.out.lt)
  replace Htc := Lib.hid (Htc.out.stay hb (Nat.le_refl _))
  replace Hlc := Lib.hid (Hlc.out.stay hb (Nat.le_refl _))
  replace Hmc := Lib.hid (Hmc.out.stay hb (Nat.le_refl _))
  replace Hnc := Lib.hid (Hnc.out.stay hb (Nat.le_refl _))
  clear hb
  clear Hcall
  cases q
  case false =>
    go_wp2
    go_ret
    exact ⟨rfl, HB.out⟩
  have isl : subB l = true := Hq.out.symm; clear Hq
  have Isl := Lib.hid isl; clear isl
  obtain ⟨q, hq⟩ : ∃ q, q = subB m := ⟨_, rfl⟩
  have hcall := refIsSubst_calls m _ Am cm w4 Hmc.out (fun x hx => by have := smallB_size (Hltm.out) hx; omega)
  rw [← hq] at hcall
  have Hcall := Lib.hid hcall; clear hcall; have Hq := Lib.hid hq; clear hq
  obtain ⟨⟨bt0, bt1, bt2, bt3⟩, -⟩ := Hbt.out.four
  have btl := Hbt.out.lt
  go_wp2_with fail
  refine (Hcall.out).mono ?_
  rintro e w5 ⟨rfl, hb⟩
  clear bt0 bt1 bt2 bt3 btl
  replace HB := Lib.hid (HB.out.trans (hb.mono HB.out.size))
  replace Hbt := Lib.hid (Hbt.out.below hb Hbt.out.lt)
  replace Htc := Lib.hid (Htc.out.stay hb (Nat.le_refl _))
  replace Hlc := Lib.hid (Hlc.out.stay hb (Nat.le_refl _))
  replace Hmc := Lib.hid (Hmc.out.stay hb (Nat.le_refl _))
  replace Hnc := Lib.hid (Hnc.out.stay hb (Nat.le_refl _))
  clear hb
  clear Hcall
  cases q
  case false =>
    go_wp2
    go_ret
    exact ⟨rfl, HB.out⟩
  have ism : subB m = true := Hq.out.symm; clear Hq
  have Ism := Lib.hid ism; clear ism
  obtain ⟨q, hq⟩ : ∃ q, q = subB n := ⟨_, rfl⟩
  have hcall := refIsSubst_calls n _ An cn w5 Hnc.out (fun x hx => by have := smallB_size (Hltn.out) hx; omega)
  rw [← hq] at hcall
  have Hcall := Lib.hid hcall; clear hcall; have Hq := Lib.hid hq; clear hq
  obtain ⟨⟨bt0, bt1, bt2, bt3⟩, -⟩ := Hbt.out.four
  have btl := Hbt.out.lt
  go_wp2_with fail
  refine (Hcall.out).mono ?_
  rintro e w6 ⟨rfl, hb⟩
  clear bt0 bt1 bt2 bt3 btl
  replace HB := Lib.hid (HB.out.trans (hb.mono HB.out.size))
  replace Hbt := Lib.hid (Hbt.out.below hb Hbt.out.lt)
  replace Htc := Lib.hid (Htc.out.stay hb (Nat.le_refl _))
  replace Hlc := Lib.hid (Hlc.out.stay hb (Nat.le_refl _))
  replace Hmc := Lib.hid (Hmc.out.stay hb (Nat.le_refl _))
  replace Hnc := Lib.hid (Hnc.out.stay hb (Nat.le_refl _))
  clear hb
  clear Hcall
  cases q
  case false =>
    go_wp2
    go_ret
    exact ⟨rfl, HB.out⟩
  have isn : subB n = true := Hq.out.symm; clear Hq
  have Isn := Lib.hid isn; clear isn
  have hcall := subst_ok (t := t) (x := t) (l := []) _ (fun _ => True) w6 _ none 0 ⟨At, ct, rfl, st, Htc.out⟩ (TmC.nil (fun _ => True) w6 (A := none) (c := 0) (Nat.zero_le _) (fun _ => rfl)) (subst_nil It.out)
  rw [show ([] : List Tm).length = 0 from rfl] at hcall
  have Hcall := Lib.hid hcall; clear hcall
  obtain ⟨⟨bt0, bt1, bt2, bt3⟩, -⟩ := Hbt.out.four
  have btl := Hbt.out.lt
  go_wp2_with fail
  refine Hcall.out.mono ?_
  rintro e w7 ⟨Att, ctt, rfl, stt, httc, hb⟩
  clear bt0 bt1 bt2 bt3 btl
  replace HB := Lib.hid (HB.out.trans (hb.mono HB.out.size))
  replace Hbt := Lib.hid (Hbt.out.below hb Hbt.out.lt)
  replace Htc := Lib.hid (Htc.out.stay hb (Nat.le_refl _))
  replace Hlc := Lib.hid (Hlc.out.stay hb (Nat.le_refl _))
  replace Hmc := Lib.hid (Hmc.out.stay hb (Nat.le_refl _))
  replace Hnc := Lib.hid (Hnc.out.stay hb (Nat.le_refl _))
  clear hb Hcall
  have Httc := Lib.hid httc; clear httc
  obtain ⟨V7, hV7⟩ : ∃ V, V = w7.alloc (.cells #[.int .i64 t.k, .int .i64 t.n, .string t.s, .slice Att t.l.length ctt] 25) := ⟨_, rfl⟩
  have hb : Below w7.heap.size w7 V7 := by rw [hV7]; exact (Below.refl _ _).alloc (Nat.le_refl _) _
  have Hbtt := Lib.hid (show Blk V7 w7.heap.size 25 #[.int .i64 t.k, .int .i64 t.n, .string t.s, .slice Att t.l.length ctt] from by rw [hV7]; exact Blk.new _ _ _)
  replace HB := Lib.hid (HB.out.trans (hb.mono HB.out.size))
  replace Hbt := Lib.hid (Hbt.out.below hb Hbt.out.lt)
  replace Htc := Lib.hid (Htc.out.stay hb (Nat.le_refl _))
  replace Hlc := Lib.hid (Hlc.out.stay hb (Nat.le_refl _))
  replace Hmc := Lib.hid (Hmc.out.stay hb (Nat.le_refl _))
  replace Hnc := Lib.hid (Hnc.out.stay hb (Nat.le_refl _))
  replace Httc := Lib.hid (Httc.out.stay hb (Nat.le_refl _))
  clear hb; have HV7 := Lib.hid hV7; clear hV7
  go_upto_region 6 with (fail)
  rw [← HV7.out]
  clear HV7
  have hcall := refSame_calls t _ _ V7 _ _ t ⟨Att, ctt, rfl, stt, Httc.out⟩ ⟨At, ct, rfl, st, Htc.out⟩
  rw [sameB_refl] at hcall
  have Hcall := Lib.hid hcall; clear hcall
  obtain ⟨⟨bt0, bt1, bt2, bt3⟩, -⟩ := Hbt.out.four
  have btl := Hbt.out.lt
  obtain ⟨⟨btt0, btt1, btt2, btt3⟩, -⟩ := Hbtt.out.four
  have bttl := Hbtt.out.lt
  go_wp2_with fail
  refine (Hcall.out).mono ?_
  rintro e w8 ⟨rfl, hb⟩
  clear bt0 bt1 bt2 bt3 btl btt0 btt1 btt2 btt3 bttl
  replace HB := Lib.hid (HB.out.trans (hb.mono HB.out.size))
  replace Hbt := Lib.hid (Hbt.out.below hb Hbt.out.lt)
  replace Hbtt := Lib.hid (Hbtt.out.below hb Hbtt.out.lt)
  replace Htc := Lib.hid (Htc.out.stay hb (Nat.le_refl _))
  replace Hlc := Lib.hid (Hlc.out.stay hb (Nat.le_refl _))
  replace Hmc := Lib.hid (Hmc.out.stay hb (Nat.le_refl _))
  replace Hnc := Lib.hid (Hnc.out.stay hb (Nat.le_refl _))
  replace Httc := Lib.hid (Httc.out.stay hb (Nat.le_refl _))
  clear hb
  clear Hcall
  clear Hbtt Httc
  obtain ⟨O1, hO1⟩ : ∃ O, O = composeR l m := ⟨_, rfl⟩
  have hcall := composeX_calls l m _ _ w8 Al cl Am cm Hlc.out Hmc.out
  rw [← hO1] at hcall
  cases O1 with
  | none =>
    rw [composeE_two Isl.out Ism.out] at hcall
    have Hcall := Lib.hid (show Calls Try.prog 53 _ w8 (RetMx w8 [] 2) from hcall); clear hcall
    obtain ⟨⟨bt0, bt1, bt2, bt3⟩, -⟩ := Hbt.out.four
    have btl := Hbt.out.lt
    go_wp2_with fail
    refine (Hcall.out).mono ?_
    rintro e w9 ⟨Az, cz, rfl, hzc, hb⟩
    clear bt0 bt1 bt2 bt3 btl
    replace HB := Lib.hid (HB.out.trans (hb.mono HB.out.size))
    replace Hbt := Lib.hid (Hbt.out.below hb Hbt.out.lt)
    replace Htc := Lib.hid (Htc.out.stay hb (Nat.le_refl _))
    replace Hlc := Lib.hid (Hlc.out.stay hb (Nat.le_refl _))
    replace Hmc := Lib.hid (Hmc.out.stay hb (Nat.le_refl _))
    replace Hnc := Lib.hid (Hnc.out.stay hb (Nat.le_refl _))
    clear hb
    have Hzc := Lib.hid hzc; clear hzc
    go_wp2
    go_ret
    exact ⟨rfl, HB.out⟩
  | some LM =>
    have Hcall := Lib.hid (show Calls Try.prog 53 _ w8 (RetMx w8 LM 0) from hcall); clear hcall
    obtain ⟨⟨bt0, bt1, bt2, bt3⟩, -⟩ := Hbt.out.four
    have btl := Hbt.out.lt
    go_wp2_with fail
    refine (Hcall.out).mono ?_
    rintro e w9 ⟨ALM, cLM, rfl, hLMc, hb⟩
    clear bt0 bt1 bt2 bt3 btl
    replace HB := Lib.hid (HB.out.trans (hb.mono HB.out.size))
    replace Hbt := Lib.hid (Hbt.out.below hb Hbt.out.lt)
    replace Htc := Lib.hid (Htc.out.stay hb (Nat.le_refl _))
    replace Hlc := Lib.hid (Hlc.out.stay hb (Nat.le_refl _))
    replace Hmc := Lib.hid (Hmc.out.stay hb (Nat.le_refl _))
    replace Hnc := Lib.hid (Hnc.out.stay hb (Nat.le_refl _))
    clear hb
    have HLMc := Lib.hid hLMc; clear hLMc
    clear Hcall
    have HO1 := Lib.hid hO1.symm; clear hO1
    obtain ⟨X, hX⟩ : ∃ X, X = substR t l := ⟨_, rfl⟩
    have hcall := substX_calls t l _ _ w9 _ Al cl ⟨At, ct, rfl, st, Htc.out⟩ Hlc.out
    rw [← hX] at hcall
    cases X with
    | none =>
      rw [subst_errE It.out Isl.out] at hcall
      obtain ⟨x, hx⟩ : ∃ x, x = Tm.zero := ⟨_, rfl⟩
      have Hcall := Lib.hid (show Calls Try.prog 42 _ w9 (RetTq w9 x 2) from by rw [hx]; exact hcall); clear hcall hx hX
      obtain ⟨⟨bt0, bt1, bt2, bt3⟩, -⟩ := Hbt.out.four
      have btl := Hbt.out.lt
      go_wp2_with fail
      refine (Hcall.out).mono ?_
      rintro e w10 ⟨Ax, cx, rfl, sx, hxc, hb⟩
      clear bt0 bt1 bt2 bt3 btl
      replace HB := Lib.hid (HB.out.trans (hb.mono HB.out.size))
      replace Hbt := Lib.hid (Hbt.out.below hb Hbt.out.lt)
      replace Htc := Lib.hid (Htc.out.stay hb (Nat.le_refl _))
      replace Hlc := Lib.hid (Hlc.out.stay hb (Nat.le_refl _))
      replace Hmc := Lib.hid (Hmc.out.stay hb (Nat.le_refl _))
      replace Hnc := Lib.hid (Hnc.out.stay hb (Nat.le_refl _))
      replace HLMc := Lib.hid (HLMc.out.stay hb (Nat.le_refl _))
      clear hb
      have Hxc := Lib.hid (hxc.mono (Q := (fun _ => True)) (fun _ _ => trivial)); clear hxc
      obtain ⟨V10, hV10⟩ : ∃ V, V = w10.alloc (.cells #[.int .i64 x.k, .int .i64 x.n, .string x.s, .slice Ax x.l.length cx] 25) := ⟨_, rfl⟩
      have hb : Below w10.heap.size w10 V10 := by rw [hV10]; exact (Below.refl _ _).alloc (Nat.le_refl _) _
      have Hbx := Lib.hid (show Blk V10 w10.heap.size 25 #[.int .i64 x.k, .int .i64 x.n, .string x.s, .slice Ax x.l.length cx] from by rw [hV10]; exact Blk.new _ _ _)
      replace HB := Lib.hid (HB.out.trans (hb.mono HB.out.size))
      replace Hbt := Lib.hid (Hbt.out.below hb Hbt.out.lt)
      replace Htc := Lib.hid (Htc.out.stay hb (Nat.le_refl _))
      replace Hlc := Lib.hid (Hlc.out.stay hb (Nat.le_refl _))
      replace Hmc := Lib.hid (Hmc.out.stay hb (Nat.le_refl _))
      replace Hnc := Lib.hid (Hnc.out.stay hb (Nat.le_refl _))
      replace HLMc := Lib.hid (HLMc.out.stay hb (Nat.le_refl _))
      replace Hxc := Lib.hid (Hxc.out.stay hb (Nat.le_refl _))
      clear hb
      have HV10 := Lib.hid hV10; clear hV10
      go_upto_region 12 with (fail)
      rw [← HV10.out]
      clear HV10
      clear Hcall
      clear Hbx Hxc
      obtain ⟨O2, hO2⟩ : ∃ O, O = composeR m n := ⟨_, rfl⟩
      have hcall := composeX_calls m n _ _ V10 Am cm An cn Hmc.out Hnc.out
      rw [← hO2] at hcall
      cases O2 with
      | none =>
        rw [composeE_two Ism.out Isn.out] at hcall
        have Hcall := Lib.hid (show Calls Try.prog 53 _ V10 (RetMx V10 [] 2) from hcall); clear hcall
        obtain ⟨⟨bt0, bt1, bt2, bt3⟩, -⟩ := Hbt.out.four
        have btl := Hbt.out.lt
        go_wp2_with fail
        refine (Hcall.out).mono ?_
        rintro e w11 ⟨Az, cz, rfl, hzc, hb⟩
        clear bt0 bt1 bt2 bt3 btl
        replace HB := Lib.hid (HB.out.trans (hb.mono HB.out.size))
        replace Hbt := Lib.hid (Hbt.out.below hb Hbt.out.lt)
        replace Htc := Lib.hid (Htc.out.stay hb (Nat.le_refl _))
        replace Hlc := Lib.hid (Hlc.out.stay hb (Nat.le_refl _))
        replace Hmc := Lib.hid (Hmc.out.stay hb (Nat.le_refl _))
        replace Hnc := Lib.hid (Hnc.out.stay hb (Nat.le_refl _))
        replace HLMc := Lib.hid (HLMc.out.stay hb (Nat.le_refl _))
        clear hb
        have Hzc := Lib.hid hzc; clear hzc
        clear Hcall
        have hcall := composeX_calls LM n _ _ w11 ALM cLM An cn HLMc.out Hnc.out
        obtain ⟨ON, hON⟩ : ∃ O, O = (composeR LM n).getD [] := ⟨_, rfl⟩
        obtain ⟨en, hen⟩ : ∃ O, O = (if (composeR LM n).isSome = true then 0 else composeE LM n) := ⟨_, rfl⟩
        rw [← hON, ← hen] at hcall
        have Hcall := Lib.hid hcall; clear hcall hON hen
        obtain ⟨⟨bt0, bt1, bt2, bt3⟩, -⟩ := Hbt.out.four
        have btl := Hbt.out.lt
        go_wp2_with fail
        refine (Hcall.out).mono ?_
        rintro e w12 ⟨AON, cON, rfl, hONc, hb⟩
        clear bt0 bt1 bt2 bt3 btl
        replace HB := Lib.hid (HB.out.trans (hb.mono HB.out.size))
        replace Hbt := Lib.hid (Hbt.out.below hb Hbt.out.lt)
        replace Htc := Lib.hid (Htc.out.stay hb (Nat.le_refl _))
        replace Hlc := Lib.hid (Hlc.out.stay hb (Nat.le_refl _))
        replace Hmc := Lib.hid (Hmc.out.stay hb (Nat.le_refl _))
        replace Hnc := Lib.hid (Hnc.out.stay hb (Nat.le_refl _))
        replace HLMc := Lib.hid (HLMc.out.stay hb (Nat.le_refl _))
        replace Hzc := Lib.hid (Hzc.out.stay hb (Nat.le_refl _))
        clear hb
        have HONc := Lib.hid hONc; clear hONc
        go_wp2
        go_ret
        exact ⟨rfl, HB.out⟩
      | some MN =>
        have Hcall := Lib.hid (show Calls Try.prog 53 _ V10 (RetMx V10 MN 0) from hcall); clear hcall
        have HO2 := Lib.hid hO2.symm; clear hO2
        obtain ⟨⟨bt0, bt1, bt2, bt3⟩, -⟩ := Hbt.out.four
        have btl := Hbt.out.lt
        go_wp2_with fail
        refine (Hcall.out).mono ?_
        rintro e w11 ⟨AMN, cMN, rfl, hMNc, hb⟩
        clear bt0 bt1 bt2 bt3 btl
        replace HB := Lib.hid (HB.out.trans (hb.mono HB.out.size))
        replace Hbt := Lib.hid (Hbt.out.below hb Hbt.out.lt)
        replace Htc := Lib.hid (Htc.out.stay hb (Nat.le_refl _))
        replace Hlc := Lib.hid (Hlc.out.stay hb (Nat.le_refl _))
        replace Hmc := Lib.hid (Hmc.out.stay hb (Nat.le_refl _))
        replace Hnc := Lib.hid (Hnc.out.stay hb (Nat.le_refl _))
        replace HLMc := Lib.hid (HLMc.out.stay hb (Nat.le_refl _))
        clear hb
        have HMNc := Lib.hid hMNc; clear hMNc
        clear Hcall
        obtain ⟨O3, hO3⟩ : ∃ O, O = composeR LM n := ⟨_, rfl⟩
        have hcall := composeX_calls LM n _ _ w11 ALM cLM An cn HLMc.out Hnc.out
        rw [← hO3] at hcall
        cases O3 with
        | none =>
          rw [composeE_two (sgL_compose HO1.out).1 Isn.out] at hcall
          have Hcall := Lib.hid (show Calls Try.prog 53 _ w11 (RetMx w11 [] 2) from hcall); clear hcall
          obtain ⟨⟨bt0, bt1, bt2, bt3⟩, -⟩ := Hbt.out.four
          have btl := Hbt.out.lt
          go_wp2_with fail
          refine (Hcall.out).mono ?_
          rintro e w12 ⟨Az, cz, rfl, hzc, hb⟩
          clear bt0 bt1 bt2 bt3 btl
          replace HB := Lib.hid (HB.out.trans (hb.mono HB.out.size))
          replace Hbt := Lib.hid (Hbt.out.below hb Hbt.out.lt)
          replace Htc := Lib.hid (Htc.out.stay hb (Nat.le_refl _))
          replace Hlc := Lib.hid (Hlc.out.stay hb (Nat.le_refl _))
          replace Hmc := Lib.hid (Hmc.out.stay hb (Nat.le_refl _))
          replace Hnc := Lib.hid (Hnc.out.stay hb (Nat.le_refl _))
          replace HLMc := Lib.hid (HLMc.out.stay hb (Nat.le_refl _))
          replace HMNc := Lib.hid (HMNc.out.stay hb (Nat.le_refl _))
          clear hb
          have Hzc := Lib.hid hzc; clear hzc
          go_wp2
          go_ret
          exact ⟨rfl, HB.out⟩
        | some ON =>
          have Hcall := Lib.hid (show Calls Try.prog 53 _ w11 (RetMx w11 ON 0) from hcall); clear hcall
          have hO4 := assoc_law Isl.out Ism.out Isn.out HO1.out HO2.out hO3.symm; clear hO3
          have HO4 := Lib.hid hO4; clear hO4
          obtain ⟨⟨bt0, bt1, bt2, bt3⟩, -⟩ := Hbt.out.four
          have btl := Hbt.out.lt
          go_wp2_with fail
          refine (Hcall.out).mono ?_
          rintro e w12 ⟨AON, cON, rfl, hONc, hb⟩
          clear bt0 bt1 bt2 bt3 btl
          replace HB := Lib.hid (HB.out.trans (hb.mono HB.out.size))
          replace Hbt := Lib.hid (Hbt.out.below hb Hbt.out.lt)
          replace Htc := Lib.hid (Htc.out.stay hb (Nat.le_refl _))
          replace Hlc := Lib.hid (Hlc.out.stay hb (Nat.le_refl _))
          replace Hmc := Lib.hid (Hmc.out.stay hb (Nat.le_refl _))
          replace Hnc := Lib.hid (Hnc.out.stay hb (Nat.le_refl _))
          replace HLMc := Lib.hid (HLMc.out.stay hb (Nat.le_refl _))
          replace HMNc := Lib.hid (HMNc.out.stay hb (Nat.le_refl _))
          clear hb
          have HONc := Lib.hid hONc; clear hONc
          clear Hcall
          have hcall := composeX_calls l MN _ _ w12 Al cl AMN cMN Hlc.out HMNc.out
          rw [HO4.out] at hcall
          have Hcall := Lib.hid (show Calls Try.prog 53 _ w12 (RetMx w12 ON 0) from hcall); clear hcall
          obtain ⟨⟨bt0, bt1, bt2, bt3⟩, -⟩ := Hbt.out.four
          have btl := Hbt.out.lt
          go_wp2_with fail
          refine Hcall.out.mono ?_
          rintro e w13 ⟨AO2, cO2, rfl, hO2c, hb⟩
          clear bt0 bt1 bt2 bt3 btl
          replace HB := Lib.hid (HB.out.trans (hb.mono HB.out.size))
          replace Hbt := Lib.hid (Hbt.out.below hb Hbt.out.lt)
          replace Htc := Lib.hid (Htc.out.stay hb (Nat.le_refl _))
          replace Hlc := Lib.hid (Hlc.out.stay hb (Nat.le_refl _))
          replace Hmc := Lib.hid (Hmc.out.stay hb (Nat.le_refl _))
          replace Hnc := Lib.hid (Hnc.out.stay hb (Nat.le_refl _))
          replace HLMc := Lib.hid (HLMc.out.stay hb (Nat.le_refl _))
          replace HMNc := Lib.hid (HMNc.out.stay hb (Nat.le_refl _))
          replace HONc := Lib.hid (HONc.out.stay hb (Nat.le_refl _))
          clear hb
          have hcall := sameAll_calls ON ON AON cON AO2 cO2 _ _ w13 HONc.out hO2c
          rw [sameL_iff.2 rfl] at hcall
          have Hcall2 := Lib.hid hcall; clear hcall hO2c Hcall
          obtain ⟨⟨bt0, bt1, bt2, bt3⟩, -⟩ := Hbt.out.four
          have btl := Hbt.out.lt
          go_wp2_with fail
          refine (Hcall2.out).mono ?_
          rintro e w14 ⟨rfl, hb⟩
          clear bt0 bt1 bt2 bt3 btl
          replace HB := Lib.hid (HB.out.trans (hb.mono HB.out.size))
          replace Hbt := Lib.hid (Hbt.out.below hb Hbt.out.lt)
          replace Htc := Lib.hid (Htc.out.stay hb (Nat.le_refl _))
          replace Hlc := Lib.hid (Hlc.out.stay hb (Nat.le_refl _))
          replace Hmc := Lib.hid (Hmc.out.stay hb (Nat.le_refl _))
          replace Hnc := Lib.hid (Hnc.out.stay hb (Nat.le_refl _))
          replace HLMc := Lib.hid (HLMc.out.stay hb (Nat.le_refl _))
          replace HMNc := Lib.hid (HMNc.out.stay hb (Nat.le_refl _))
          replace HONc := Lib.hid (HONc.out.stay hb (Nat.le_refl _))
          clear hb
          go_wp2
          go_ret
          exact ⟨rfl, HB.out⟩
    | some x =>
      have Hcall := Lib.hid (show Calls Try.prog 42 _ w9 (RetTq w9 x 0) from hcall); clear hcall
      obtain ⟨hxb, hxl⟩ := composed_law It.out Isl.out Ism.out HO1.out hX.symm
      have Hxl := Lib.hid hxl; have Hxb := Lib.hid hxb; clear hxl hxb hX
      obtain ⟨⟨bt0, bt1, bt2, bt3⟩, -⟩ := Hbt.out.four
      have btl := Hbt.out.lt
      go_wp2_with fail
      refine (Hcall.out).mono ?_
      rintro e w10 ⟨Ax, cx, rfl, sx, hxc, hb⟩
      clear bt0 bt1 bt2 bt3 btl
      replace HB := Lib.hid (HB.out.trans (hb.mono HB.out.size))
      replace Hbt := Lib.hid (Hbt.out.below hb Hbt.out.lt)
      replace Htc := Lib.hid (Htc.out.stay hb (Nat.le_refl _))
      replace Hlc := Lib.hid (Hlc.out.stay hb (Nat.le_refl _))
      replace Hmc := Lib.hid (Hmc.out.stay hb (Nat.le_refl _))
      replace Hnc := Lib.hid (Hnc.out.stay hb (Nat.le_refl _))
      replace HLMc := Lib.hid (HLMc.out.stay hb (Nat.le_refl _))
      clear hb
      have Hxc := Lib.hid (hxc.mono (Q := (fun _ => True)) (fun _ _ => trivial)); clear hxc
      obtain ⟨V10, hV10⟩ : ∃ V, V = w10.alloc (.cells #[.int .i64 x.k, .int .i64 x.n, .string x.s, .slice Ax x.l.length cx] 25) := ⟨_, rfl⟩
      have hb : Below w10.heap.size w10 V10 := by rw [hV10]; exact (Below.refl _ _).alloc (Nat.le_refl _) _
      have Hbx := Lib.hid (show Blk V10 w10.heap.size 25 #[.int .i64 x.k, .int .i64 x.n, .string x.s, .slice Ax x.l.length cx] from by rw [hV10]; exact Blk.new _ _ _)
      replace HB := Lib.hid (HB.out.trans (hb.mono HB.out.size))
      replace Hbt := Lib.hid (Hbt.out.below hb Hbt.out.lt)
      replace Htc := Lib.hid (Htc.out.stay hb (Nat.le_refl _))
      replace Hlc := Lib.hid (Hlc.out.stay hb (Nat.le_refl _))
      replace Hmc := Lib.hid (Hmc.out.stay hb (Nat.le_refl _))
      replace Hnc := Lib.hid (Hnc.out.stay hb (Nat.le_refl _))
      replace HLMc := Lib.hid (HLMc.out.stay hb (Nat.le_refl _))
      replace Hxc := Lib.hid (Hxc.out.stay hb (Nat.le_refl _))
      clear hb
      have HV10 := Lib.hid hV10; clear hV10
      go_upto_region 12 with (fail)
      rw [← HV10.out]
      clear HV10
      clear Hcall
      have hcall := substX_calls x m _ _ V10 _ Am cm ⟨Ax, cx, rfl, sx, Hxc.out⟩ Hmc.out
      obtain ⟨y, hy⟩ : ∃ y, y = (substR x m).getD Tm.zero := ⟨_, rfl⟩
      have hsx : (if (substR x m).isSome = true then (0 : Int) else substE x m) = (if (substR t LM).isSome = true then (0 : Int) else 2) := by
        rw [Hxl.out]
        cases hc : substR t LM with
        | some _ => rfl
        | none => exact subst_errE Hxb.out Ism.out
      obtain ⟨ey, hey⟩ : ∃ ey, ey = (if (substR t LM).isSome = true then (0 : Int) else 2) := ⟨_, rfl⟩
      rw [← hy, hsx, ← hey] at hcall
      rw [Hxl.out] at hy
      have Hcall := Lib.hid hcall; have Hy := Lib.hid hy; have Hey := Lib.hid hey; clear hcall hy hey hsx
      obtain ⟨⟨bt0, bt1, bt2, bt3⟩, -⟩ := Hbt.out.four
      have btl := Hbt.out.lt
      obtain ⟨⟨bx0, bx1, bx2, bx3⟩, -⟩ := Hbx.out.four
      have bxl := Hbx.out.lt
      go_wp2_with fail
      refine (Hcall.out).mono ?_
      rintro e w11 ⟨Ay, cy, rfl, sy, hyc, hb⟩
      clear bt0 bt1 bt2 bt3 btl bx0 bx1 bx2 bx3 bxl
      replace HB := Lib.hid (HB.out.trans (hb.mono HB.out.size))
      replace Hbt := Lib.hid (Hbt.out.below hb Hbt.out.lt)
      replace Hbx := Lib.hid (Hbx.out.below hb Hbx.out.lt)
      replace Htc := Lib.hid (Htc.out.stay hb (Nat.le_refl _))
      replace Hlc := Lib.hid (Hlc.out.stay hb (Nat.le_refl _))
      replace Hmc := Lib.hid (Hmc.out.stay hb (Nat.le_refl _))
      replace Hnc := Lib.hid (Hnc.out.stay hb (Nat.le_refl _))
      replace HLMc := Lib.hid (HLMc.out.stay hb (Nat.le_refl _))
      replace Hxc := Lib.hid (Hxc.out.stay hb (Nat.le_refl _))
      clear hb
      have Hyc := Lib.hid (hyc.mono (Q := (fun _ => True)) (fun _ _ => trivial)); clear hyc
      obtain ⟨V11, hV11⟩ : ∃ V, V = w11.alloc (.cells #[.int .i64 y.k, .int .i64 y.n, .string y.s, .slice Ay y.l.length cy] 25) := ⟨_, rfl⟩
      have hb : Below w11.heap.size w11 V11 := by rw [hV11]; exact (Below.refl _ _).alloc (Nat.le_refl _) _
      have Hby := Lib.hid (show Blk V11 w11.heap.size 25 #[.int .i64 y.k, .int .i64 y.n, .string y.s, .slice Ay y.l.length cy] from by rw [hV11]; exact Blk.new _ _ _)
      replace HB := Lib.hid (HB.out.trans (hb.mono HB.out.size))
      replace Hbt := Lib.hid (Hbt.out.below hb Hbt.out.lt)
      replace Hbx := Lib.hid (Hbx.out.below hb Hbx.out.lt)
      replace Htc := Lib.hid (Htc.out.stay hb (Nat.le_refl _))
      replace Hlc := Lib.hid (Hlc.out.stay hb (Nat.le_refl _))
      replace Hmc := Lib.hid (Hmc.out.stay hb (Nat.le_refl _))
      replace Hnc := Lib.hid (Hnc.out.stay hb (Nat.le_refl _))
      replace HLMc := Lib.hid (HLMc.out.stay hb (Nat.le_refl _))
      replace Hxc := Lib.hid (Hxc.out.stay hb (Nat.le_refl _))
      replace Hyc := Lib.hid (Hyc.out.stay hb (Nat.le_refl _))
      clear hb
      have HV11 := Lib.hid hV11; clear hV11
      go_upto_region 14 with (fail)
      rw [← HV11.out]
      clear HV11
      clear Hcall
      have hcall := substX_calls t LM _ _ V11 _ ALM cLM ⟨At, ct, rfl, st, Htc.out⟩ HLMc.out
      rw [← Hy.out, subst_errE It.out (sgL_compose HO1.out).1, ← Hey.out] at hcall
      have Hcall := Lib.hid hcall; clear hcall Hy Hey
      obtain ⟨⟨bt0, bt1, bt2, bt3⟩, -⟩ := Hbt.out.four
      have btl := Hbt.out.lt
      obtain ⟨⟨bx0, bx1, bx2, bx3⟩, -⟩ := Hbx.out.four
      have bxl := Hbx.out.lt
      obtain ⟨⟨by0, by1, by2, by3⟩, -⟩ := Hby.out.four
      have byl := Hby.out.lt
      go_wp2_with fail
      refine Hcall.out.mono ?_
      rintro e w12 ⟨Ayy, cyy, rfl, syy, hyyc, hb⟩
      clear bt0 bt1 bt2 bt3 btl bx0 bx1 bx2 bx3 bxl by0 by1 by2 by3 byl
      replace HB := Lib.hid (HB.out.trans (hb.mono HB.out.size))
      replace Hbt := Lib.hid (Hbt.out.below hb Hbt.out.lt)
      replace Hbx := Lib.hid (Hbx.out.below hb Hbx.out.lt)
      replace Hby := Lib.hid (Hby.out.below hb Hby.out.lt)
      replace Htc := Lib.hid (Htc.out.stay hb (Nat.le_refl _))
      replace Hlc := Lib.hid (Hlc.out.stay hb (Nat.le_refl _))
      replace Hmc := Lib.hid (Hmc.out.stay hb (Nat.le_refl _))
      replace Hnc := Lib.hid (Hnc.out.stay hb (Nat.le_refl _))
      replace HLMc := Lib.hid (HLMc.out.stay hb (Nat.le_refl _))
      replace Hxc := Lib.hid (Hxc.out.stay hb (Nat.le_refl _))
      replace Hyc := Lib.hid (Hyc.out.stay hb (Nat.le_refl _))
      clear hb Hcall
      have Hyyc := Lib.hid hyyc; clear hyyc
      obtain ⟨V9, hV9⟩ : ∃ V, V = w12.alloc (.cells #[.int .i64 y.k, .int .i64 y.n, .string y.s, .slice Ayy y.l.length cyy] 25) := ⟨_, rfl⟩
      have hb : Below w12.heap.size w12 V9 := by rw [hV9]; exact (Below.refl _ _).alloc (Nat.le_refl _) _
      have Hbyy := Lib.hid (show Blk V9 w12.heap.size 25 #[.int .i64 y.k, .int .i64 y.n, .string y.s, .slice Ayy y.l.length cyy] from by rw [hV9]; exact Blk.new _ _ _)
      replace HB := Lib.hid (HB.out.trans (hb.mono HB.out.size))
      replace Hbt := Lib.hid (Hbt.out.below hb Hbt.out.lt)
      replace Hbx := Lib.hid (Hbx.out.below hb Hbx.out.lt)
      replace Hby := Lib.hid (Hby.out.below hb Hby.out.lt)
      replace Htc := Lib.hid (Htc.out.stay hb (Nat.le_refl _))
      replace Hlc := Lib.hid (Hlc.out.stay hb (Nat.le_refl _))
      replace Hmc := Lib.hid (Hmc.out.stay hb (Nat.le_refl _))
      replace Hnc := Lib.hid (Hnc.out.stay hb (Nat.le_refl _))
      replace HLMc := Lib.hid (HLMc.out.stay hb (Nat.le_refl _))
      replace Hxc := Lib.hid (Hxc.out.stay hb (Nat.le_refl _))
      replace Hyc := Lib.hid (Hyc.out.stay hb (Nat.le_refl _))
      replace Hyyc := Lib.hid (Hyyc.out.stay hb (Nat.le_refl _))
      clear hb; have HV9 := Lib.hid hV9; clear hV9
      go_upto_region 15 with (fail)
      rw [← HV9.out]
      clear HV9
      have hcall := refSame_calls y _ _ V9 _ _ y ⟨Ay, cy, rfl, sy, Hyc.out⟩ ⟨Ayy, cyy, rfl, syy, Hyyc.out⟩
      rw [sameB_refl] at hcall
      have Hcall := Lib.hid hcall; clear hcall
      have hee : (ey != ey) = false := by simp
      obtain ⟨⟨bt0, bt1, bt2, bt3⟩, -⟩ := Hbt.out.four
      have btl := Hbt.out.lt
      obtain ⟨⟨bx0, bx1, bx2, bx3⟩, -⟩ := Hbx.out.four
      have bxl := Hbx.out.lt
      obtain ⟨⟨by0, by1, by2, by3⟩, -⟩ := Hby.out.four
      have byl := Hby.out.lt
      obtain ⟨⟨byy0, byy1, byy2, byy3⟩, -⟩ := Hbyy.out.four
      have byyl := Hbyy.out.lt
      go_wp2_with fail
      refine (Hcall.out).mono ?_
      rintro e w13 ⟨rfl, hb⟩
      clear bt0 bt1 bt2 bt3 btl bx0 bx1 bx2 bx3 bxl by0 by1 by2 by3 byl byy0 byy1 byy2 byy3 byyl
      replace HB := Lib.hid (HB.out.trans (hb.mono HB.out.size))
      replace Hbt := Lib.hid (Hbt.out.below hb Hbt.out.lt)
      replace Hbx := Lib.hid (Hbx.out.below hb Hbx.out.lt)
      replace Hby := Lib.hid (Hby.out.below hb Hby.out.lt)
      replace Hbyy := Lib.hid (Hbyy.out.below hb Hbyy.out.lt)
      replace Htc := Lib.hid (Htc.out.stay hb (Nat.le_refl _))
      replace Hlc := Lib.hid (Hlc.out.stay hb (Nat.le_refl _))
      replace Hmc := Lib.hid (Hmc.out.stay hb (Nat.le_refl _))
      replace Hnc := Lib.hid (Hnc.out.stay hb (Nat.le_refl _))
      replace HLMc := Lib.hid (HLMc.out.stay hb (Nat.le_refl _))
      replace Hxc := Lib.hid (Hxc.out.stay hb (Nat.le_refl _))
      replace Hyc := Lib.hid (Hyc.out.stay hb (Nat.le_refl _))
      replace Hyyc := Lib.hid (Hyyc.out.stay hb (Nat.le_refl _))
      clear hb
      clear Hcall hee
      clear Hbyy Hyyc Hby Hyc
      clear Hbx Hxc
      obtain ⟨O2, hO2⟩ : ∃ O, O = composeR m n := ⟨_, rfl⟩
      have hcall := composeX_calls m n _ _ w13 Am cm An cn Hmc.out Hnc.out
      rw [← hO2] at hcall
      cases O2 with
      | none =>
        rw [composeE_two Ism.out Isn.out] at hcall
        have Hcall := Lib.hid (show Calls Try.prog 53 _ w13 (RetMx w13 [] 2) from hcall); clear hcall
        obtain ⟨⟨bt0, bt1, bt2, bt3⟩, -⟩ := Hbt.out.four
        have btl := Hbt.out.lt
        go_wp2_with fail
        refine (Hcall.out).mono ?_
        rintro e w14 ⟨Az, cz, rfl, hzc, hb⟩
        clear bt0 bt1 bt2 bt3 btl
        replace HB := Lib.hid (HB.out.trans (hb.mono HB.out.size))
        replace Hbt := Lib.hid (Hbt.out.below hb Hbt.out.lt)
        replace Htc := Lib.hid (Htc.out.stay hb (Nat.le_refl _))
        replace Hlc := Lib.hid (Hlc.out.stay hb (Nat.le_refl _))
        replace Hmc := Lib.hid (Hmc.out.stay hb (Nat.le_refl _))
        replace Hnc := Lib.hid (Hnc.out.stay hb (Nat.le_refl _))
        replace HLMc := Lib.hid (HLMc.out.stay hb (Nat.le_refl _))
        clear hb
        have Hzc := Lib.hid hzc; clear hzc
        clear Hcall
        have hcall := composeX_calls LM n _ _ w14 ALM cLM An cn HLMc.out Hnc.out
        obtain ⟨ON, hON⟩ : ∃ O, O = (composeR LM n).getD [] := ⟨_, rfl⟩
        obtain ⟨en, hen⟩ : ∃ O, O = (if (composeR LM n).isSome = true then 0 else composeE LM n) := ⟨_, rfl⟩
        rw [← hON, ← hen] at hcall
        have Hcall := Lib.hid hcall; clear hcall hON hen
        obtain ⟨⟨bt0, bt1, bt2, bt3⟩, -⟩ := Hbt.out.four
        have btl := Hbt.out.lt
        go_wp2_with fail
        refine (Hcall.out).mono ?_
        rintro e w15 ⟨AON, cON, rfl, hONc, hb⟩
        clear bt0 bt1 bt2 bt3 btl
        replace HB := Lib.hid (HB.out.trans (hb.mono HB.out.size))
        replace Hbt := Lib.hid (Hbt.out.below hb Hbt.out.lt)
        replace Htc := Lib.hid (Htc.out.stay hb (Nat.le_refl _))
        replace Hlc := Lib.hid (Hlc.out.stay hb (Nat.le_refl _))
        replace Hmc := Lib.hid (Hmc.out.stay hb (Nat.le_refl _))
        replace Hnc := Lib.hid (Hnc.out.stay hb (Nat.le_refl _))
        replace HLMc := Lib.hid (HLMc.out.stay hb (Nat.le_refl _))
        replace Hzc := Lib.hid (Hzc.out.stay hb (Nat.le_refl _))
        clear hb
        have HONc := Lib.hid hONc; clear hONc
        go_wp2
        go_ret
        exact ⟨rfl, HB.out⟩
      | some MN =>
        have Hcall := Lib.hid (show Calls Try.prog 53 _ w13 (RetMx w13 MN 0) from hcall); clear hcall
        have HO2 := Lib.hid hO2.symm; clear hO2
        obtain ⟨⟨bt0, bt1, bt2, bt3⟩, -⟩ := Hbt.out.four
        have btl := Hbt.out.lt
        go_wp2_with fail
        refine (Hcall.out).mono ?_
        rintro e w14 ⟨AMN, cMN, rfl, hMNc, hb⟩
        clear bt0 bt1 bt2 bt3 btl
        replace HB := Lib.hid (HB.out.trans (hb.mono HB.out.size))
        replace Hbt := Lib.hid (Hbt.out.below hb Hbt.out.lt)
        replace Htc := Lib.hid (Htc.out.stay hb (Nat.le_refl _))
        replace Hlc := Lib.hid (Hlc.out.stay hb (Nat.le_refl _))
        replace Hmc := Lib.hid (Hmc.out.stay hb (Nat.le_refl _))
        replace Hnc := Lib.hid (Hnc.out.stay hb (Nat.le_refl _))
        replace HLMc := Lib.hid (HLMc.out.stay hb (Nat.le_refl _))
        clear hb
        have HMNc := Lib.hid hMNc; clear hMNc
        clear Hcall
        obtain ⟨O3, hO3⟩ : ∃ O, O = composeR LM n := ⟨_, rfl⟩
        have hcall := composeX_calls LM n _ _ w14 ALM cLM An cn HLMc.out Hnc.out
        rw [← hO3] at hcall
        cases O3 with
        | none =>
          rw [composeE_two (sgL_compose HO1.out).1 Isn.out] at hcall
          have Hcall := Lib.hid (show Calls Try.prog 53 _ w14 (RetMx w14 [] 2) from hcall); clear hcall
          obtain ⟨⟨bt0, bt1, bt2, bt3⟩, -⟩ := Hbt.out.four
          have btl := Hbt.out.lt
          go_wp2_with fail
          refine (Hcall.out).mono ?_
          rintro e w15 ⟨Az, cz, rfl, hzc, hb⟩
          clear bt0 bt1 bt2 bt3 btl
          replace HB := Lib.hid (HB.out.trans (hb.mono HB.out.size))
          replace Hbt := Lib.hid (Hbt.out.below hb Hbt.out.lt)
          replace Htc := Lib.hid (Htc.out.stay hb (Nat.le_refl _))
          replace Hlc := Lib.hid (Hlc.out.stay hb (Nat.le_refl _))
          replace Hmc := Lib.hid (Hmc.out.stay hb (Nat.le_refl _))
          replace Hnc := Lib.hid (Hnc.out.stay hb (Nat.le_refl _))
          replace HLMc := Lib.hid (HLMc.out.stay hb (Nat.le_refl _))
          replace HMNc := Lib.hid (HMNc.out.stay hb (Nat.le_refl _))
          clear hb
          have Hzc := Lib.hid hzc; clear hzc
          go_wp2
          go_ret
          exact ⟨rfl, HB.out⟩
        | some ON =>
          have Hcall := Lib.hid (show Calls Try.prog 53 _ w14 (RetMx w14 ON 0) from hcall); clear hcall
          have hO4 := assoc_law Isl.out Ism.out Isn.out HO1.out HO2.out hO3.symm; clear hO3
          have HO4 := Lib.hid hO4; clear hO4
          obtain ⟨⟨bt0, bt1, bt2, bt3⟩, -⟩ := Hbt.out.four
          have btl := Hbt.out.lt
          go_wp2_with fail
          refine (Hcall.out).mono ?_
          rintro e w15 ⟨AON, cON, rfl, hONc, hb⟩
          clear bt0 bt1 bt2 bt3 btl
          replace HB := Lib.hid (HB.out.trans (hb.mono HB.out.size))
          replace Hbt := Lib.hid (Hbt.out.below hb Hbt.out.lt)
          replace Htc := Lib.hid (Htc.out.stay hb (Nat.le_refl _))
          replace Hlc := Lib.hid (Hlc.out.stay hb (Nat.le_refl _))
          replace Hmc := Lib.hid (Hmc.out.stay hb (Nat.le_refl _))
          replace Hnc := Lib.hid (Hnc.out.stay hb (Nat.le_refl _))
          replace HLMc := Lib.hid (HLMc.out.stay hb (Nat.le_refl _))
          replace HMNc := Lib.hid (HMNc.out.stay hb (Nat.le_refl _))
          clear hb
          have HONc := Lib.hid hONc; clear hONc
          clear Hcall
          have hcall := composeX_calls l MN _ _ w15 Al cl AMN cMN Hlc.out HMNc.out
          rw [HO4.out] at hcall
          have Hcall := Lib.hid (show Calls Try.prog 53 _ w15 (RetMx w15 ON 0) from hcall); clear hcall
          obtain ⟨⟨bt0, bt1, bt2, bt3⟩, -⟩ := Hbt.out.four
          have btl := Hbt.out.lt
          go_wp2_with fail
          refine Hcall.out.mono ?_
          rintro e w16 ⟨AO2, cO2, rfl, hO2c, hb⟩
          clear bt0 bt1 bt2 bt3 btl
          replace HB := Lib.hid (HB.out.trans (hb.mono HB.out.size))
          replace Hbt := Lib.hid (Hbt.out.below hb Hbt.out.lt)
          replace Htc := Lib.hid (Htc.out.stay hb (Nat.le_refl _))
          replace Hlc := Lib.hid (Hlc.out.stay hb (Nat.le_refl _))
          replace Hmc := Lib.hid (Hmc.out.stay hb (Nat.le_refl _))
          replace Hnc := Lib.hid (Hnc.out.stay hb (Nat.le_refl _))
          replace HLMc := Lib.hid (HLMc.out.stay hb (Nat.le_refl _))
          replace HMNc := Lib.hid (HMNc.out.stay hb (Nat.le_refl _))
          replace HONc := Lib.hid (HONc.out.stay hb (Nat.le_refl _))
          clear hb
          have hcall := sameAll_calls ON ON AON cON AO2 cO2 _ _ w16 HONc.out hO2c
          rw [sameL_iff.2 rfl] at hcall
          have Hcall2 := Lib.hid hcall; clear hcall hO2c Hcall
          obtain ⟨⟨bt0, bt1, bt2, bt3⟩, -⟩ := Hbt.out.four
          have btl := Hbt.out.lt
          go_wp2_with fail
          refine (Hcall2.out).mono ?_
          rintro e w17 ⟨rfl, hb⟩
          clear bt0 bt1 bt2 bt3 btl
          replace HB := Lib.hid (HB.out.trans (hb.mono HB.out.size))
          replace Hbt := Lib.hid (Hbt.out.below hb Hbt.out.lt)
          replace Htc := Lib.hid (Htc.out.stay hb (Nat.le_refl _))
          replace Hlc := Lib.hid (Hlc.out.stay hb (Nat.le_refl _))
          replace Hmc := Lib.hid (Hmc.out.stay hb (Nat.le_refl _))
          replace Hnc := Lib.hid (Hnc.out.stay hb (Nat.le_refl _))
          replace HLMc := Lib.hid (HLMc.out.stay hb (Nat.le_refl _))
          replace HMNc := Lib.hid (HMNc.out.stay hb (Nat.le_refl _))
          replace HONc := Lib.hid (HONc.out.stay hb (Nat.le_refl _))
          clear hb
          go_wp2
          go_ret
          exact ⟨rfl, HB.out⟩
end Go.Proofs.Ytfhgknmkpegpbaa
