/- The walk of TermGround. -/
import Derived.Test.YtfhgknmkpegpbaaM8
import Derived.Test.YtfhgknmkpegpbaaCT46
import Derived.Test.YtfhgknmkpegpbaaCT58
import Derived.Test.YtfhgknmkpegpbaaCP9
import Derived.Test.YtfhgknmkpegpbaaCS2
set_option linter.unusedVariables false
set_option linter.unusedSimpArgs false
namespace Go.Proofs.Ytfhgknmkpegpbaa
open Go.RowKit

set_option maxRecDepth 100000 in
set_option maxHeartbeats 16000000 in
theorem groundLaw_calls (t : Tm) (vt : Value) (s : List Tm) (As : Option Addr) (cs : Nat) (P : Nat → Prop) (w : World) (ht : TmV P w vt t) (hs : TmC P w As cs s) (hlens : s.length * 56 ≤ 140737488351232) :
    Calls Try.prog 9 #[vt, .slice As s.length cs] w fun e w' => e = .returned (.bool true) ∧ Below w.heap.size w w' := by
  have hmm := @run_makeMap Try.prog
  obtain ⟨At, ct, rfl, st, htc⟩ := ht
  have hl1s := hs.len.1; have hl2s := hs.len.2.1
  obtain ⟨W0, hW0⟩ : ∃ W0, W0 = (w.alloc (.cells #[.int .i64 t.k, .int .i64 t.n, .string t.s, .slice At t.l.length ct] 25)) := ⟨_, rfl⟩
  have HB := Lib.hid (show Below w.heap.size w W0 from by rw [hW0]; exact ((Below.refl _ _).alloc (by simp; try omega) _))
  have Hbt := Lib.hid (show Blk W0 (w.heap.size) 25 #[.int .i64 t.k, .int .i64 t.n, .string t.s, .slice At t.l.length ct] from by rw [hW0]; exact (Blk.new' rfl))
  have Htc := Lib.hid ((htc.mono (Q := (fun _ => True)) (fun _ _ => trivial)).stay HB.out (Nat.le_refl _)); clear htc
  have Hsc := Lib.hid ((hs.mono (Q := (fun _ => True)) (fun _ _ => trivial)).stay HB.out (Nat.le_refl _)); clear hs
  have HW := Lib.hid hW0; clear hW0
  go_enter Try.func9, Try.ntmps9
  go_wp2_with fail
  rw [← HW.out]
  clear HW
  refine (sane_calls W0).mono ?_
  rintro e w1 ⟨rfl, hb⟩
  replace HB := Lib.hid (HB.out.trans (hb.mono HB.out.size))
  replace Hbt := Lib.hid (Hbt.out.below hb Hbt.out.lt)
  replace Htc := Lib.hid (Htc.out.stay hb (Nat.le_refl _))
  replace Hsc := Lib.hid (Hsc.out.stay hb (Nat.le_refl _))
  clear hb
  obtain ⟨⟨bt0, bt1, bt2, bt3⟩, -⟩ := Hbt.out.four
  have btl := Hbt.out.lt
  go_wp2_with fail
  obtain ⟨Wlit, hWlit⟩ : ∃ W, W = w1.alloc (.cells #[.int .i64 t.k, .int .i64 t.n, .string t.s, .slice At t.l.length ct] 25) := ⟨_, rfl⟩
  rw [← hWlit]
  have hb : Below w1.heap.size w1 Wlit := by rw [hWlit]; exact (Below.refl _ _).alloc (Nat.le_refl _) _
  have hlit : TmC (fun _ => True) Wlit (some ⟨w1.heap.size, 0, none⟩) 1 [t] := by
    rw [hWlit]; exact (TmC.lit3 (P := (fun _ => True)) [(t, At, ct)] (fun e he => by
      simp only [List.mem_cons, List.not_mem_nil, or_false] at he
      subst he
      exact ⟨st, Htc.out⟩
      ) (by simp)).mono (fun _ _ => trivial)
  clear bt0 bt1 bt2 bt3 btl
  replace HB := Lib.hid (HB.out.trans (hb.mono HB.out.size))
  replace Hbt := Lib.hid (Hbt.out.below hb Hbt.out.lt)
  replace Htc := Lib.hid (Htc.out.stay hb (Nat.le_refl _))
  replace Hsc := Lib.hid (Hsc.out.stay hb (Nat.le_refl _))
  clear hb hWlit
  have hcall := right_calls [t] _ _ _ _ hlit; clear hlit
  obtain ⟨r, hr⟩ : ∃ r, r = rightB [t] := ⟨_, rfl⟩
  rw [← hr] at hcall
  have Hcall := Lib.hid hcall; clear hcall
  have Hr := Lib.hid hr; clear hr
  refine (Hcall.out).mono ?_
  rintro e w2 ⟨rfl, hb⟩
  replace HB := Lib.hid (HB.out.trans (hb.mono HB.out.size))
  replace Hbt := Lib.hid (Hbt.out.below hb Hbt.out.lt)
  replace Htc := Lib.hid (Htc.out.stay hb (Nat.le_refl _))
  replace Hsc := Lib.hid (Hsc.out.stay hb (Nat.le_refl _))
  clear hb
  clear Hcall
  cases r
  case false =>
    go_wp2
    go_ret
    exact ⟨rfl, HB.out⟩
  have it := (rightB_iff.1 Hr.out.symm).2 t (by simp); clear Hr
  have It := Lib.hid it; clear it
  obtain ⟨⟨bt0, bt1, bt2, bt3⟩, -⟩ := Hbt.out.four
  have btl := Hbt.out.lt
  go_wp2_with fail
  obtain ⟨Wrr, hWrr⟩ : ∃ W, W = w2.alloc (.cells #[.slice As s.length cs] 22) := ⟨_, rfl⟩
  rw [← hWrr]
  have hb : Below w2.heap.size w2 Wrr := by rw [hWrr]; exact (Below.refl _ _).alloc (Nat.le_refl _) _
  have hrr : RowsT Wrr (some ⟨w2.heap.size, 0, none⟩) [(s, As, cs)] := by
    rw [hWrr]; exact RowsT.lit (es := [(s, As, cs)]) (fun e he => by
      simp only [List.mem_cons, List.not_mem_nil, or_false] at he
      subst he
      exact Hsc.out
      )
  clear bt0 bt1 bt2 bt3 btl
  replace HB := Lib.hid (HB.out.trans (hb.mono HB.out.size))
  replace Hbt := Lib.hid (Hbt.out.below hb Hbt.out.lt)
  replace Htc := Lib.hid (Htc.out.stay hb (Nat.le_refl _))
  replace Hsc := Lib.hid (Hsc.out.stay hb (Nat.le_refl _))
  clear hb hWrr
  have hcall := little_calls [(s, As, cs)] _ 1 Wrr hrr (by simp); clear hrr
  obtain ⟨q, hq⟩ : ∃ q, q = littleB [s] := ⟨_, rfl⟩
  rw [show ([(s, As, cs)] : List TV).map (fun e => e.1) = [s] from rfl, ← hq] at hcall
  have Hcall := Lib.hid hcall; clear hcall; have Hq := Lib.hid hq; clear hq
  refine (Hcall.out).mono ?_
  rintro e w3 ⟨rfl, hb⟩
  replace HB := Lib.hid (HB.out.trans (hb.mono HB.out.size))
  replace Hbt := Lib.hid (Hbt.out.below hb Hbt.out.lt)
  replace Htc := Lib.hid (Htc.out.stay hb (Nat.le_refl _))
  replace Hsc := Lib.hid (Hsc.out.stay hb (Nat.le_refl _))
  clear hb
  clear Hcall
  cases q
  case false =>
    go_wp2
    go_ret
    exact ⟨rfl, HB.out⟩
  have Hlts := Lib.hid ((littleB_iff.1 Hq.out.symm s (by simp)).2)
  clear Hq
  obtain ⟨q, hq⟩ : ∃ q, q = subB s := ⟨_, rfl⟩
  have hcall := refIsSubst_calls s _ As cs w3 Hsc.out (fun x hx => by have := smallB_size (Hlts.out) hx; omega)
  rw [← hq] at hcall
  have Hcall := Lib.hid hcall; clear hcall; have Hq := Lib.hid hq; clear hq
  obtain ⟨⟨bt0, bt1, bt2, bt3⟩, -⟩ := Hbt.out.four
  have btl := Hbt.out.lt
  go_wp2_with fail
  refine (Hcall.out).mono ?_
  rintro e w4 ⟨rfl, hb⟩
  clear bt0 bt1 bt2 bt3 btl
  replace HB := Lib.hid (HB.out.trans (hb.mono HB.out.size))
  replace Hbt := Lib.hid (Hbt.out.below hb Hbt.out.lt)
  replace Htc := Lib.hid (Htc.out.stay hb (Nat.le_refl _))
  replace Hsc := Lib.hid (Hsc.out.stay hb (Nat.le_refl _))
  clear hb
  clear Hcall
  cases q
  case false =>
    go_wp2
    go_ret
    exact ⟨rfl, HB.out⟩
  have iss : subB s = true := Hq.out.symm; clear Hq
  have Iss := Lib.hid iss; clear iss
  obtain ⟨vs, hvs⟩ : ∃ v, v = varsL [t] := ⟨_, rfl⟩
  obtain ⟨isb, hisb⟩ : ∃ b, b = decide (vs = []) := ⟨_, rfl⟩
  have hcall := ground_calls t _ w4 _ ⟨At, ct, rfl, st, Htc.out⟩ It.out
  rw [← hvs, ← hisb] at hcall
  have Hvs := Lib.hid hvs; have His := Lib.hid hisb; have Hcall := Lib.hid hcall; clear hcall hvs hisb
  obtain ⟨⟨bt0, bt1, bt2, bt3⟩, -⟩ := Hbt.out.four
  have btl := Hbt.out.lt
  go_wp2_with fail
  refine (Hcall.out).mono ?_
  rintro e w5 ⟨rfl, hb⟩
  clear bt0 bt1 bt2 bt3 btl
  replace HB := Lib.hid (HB.out.trans (hb.mono HB.out.size))
  replace Hbt := Lib.hid (Hbt.out.below hb Hbt.out.lt)
  replace Htc := Lib.hid (Htc.out.stay hb (Nat.le_refl _))
  replace Hsc := Lib.hid (Hsc.out.stay hb (Nat.le_refl _))
  clear hb
  clear Hcall
  obtain ⟨⟨bt0, bt1, bt2, bt3⟩, -⟩ := Hbt.out.four
  have btl := Hbt.out.lt
  go_wp2_with fail
  obtain ⟨Wlit2, hWlit2⟩ : ∃ W, W = w5.alloc (.cells #[.int .i64 t.k, .int .i64 t.n, .string t.s, .slice At t.l.length ct] 25) := ⟨_, rfl⟩
  rw [← hWlit2]
  have hb : Below w5.heap.size w5 Wlit2 := by rw [hWlit2]; exact (Below.refl _ _).alloc (Nat.le_refl _) _
  have hlit2 : TmC (fun _ => True) Wlit2 (some ⟨w5.heap.size, 0, none⟩) 1 [t] := by
    rw [hWlit2]; exact (TmC.lit3 (P := (fun _ => True)) [(t, At, ct)] (fun e he => by
      simp only [List.mem_cons, List.not_mem_nil, or_false] at he
      subst he
      exact ⟨st, Htc.out⟩
      ) (by simp)).mono (fun _ _ => trivial)
  clear bt0 bt1 bt2 bt3 btl
  replace HB := Lib.hid (HB.out.trans (hb.mono HB.out.size))
  replace Hbt := Lib.hid (Hbt.out.below hb Hbt.out.lt)
  replace Htc := Lib.hid (Htc.out.stay hb (Nat.le_refl _))
  replace Hsc := Lib.hid (Hsc.out.stay hb (Nat.le_refl _))
  clear hb hWlit2
  have hcall := vars_ok [t] _ _ _ _ hlit2 (by rw [allB_one]; exact It.out); clear hlit2
  rw [← Hvs.out] at hcall
  have Hcall := Lib.hid hcall; clear hcall
  refine Hcall.out.mono ?_
  rintro e w20 ⟨Av, cv, rfl, hvr, hv1, hv2, hb⟩
  replace HB := Lib.hid (HB.out.trans (hb.mono HB.out.size))
  replace Hbt := Lib.hid (Hbt.out.below hb Hbt.out.lt)
  replace Htc := Lib.hid (Htc.out.stay hb (Nat.le_refl _))
  replace Hsc := Lib.hid (Hsc.out.stay hb (Nat.le_refl _))
  clear hb Hcall
  have Hvr := Lib.hid hvr; clear hvr
  have hvl : vs.length ≤ 4000 := by rw [Hvs.out]; have h1 := varsL_len [t]; have h2 := (isB_iff.1 It.out).2.1; simp [Tm.sizes] at h1; omega
  have hE : ((vs.length : Int) == 0) = isb := by rw [His.out]; cases vs <;> simp; try omega
  have hN : (isb != isb) = false := by cases isb <;> rfl
  obtain ⟨G, hG⟩ : ∃ G, G = w20.heap.size := ⟨_, rfl⟩
  obtain ⟨W2, hW2⟩ : ∃ W, W = (w20.alloc (.map #[] 0)).alloc (.cells #[.map (some w20.heap.size)] 62) := ⟨_, rfl⟩
  have hb2 : Below w20.heap.size w20 W2 := by rw [hW2]; exact ((Below.refl _ _).alloc (Nat.le_refl _) _).alloc (by simp) _
  have HM2 := Lib.hid (show MapS W2 G 0 [] from by rw [hW2, hG]; exact (MapS.made w20).kept (World.grownBy_alloc _ _ none) (by simp))
  have HK2 := Lib.hid (show Blk W2 (G + 1) 62 #[.map (some G)] from by rw [hW2, hG]; exact Blk.new' (by simp))
  have Hbt2 := Lib.hid (Hbt.out.below hb2 Hbt.out.lt)
  have HB2 := Lib.hid (show Below G w20 W2 from by rw [hG]; exact hb2)
  have HtG := Lib.hid (show w.heap.size < G from by rw [hG]; exact Hbt.out.lt)
  have HGs := Lib.hid hG; have HW2 := Lib.hid hW2; clear hG hW2 hb2
  go_upto_region 11 with (fail)
  rw [← HW2.out, ← HGs.out]
  clear HW2
  have HTc := Lib.hid (Htc.out.inside.mono (Q := (· < G)) (fun g h => by rw [HGs.out]; exact h.2)); have HSc := Lib.hid (Hsc.out.inside.mono (Q := (· < G)) (fun g h => by rw [HGs.out]; exact h.2))
  have HVr := Hvr
  go_wp2
  go_loopw [9, 64] (fun v9 i wr => ∃ (k n a : Nat), k ≤ vs.length ∧ i = .int .i64 k ∧ v9 = .int .i64 (a : Nat) ∧ a ≤ k * 4000 ∧ n ≤ k * 5000 ∧ Hid (a = allN t (vs.take k)) ∧ Hid (MapS wr G n (wantL s (vs.take k))) ∧ Hid (Blk wr (G + 1) 62 #[.map (some G)]) ∧ Hid (Below G w20 wr)) (fun _ i _ => vs.length - (intOf i).toNat)
  case atStart => exact ⟨0, 0, 0, Nat.zero_le _, rfl, rfl, Nat.zero_le _, Nat.zero_le _, Lib.hid rfl, HM2, HK2, HB2⟩
  case round =>
    obtain ⟨k, n, a, hk, rfl, rfl, ha, hn, Ha, HM, HK, HL⟩ := hrel
    by_cases hlt : k < vs.length
    case pos =>
      obtain ⟨v, hv⟩ : ∃ v, vs[k]? = some v := ⟨_, List.getElem?_eq_getElem hlt⟩
      have hvm := List.mem_of_getElem? hv
      rw [Hvs.out] at hvm
      have hhas := has_iff.1 hvm
      have hbd := has_bd (isB_iff.1 It.out).1 hhas
      obtain ⟨j, rfl⟩ : ∃ j : Nat, v = j := ⟨v.toNat, by omega⟩
      have hpos := tmN_pos hhas; have hle := tmN_le t (j : Int); have hszt := (isB_iff.1 It.out).2.1
      have hwl : G ≤ wr.heap.size := by have := HL.out.size; rw [HGs.out]; exact this
      obtain ⟨gv, ov, hAv, x0⟩ := (HVr.out.below HL.out (by rw [HGs.out]; exact Nat.le_refl _)).atI hv
      have Hts := Lib.hid (take_snoc hv)
      have hwf := int_wf hbd.1 hbd.2
      have hj0 : (0 : Int) ≤ (j : Int) := by omega
      have hj1 : (j : Int) ≤ 100000 := by omega
      have Hbtr := Lib.hid (Hbt.out.below HL.out HtG.out)
      obtain ⟨many, hmany⟩ : ∃ m, m = tmN (j : Int) t.pre := ⟨_, rfl⟩
      rw [← hmany] at hpos hle
      have hcall := times_calls t (j : Int) (· < G) wr _ ⟨At, ct, rfl, st, HTc.out.stay HL.out (by rw [HGs.out]; exact Nat.le_refl _)⟩ It.out
      rw [← hmany] at hcall
      have Hcall := Lib.hid hcall; have Hmany := Lib.hid hmany; clear hcall hmany hv hvm hhas hbd
      obtain ⟨⟨t0, t1, t2, t3⟩, -⟩ := Hbtr.out.four; have tl := Hbtr.out.lt
      subst hAv
      have hmn : decide ((many : Int) < 1) = false := decide_eq_false (by omega)
      have hmn2 : (many : Int) ≤ 4000 := by omega
      have hmn3 : (0 : Int) ≤ (many : Int) := by omega
      have ha1 : (a : Int) ≤ 100000000 := by omega
      go_wp2_with fail
      refine Hcall.out.mono ?_
      rintro e w21 ⟨rfl, hb⟩
      clear t0 t1 t2 t3 tl x0 Hcall Hbtr
      have HL1 := Lib.hid (HL.out.trans (hb.mono hwl)); have HM1 := Lib.hid (HM.out.below hb HM.out.lt); have HK1 := Lib.hid (HK.out.below hb HK.out.lt); clear hb HL HM HK hwl
      have dj : decide ((j : Int) < 0) = false := decide_eq_false (by omega)
      have Ha2 := Lib.hid (show a + many = allN t (vs.take (k + 1)) from by rw [Hts.out, allN_snoc, ← Ha.out, ← Hmany.out])
      have ha2 : a + many ≤ (k + 1) * 4000 := by omega
      by_cases hj : j < s.length
      case neg =>
        have ds : decide ((s.length : Int) ≤ (j : Int)) = true := decide_eq_true (by omega)
        have ds2 : decide (s.length ≤ j) = true := decide_eq_true (by omega)
        have hsg := sgL_none hj
        have Hsg := Lib.hid hsg; clear hsg
        have Hwant := Lib.hid (show addS (wantL s (vs.take k)) (j : Int) = wantL s (vs.take (k + 1)) from by rw [Hts.out, wantL_snoc, Hsg.out, varsL_va, addAll_one])
        obtain ⟨D, hown, hT, hsz, hat⟩ := HM1.out
        obtain ⟨m0, -⟩ := HK1.out.one; have ml := HK1.out.lt
        go_wp2_with (at_mapUpdate; refine wpList_mapUpdate_own _ rfl _ _ _ 62 rfl 3 4 (Maps.int_keyed Try.underlying3) Try.underlying62 _ G n _ rfl hown (by simp only [maxLen]; omega) _ _ _ rfl rfl (Maps.keyOf_int_mk Try.underlying3 hwf) _ [] (plainElem_bool Try.underlying4 true) ?_; intro w3 hown3 hg3)
        have HM3 := Lib.hid (show MapS w3 G (n + 1) (wantL s (vs.take (k + 1))) from by rw [← Hwant.out]; exact MapS.put (w := w21) hown3 hT hsz hat)
        have HK3 := Lib.hid (HK1.out.grown hg3 (by simp))
        have HL3 := Lib.hid (HL1.out.grown hg3 (by have := HL1.out.size; rw [HGs.out]; exact this) (fun r hr => by injection hr with hr; omega))
        clear hown3 hg3 hown hT hsz hat m0 ml
        go_wp2
        go_roundw
        case rel => exact ⟨k + 1, n + 1, a + many, by omega, by go_num, by go_num, ha2, by omega, Ha2, HM3, HK3, HL3⟩
        case measure => simp [intOf]; omega
      have ds : decide ((s.length : Int) ≤ (j : Int)) = false := decide_eq_false (by omega)
      have ds2 : decide (s.length ≤ j) = false := decide_eq_false (by omega)
      obtain ⟨y, hy⟩ : ∃ y, s[j]? = some y := ⟨_, List.getElem?_eq_getElem hj⟩
      have hsg := sgL_at hy
      have hyo := subB_at Iss.out (List.mem_of_getElem? hy)
      have hym := List.mem_of_getElem? hy
      have hLs : w20.heap.size ≤ G := by rw [HGs.out]; exact Nat.le_refl _
      obtain ⟨gs, os, Ay, cy, hAs, hgs, hc4, sy, hyc⟩ := (HSc.out.stay HL1.out hLs).at_ hy
      have hone := TmC.sub1 (P := fun x => x < G) (A := some ⟨gs, os, none⟩) (c := cs) (l := s) hgs hc4 sy hyc
      obtain ⟨e0, e1, e2, e3⟩ := hc4
      have hcall := refFree_calls y _ w21 _ ⟨Ay, cy, rfl, sy, hyc⟩
      obtain ⟨f, hf⟩ : ∃ f, f = freeB y := ⟨_, rfl⟩
      rw [← hf] at hcall hsg hyo
      have Hcall := Lib.hid hcall; have Hsg := Lib.hid hsg; have Hyo := Lib.hid hyo; have Hone := Lib.hid hone; have Hlen := Lib.hid (show Tm.sizes s ≤ 1500 from (smallB_sizes Hlts.out).1); have Hym := Lib.hid hym; clear hcall hyc hf hsg hy hyo hone hym hLs
      subst hAs
      have hjs : (j : Int) < (s.length : Int) := by omega
      go_wp2_with fail
      refine Hcall.out.mono ?_
      rintro e w22 ⟨rfl, hb⟩
      have HL2 := Lib.hid (HL1.out.trans (hb.mono (by have := HL1.out.size; rw [HGs.out]; exact this))); have HM4 := Lib.hid (HM1.out.below hb HM1.out.lt); have HK4 := Lib.hid (HK1.out.below hb HK1.out.lt); have Hone2 := Lib.hid (Hone.out.stay hb (Nat.le_refl _)); clear hb HL1 HM1 HK1 Hone e0 e1 e2 e3 Hcall
      cases f
      case true =>
        have hsg := Hsg.out; rw [if_pos rfl] at hsg
        clear Hsg
        have Hsg := Lib.hid hsg; clear hsg
        have Hwant := Lib.hid (show addS (wantL s (vs.take k)) (j : Int) = wantL s (vs.take (k + 1)) from by rw [Hts.out, wantL_snoc, Hsg.out, varsL_va, addAll_one])
        obtain ⟨D, hown, hT, hsz, hat⟩ := HM4.out
        obtain ⟨m0, -⟩ := HK4.out.one; have ml := HK4.out.lt
        go_wp2_with (at_mapUpdate; refine wpList_mapUpdate_own _ rfl _ _ _ 62 rfl 3 4 (Maps.int_keyed Try.underlying3) Try.underlying62 _ G n _ rfl hown (by simp only [maxLen]; omega) _ _ _ rfl rfl (Maps.keyOf_int_mk Try.underlying3 hwf) _ [] (plainElem_bool Try.underlying4 true) ?_; intro w3 hown3 hg3)
        have HM3 := Lib.hid (show MapS w3 G (n + 1) (wantL s (vs.take (k + 1))) from by rw [← Hwant.out]; exact MapS.put (w := w22) hown3 hT hsz hat)
        have HK3 := Lib.hid (HK4.out.grown hg3 (by simp))
        have HL3 := Lib.hid (HL2.out.grown hg3 (by have := HL2.out.size; rw [HGs.out]; exact this) (fun r hr => by injection hr with hr; omega))
        clear hown3 hg3 hown hT hsz hat m0 ml
        go_wp2
        go_roundw
        case rel => exact ⟨k + 1, n + 1, a + many, by omega, by go_num, by go_num, ha2, by omega, Ha2, HM3, HK3, HL3⟩
        case measure => simp [intOf]; omega
      have hsg := Hsg.out; rw [if_neg (by simp)] at hsg
      have iy := Hyo.out rfl
      obtain ⟨xs, hxs⟩ : ∃ x, x = varsL [y] := ⟨_, rfl⟩
      have hxl : xs.length ≤ 4000 := by rw [hxs]; have h1 := varsL_len [y]; have h2 := (isB_iff.1 iy).2.1; simp [Tm.sizes] at h1; omega
      have hxb : ∀ z ∈ xs, 0 ≤ z ∧ z < 100000 := fun z hz => by rw [hxs] at hz; exact has_bd (isB_iff.1 iy).1 (has_iff.1 hz)
      have Hwant := Lib.hid (show addAll (wantL s (vs.take k)) xs = wantL s (vs.take (k + 1)) from by rw [Hts.out, wantL_snoc, hsg, hxs])
      have hcall := vars_ok [y] _ (some ⟨gs, os + j * 4, none⟩) 1 w22 Hone2.out (by rw [allB_one]; exact iy)
      rw [← hxs] at hcall
      have Hcall := Lib.hid hcall; have Hxb := Lib.hid hxb; clear hcall hxb hxs hsg iy Hsg Hyo
      have hw1 : wrap64 ((j : Int) + 1) = (j : Int) + 1 := wrap_succ j hj1
      have hsl := fun W => slice1_run j s.length cs gs os W hj hl1s hl2s
      have HF := Lib.hid (show n ≤ k * 5000 ∧ a + many ≤ (k + 1) * 4000 ∧ xs.length ≤ 4000 ∧ k < vs.length ∧ vs.length ≤ 4000 from ⟨hn, ha2, hxl, hlt, hvl⟩)
      go_upto_region 20 with (fail)
      clear hmm hE hN hwf hmn hmn2 hmn3 ha1 ds ds2 dj ha ha2 hn hxl hvl hlens hpos hle hszt hk hlt hv1 hv2
      go_wp2_with (go_at_call 43; refine Hcall.out.mono ?_; rintro e w23 ⟨Ao, co, rfl, hor, ho1, ho2, hb⟩; have HL3 := Lib.hid (HL2.out.trans (hb.mono (by have := HL2.out.size; rw [HGs.out]; exact this))); have HM5 := Lib.hid (HM4.out.below hb HM4.out.lt); have HK5 := Lib.hid (HK4.out.below hb HK4.out.lt); have Hor := Lib.hid hor; clear hb HL2 HM4 HK4 Hone2 Hcall hor hsl hw1)
      go_loopw [115] (fun i wr2 => ∃ (k2 n2 : Nat), k2 ≤ xs.length ∧ i = .int .i64 k2 ∧ n2 ≤ n + k2 ∧ Hid (MapS wr2 G n2 (addAll (wantL s (vs.take k)) (xs.take k2))) ∧ Hid (Blk wr2 (G + 1) 62 #[.map (some G)]) ∧ Hid (Below G w20 wr2) ∧ Hid (But G w23 wr2)) (fun i _ => xs.length - (intOf i).toNat)
      case atStart => exact ⟨0, n, Nat.zero_le _, rfl, Nat.le_refl _, Lib.hid (by rw [List.take_zero]; exact HM5.out), HK5, HL3, Lib.hid (But.refl _ _)⟩
      case round =>
        obtain ⟨k2, n2, hk2, rfl, hn2, HMi, HKi, HLi, HBi⟩ := hrel
        by_cases hlt2 : k2 < xs.length
        case pos =>
          obtain ⟨z, hz⟩ : ∃ z, xs[k2]? = some z := ⟨_, List.getElem?_eq_getElem hlt2⟩
          have hzb := Hxb.out z (List.mem_of_getElem? hz)
          have hwf2 := int_wf hzb.1 hzb.2
          obtain ⟨go_, oo, hAo, c0⟩ := Hor.out.atI hz
          have hgne : go_ ≠ G := fun e => by
            obtain ⟨o, h1, h2⟩ := cells_of_cell c0
            obtain ⟨D, ⟨es, clock, h3, -⟩, -⟩ := HM5.out
            rw [show (⟨go_, oo + k2, none⟩ : Addr).block = G from e, h3] at h1
            injection h1 with h1; subst h1; simp [Obj.isCells] at h2
          have z0 := (cell_of_heap (HBi.out.block go_ (World.block_lt_of_cell? w23 _ c0) hgne) (oo + k2)).trans c0
          have Hts2 := Lib.hid (show addS (addAll (wantL s (vs.take k)) (xs.take k2)) z = addAll (wantL s (vs.take k)) (xs.take (k2 + 1)) from by rw [take_snoc hz, addAll_append, addAll_one])
          clear hz c0 hgne hzb
          subst hAo
          obtain ⟨D, hown, hT, hsz, hat⟩ := HMi.out
          obtain ⟨m0, -⟩ := HKi.out.one; have ml := HKi.out.lt
          go_wp2_with (at_mapUpdate; refine wpList_mapUpdate_own _ rfl _ _ _ 62 rfl 3 4 (Maps.int_keyed Try.underlying3) Try.underlying62 _ G n2 _ rfl hown (by have hf := HF.out; simp only [maxLen]; omega) _ _ _ rfl rfl (Maps.keyOf_int_mk Try.underlying3 hwf2) _ [] (plainElem_bool Try.underlying4 true) ?_; intro w3 hown3 hg3)
          have HM6 := Lib.hid (show MapS w3 G (n2 + 1) (addAll (wantL s (vs.take k)) (xs.take (k2 + 1))) from by rw [← Hts2.out]; exact MapS.put (w := w23) hown3 hT hsz hat)
          have HK6 := Lib.hid (HKi.out.grown hg3 (by simp))
          have HL6 := Lib.hid (HLi.out.grown hg3 (by have := HLi.out.size; rw [HGs.out]; exact this) (fun r hr => by injection hr with hr; omega))
          have HB6 := Lib.hid (HBi.out.trans (show But G _ w3 from ⟨hg3.os, hg3.tape, hg3.output, hg3.size, fun q hq hne => hg3.block q hq (fun e => hne (Option.some.inj e))⟩))
          clear hown3 hg3 hown hT hsz hat m0 ml
          go_wp2
          go_roundw
          case rel => exact ⟨k2 + 1, n2 + 1, by omega, by go_num, by omega, HM6, HK6, HL6, HB6⟩
          case measure => simp [intOf]; omega
        have hke2 : k2 = xs.length := by omega
        subst hke2
        have HM7 := Lib.hid (show MapS _ G n2 (wantL s (vs.take (k + 1))) from by have h1 := HMi.out; rw [List.take_length, Hwant.out] at h1; exact h1)
        obtain ⟨hf1, hf2, hf3, hf4, hf5⟩ := HF.out
        clear hf1 hf2 hf3
        go_wp2
        go_roundw
        case rel => exact ⟨k + 1, n2, a + many, by have hf := HF.out; omega, by go_num, by go_num, by have hf := HF.out; omega, by have hf := HF.out; omega, Ha2, HM7, HKi, HLi⟩
        case measure => have hf := HF.out; simp [intOf]; omega
    have hke : k = vs.length := by omega
    subst hke
    have hal : t.lv = a := by have h1 := Ha.out; rw [List.take_length, Hvs.out, leaves_law] at h1; exact h1.symm
    have hM := HM.out; rw [List.take_length] at hM
    clear HM; have HM := Lib.hid hM; clear hM
    replace Hbt := Lib.hid (Hbt.out.below HL.out HtG.out); replace Htc := Lib.hid ((HTc.out.stay HL.out (by rw [HGs.out]; exact Nat.le_refl _)).mono (Q := fun _ => True) (fun _ _ => trivial)); replace Hsc := Lib.hid ((HSc.out.stay HL.out (by rw [HGs.out]; exact Nat.le_refl _)).mono (Q := fun _ => True) (fun _ _ => trivial)); replace HB := Lib.hid (HB.out.trans (HL.out.mono (Nat.le_of_lt HtG.out)))
    clear HL HTc HSc HVr Hvr HM2 HK2 HB2 Hbt2 Ha
    have hcall := leaves_calls t _ wr _ ⟨At, ct, rfl, st, Htc.out⟩ (by have := (isB_iff.1 It.out).2.1; omega)
    rw [hal] at hcall
    have Hcall := Lib.hid hcall; clear hcall hal
    obtain ⟨⟨bt0, bt1, bt2, bt3⟩, -⟩ := Hbt.out.four
    have btl := Hbt.out.lt
    go_wp2_with fail
    refine (Hcall.out).mono ?_
    rintro e w52 ⟨rfl, hb⟩
    clear bt0 bt1 bt2 bt3 btl
    replace HB := Lib.hid (HB.out.trans (hb.mono HB.out.size))
    replace Hbt := Lib.hid (Hbt.out.below hb Hbt.out.lt)
    replace Htc := Lib.hid (Htc.out.stay hb (Nat.le_refl _))
    replace Hsc := Lib.hid (Hsc.out.stay hb (Nat.le_refl _))
    replace HM := Lib.hid (HM.out.below hb HM.out.lt); replace HK := Lib.hid (HK.out.below hb HK.out.lt)
    clear hb
    clear Hcall
    obtain ⟨X, hX⟩ : ∃ X, X = substR t s := ⟨_, rfl⟩
    cases X with
    | none =>
      have hbv := ground_err It.out Iss.out hX.symm
      obtain rfl : isb = false := by rw [His.out]; rw [← Hvs.out] at hbv; exact decide_eq_false hbv
      have hcall := subst_err _ _ w52 _ As cs ⟨At, ct, rfl, st, Htc.out⟩ Hsc.out hX.symm (subst_errE It.out Iss.out)
      have Hcall := Lib.hid hcall; clear hcall hX hbv
      obtain ⟨⟨bt0, bt1, bt2, bt3⟩, -⟩ := Hbt.out.four
      have btl := Hbt.out.lt
      go_wp2_with fail
      refine Hcall.out.mono ?_
      rintro e w60 ⟨A0, c0, rfl, -, -, hb⟩
      clear bt0 bt1 bt2 bt3 btl
      replace HB := Lib.hid (HB.out.trans (hb.mono HB.out.size))
      replace Hbt := Lib.hid (Hbt.out.below hb Hbt.out.lt)
      replace Htc := Lib.hid (Htc.out.stay hb (Nat.le_refl _))
      replace Hsc := Lib.hid (Hsc.out.stay hb (Nat.le_refl _))
      replace HM := Lib.hid (HM.out.below hb HM.out.lt); replace HK := Lib.hid (HK.out.below hb HK.out.lt)
      clear hb Hcall
      go_wp2
      go_ret
      exact ⟨rfl, HB.out.alloc HB.out.size _⟩
    | some x =>
      obtain ⟨hxi, hxt, hxl, hxa, hxb⟩ := ground_law It.out Iss.out hX.symm
      have hcall := subst_ok _ _ w52 _ As cs ⟨At, ct, rfl, st, Htc.out⟩ Hsc.out hX.symm
      have Hcall := Lib.hid hcall; clear hcall hX
      obtain ⟨ow, how⟩ : ∃ o, o = varsL [x] := ⟨_, rfl⟩
      rw [← how, ← Hvs.out] at hxl hxa
      rw [← how] at hxb
      rw [← Hvs.out] at hxt
      have howl : ow.length ≤ 1000000 := by rw [how]; have h1 := varsL_len [x]; have h2 := (isB_iff.1 hxi).2.1; simp [Tm.sizes] at h1; omega
      have Hxi := Lib.hid hxi; have Hxt := Lib.hid hxt; have Hxl := Lib.hid hxl; have Hxa := Lib.hid hxa; have Hxb2 := Lib.hid hxb; have How := Lib.hid how; clear hxi hxt hxl hxa hxb how
      obtain ⟨⟨bt0, bt1, bt2, bt3⟩, -⟩ := Hbt.out.four
      have btl := Hbt.out.lt
      go_wp2_with fail
      refine (Hcall.out).mono ?_
      rintro e w62 ⟨Ax, cx, rfl, sx, hxc, hb⟩
      clear bt0 bt1 bt2 bt3 btl
      replace HB := Lib.hid (HB.out.trans (hb.mono HB.out.size))
      replace Hbt := Lib.hid (Hbt.out.below hb Hbt.out.lt)
      replace Htc := Lib.hid (Htc.out.stay hb (Nat.le_refl _))
      replace Hsc := Lib.hid (Hsc.out.stay hb (Nat.le_refl _))
      replace HM := Lib.hid (HM.out.below hb HM.out.lt); replace HK := Lib.hid (HK.out.below hb HK.out.lt)
      clear hb
      have Hxc := Lib.hid (hxc.mono (Q := (fun _ => True)) (fun _ _ => trivial)); clear hxc
      obtain ⟨V62, hV62⟩ : ∃ V, V = w62.alloc (.cells #[.int .i64 x.k, .int .i64 x.n, .string x.s, .slice Ax x.l.length cx] 25) := ⟨_, rfl⟩
      have hb : Below w62.heap.size w62 V62 := by rw [hV62]; exact (Below.refl _ _).alloc (Nat.le_refl _) _
      have Hbx := Lib.hid (show Blk V62 w62.heap.size 25 #[.int .i64 x.k, .int .i64 x.n, .string x.s, .slice Ax x.l.length cx] from by rw [hV62]; exact Blk.new _ _ _)
      replace HB := Lib.hid (HB.out.trans (hb.mono HB.out.size))
      replace Hbt := Lib.hid (Hbt.out.below hb Hbt.out.lt)
      replace Htc := Lib.hid (Htc.out.stay hb (Nat.le_refl _))
      replace Hsc := Lib.hid (Hsc.out.stay hb (Nat.le_refl _))
      replace Hxc := Lib.hid (Hxc.out.stay hb (Nat.le_refl _))
      replace HM := Lib.hid (HM.out.below hb HM.out.lt); replace HK := Lib.hid (HK.out.below hb HK.out.lt)
      clear hb
      have HV62 := Lib.hid hV62; clear hV62
      go_upto_region 34 with (fail)
      rw [← HV62.out]
      clear HV62
      clear Hcall
      obtain ⟨⟨bt0, bt1, bt2, bt3⟩, -⟩ := Hbt.out.four
      have btl := Hbt.out.lt
      obtain ⟨⟨bx0, bx1, bx2, bx3⟩, -⟩ := Hbx.out.four
      have bxl := Hbx.out.lt
      go_wp2_with fail
      obtain ⟨Wlit3, hWlit3⟩ : ∃ W, W = V62.alloc (.cells #[.int .i64 x.k, .int .i64 x.n, .string x.s, .slice Ax x.l.length cx] 25) := ⟨_, rfl⟩
      rw [← hWlit3]
      have hb : Below V62.heap.size V62 Wlit3 := by rw [hWlit3]; exact (Below.refl _ _).alloc (Nat.le_refl _) _
      have hlit3 : TmC (fun _ => True) Wlit3 (some ⟨V62.heap.size, 0, none⟩) 1 [x] := by
        rw [hWlit3]; exact (TmC.lit3 (P := (fun _ => True)) [(x, Ax, cx)] (fun e he => by
          simp only [List.mem_cons, List.not_mem_nil, or_false] at he
          subst he
          exact ⟨sx, Hxc.out⟩
          ) (by simp)).mono (fun _ _ => trivial)
      clear bt0 bt1 bt2 bt3 btl bx0 bx1 bx2 bx3 bxl
      replace HB := Lib.hid (HB.out.trans (hb.mono HB.out.size))
      replace Hbt := Lib.hid (Hbt.out.below hb Hbt.out.lt)
      replace Hbx := Lib.hid (Hbx.out.below hb Hbx.out.lt)
      replace Htc := Lib.hid (Htc.out.stay hb (Nat.le_refl _))
      replace Hsc := Lib.hid (Hsc.out.stay hb (Nat.le_refl _))
      replace Hxc := Lib.hid (Hxc.out.stay hb (Nat.le_refl _))
      replace HM := Lib.hid (HM.out.below hb HM.out.lt); replace HK := Lib.hid (HK.out.below hb HK.out.lt)
      clear hb hWlit3
      have hcall := vars_ok [x] _ _ _ _ hlit3 (by rw [allB_one]; exact Hxi.out); clear hlit3
      rw [← How.out] at hcall
      have Hcall := Lib.hid hcall; clear hcall
      refine Hcall.out.mono ?_
      rintro e w70 ⟨Ao, co, rfl, hor, ho1, ho2, hb⟩
      replace HB := Lib.hid (HB.out.trans (hb.mono HB.out.size))
      replace Hbt := Lib.hid (Hbt.out.below hb Hbt.out.lt)
      replace Hbx := Lib.hid (Hbx.out.below hb Hbx.out.lt)
      replace Htc := Lib.hid (Htc.out.stay hb (Nat.le_refl _))
      replace Hsc := Lib.hid (Hsc.out.stay hb (Nat.le_refl _))
      replace Hxc := Lib.hid (Hxc.out.stay hb (Nat.le_refl _))
      replace HM := Lib.hid (HM.out.below hb HM.out.lt); replace HK := Lib.hid (HK.out.below hb HK.out.lt)
      clear hb Hcall
      have Hor := Lib.hid hor; clear hor
      cases isb
      case false =>
        obtain ⟨D, hown, hT, hsz, hat⟩ := HM.out
        have hdl : ((ow.length : Int) != (Maps.size D : Int)) = false := by rw [hsz, Hxl.out]; simp
        have hcall := containsFuncS_calls ow (wantL s vs) (G + 1) G n Ao co w70 Hor.out howl HK.out HM.out Hxb2.out Hxa.out
        have Hcall := Lib.hid hcall; clear hcall
        obtain ⟨m0, -⟩ := HK.out.one; have ml := HK.out.lt
        have hlm := hown.len Try.underlying62
        go_wp2_with fail
        refine Hcall.out.mono ?_
        rintro e w80 ⟨rfl, hb⟩
        have HBF := Lib.hid (HB.out.trans (hb.mono HB.out.size)); clear hb hlm hown hT hsz hat m0 ml
        go_wp2
        go_ret
        exact ⟨rfl, HBF.out⟩
      have hvn : vs = [] := by have := His.out; exact of_decide_eq_true this.symm
      have hxt := Hxt.out hvn
      have Hxt2 := Lib.hid hxt; clear hxt hvn
      have hcall := refSame_calls x _ _ w70 _ _ t ⟨Ax, cx, rfl, sx, Hxc.out⟩ ⟨At, ct, rfl, st, Htc.out⟩
      rw [sameB_iff.2 Hxt2.out] at hcall
      have Hcall := Lib.hid hcall; clear hcall
      obtain ⟨⟨bt0, bt1, bt2, bt3⟩, -⟩ := Hbt.out.four
      have btl := Hbt.out.lt
      obtain ⟨⟨bx0, bx1, bx2, bx3⟩, -⟩ := Hbx.out.four
      have bxl := Hbx.out.lt
      go_wp2_with fail
      refine (Hcall.out).mono ?_
      rintro e w63 ⟨rfl, hb⟩
      clear bt0 bt1 bt2 bt3 btl bx0 bx1 bx2 bx3 bxl
      replace HB := Lib.hid (HB.out.trans (hb.mono HB.out.size))
      replace Hbt := Lib.hid (Hbt.out.below hb Hbt.out.lt)
      replace Hbx := Lib.hid (Hbx.out.below hb Hbx.out.lt)
      replace Htc := Lib.hid (Htc.out.stay hb (Nat.le_refl _))
      replace Hsc := Lib.hid (Hsc.out.stay hb (Nat.le_refl _))
      replace Hxc := Lib.hid (Hxc.out.stay hb (Nat.le_refl _))
      replace HM := Lib.hid (HM.out.below hb HM.out.lt); replace HK := Lib.hid (HK.out.below hb HK.out.lt)
      replace Hor := Lib.hid (Hor.out.below hb (Nat.le_refl _))
      clear hb
      obtain ⟨D, hown, hT, hsz, hat⟩ := HM.out
      have hdl : ((ow.length : Int) != (Maps.size D : Int)) = false := by rw [hsz, Hxl.out]; simp
      have hcall := containsFuncS_calls ow (wantL s vs) (G + 1) G n Ao co w63 Hor.out howl HK.out HM.out Hxb2.out Hxa.out
      have Hcall := Lib.hid hcall; clear hcall
      obtain ⟨m0, -⟩ := HK.out.one; have ml := HK.out.lt
      have hlm := hown.len Try.underlying62
      go_wp2_with fail
      refine Hcall.out.mono ?_
      rintro e w80 ⟨rfl, hb⟩
      have HBF := Lib.hid (HB.out.trans (hb.mono HB.out.size)); clear hb hlm hown hT hsz hat m0 ml
      go_wp2
      go_ret
      exact ⟨rfl, HBF.out⟩
end Go.Proofs.Ytfhgknmkpegpbaa
