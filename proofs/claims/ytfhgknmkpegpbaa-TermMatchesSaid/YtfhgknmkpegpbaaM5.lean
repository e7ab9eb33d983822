/- Part 5 of the base: the walks and plain facts that the statement rests on. -/
import Derived.Test.YtfhgknmkpegpbaaM4
import Derived.Test.YtfhgknmkpegpbaaM3

set_option linter.unusedVariables false
set_option linter.unusedSimpArgs false
namespace Go.Proofs.Ytfhgknmkpegpbaa
open Go.RowKit
theorem keepN {N : Nat} {W W' : World} {g o : Nat} {v : Value} (hb : Below N W W') (hlt : g < N) (h : W.cell? ⟨g, o, none⟩ = some v) : W'.cell? ⟨g, o, none⟩ = some v := (hb.cell (p := ⟨g, o, none⟩) hlt).trans h
theorem bld_new (w : World) : Bld (w.alloc (.cells #[.pointer none, .slice none 0 0] 149)) w.heap.size w.heap.size [] :=
 .inl ⟨Nat.le_refl _, .slice none 0 0, heap_alloc_new w _, ⟨by simp [Lib.byteCells], .inl ⟨rfl, by simp [Lib.byteCells]⟩⟩, by simp [Value.ownBlock]⟩
theorem ownsMap_below {w w' : World} {k : TypeId} {R : Value → Option (DataW Unit × List MemPlace)} {b n B : Nat} {D : DataW Unit} (h : w.ownsMap Try.prog k R b n D) (hb : Below B w w') (hB : b < B) : w'.ownsMap Try.prog k R b n D := by
 obtain ⟨es, clock, h1, h2, h3, h4⟩ := h
 exact ⟨es, clock, (hb.block b hB).trans h1, h2, h3, h4⟩
theorem MapP.set4 {W : World} {mb z : Nat} {p : List (Tm × Tm)} (h : MapP W mb p) (hne : mb ≠ z) (a b c d : Value) : MapP ((((W.setCell ⟨z, 0, none⟩ a).setCell ⟨z, 1, none⟩ b).setCell ⟨z, 2, none⟩ c).setCell ⟨z, 3, none⟩ d) mb p :=
 h.same (by rw [Below.heap_setCell _ _ _ _ hne, Below.heap_setCell _ _ _ _ hne, Below.heap_setCell _ _ _ _ hne, Below.heap_setCell _ _ _ _ hne])
theorem But.set4 {w W : World} {mb z : Nat} (h : But mb w W) (hz : w.heap.size ≤ z) (a b c d : Value) : But mb w ((((W.setCell ⟨z, 0, none⟩ a).setCell ⟨z, 1, none⟩ b).setCell ⟨z, 2, none⟩ c).setCell ⟨z, 3, none⟩ d) :=
 (((h.setCellFar ⟨z, 0, none⟩ hz a).setCellFar ⟨z, 1, none⟩ hz b).setCellFar ⟨z, 2, none⟩ hz c).setCellFar ⟨z, 3, none⟩ hz d
theorem keepAll {N mb : Nat} {wr w2 w4 : World} {g o : Nat} {v : Value} {ob : Obj} (hb2 : But mb wr w2) (hB4 : Below N (w2.alloc ob) w4) (hne : g ≠ mb) (hlt : g < N) (h : wr.cell? ⟨g, o, none⟩ = some v) : w4.cell? ⟨g, o, none⟩ = some v :=
 keepN hB4 hlt ((World.cell?_alloc_lt _ _ _ (World.block_lt_of_cell? w2 _ (but_cell hb2 hne h))).trans (but_cell hb2 hne h))
theorem But.thenBelow {b B : Nat} {x y z : World} (h : But b x y) (k : Below B y z) (hB : x.heap.size ≤ B) : But b x z :=
 ⟨k.os.trans h.os, k.tape.trans h.tape, k.output.trans h.output, Nat.le_trans h.size k.size, fun j hj hne => (k.block j (by omega)).trans (h.block j hj hne)⟩
theorem RowT.butN {N : Nat} {P : Nat → Prop} {w w' : World} {v : Value} {l : List Tm} {b : Nat} (h : RowT N P w v l) (hb : But b w w') (hN : b < N) (hP : ∀ g, P g → g ≠ b) : RowT N P w' v l := by
 obtain ⟨es, h1, h2, h3⟩ := h
 exact ⟨es, h1, h2.kept hb.grownBy (.inr (fun e => by have := (h2.lt b e).1; omega)), fun e he => ⟨(h3 e he).1, ((h3 e he).2.but hb (fun g hg => hP g hg.1)).mono fun g hg => ⟨hg.1, hg.2.1, Nat.lt_of_lt_of_le hg.2.2 hb.size⟩⟩⟩
set_option maxRecDepth 100000 in
set_option maxHeartbeats 4000000 in
theorem general_calls (t : Tm) : ∀ (P Q : Nat → Prop) (w : World) (v v2 : Value) (u : Tm) (mb : Nat) (p : List (Tm × Tm)), TmV P w v t → TmV Q w v2 u → MapP w mb p → (∀ g, P g → g ≠ mb) → (∀ g, Q g → g ≠ mb) → fitP (t, u) → p.Nodup → p.length + t.size ≤ 1000000 → t.txt.length + u.txt.length ≤ 1000000000 →
  Calls Try.prog 92 #[.map (some mb), v, v2] w (RetG mb w (t.gen u p)) := by
 induction t using Tm.ind with
 | h t ih =>
  intro P Q w v v2 u mb p hv hv2 hmp hP hQ hfit hnd hpl htl
  obtain ⟨A, c, rfl, hs, hc⟩ := hv
  obtain ⟨B, d, rfl, hs', hd⟩ := hv2
  have Ih := Lib.hid ih; clear ih
  obtain ⟨i0, hi0⟩ := info25
  have Hi := Lib.hid hi0; clear hi0
  obtain ⟨W0, hW0⟩ : ∃ W0, W0 = ((w.alloc (.cells #[.int .i64 t.k, .int .i64 t.n, .string t.s, .slice A t.l.length c] 25)).alloc (.cells #[.int .i64 u.k, .int .i64 u.n, .string u.s, .slice B u.l.length d] 25)).alloc (.cells #[.int .i64 0, .int .i64 0, .string ⟨#[]⟩, .slice none 0 0] 25) := ⟨_, rfl⟩
  have hB0 : Below w.heap.size w W0 := by rw [hW0]; exact (((Below.refl _ _).alloc (Nat.le_refl _) _).alloc (by simp) _).alloc (by simp; omega) _
  have hX0 : Blk W0 w.heap.size 25 #[.int .i64 t.k, .int .i64 t.n, .string t.s, .slice A t.l.length c] := by rw [hW0]; exact ((Blk.new w 25 _).alloc _).alloc _
  have hY0 : Blk W0 (w.heap.size + 1) 25 #[.int .i64 u.k, .int .i64 u.n, .string u.s, .slice B u.l.length d] := by
   rw [hW0]
   have := Blk.new (w.alloc (.cells #[.int .i64 t.k, .int .i64 t.n, .string t.s, .slice A t.l.length c] 25)) 25 #[.int .i64 u.k, .int .i64 u.n, .string u.s, .slice B u.l.length d]
   rw [World.size_alloc] at this
   exact this.alloc _
  have hZ0 : Blk W0 (w.heap.size + 1 + 1) 25 #[.int .i64 0, .int .i64 0, .string ⟨#[]⟩, .slice none 0 0] := by
   rw [hW0]
   have := Blk.new ((w.alloc (.cells #[.int .i64 t.k, .int .i64 t.n, .string t.s, .slice A t.l.length c] 25)).alloc (.cells #[.int .i64 u.k, .int .i64 u.n, .string u.s, .slice B u.l.length d] 25)) 25 #[.int .i64 0, .int .i64 0, .string ⟨#[]⟩, .slice none 0 0]
   rwa [World.size_alloc, World.size_alloc] at this
  have hsW : W0.heap.size = w.heap.size + 1 + 1 + 1 := by rw [hW0]; simp
  have hlc := hc.len.1
  have hlm := hc.len.2.1
  have hld := hd.len.1
  have hln := hd.len.2.1
  have hmlt := hmp.lt
  have Hc := Lib.hid (hc.inside.stay hB0 (Nat.le_refl _)); clear hc
  have Hd := Lib.hid (hd.inside.stay hB0 (Nat.le_refl _)); clear hd
  have Hm0 := Lib.hid (hmp.below hB0 hmlt); clear hmp
  have HX0 := Lib.hid hX0; clear hX0
  have HY0 := Lib.hid hY0; clear hY0
  have HZ0 := Lib.hid hZ0; clear hZ0
  have HB0 := Lib.hid hB0; clear hB0
  have HW := Lib.hid hW0; clear hW0
  have HP := Lib.hid hP; clear hP
  have HQ := Lib.hid hQ; clear hQ
  have Hfit := Lib.hid hfit; clear hfit
  have Hnd := Lib.hid hnd; clear hnd
  have Htl := Lib.hid htl; clear htl
  have HsW := Lib.hid hsW; clear hsW
  have hgen := Tm.gen_eq t u p
  obtain ⟨R, hR⟩ : ∃ R, R = t.gen u p := ⟨_, rfl⟩
  rw [← hR] at hgen ⊢
  have Hgen := Lib.hid hgen; clear hgen hR
  have hfp : ∀ g : Nat, (P g ∧ g < w.heap.size) → g < w.heap.size + 1 + 1 + 1 := fun g h => by have := h.2; omega
  have hfq : ∀ g : Nat, (Q g ∧ g < w.heap.size) → g < w.heap.size + 1 + 1 + 1 := fun g h => by have := h.2; omega
  have hn0 := bld_new W0
  rw [HsW.out] at hn0
  have hc1 := text_calls t (fun g => P g ∧ g < w.heap.size) (w.heap.size + 1 + 1 + 1) (w.heap.size + 1 + 1 + 1) [] (W0.alloc (.cells #[.pointer none, .slice none 0 0] 149)) _ ⟨A, c, rfl, hs, Hc.out.stay ((Below.refl _ _).alloc (Nat.le_refl _) _) (Nat.le_refl _)⟩ hfp (Nat.le_refl _) hn0 (by have := HsW.out; simp; omega) (by have := Htl.out; simp; omega) Hfit.out.1
  rw [List.nil_append] at hc1
  have HC1 := Lib.hid hc1; clear hc1 hn0
  have HC2 := Lib.hid (fun (W : World) (h1 : Below (w.heap.size + 1 + 1 + 1) W0 W) (h2 : Bld W (w.heap.size + 1 + 1 + 1) (w.heap.size + 1 + 1 + 1) t.txt) => text_calls u (fun g => Q g ∧ g < w.heap.size) (w.heap.size + 1 + 1 + 1) (w.heap.size + 1 + 1 + 1) t.txt W _ ⟨B, d, rfl, hs', Hd.out.belowP h1 hfq⟩ hfq (Nat.le_refl _) h2 (by have := HsW.out; have := h1.size; omega) Htl.out Hfit.out.2)
  clear hfp hfq
  obtain ⟨⟨a0, a1, a2, a3⟩, -⟩ := HX0.out.four
  obtain ⟨⟨b0, b1, b2, b3⟩, -⟩ := HY0.out.four
  by_cases hk : t.k = u.k
  case neg =>
   have Hgl := Lib.hid (show R = (Tm.va (pidx p (t, u)), padd p (t, u)) from by rw [Hgen.out, if_neg (fun h => hk h.1)])
   have dhk : (t.k == u.k) = false := by simpa using hk
   clear hk
   clear a0 a1 a2 a3 b0 b1 b2 b3
   go_enter Try.func92, Try.ntmps92
   go_wp2_with fail
   rw [← HW.out]
   refine HC1.out.mono ?_
   rintro e w1 ⟨rfl, hl1, hb1, -⟩
   have hb1 : Below (w.heap.size + 1 + 1 + 1) W0 w1 := ((Below.refl _ W0).alloc (by have := HsW.out; omega) _).trans hb1
   obtain ⟨⟨b0, b1, b2, b3⟩, -⟩ := (HY0.out.below hb1 (by omega)).four
   have hs1 := hb1.size
   rw [HsW.out] at hs1
   have HB1 := Lib.hid hb1; clear hb1
   have HL1 := Lib.hid hl1; clear hl1
   go_wp2_with fail
   refine (HC2.out w1 HB1.out HL1.out).mono ?_
   rintro e w2 ⟨rfl, hl2, hb2, -⟩
   have HB2 := Lib.hid (HB1.out.trans hb2); clear hb2
   have HL2 := Lib.hid hl2; clear hl2
   have Hst := Lib.hid (string_calls (w.heap.size + 1 + 1 + 1) (w.heap.size + 1 + 1 + 1) (t.txt ++ u.txt) w2 HL2.out (by have := HB2.out.size; have := HsW.out; omega))
   go_wp2_with fail
   refine Hst.out.mono ?_
   rintro e w3 ⟨rfl, hl3, hb3, -⟩
   have HB3 := Lib.hid (HB2.out.trans hb3); clear hb3
   have HL3 := Lib.hid hl3; clear hl3 b0 b1 b2 b3
   have hs3 : w.heap.size + 1 + 1 + 1 ≤ w3.heap.size := by have := HB3.out.size; have := HsW.out; omega
   obtain ⟨D, hown, hT, hS, hall⟩ := Hm0.out.below HB3.out (by omega)
   obtain ⟨ky, hky⟩ : ∃ ky, ky = pkey (t, u) := ⟨_, rfl⟩
   have hkl : (t.txt ++ u.txt) = ky := by rw [hky]; rfl
   have hkey : keyOf Try.prog 9 (.string ⟨ky.toArray⟩) = some (.string ky) := by
    have h1 : (⟨ky.toArray⟩ : ByteArray).size = ky.length := by simp [ByteArray.size]
    have h2 := WideMaps.keyOf_string_mk (P := Try.prog) (k := 9) Try.underlying9 (s := ⟨ky.toArray⟩) (by rw [h1, ← hkl, List.length_append]; have := Htl.out; simp only [maxLen]; omega)
    simpa using h2
   rw [hkl]
   have Hky := Lib.hid hky; clear hky hkl
   by_cases hq : (t, u) ∈ p
   ·have hhas : Maps.has D (.string ky) = true := by rw [Hky.out, (hall _ Hfit.out).1]; simpa using hq
    have hat0 := (hall _ Hfit.out).2 hq
    rw [← Hky.out] at hat0
    have Hgen2 := Lib.hid (show R = (Tm.va (pidx p (t, u)), p) from by rw [Hgl.out]; unfold padd; rw [if_pos hq])
    obtain ⟨⟨z0, z1, z2, z3⟩, ⟨f0, f1, f2, f3⟩⟩ := (HZ0.out.below HB3.out (by omega)).four
    have HZ3 := Lib.hid (HZ0.out.below HB3.out (by omega))
    go_wp2_with (at_lookup; refine wpList_lookup_own_ok_int _ rfl _ _ 108 rfl 9 3 .i64 (Maps.string_keyed Try.underlying9) Try.underlying108 Try.underlying3 (Try.zeroValue3 _) mb p.length D rfl hown (.string ⟨ky.toArray⟩) (.string ky) rfl hkey ?_; intro cc hat hwc; rw [hhas]; rw [hat0] at hat; have hcc := lit_inj hat; subst hcc; clear hat hwc)
    have hF := ((((HZ3.out.set_ 0 (.int .i64 1)).set_ 1 (.int .i64 (pidx p (t, u)))).set_ 2 (.string ⟨#[]⟩)).set_ 3 (.slice none 0 0))
    obtain ⟨⟨q0, q1, q2, q3⟩, -⟩ := hF.four
    have hF := ((((HZ3.out.set_ 0 (.int .i64 1)).set_ 1 (.int .i64 (pidx p (t, u)))).set_ 2 (.string ⟨#[]⟩)).set_ 3 (.slice none 0 0))
    obtain ⟨⟨q0, q1, q2, q3⟩, -⟩ := hF.four
    have hmF := (Hm0.out.below HB3.out (by omega)).set4 (z := w.heap.size + 1 + 1) (by omega) (.int .i64 1) (.int .i64 (pidx p (t, u))) (.string ⟨#[]⟩) (.slice none 0 0)
    have hbF := (But.of_below (b := mb) (HB0.out.trans (HB3.out.mono (by omega))) (Nat.le_refl _)).set4 (z := w.heap.size + 1 + 1) (by omega) (.int .i64 1) (.int .i64 (pidx p (t, u))) (.string ⟨#[]⟩) (.slice none 0 0)
    refine bodyPost_ret (v := .agg #[.int .i64 1, .int .i64 (pidx p (t, u)), .string ⟨#[]⟩, .slice none 0 0]) ?_ rfl (R := RetG mb w R) ⟨none, 0, by rw [Hgen2.out]; rfl, by rw [Hgen2.out]; show (⟨#[]⟩ : ByteArray).size ≤ _; decide, by rw [Hgen2.out]; exact TmC.nil _ _ (by omega) (fun _ => rfl), by rw [Hgen2.out]; exact hmF, hbF⟩
    generalize (World.setCell _ ⟨w.heap.size + 1 + 1, 3, none⟩ _) = WF at q0 q1 q2 q3 ⊢
    clear hF hmF hbF
    simp [results, Try.results92, go_sem, q0, q1, q2, q3]
   ·have hhas : Maps.has D (.string ky) = false := by rw [Hky.out, (hall _ Hfit.out).1]; simpa using hq
    have Hgen2 := Lib.hid (show R = (Tm.va p.length, p ++ [(t, u)]) from by rw [Hgl.out, pidx_not hq]; unfold padd; rw [if_neg hq])
    have Hq := Lib.hid hq; clear hq
    have hwk : (Lit.int .i64 (p.length : Int)).wf = true := by
     unfold Lit.wf
     simp [IntKind.min, IntKind.max, IntKind.bits, IntKind.signed]
     omega
    have Hst2 := Lib.hid (string_calls (w.heap.size + 1 + 1 + 1) (w.heap.size + 1 + 1 + 1) (t.txt ++ u.txt) w3 HL3.out hs3)
    have Hall := Lib.hid hall; clear hall
    go_wp2_with (first
     | (at_lookup; refine wpList_lookup_own_ok_int _ rfl _ _ 108 rfl 9 3 .i64 (Maps.string_keyed Try.underlying9) Try.underlying108 Try.underlying3 (Try.zeroValue3 _) mb p.length D rfl hown (.string ⟨ky.toArray⟩) (.string ky) rfl hkey ?_; intro cc hat hwc; rw [hhas]; clear hat hwc)
     | (at_len; refine wpList_len_own _ rfl _ 108 rfl 9 3 Try.underlying108 _ mb p.length D rfl hown ?_; rw [hS]))
    refine Hst2.out.mono ?_
    rintro e w4 ⟨rfl, hl4, hb4, -⟩
    have hown4 := ownsMap_below hown hb4 (by omega)
    have HB4 := Lib.hid (HB3.out.trans hb4)
    have hkl : (t.txt ++ u.txt) = ky := by rw [Hky.out]; rfl
    rw [hkl]
    clear hl4 hb4 hown hkl
    have hZ4 := HZ0.out.below HB4.out (by omega)
    have hs4 : w.heap.size + 1 + 1 + 1 ≤ w4.heap.size := by have := HB4.out.size; have := HsW.out; omega
    have HZ4 := Lib.hid hZ4; clear hZ4
    have hz5 : ∀ w5, w4.grownBy w5 (some mb) → Blk w5 (w.heap.size + 1 + 1) 25 #[.int .i64 0, .int .i64 0, .string ⟨#[]⟩, .slice none 0 0] := fun w5 h => HZ4.out.grown h (by simp; omega)
    have Hz5 := Lib.hid hz5; clear hz5
    go_wp2_with (at_mapUpdate; refine wpList_mapUpdate_own _ rfl _ _ _ 108 rfl 9 3 (Maps.string_keyed Try.underlying9) Try.underlying108 _ mb p.length D rfl hown4 (by simp only [maxLen]; omega) (.string ⟨ky.toArray⟩) (.int .i64 p.length) (.string ky) rfl rfl hkey _ [] (plainElem_int Try.underlying3 hwk) ?_; intro w5 hown5 hg5; have hZ5 := Hz5.out w5 hg5; have hs5 := hg5.size; obtain ⟨⟨z0, z1, z2, z3⟩, ⟨f0, f1, f2, f3⟩⟩ := hZ5.four; have HZ5 := Lib.hid hZ5; clear hZ5; have Hown5 := Lib.hid hown5; clear hown5; have Hg5 := Lib.hid hg5; clear hg5)
    have hF := ((((HZ5.out.set_ 0 (.int .i64 1)).set_ 1 (.int .i64 p.length)).set_ 2 (.string ⟨#[]⟩)).set_ 3 (.slice none 0 0))
    obtain ⟨⟨q0, q1, q2, q3⟩, -⟩ := hF.four
    have hm5 : MapP w5 mb (p ++ [(t, u)]) := MapP.put (w := w5) (by have := Hown5.out; rw [Hky.out] at this; exact this) hT hS (fun q h => ⟨by rw [(Hall.out q h).1]; congr, (Hall.out q h).2⟩) Hfit.out Hq.out
    have hmF := hm5.set4 (z := w.heap.size + 1 + 1) (by omega) (.int .i64 1) (.int .i64 p.length) (.string ⟨#[]⟩) (.slice none 0 0)
    have hb5 : But mb w w5 := (But.of_below (b := mb) (HB0.out.trans (HB4.out.mono (by omega))) (Nat.le_refl _)).trans ⟨Hg5.out.os, Hg5.out.tape, Hg5.out.output, Hg5.out.size, fun j hj hjb => Hg5.out.block j hj (by simpa using hjb)⟩
    have hbF := hb5.set4 (z := w.heap.size + 1 + 1) (by omega) (.int .i64 1) (.int .i64 p.length) (.string ⟨#[]⟩) (.slice none 0 0)
    refine bodyPost_ret (v := .agg #[.int .i64 1, .int .i64 p.length, .string ⟨#[]⟩, .slice none 0 0]) ?_ rfl (R := RetG mb w R) ⟨none, 0, by rw [Hgen2.out]; rfl, by rw [Hgen2.out]; show (⟨#[]⟩ : ByteArray).size ≤ _; decide, by rw [Hgen2.out]; exact TmC.nil _ _ (by omega) (fun _ => rfl), by rw [Hgen2.out]; exact hmF, hbF⟩
    generalize (World.setCell _ ⟨w.heap.size + 1 + 1, 3, none⟩ _) = WF at q0 q1 q2 q3 ⊢
    clear hF hmF hbF hb5 hm5
    simp [results, Try.results92, go_sem, q0, q1, q2, q3]
  have dhk : (t.k == u.k) = true := by simpa using hk
  have Hhk := Lib.hid hk; clear hk
  by_cases hk1 : t.k ≠ 1
  case neg =>
   have Hgl := Lib.hid (show R = (Tm.va (pidx p (t, u)), padd p (t, u)) from by rw [Hgen.out, if_neg (fun h => hk1 h.2.1)])
   have dhk1 : (t.k != 1) = false := by simpa using hk1
   clear hk1
   clear a0 a1 a2 a3 b0 b1 b2 b3
   go_enter Try.func92, Try.ntmps92
   go_wp2_with fail
   rw [← HW.out]
   refine HC1.out.mono ?_
   rintro e w1 ⟨rfl, hl1, hb1, -⟩
   have hb1 : Below (w.heap.size + 1 + 1 + 1) W0 w1 := ((Below.refl _ W0).alloc (by have := HsW.out; omega) _).trans hb1
   obtain ⟨⟨b0, b1, b2, b3⟩, -⟩ := (HY0.out.below hb1 (by omega)).four
   have hs1 := hb1.size
   rw [HsW.out] at hs1
   have HB1 := Lib.hid hb1; clear hb1
   have HL1 := Lib.hid hl1; clear hl1
   go_wp2_with fail
   refine (HC2.out w1 HB1.out HL1.out).mono ?_
   rintro e w2 ⟨rfl, hl2, hb2, -⟩
   have HB2 := Lib.hid (HB1.out.trans hb2); clear hb2
   have HL2 := Lib.hid hl2; clear hl2
   have Hst := Lib.hid (string_calls (w.heap.size + 1 + 1 + 1) (w.heap.size + 1 + 1 + 1) (t.txt ++ u.txt) w2 HL2.out (by have := HB2.out.size; have := HsW.out; omega))
   go_wp2_with fail
   refine Hst.out.mono ?_
   rintro e w3 ⟨rfl, hl3, hb3, -⟩
   have HB3 := Lib.hid (HB2.out.trans hb3); clear hb3
   have HL3 := Lib.hid hl3; clear hl3 b0 b1 b2 b3
   have hs3 : w.heap.size + 1 + 1 + 1 ≤ w3.heap.size := by have := HB3.out.size; have := HsW.out; omega
   obtain ⟨D, hown, hT, hS, hall⟩ := Hm0.out.below HB3.out (by omega)
   obtain ⟨ky, hky⟩ : ∃ ky, ky = pkey (t, u) := ⟨_, rfl⟩
   have hkl : (t.txt ++ u.txt) = ky := by rw [hky]; rfl
   have hkey : keyOf Try.prog 9 (.string ⟨ky.toArray⟩) = some (.string ky) := by
    have h1 : (⟨ky.toArray⟩ : ByteArray).size = ky.length := by simp [ByteArray.size]
    have h2 := WideMaps.keyOf_string_mk (P := Try.prog) (k := 9) Try.underlying9 (s := ⟨ky.toArray⟩) (by rw [h1, ← hkl, List.length_append]; have := Htl.out; simp only [maxLen]; omega)
    simpa using h2
   rw [hkl]
   have Hky := Lib.hid hky; clear hky hkl
   by_cases hq : (t, u) ∈ p
   ·have hhas : Maps.has D (.string ky) = true := by rw [Hky.out, (hall _ Hfit.out).1]; simpa using hq
    have hat0 := (hall _ Hfit.out).2 hq
    rw [← Hky.out] at hat0
    have Hgen2 := Lib.hid (show R = (Tm.va (pidx p (t, u)), p) from by rw [Hgl.out]; unfold padd; rw [if_pos hq])
    obtain ⟨⟨z0, z1, z2, z3⟩, ⟨f0, f1, f2, f3⟩⟩ := (HZ0.out.below HB3.out (by omega)).four
    have HZ3 := Lib.hid (HZ0.out.below HB3.out (by omega))
    go_wp2_with (at_lookup; refine wpList_lookup_own_ok_int _ rfl _ _ 108 rfl 9 3 .i64 (Maps.string_keyed Try.underlying9) Try.underlying108 Try.underlying3 (Try.zeroValue3 _) mb p.length D rfl hown (.string ⟨ky.toArray⟩) (.string ky) rfl hkey ?_; intro cc hat hwc; rw [hhas]; rw [hat0] at hat; have hcc := lit_inj hat; subst hcc; clear hat hwc)
    have hF := ((((HZ3.out.set_ 0 (.int .i64 1)).set_ 1 (.int .i64 (pidx p (t, u)))).set_ 2 (.string ⟨#[]⟩)).set_ 3 (.slice none 0 0))
    obtain ⟨⟨q0, q1, q2, q3⟩, -⟩ := hF.four
    have hF := ((((HZ3.out.set_ 0 (.int .i64 1)).set_ 1 (.int .i64 (pidx p (t, u)))).set_ 2 (.string ⟨#[]⟩)).set_ 3 (.slice none 0 0))
    obtain ⟨⟨q0, q1, q2, q3⟩, -⟩ := hF.four
    have hmF := (Hm0.out.below HB3.out (by omega)).set4 (z := w.heap.size + 1 + 1) (by omega) (.int .i64 1) (.int .i64 (pidx p (t, u))) (.string ⟨#[]⟩) (.slice none 0 0)
    have hbF := (But.of_below (b := mb) (HB0.out.trans (HB3.out.mono (by omega))) (Nat.le_refl _)).set4 (z := w.heap.size + 1 + 1) (by omega) (.int .i64 1) (.int .i64 (pidx p (t, u))) (.string ⟨#[]⟩) (.slice none 0 0)
    refine bodyPost_ret (v := .agg #[.int .i64 1, .int .i64 (pidx p (t, u)), .string ⟨#[]⟩, .slice none 0 0]) ?_ rfl (R := RetG mb w R) ⟨none, 0, by rw [Hgen2.out]; rfl, by rw [Hgen2.out]; show (⟨#[]⟩ : ByteArray).size ≤ _; decide, by rw [Hgen2.out]; exact TmC.nil _ _ (by omega) (fun _ => rfl), by rw [Hgen2.out]; exact hmF, hbF⟩
    generalize (World.setCell _ ⟨w.heap.size + 1 + 1, 3, none⟩ _) = WF at q0 q1 q2 q3 ⊢
    clear hF hmF hbF
    simp [results, Try.results92, go_sem, q0, q1, q2, q3]
   ·have hhas : Maps.has D (.string ky) = false := by rw [Hky.out, (hall _ Hfit.out).1]; simpa using hq
    have Hgen2 := Lib.hid (show R = (Tm.va p.length, p ++ [(t, u)]) from by rw [Hgl.out, pidx_not hq]; unfold padd; rw [if_neg hq])
    have Hq := Lib.hid hq; clear hq
    have hwk : (Lit.int .i64 (p.length : Int)).wf = true := by
     unfold Lit.wf
     simp [IntKind.min, IntKind.max, IntKind.bits, IntKind.signed]
     omega
    have Hst2 := Lib.hid (string_calls (w.heap.size + 1 + 1 + 1) (w.heap.size + 1 + 1 + 1) (t.txt ++ u.txt) w3 HL3.out hs3)
    have Hall := Lib.hid hall; clear hall
    go_wp2_with (first
     | (at_lookup; refine wpList_lookup_own_ok_int _ rfl _ _ 108 rfl 9 3 .i64 (Maps.string_keyed Try.underlying9) Try.underlying108 Try.underlying3 (Try.zeroValue3 _) mb p.length D rfl hown (.string ⟨ky.toArray⟩) (.string ky) rfl hkey ?_; intro cc hat hwc; rw [hhas]; clear hat hwc)
     | (at_len; refine wpList_len_own _ rfl _ 108 rfl 9 3 Try.underlying108 _ mb p.length D rfl hown ?_; rw [hS]))
    refine Hst2.out.mono ?_
    rintro e w4 ⟨rfl, hl4, hb4, -⟩
    have hown4 := ownsMap_below hown hb4 (by omega)
    have HB4 := Lib.hid (HB3.out.trans hb4)
    have hkl : (t.txt ++ u.txt) = ky := by rw [Hky.out]; rfl
    rw [hkl]
    clear hl4 hb4 hown hkl
    have hZ4 := HZ0.out.below HB4.out (by omega)
    have hs4 : w.heap.size + 1 + 1 + 1 ≤ w4.heap.size := by have := HB4.out.size; have := HsW.out; omega
    have HZ4 := Lib.hid hZ4; clear hZ4
    have hz5 : ∀ w5, w4.grownBy w5 (some mb) → Blk w5 (w.heap.size + 1 + 1) 25 #[.int .i64 0, .int .i64 0, .string ⟨#[]⟩, .slice none 0 0] := fun w5 h => HZ4.out.grown h (by simp; omega)
    have Hz5 := Lib.hid hz5; clear hz5
    go_wp2_with (at_mapUpdate; refine wpList_mapUpdate_own _ rfl _ _ _ 108 rfl 9 3 (Maps.string_keyed Try.underlying9) Try.underlying108 _ mb p.length D rfl hown4 (by simp only [maxLen]; omega) (.string ⟨ky.toArray⟩) (.int .i64 p.length) (.string ky) rfl rfl hkey _ [] (plainElem_int Try.underlying3 hwk) ?_; intro w5 hown5 hg5; have hZ5 := Hz5.out w5 hg5; have hs5 := hg5.size; obtain ⟨⟨z0, z1, z2, z3⟩, ⟨f0, f1, f2, f3⟩⟩ := hZ5.four; have HZ5 := Lib.hid hZ5; clear hZ5; have Hown5 := Lib.hid hown5; clear hown5; have Hg5 := Lib.hid hg5; clear hg5)
    have hF := ((((HZ5.out.set_ 0 (.int .i64 1)).set_ 1 (.int .i64 p.length)).set_ 2 (.string ⟨#[]⟩)).set_ 3 (.slice none 0 0))
    obtain ⟨⟨q0, q1, q2, q3⟩, -⟩ := hF.four
    have hm5 : MapP w5 mb (p ++ [(t, u)]) := MapP.put (w := w5) (by have := Hown5.out; rw [Hky.out] at this; exact this) hT hS (fun q h => ⟨by rw [(Hall.out q h).1]; congr, (Hall.out q h).2⟩) Hfit.out Hq.out
    have hmF := hm5.set4 (z := w.heap.size + 1 + 1) (by omega) (.int .i64 1) (.int .i64 p.length) (.string ⟨#[]⟩) (.slice none 0 0)
    have hb5 : But mb w w5 := (But.of_below (b := mb) (HB0.out.trans (HB4.out.mono (by omega))) (Nat.le_refl _)).trans ⟨Hg5.out.os, Hg5.out.tape, Hg5.out.output, Hg5.out.size, fun j hj hjb => Hg5.out.block j hj (by simpa using hjb)⟩
    have hbF := hb5.set4 (z := w.heap.size + 1 + 1) (by omega) (.int .i64 1) (.int .i64 p.length) (.string ⟨#[]⟩) (.slice none 0 0)
    refine bodyPost_ret (v := .agg #[.int .i64 1, .int .i64 p.length, .string ⟨#[]⟩, .slice none 0 0]) ?_ rfl (R := RetG mb w R) ⟨none, 0, by rw [Hgen2.out]; rfl, by rw [Hgen2.out]; show (⟨#[]⟩ : ByteArray).size ≤ _; decide, by rw [Hgen2.out]; exact TmC.nil _ _ (by omega) (fun _ => rfl), by rw [Hgen2.out]; exact hmF, hbF⟩
    generalize (World.setCell _ ⟨w.heap.size + 1 + 1, 3, none⟩ _) = WF at q0 q1 q2 q3 ⊢
    clear hF hmF hbF hb5 hm5
    simp [results, Try.results92, go_sem, q0, q1, q2, q3]
  have dhk1 : (t.k != 1) = true := by simpa using hk1
  have Hhk1 := Lib.hid hk1; clear hk1
  by_cases hn : t.n = u.n
  case neg =>
   have Hgl := Lib.hid (show R = (Tm.va (pidx p (t, u)), padd p (t, u)) from by rw [Hgen.out, if_neg (fun h => hn h.2.2.1)])
   have dhn : (t.n == u.n) = false := by simpa using hn
   clear hn
   clear a0 a1 a2 a3 b0 b1 b2 b3
   go_enter Try.func92, Try.ntmps92
   go_wp2_with fail
   rw [← HW.out]
   refine HC1.out.mono ?_
   rintro e w1 ⟨rfl, hl1, hb1, -⟩
   have hb1 : Below (w.heap.size + 1 + 1 + 1) W0 w1 := ((Below.refl _ W0).alloc (by have := HsW.out; omega) _).trans hb1
   obtain ⟨⟨b0, b1, b2, b3⟩, -⟩ := (HY0.out.below hb1 (by omega)).four
   have hs1 := hb1.size
   rw [HsW.out] at hs1
   have HB1 := Lib.hid hb1; clear hb1
   have HL1 := Lib.hid hl1; clear hl1
   go_wp2_with fail
   refine (HC2.out w1 HB1.out HL1.out).mono ?_
   rintro e w2 ⟨rfl, hl2, hb2, -⟩
   have HB2 := Lib.hid (HB1.out.trans hb2); clear hb2
   have HL2 := Lib.hid hl2; clear hl2
   have Hst := Lib.hid (string_calls (w.heap.size + 1 + 1 + 1) (w.heap.size + 1 + 1 + 1) (t.txt ++ u.txt) w2 HL2.out (by have := HB2.out.size; have := HsW.out; omega))
   go_wp2_with fail
   refine Hst.out.mono ?_
   rintro e w3 ⟨rfl, hl3, hb3, -⟩
   have HB3 := Lib.hid (HB2.out.trans hb3); clear hb3
   have HL3 := Lib.hid hl3; clear hl3 b0 b1 b2 b3
   have hs3 : w.heap.size + 1 + 1 + 1 ≤ w3.heap.size := by have := HB3.out.size; have := HsW.out; omega
   obtain ⟨D, hown, hT, hS, hall⟩ := Hm0.out.below HB3.out (by omega)
   obtain ⟨ky, hky⟩ : ∃ ky, ky = pkey (t, u) := ⟨_, rfl⟩
   have hkl : (t.txt ++ u.txt) = ky := by rw [hky]; rfl
   have hkey : keyOf Try.prog 9 (.string ⟨ky.toArray⟩) = some (.string ky) := by
    have h1 : (⟨ky.toArray⟩ : ByteArray).size = ky.length := by simp [ByteArray.size]
    have h2 := WideMaps.keyOf_string_mk (P := Try.prog) (k := 9) Try.underlying9 (s := ⟨ky.toArray⟩) (by rw [h1, ← hkl, List.length_append]; have := Htl.out; simp only [maxLen]; omega)
    simpa using h2
   rw [hkl]
   have Hky := Lib.hid hky; clear hky hkl
   by_cases hq : (t, u) ∈ p
   ·have hhas : Maps.has D (.string ky) = true := by rw [Hky.out, (hall _ Hfit.out).1]; simpa using hq
    have hat0 := (hall _ Hfit.out).2 hq
    rw [← Hky.out] at hat0
    have Hgen2 := Lib.hid (show R = (Tm.va (pidx p (t, u)), p) from by rw [Hgl.out]; unfold padd; rw [if_pos hq])
    obtain ⟨⟨z0, z1, z2, z3⟩, ⟨f0, f1, f2, f3⟩⟩ := (HZ0.out.below HB3.out (by omega)).four
    have HZ3 := Lib.hid (HZ0.out.below HB3.out (by omega))
    go_wp2_with (at_lookup; refine wpList_lookup_own_ok_int _ rfl _ _ 108 rfl 9 3 .i64 (Maps.string_keyed Try.underlying9) Try.underlying108 Try.underlying3 (Try.zeroValue3 _) mb p.length D rfl hown (.string ⟨ky.toArray⟩) (.string ky) rfl hkey ?_; intro cc hat hwc; rw [hhas]; rw [hat0] at hat; have hcc := lit_inj hat; subst hcc; clear hat hwc)
    have hF := ((((HZ3.out.set_ 0 (.int .i64 1)).set_ 1 (.int .i64 (pidx p (t, u)))).set_ 2 (.string ⟨#[]⟩)).set_ 3 (.slice none 0 0))
    obtain ⟨⟨q0, q1, q2, q3⟩, -⟩ := hF.four
    have hF := ((((HZ3.out.set_ 0 (.int .i64 1)).set_ 1 (.int .i64 (pidx p (t, u)))).set_ 2 (.string ⟨#[]⟩)).set_ 3 (.slice none 0 0))
    obtain ⟨⟨q0, q1, q2, q3⟩, -⟩ := hF.four
    have hmF := (Hm0.out.below HB3.out (by omega)).set4 (z := w.heap.size + 1 + 1) (by omega) (.int .i64 1) (.int .i64 (pidx p (t, u))) (.string ⟨#[]⟩) (.slice none 0 0)
    have hbF := (But.of_below (b := mb) (HB0.out.trans (HB3.out.mono (by omega))) (Nat.le_refl _)).set4 (z := w.heap.size + 1 + 1) (by omega) (.int .i64 1) (.int .i64 (pidx p (t, u))) (.string ⟨#[]⟩) (.slice none 0 0)
    refine bodyPost_ret (v := .agg #[.int .i64 1, .int .i64 (pidx p (t, u)), .string ⟨#[]⟩, .slice none 0 0]) ?_ rfl (R := RetG mb w R) ⟨none, 0, by rw [Hgen2.out]; rfl, by rw [Hgen2.out]; show (⟨#[]⟩ : ByteArray).size ≤ _; decide, by rw [Hgen2.out]; exact TmC.nil _ _ (by omega) (fun _ => rfl), by rw [Hgen2.out]; exact hmF, hbF⟩
    generalize (World.setCell _ ⟨w.heap.size + 1 + 1, 3, none⟩ _) = WF at q0 q1 q2 q3 ⊢
    clear hF hmF hbF
    simp [results, Try.results92, go_sem, q0, q1, q2, q3]
   ·have hhas : Maps.has D (.string ky) = false := by rw [Hky.out, (hall _ Hfit.out).1]; simpa using hq
    have Hgen2 := Lib.hid (show R = (Tm.va p.length, p ++ [(t, u)]) from by rw [Hgl.out, pidx_not hq]; unfold padd; rw [if_neg hq])
    have Hq := Lib.hid hq; clear hq
    have hwk : (Lit.int .i64 (p.length : Int)).wf = true := by
     unfold Lit.wf
     simp [IntKind.min, IntKind.max, IntKind.bits, IntKind.signed]
     omega
    have Hst2 := Lib.hid (string_calls (w.heap.size + 1 + 1 + 1) (w.heap.size + 1 + 1 + 1) (t.txt ++ u.txt) w3 HL3.out hs3)
    have Hall := Lib.hid hall; clear hall
    go_wp2_with (first
     | (at_lookup; refine wpList_lookup_own_ok_int _ rfl _ _ 108 rfl 9 3 .i64 (Maps.string_keyed Try.underlying9) Try.underlying108 Try.underlying3 (Try.zeroValue3 _) mb p.length D rfl hown (.string ⟨ky.toArray⟩) (.string ky) rfl hkey ?_; intro cc hat hwc; rw [hhas]; clear hat hwc)
     | (at_len; refine wpList_len_own _ rfl _ 108 rfl 9 3 Try.underlying108 _ mb p.length D rfl hown ?_; rw [hS]))
    refine Hst2.out.mono ?_
    rintro e w4 ⟨rfl, hl4, hb4, -⟩
    have hown4 := ownsMap_below hown hb4 (by omega)
    have HB4 := Lib.hid (HB3.out.trans hb4)
    have hkl : (t.txt ++ u.txt) = ky := by rw [Hky.out]; rfl
    rw [hkl]
    clear hl4 hb4 hown hkl
    have hZ4 := HZ0.out.below HB4.out (by omega)
    have hs4 : w.heap.size + 1 + 1 + 1 ≤ w4.heap.size := by have := HB4.out.size; have := HsW.out; omega
    have HZ4 := Lib.hid hZ4; clear hZ4
    have hz5 : ∀ w5, w4.grownBy w5 (some mb) → Blk w5 (w.heap.size + 1 + 1) 25 #[.int .i64 0, .int .i64 0, .string ⟨#[]⟩, .slice none 0 0] := fun w5 h => HZ4.out.grown h (by simp; omega)
    have Hz5 := Lib.hid hz5; clear hz5
    go_wp2_with (at_mapUpdate; refine wpList_mapUpdate_own _ rfl _ _ _ 108 rfl 9 3 (Maps.string_keyed Try.underlying9) Try.underlying108 _ mb p.length D rfl hown4 (by simp only [maxLen]; omega) (.string ⟨ky.toArray⟩) (.int .i64 p.length) (.string ky) rfl rfl hkey _ [] (plainElem_int Try.underlying3 hwk) ?_; intro w5 hown5 hg5; have hZ5 := Hz5.out w5 hg5; have hs5 := hg5.size; obtain ⟨⟨z0, z1, z2, z3⟩, ⟨f0, f1, f2, f3⟩⟩ := hZ5.four; have HZ5 := Lib.hid hZ5; clear hZ5; have Hown5 := Lib.hid hown5; clear hown5; have Hg5 := Lib.hid hg5; clear hg5)
    have hF := ((((HZ5.out.set_ 0 (.int .i64 1)).set_ 1 (.int .i64 p.length)).set_ 2 (.string ⟨#[]⟩)).set_ 3 (.slice none 0 0))
    obtain ⟨⟨q0, q1, q2, q3⟩, -⟩ := hF.four
    have hm5 : MapP w5 mb (p ++ [(t, u)]) := MapP.put (w := w5) (by have := Hown5.out; rw [Hky.out] at this; exact this) hT hS (fun q h => ⟨by rw [(Hall.out q h).1]; congr, (Hall.out q h).2⟩) Hfit.out Hq.out
    have hmF := hm5.set4 (z := w.heap.size + 1 + 1) (by omega) (.int .i64 1) (.int .i64 p.length) (.string ⟨#[]⟩) (.slice none 0 0)
    have hb5 : But mb w w5 := (But.of_below (b := mb) (HB0.out.trans (HB4.out.mono (by omega))) (Nat.le_refl _)).trans ⟨Hg5.out.os, Hg5.out.tape, Hg5.out.output, Hg5.out.size, fun j hj hjb => Hg5.out.block j hj (by simpa using hjb)⟩
    have hbF := hb5.set4 (z := w.heap.size + 1 + 1) (by omega) (.int .i64 1) (.int .i64 p.length) (.string ⟨#[]⟩) (.slice none 0 0)
    refine bodyPost_ret (v := .agg #[.int .i64 1, .int .i64 p.length, .string ⟨#[]⟩, .slice none 0 0]) ?_ rfl (R := RetG mb w R) ⟨none, 0, by rw [Hgen2.out]; rfl, by rw [Hgen2.out]; show (⟨#[]⟩ : ByteArray).size ≤ _; decide, by rw [Hgen2.out]; exact TmC.nil _ _ (by omega) (fun _ => rfl), by rw [Hgen2.out]; exact hmF, hbF⟩
    generalize (World.setCell _ ⟨w.heap.size + 1 + 1, 3, none⟩ _) = WF at q0 q1 q2 q3 ⊢
    clear hF hmF hbF hb5 hm5
    simp [results, Try.results92, go_sem, q0, q1, q2, q3]
  have dhn : (t.n == u.n) = true := by simpa using hn
  have Hhn := Lib.hid hn; clear hn
  by_cases hss : t.s.toList = u.s.toList
  case neg =>
   have Hgl := Lib.hid (show R = (Tm.va (pidx p (t, u)), padd p (t, u)) from by rw [Hgen.out, if_neg (fun h => hss h.2.2.2.1)])
   clear a0 a1 a2 a3 b0 b1 b2 b3
   go_enter Try.func92, Try.ntmps92
   go_wp2_with fail
   rw [← HW.out]
   refine HC1.out.mono ?_
   rintro e w1 ⟨rfl, hl1, hb1, -⟩
   have hb1 : Below (w.heap.size + 1 + 1 + 1) W0 w1 := ((Below.refl _ W0).alloc (by have := HsW.out; omega) _).trans hb1
   obtain ⟨⟨b0, b1, b2, b3⟩, -⟩ := (HY0.out.below hb1 (by omega)).four
   have hs1 := hb1.size
   rw [HsW.out] at hs1
   have HB1 := Lib.hid hb1; clear hb1
   have HL1 := Lib.hid hl1; clear hl1
   go_wp2_with fail
   refine (HC2.out w1 HB1.out HL1.out).mono ?_
   rintro e w2 ⟨rfl, hl2, hb2, -⟩
   have HB2 := Lib.hid (HB1.out.trans hb2); clear hb2
   have HL2 := Lib.hid hl2; clear hl2
   have Hst := Lib.hid (string_calls (w.heap.size + 1 + 1 + 1) (w.heap.size + 1 + 1 + 1) (t.txt ++ u.txt) w2 HL2.out (by have := HB2.out.size; have := HsW.out; omega))
   go_wp2_with fail
   refine Hst.out.mono ?_
   rintro e w3 ⟨rfl, hl3, hb3, -⟩
   have HB3 := Lib.hid (HB2.out.trans hb3); clear hb3
   have HL3 := Lib.hid hl3; clear hl3 b0 b1 b2 b3
   have hs3 : w.heap.size + 1 + 1 + 1 ≤ w3.heap.size := by have := HB3.out.size; have := HsW.out; omega
   obtain ⟨D, hown, hT, hS, hall⟩ := Hm0.out.below HB3.out (by omega)
   obtain ⟨ky, hky⟩ : ∃ ky, ky = pkey (t, u) := ⟨_, rfl⟩
   have hkl : (t.txt ++ u.txt) = ky := by rw [hky]; rfl
   have hkey : keyOf Try.prog 9 (.string ⟨ky.toArray⟩) = some (.string ky) := by
    have h1 : (⟨ky.toArray⟩ : ByteArray).size = ky.length := by simp [ByteArray.size]
    have h2 := WideMaps.keyOf_string_mk (P := Try.prog) (k := 9) Try.underlying9 (s := ⟨ky.toArray⟩) (by rw [h1, ← hkl, List.length_append]; have := Htl.out; simp only [maxLen]; omega)
    simpa using h2
   rw [hkl]
   have Hky := Lib.hid hky; clear hky hkl
   by_cases hq : (t, u) ∈ p
   ·have hhas : Maps.has D (.string ky) = true := by rw [Hky.out, (hall _ Hfit.out).1]; simpa using hq
    have hat0 := (hall _ Hfit.out).2 hq
    rw [← Hky.out] at hat0
    have Hgen2 := Lib.hid (show R = (Tm.va (pidx p (t, u)), p) from by rw [Hgl.out]; unfold padd; rw [if_pos hq])
    obtain ⟨⟨z0, z1, z2, z3⟩, ⟨f0, f1, f2, f3⟩⟩ := (HZ0.out.below HB3.out (by omega)).four
    have HZ3 := Lib.hid (HZ0.out.below HB3.out (by omega))
    go_wp2_with (at_lookup; refine wpList_lookup_own_ok_int _ rfl _ _ 108 rfl 9 3 .i64 (Maps.string_keyed Try.underlying9) Try.underlying108 Try.underlying3 (Try.zeroValue3 _) mb p.length D rfl hown (.string ⟨ky.toArray⟩) (.string ky) rfl hkey ?_; intro cc hat hwc; rw [hhas]; rw [hat0] at hat; have hcc := lit_inj hat; subst hcc; clear hat hwc)
    have hF := ((((HZ3.out.set_ 0 (.int .i64 1)).set_ 1 (.int .i64 (pidx p (t, u)))).set_ 2 (.string ⟨#[]⟩)).set_ 3 (.slice none 0 0))
    obtain ⟨⟨q0, q1, q2, q3⟩, -⟩ := hF.four
    have hF := ((((HZ3.out.set_ 0 (.int .i64 1)).set_ 1 (.int .i64 (pidx p (t, u)))).set_ 2 (.string ⟨#[]⟩)).set_ 3 (.slice none 0 0))
    obtain ⟨⟨q0, q1, q2, q3⟩, -⟩ := hF.four
    have hmF := (Hm0.out.below HB3.out (by omega)).set4 (z := w.heap.size + 1 + 1) (by omega) (.int .i64 1) (.int .i64 (pidx p (t, u))) (.string ⟨#[]⟩) (.slice none 0 0)
    have hbF := (But.of_below (b := mb) (HB0.out.trans (HB3.out.mono (by omega))) (Nat.le_refl _)).set4 (z := w.heap.size + 1 + 1) (by omega) (.int .i64 1) (.int .i64 (pidx p (t, u))) (.string ⟨#[]⟩) (.slice none 0 0)
    refine bodyPost_ret (v := .agg #[.int .i64 1, .int .i64 (pidx p (t, u)), .string ⟨#[]⟩, .slice none 0 0]) ?_ rfl (R := RetG mb w R) ⟨none, 0, by rw [Hgen2.out]; rfl, by rw [Hgen2.out]; show (⟨#[]⟩ : ByteArray).size ≤ _; decide, by rw [Hgen2.out]; exact TmC.nil _ _ (by omega) (fun _ => rfl), by rw [Hgen2.out]; exact hmF, hbF⟩
    generalize (World.setCell _ ⟨w.heap.size + 1 + 1, 3, none⟩ _) = WF at q0 q1 q2 q3 ⊢
    clear hF hmF hbF
    simp [results, Try.results92, go_sem, q0, q1, q2, q3]
   ·have hhas : Maps.has D (.string ky) = false := by rw [Hky.out, (hall _ Hfit.out).1]; simpa using hq
    have Hgen2 := Lib.hid (show R = (Tm.va p.length, p ++ [(t, u)]) from by rw [Hgl.out, pidx_not hq]; unfold padd; rw [if_neg hq])
    have Hq := Lib.hid hq; clear hq
    have hwk : (Lit.int .i64 (p.length : Int)).wf = true := by
     unfold Lit.wf
     simp [IntKind.min, IntKind.max, IntKind.bits, IntKind.signed]
     omega
    have Hst2 := Lib.hid (string_calls (w.heap.size + 1 + 1 + 1) (w.heap.size + 1 + 1 + 1) (t.txt ++ u.txt) w3 HL3.out hs3)
    have Hall := Lib.hid hall; clear hall
    go_wp2_with (first
     | (at_lookup; refine wpList_lookup_own_ok_int _ rfl _ _ 108 rfl 9 3 .i64 (Maps.string_keyed Try.underlying9) Try.underlying108 Try.underlying3 (Try.zeroValue3 _) mb p.length D rfl hown (.string ⟨ky.toArray⟩) (.string ky) rfl hkey ?_; intro cc hat hwc; rw [hhas]; clear hat hwc)
     | (at_len; refine wpList_len_own _ rfl _ 108 rfl 9 3 Try.underlying108 _ mb p.length D rfl hown ?_; rw [hS]))
    refine Hst2.out.mono ?_
    rintro e w4 ⟨rfl, hl4, hb4, -⟩
    have hown4 := ownsMap_below hown hb4 (by omega)
    have HB4 := Lib.hid (HB3.out.trans hb4)
    have hkl : (t.txt ++ u.txt) = ky := by rw [Hky.out]; rfl
    rw [hkl]
    clear hl4 hb4 hown hkl
    have hZ4 := HZ0.out.below HB4.out (by omega)
    have hs4 : w.heap.size + 1 + 1 + 1 ≤ w4.heap.size := by have := HB4.out.size; have := HsW.out; omega
    have HZ4 := Lib.hid hZ4; clear hZ4
    have hz5 : ∀ w5, w4.grownBy w5 (some mb) → Blk w5 (w.heap.size + 1 + 1) 25 #[.int .i64 0, .int .i64 0, .string ⟨#[]⟩, .slice none 0 0] := fun w5 h => HZ4.out.grown h (by simp; omega)
    have Hz5 := Lib.hid hz5; clear hz5
    go_wp2_with (at_mapUpdate; refine wpList_mapUpdate_own _ rfl _ _ _ 108 rfl 9 3 (Maps.string_keyed Try.underlying9) Try.underlying108 _ mb p.length D rfl hown4 (by simp only [maxLen]; omega) (.string ⟨ky.toArray⟩) (.int .i64 p.length) (.string ky) rfl rfl hkey _ [] (plainElem_int Try.underlying3 hwk) ?_; intro w5 hown5 hg5; have hZ5 := Hz5.out w5 hg5; have hs5 := hg5.size; obtain ⟨⟨z0, z1, z2, z3⟩, ⟨f0, f1, f2, f3⟩⟩ := hZ5.four; have HZ5 := Lib.hid hZ5; clear hZ5; have Hown5 := Lib.hid hown5; clear hown5; have Hg5 := Lib.hid hg5; clear hg5)
    have hF := ((((HZ5.out.set_ 0 (.int .i64 1)).set_ 1 (.int .i64 p.length)).set_ 2 (.string ⟨#[]⟩)).set_ 3 (.slice none 0 0))
    obtain ⟨⟨q0, q1, q2, q3⟩, -⟩ := hF.four
    have hm5 : MapP w5 mb (p ++ [(t, u)]) := MapP.put (w := w5) (by have := Hown5.out; rw [Hky.out] at this; exact this) hT hS (fun q h => ⟨by rw [(Hall.out q h).1]; congr, (Hall.out q h).2⟩) Hfit.out Hq.out
    have hmF := hm5.set4 (z := w.heap.size + 1 + 1) (by omega) (.int .i64 1) (.int .i64 p.length) (.string ⟨#[]⟩) (.slice none 0 0)
    have hb5 : But mb w w5 := (But.of_below (b := mb) (HB0.out.trans (HB4.out.mono (by omega))) (Nat.le_refl _)).trans ⟨Hg5.out.os, Hg5.out.tape, Hg5.out.output, Hg5.out.size, fun j hj hjb => Hg5.out.block j hj (by simpa using hjb)⟩
    have hbF := hb5.set4 (z := w.heap.size + 1 + 1) (by omega) (.int .i64 1) (.int .i64 p.length) (.string ⟨#[]⟩) (.slice none 0 0)
    refine bodyPost_ret (v := .agg #[.int .i64 1, .int .i64 p.length, .string ⟨#[]⟩, .slice none 0 0]) ?_ rfl (R := RetG mb w R) ⟨none, 0, by rw [Hgen2.out]; rfl, by rw [Hgen2.out]; show (⟨#[]⟩ : ByteArray).size ≤ _; decide, by rw [Hgen2.out]; exact TmC.nil _ _ (by omega) (fun _ => rfl), by rw [Hgen2.out]; exact hmF, hbF⟩
    generalize (World.setCell _ ⟨w.heap.size + 1 + 1, 3, none⟩ _) = WF at q0 q1 q2 q3 ⊢
    clear hF hmF hbF hb5 hm5
    simp [results, Try.results92, go_sem, q0, q1, q2, q3]
  by_cases hll : t.l.length = u.l.length
  case neg =>
   have Hgl := Lib.hid (show R = (Tm.va (pidx p (t, u)), padd p (t, u)) from by rw [Hgen.out, if_neg (fun h => hll h.2.2.2.2)])
   have dhll : ((t.l.length : Int) == u.l.length) = false := by rw [beq_eq_false_iff_ne]; intro e; exact hll (by omega)
   clear hll
   clear a0 a1 a2 a3 b0 b1 b2 b3
   go_enter Try.func92, Try.ntmps92
   go_wp2_with fail
   rw [← HW.out]
   refine HC1.out.mono ?_
   rintro e w1 ⟨rfl, hl1, hb1, -⟩
   have hb1 : Below (w.heap.size + 1 + 1 + 1) W0 w1 := ((Below.refl _ W0).alloc (by have := HsW.out; omega) _).trans hb1
   obtain ⟨⟨b0, b1, b2, b3⟩, -⟩ := (HY0.out.below hb1 (by omega)).four
   have hs1 := hb1.size
   rw [HsW.out] at hs1
   have HB1 := Lib.hid hb1; clear hb1
   have HL1 := Lib.hid hl1; clear hl1
   go_wp2_with fail
   refine (HC2.out w1 HB1.out HL1.out).mono ?_
   rintro e w2 ⟨rfl, hl2, hb2, -⟩
   have HB2 := Lib.hid (HB1.out.trans hb2); clear hb2
   have HL2 := Lib.hid hl2; clear hl2
   have Hst := Lib.hid (string_calls (w.heap.size + 1 + 1 + 1) (w.heap.size + 1 + 1 + 1) (t.txt ++ u.txt) w2 HL2.out (by have := HB2.out.size; have := HsW.out; omega))
   go_wp2_with fail
   refine Hst.out.mono ?_
   rintro e w3 ⟨rfl, hl3, hb3, -⟩
   have HB3 := Lib.hid (HB2.out.trans hb3); clear hb3
   have HL3 := Lib.hid hl3; clear hl3 b0 b1 b2 b3
   have hs3 : w.heap.size + 1 + 1 + 1 ≤ w3.heap.size := by have := HB3.out.size; have := HsW.out; omega
   obtain ⟨D, hown, hT, hS, hall⟩ := Hm0.out.below HB3.out (by omega)
   obtain ⟨ky, hky⟩ : ∃ ky, ky = pkey (t, u) := ⟨_, rfl⟩
   have hkl : (t.txt ++ u.txt) = ky := by rw [hky]; rfl
   have hkey : keyOf Try.prog 9 (.string ⟨ky.toArray⟩) = some (.string ky) := by
    have h1 : (⟨ky.toArray⟩ : ByteArray).size = ky.length := by simp [ByteArray.size]
    have h2 := WideMaps.keyOf_string_mk (P := Try.prog) (k := 9) Try.underlying9 (s := ⟨ky.toArray⟩) (by rw [h1, ← hkl, List.length_append]; have := Htl.out; simp only [maxLen]; omega)
    simpa using h2
   rw [hkl]
   have Hky := Lib.hid hky; clear hky hkl
   by_cases hq : (t, u) ∈ p
   ·have hhas : Maps.has D (.string ky) = true := by rw [Hky.out, (hall _ Hfit.out).1]; simpa using hq
    have hat0 := (hall _ Hfit.out).2 hq
    rw [← Hky.out] at hat0
    have Hgen2 := Lib.hid (show R = (Tm.va (pidx p (t, u)), p) from by rw [Hgl.out]; unfold padd; rw [if_pos hq])
    obtain ⟨⟨z0, z1, z2, z3⟩, ⟨f0, f1, f2, f3⟩⟩ := (HZ0.out.below HB3.out (by omega)).four
    have HZ3 := Lib.hid (HZ0.out.below HB3.out (by omega))
    go_wp2_with (at_lookup; refine wpList_lookup_own_ok_int _ rfl _ _ 108 rfl 9 3 .i64 (Maps.string_keyed Try.underlying9) Try.underlying108 Try.underlying3 (Try.zeroValue3 _) mb p.length D rfl hown (.string ⟨ky.toArray⟩) (.string ky) rfl hkey ?_; intro cc hat hwc; rw [hhas]; rw [hat0] at hat; have hcc := lit_inj hat; subst hcc; clear hat hwc)
    have hF := ((((HZ3.out.set_ 0 (.int .i64 1)).set_ 1 (.int .i64 (pidx p (t, u)))).set_ 2 (.string ⟨#[]⟩)).set_ 3 (.slice none 0 0))
    obtain ⟨⟨q0, q1, q2, q3⟩, -⟩ := hF.four
    have hF := ((((HZ3.out.set_ 0 (.int .i64 1)).set_ 1 (.int .i64 (pidx p (t, u)))).set_ 2 (.string ⟨#[]⟩)).set_ 3 (.slice none 0 0))
    obtain ⟨⟨q0, q1, q2, q3⟩, -⟩ := hF.four
    have hmF := (Hm0.out.below HB3.out (by omega)).set4 (z := w.heap.size + 1 + 1) (by omega) (.int .i64 1) (.int .i64 (pidx p (t, u))) (.string ⟨#[]⟩) (.slice none 0 0)
    have hbF := (But.of_below (b := mb) (HB0.out.trans (HB3.out.mono (by omega))) (Nat.le_refl _)).set4 (z := w.heap.size + 1 + 1) (by omega) (.int .i64 1) (.int .i64 (pidx p (t, u))) (.string ⟨#[]⟩) (.slice none 0 0)
    refine bodyPost_ret (v := .agg #[.int .i64 1, .int .i64 (pidx p (t, u)), .string ⟨#[]⟩, .slice none 0 0]) ?_ rfl (R := RetG mb w R) ⟨none, 0, by rw [Hgen2.out]; rfl, by rw [Hgen2.out]; show (⟨#[]⟩ : ByteArray).size ≤ _; decide, by rw [Hgen2.out]; exact TmC.nil _ _ (by omega) (fun _ => rfl), by rw [Hgen2.out]; exact hmF, hbF⟩
    generalize (World.setCell _ ⟨w.heap.size + 1 + 1, 3, none⟩ _) = WF at q0 q1 q2 q3 ⊢
    clear hF hmF hbF
    simp [results, Try.results92, go_sem, q0, q1, q2, q3]
   ·have hhas : Maps.has D (.string ky) = false := by rw [Hky.out, (hall _ Hfit.out).1]; simpa using hq
    have Hgen2 := Lib.hid (show R = (Tm.va p.length, p ++ [(t, u)]) from by rw [Hgl.out, pidx_not hq]; unfold padd; rw [if_neg hq])
    have Hq := Lib.hid hq; clear hq
    have hwk : (Lit.int .i64 (p.length : Int)).wf = true := by
     unfold Lit.wf
     simp [IntKind.min, IntKind.max, IntKind.bits, IntKind.signed]
     omega
    have Hst2 := Lib.hid (string_calls (w.heap.size + 1 + 1 + 1) (w.heap.size + 1 + 1 + 1) (t.txt ++ u.txt) w3 HL3.out hs3)
    have Hall := Lib.hid hall; clear hall
    go_wp2_with (first
     | (at_lookup; refine wpList_lookup_own_ok_int _ rfl _ _ 108 rfl 9 3 .i64 (Maps.string_keyed Try.underlying9) Try.underlying108 Try.underlying3 (Try.zeroValue3 _) mb p.length D rfl hown (.string ⟨ky.toArray⟩) (.string ky) rfl hkey ?_; intro cc hat hwc; rw [hhas]; clear hat hwc)
     | (at_len; refine wpList_len_own _ rfl _ 108 rfl 9 3 Try.underlying108 _ mb p.length D rfl hown ?_; rw [hS]))
    refine Hst2.out.mono ?_
    rintro e w4 ⟨rfl, hl4, hb4, -⟩
    have hown4 := ownsMap_below hown hb4 (by omega)
    have HB4 := Lib.hid (HB3.out.trans hb4)
    have hkl : (t.txt ++ u.txt) = ky := by rw [Hky.out]; rfl
    rw [hkl]
    clear hl4 hb4 hown hkl
    have hZ4 := HZ0.out.below HB4.out (by omega)
    have hs4 : w.heap.size + 1 + 1 + 1 ≤ w4.heap.size := by have := HB4.out.size; have := HsW.out; omega
    have HZ4 := Lib.hid hZ4; clear hZ4
    have hz5 : ∀ w5, w4.grownBy w5 (some mb) → Blk w5 (w.heap.size + 1 + 1) 25 #[.int .i64 0, .int .i64 0, .string ⟨#[]⟩, .slice none 0 0] := fun w5 h => HZ4.out.grown h (by simp; omega)
    have Hz5 := Lib.hid hz5; clear hz5
    go_wp2_with (at_mapUpdate; refine wpList_mapUpdate_own _ rfl _ _ _ 108 rfl 9 3 (Maps.string_keyed Try.underlying9) Try.underlying108 _ mb p.length D rfl hown4 (by simp only [maxLen]; omega) (.string ⟨ky.toArray⟩) (.int .i64 p.length) (.string ky) rfl rfl hkey _ [] (plainElem_int Try.underlying3 hwk) ?_; intro w5 hown5 hg5; have hZ5 := Hz5.out w5 hg5; have hs5 := hg5.size; obtain ⟨⟨z0, z1, z2, z3⟩, ⟨f0, f1, f2, f3⟩⟩ := hZ5.four; have HZ5 := Lib.hid hZ5; clear hZ5; have Hown5 := Lib.hid hown5; clear hown5; have Hg5 := Lib.hid hg5; clear hg5)
    have hF := ((((HZ5.out.set_ 0 (.int .i64 1)).set_ 1 (.int .i64 p.length)).set_ 2 (.string ⟨#[]⟩)).set_ 3 (.slice none 0 0))
    obtain ⟨⟨q0, q1, q2, q3⟩, -⟩ := hF.four
    have hm5 : MapP w5 mb (p ++ [(t, u)]) := MapP.put (w := w5) (by have := Hown5.out; rw [Hky.out] at this; exact this) hT hS (fun q h => ⟨by rw [(Hall.out q h).1]; congr, (Hall.out q h).2⟩) Hfit.out Hq.out
    have hmF := hm5.set4 (z := w.heap.size + 1 + 1) (by omega) (.int .i64 1) (.int .i64 p.length) (.string ⟨#[]⟩) (.slice none 0 0)
    have hb5 : But mb w w5 := (But.of_below (b := mb) (HB0.out.trans (HB4.out.mono (by omega))) (Nat.le_refl _)).trans ⟨Hg5.out.os, Hg5.out.tape, Hg5.out.output, Hg5.out.size, fun j hj hjb => Hg5.out.block j hj (by simpa using hjb)⟩
    have hbF := hb5.set4 (z := w.heap.size + 1 + 1) (by omega) (.int .i64 1) (.int .i64 p.length) (.string ⟨#[]⟩) (.slice none 0 0)
    refine bodyPost_ret (v := .agg #[.int .i64 1, .int .i64 p.length, .string ⟨#[]⟩, .slice none 0 0]) ?_ rfl (R := RetG mb w R) ⟨none, 0, by rw [Hgen2.out]; rfl, by rw [Hgen2.out]; show (⟨#[]⟩ : ByteArray).size ≤ _; decide, by rw [Hgen2.out]; exact TmC.nil _ _ (by omega) (fun _ => rfl), by rw [Hgen2.out]; exact hmF, hbF⟩
    generalize (World.setCell _ ⟨w.heap.size + 1 + 1, 3, none⟩ _) = WF at q0 q1 q2 q3 ⊢
    clear hF hmF hbF hb5 hm5
    simp [results, Try.results92, go_sem, q0, q1, q2, q3]
  have dhll : ((t.l.length : Int) == u.l.length) = true := by rw [hll]; simp
  have Hgen2 := Lib.hid (show R = (.mk t.k t.n t.s (Tm.gens t.l u.l p).1, (Tm.gens t.l u.l p).2) from by rw [Hgen.out, if_pos ⟨Hhk.out, Hhk1.out, Hhn.out, hss, hll⟩])
  have Hll := Lib.hid hll; clear hll
  go_enter Try.func92, Try.ntmps92
  go_wp2
  rw [← HW.out]
  obtain ⟨N0, hN0⟩ : ∃ N0, N0 = w.heap.size + 1 + 1 + 1 := ⟨_, rfl⟩
  have HN0 := Lib.hid (show N0 = W0.heap.size from by rw [HsW.out, hN0])
  have hml : mb < N0 := by omega
  have HN1 := Lib.hid hN0
  have hx1 : w.heap.size < N0 := by omega
  have hx2 : w.heap.size + 1 < N0 := by omega
  have hx3 : w.heap.size + 1 + 1 < N0 := by omega
  have hm1 : w.heap.size ≠ mb := by omega
  have hm2 : w.heap.size + 1 ≠ mb := by omega
  have hm3 : w.heap.size + 1 + 1 ≠ mb := by omega
  clear hN0 a0 a1 a2 a3 b0 b1 b2 b3
  go_loopw [7, 48] (fun v7 i wr => ∃ k : Nat, k ≤ t.l.length ∧ i = .int .i64 k ∧ Hid (RowT N0 (N0 ≤ ·) wr v7 (Tm.gens (t.l.take k) (u.l.take k) p).1) ∧ Hid (MapP wr mb (Tm.gens (t.l.take k) (u.l.take k) p).2) ∧ Hid (But mb W0 wr)) (fun _ i _ => t.l.length - (intOf i).toNat)
  case atStart => exact ⟨0, Nat.zero_le _, rfl, Lib.hid (by rw [List.take_zero, Tm.gens_nil]; exact RowT.nil _ _ _), by rw [List.take_zero, Tm.gens_nil]; exact Hm0, Lib.hid (But.refl _ _)⟩
  case round =>
   obtain ⟨k, hk, rfl, Hrw, Hmp, HB⟩ := hrel
   have HX := Lib.hid (HX0.out.but HB.out hm1)
   have HY := Lib.hid (HY0.out.but HB.out hm2)
   have HZ := Lib.hid (HZ0.out.but HB.out hm3)
   obtain ⟨⟨a0, a1, a2, a3⟩, ⟨u0, u1, u2, u3⟩⟩ := HX.out.four
   obtain ⟨⟨b0, b1, b2, b3⟩, -⟩ := HY.out.four
   have hNr : N0 ≤ wr.heap.size := by rw [HN0.out]; exact HB.out.size
   by_cases hlt : k < t.l.length
   ·obtain ⟨x, hx⟩ : ∃ x, t.l[k]? = some x := ⟨_, List.getElem?_eq_getElem hlt⟩
    obtain ⟨y, hy⟩ : ∃ y, u.l[k]? = some y := ⟨_, List.getElem?_eq_getElem (by rw [← Hll.out]; exact hlt)⟩
    have hltu : k < u.l.length := by rw [← Hll.out]; exact hlt
    obtain ⟨ga, oa, Ax, cx, rfl, hPg, ⟨e0, e1, e2, e3⟩, hxs, hxc⟩ := (Hc.out.but HB.out (fun g h => HP.out g h.1)).at_ hx
    obtain ⟨gb, ob, Ay, cy, rfl, hQg, ⟨f0, f1, f2, f3⟩, hys, hyc⟩ := (Hd.out.but HB.out (fun g h => HQ.out g h.1)).at_ hy
    have hna : ga ≠ mb := HP.out ga hPg.1
    have hnb : gb ≠ mb := HQ.out gb hQg.1
    have hla : ga < N0 := by have := hPg.2; omega
    have hlb : gb < N0 := by have := hQg.2; omega
    have hxm := List.mem_of_getElem? hx
    have hym := List.mem_of_getElem? hy
    obtain ⟨pk, hpk⟩ : ∃ pk, pk = (Tm.gens (t.l.take k) (u.l.take k) p).2 := ⟨_, rfl⟩
    obtain ⟨zs, hzs⟩ : ∃ zs, zs = (Tm.gens (t.l.take k) (u.l.take k) p).1 := ⟨_, rfl⟩
    have hzl : zs.length = k := by rw [hzs, Tm.gens_len (by rw [List.length_take, List.length_take, Hll.out])]; rw [List.length_take]; omega
    have htk : Tm.gens (t.l.take (k + 1)) (u.l.take (k + 1)) p = (zs ++ [(x.gen y pk).1], (x.gen y pk).2) := by
     rw [take_snoc hx, take_snoc hy, Tm.gens_snoc (by rw [List.length_take, List.length_take, Hll.out]), ← hpk, ← hzs]
    rw [← hpk] at Hmp
    rw [← hzs] at Hrw
    have hnk : pk.Nodup ∧ pk.length + x.size ≤ 1000000 := by
     have h1 := (Tm.gen_pairs (fun _ => True) (Tm.sizes (t.l.take k))).2 (t.l.take k) (u.l.take k) p (Nat.le_refl _) (fun _ _ => trivial) (fun _ _ => trivial) Hnd.out (fun _ _ => ⟨fun _ _ => trivial, fun _ _ => trivial⟩)
     rw [← hpk] at h1
     have h2 := sizes_take_le (k + 1) t.l
     rw [take_snoc hx, sizes_append] at h2
     simp only [Tm.sizes] at h2
     have h3 := t.size_eq
     exact ⟨h1.2.1, by omega⟩
    obtain ⟨r, hr⟩ : ∃ r, r = x.gen y pk := ⟨_, rfl⟩
    rw [← hr] at htk
    have hcall := Ih.out x hxm (fun g => P g ∧ g < w.heap.size) (fun g => Q g ∧ g < w.heap.size) wr.drew _ _ y mb pk ⟨Ax, cx, rfl, hxs, hxc.kept (fun _ _ _ => rfl)⟩ ⟨Ay, cy, rfl, hys, hyc.kept (fun _ _ _ => rfl)⟩ (Hmp.out.same rfl) (fun g h => HP.out g h.1) (fun g h => HQ.out g h.1) ⟨fun z hz => Hfit.out.1 z (pre_mem hxm hz), fun z hz => Hfit.out.2 z (pre_mem hym hz)⟩ hnk.1 hnk.2 (by have := Tm.txt_child hxm; have := Tm.txt_child hym; have := Htl.out; omega)
    rw [← hr] at hcall
    have Hcall := Lib.hid hcall; clear hcall hr hpk hzs hnk
    have Htk := Lib.hid htk; clear htk hx hy hxc hyc hxm hym
    have hkc : (0 : Int) ≤ (k : Int) := by omega
    have hkt : (k : Int) < (t.l.length : Int) := by omega
    have hku : (k : Int) < (u.l.length : Int) := by omega
    have hcc : ∀ (es : List EV) (W : World) (ob : Obj), zs.length = es.length → wr.heap.size ≤ W.heap.size → es.length + 1 ≤ maxLen ∧ (es.length + 1) * 56 ≤ 140737488355328 ∧ N0 ≤ (W.alloc ob).heap.size := fun es W ob h1 h2 => by
     have := t.size_eq
     have := len_le_sizes t.l
     rw [World.size_alloc]
     simp only [maxLen]
     omega
    have HCC := Lib.hid hcc; clear hcc
    have hPb : ∀ g, N0 ≤ g → g ≠ mb := fun g h => by omega
    have hone : ∀ v ∈ [Value.int .i64 r.1.k, .int .i64 r.1.n, .string r.1.s], v.oneCell' = true := by simp [Value.oneCell']
    have hone4 : ∀ A c, ∀ v ∈ [Value.int .i64 r.1.k, .int .i64 r.1.n, .string r.1.s, .slice A r.1.l.length c], v.oneCell' = true := fun A c => by simp [Value.oneCell']
    have HONE := Lib.hid hone4; clear hone hone4
    have hlm2 : ∀ es : List EV, zs = es.map (fun e => e.1) → zs.length = es.length := fun es h => by rw [h, List.length_map]
    have HLM := Lib.hid hlm2; clear hlm2
    have harm : ∀ (w2 : World) (A2 : Option Addr) (c2 : Nat), But mb wr.drew w2 → ∃ es : List EV, Hid (zs = es.map (fun e => e.1)) ∧ Hid ((w2.alloc (.cells #[.int .i64 r.1.k, .int .i64 r.1.n, .string r.1.s, .slice A2 r.1.l.length c2] 25)).ownsRow N0 25 4 u7 es.length (es.flatMap encE)) ∧
      Hid (∀ e ∈ es, e.1.s.size ≤ 9223372036854775807 ∧ TmC (fun g => (N0 ≤ g) ∧ some g ≠ u7.ownBlock ∧ g < (w2.alloc (.cells #[.int .i64 r.1.k, .int .i64 r.1.n, .string r.1.s, .slice A2 r.1.l.length c2] 25)).heap.size) (w2.alloc (.cells #[.int .i64 r.1.k, .int .i64 r.1.n, .string r.1.s, .slice A2 r.1.l.length c2] 25)) e.2.1 e.2.2 e.1.l) ∧
      Hid (Blk (w2.alloc (.cells #[.int .i64 r.1.k, .int .i64 r.1.n, .string r.1.s, .slice A2 r.1.l.length c2] 25)) w2.heap.size 25 #[.int .i64 r.1.k, .int .i64 r.1.n, .string r.1.s, .slice A2 r.1.l.length c2]) ∧ wr.heap.size ≤ w2.heap.size ∧ zs.length = es.length ∧
      Hid (es.length + 1 ≤ maxLen ∧ (es.length + 1) * 56 ≤ 140737488355328 ∧ N0 ≤ (w2.alloc (.cells #[.int .i64 r.1.k, .int .i64 r.1.n, .string r.1.s, .slice A2 r.1.l.length c2] 25)).heap.size) ∧ Hid (But mb wr w2) := fun w2 A2 c2 hb2 => by
     have hrw2 := (Hrw.out.butN (show But mb wr w2 from ⟨hb2.os, hb2.tape, hb2.output, hb2.size, hb2.block⟩) hml hPb).below ((Below.refl _ _).alloc (Nat.le_refl _) (.cells #[.int .i64 r.1.k, .int .i64 r.1.n, .string r.1.s, .slice A2 r.1.l.length c2] 25)) (Nat.le_refl _)
     obtain ⟨es, hes, hrow, hch⟩ := hrw2
     exact ⟨es, Lib.hid hes, Lib.hid hrow, Lib.hid hch, Lib.hid (Blk.new _ _ _), hb2.size, HLM.out es hes, Lib.hid (HCC.out es w2 _ (HLM.out es hes) hb2.size), Lib.hid ⟨hb2.os, hb2.tape, hb2.output, hb2.size, hb2.block⟩⟩
    have HARM := Lib.hid harm; clear harm
    have hzk : zs.length ≤ 1000000 := by have := t.size_eq; have := len_le_sizes t.l; omega
    go_wp2_with fail
    go_region_held3 (fun W => W.cell? ⟨w.heap.size, 3, none⟩ = some (.slice (some ⟨ga, oa, none⟩) t.l.length c) ∧ W.cell? ⟨w.heap.size + 1, 3, none⟩ = some (.slice (some ⟨gb, ob, none⟩) u.l.length d) ∧
      W.cell? ⟨ga, oa + k * 4, none⟩ = some (.int .i64 x.k) ∧ W.cell? ⟨ga, oa + k * 4 + 1, none⟩ = some (.int .i64 x.n) ∧ W.cell? ⟨ga, oa + k * 4 + 2, none⟩ = some (.string x.s) ∧ W.cell? ⟨ga, oa + k * 4 + 3, none⟩ = some (.slice Ax x.l.length cx) ∧
      W.cell? ⟨gb, ob + k * 4, none⟩ = some (.int .i64 y.k) ∧ W.cell? ⟨gb, ob + k * 4 + 1, none⟩ = some (.int .i64 y.n) ∧ W.cell? ⟨gb, ob + k * 4 + 2, none⟩ = some (.string y.s) ∧ W.cell? ⟨gb, ob + k * 4 + 3, none⟩ = some (.slice Ay y.l.length cy))
     (first
      | exact ⟨a3, b3, e0, e1, e2, e3, f0, f1, f2, f3⟩
      | exact ⟨j0, j1, j2, j3, j4, j5, j6, j7, j8, j9⟩
      | (go_split_ands; refine ⟨?_, ?_, ?_, ?_, ?_, ?_, ?_, ?_, ?_, ?_⟩ <;> exact but_cell hb2 (by assumption) (by assumption))
      | go_keep)
     (first
      | (go_at_call 92; refine Hcall.out.mono ?_; rintro e w2 ⟨A2, c2, rfl, hs2, hx2, hm2', hb2⟩; obtain ⟨es, Hes, Hrow, Hch, Hbk, hsw2, hel, Hcc, Hb2⟩ := HARM.out w2 A2 c2 hb2; have Hm2 := Lib.hid hm2'; have Hx2 := Lib.hid hx2; clear hm2' hx2)
      | (refine step_append_lies _ (by rfl) (.tmp 51) (.tmp 64) 22 (by rfl) N0 25 i0 _ 4 56 Try.underlying22 Hi.out.1 Hi.out.2.1 Hi.out.2.2.1 Hi.out.2.2.2 (by rfl) (by decide) u7 es.length (es.flatMap encE) (by rfl) Hrow.out ⟨w2.heap.size, 0, none⟩ 1 1 [.int .i64 r.1.k, .int .i64 r.1.n, .string r.1.s, .slice A2 r.1.l.length c2] (by rfl) (by rfl) (World.news_of_block Hbk.out) (HONE.out A2 c2) (by decide) Hcc.out.1 Hcc.out.2.1 Hcc.out.2.2 (w2.heap.size + 1) (by simp) ?_; intro g3 cap3 w4 hown hg hat hlt3; have Hown := Lib.hid hown; have Hg := Lib.hid hg; have Hat := Lib.hid hat; have hB4 : Below N0 (w2.alloc (.cells #[.int .i64 r.1.k, .int .i64 r.1.n, .string r.1.s, .slice A2 r.1.l.length c2] 25)) w4 := (Below.refl _ _).grown hg Hcc.out.2.2 (fun j hj => (Hrow.out.lt j hj).1); have j0 := keepAll Hb2.out hB4 hm1 hx1 a3; have j1 := keepAll Hb2.out hB4 hm2 hx2 b3; have j2 := keepAll Hb2.out hB4 hna hla e0; have j3 := keepAll Hb2.out hB4 hna hla e1; have j4 := keepAll Hb2.out hB4 hna hla e2; have j5 := keepAll Hb2.out hB4 hna hla e3; have j6 := keepAll Hb2.out hB4 hnb hlb f0; have j7 := keepAll Hb2.out hB4 hnb hlb f1; have j8 := keepAll Hb2.out hB4 hnb hlb f2; have j9 := keepAll Hb2.out hB4 hnb hlb f3; have HB4 := Lib.hid hB4; clear hB4; clear hown hg hat))
    have hnew : RowT N0 (N0 ≤ ·) w4 (.slice (some ⟨g3, 0, none⟩) (es.length + 1) cap3) (Tm.gens (t.l.take (k + 1)) (u.l.take (k + 1)) p).1 := by
     rw [Htk.out]
     refine RowT.push es Hes.out Hch.out hs2 (Hx2.out.stay ((Below.refl _ _).alloc (Nat.le_refl _) _) (Nat.le_refl _)) (fun g hg => ?_) Hown.out Hg.out ?_
     ·have hg' : wr.heap.size ≤ g := hg
      refine ⟨by omega, fun e => ?_⟩
      obtain ⟨es', h1, h2, h3⟩ := Hrw.out
      have := (h2.lt g e.symm).2
      omega
     ·rcases Hat.out with h | h
      ·exact Or.inl (by rw [h]; rfl)
      ·exact Or.inr (by rw [h]; simp [Value.ownBlock])
    have Hnew := Lib.hid hnew; clear hnew
    have Hmp4 := Lib.hid (show MapP w4 mb (Tm.gens (t.l.take (k + 1)) (u.l.take (k + 1)) p).2 from by rw [Htk.out]; exact ((Hm2.out.below ((Below.refl _ _).alloc (Nat.le_refl _) _) Hm2.out.lt).below HB4.out hml))
    have HB5 := Lib.hid (show But mb W0 w4 from (HB.out.trans (Hb2.out.alloc _)).thenBelow HB4.out (by rw [HN0.out]; exact Nat.le_refl _))
    go_wp2
    go_roundw
    case rel => exact ⟨k + 1, by omega, by go_num, Hnew, Hmp4, HB5⟩
    case measure => simp [intOf]; omega
   ·have hke : k = t.l.length := by omega
    subst hke
    obtain ⟨zs, hzs⟩ : ∃ zs, zs = (Tm.gens t.l u.l p).1 := ⟨_, rfl⟩
    have hzl : zs.length = t.l.length := by rw [hzs, Tm.gens_len Hll.out]
    rw [List.take_length, Hll.out, List.take_length, ← hzs] at Hrw
    rw [List.take_length, Hll.out, List.take_length] at Hmp
    have Hgen3 := Lib.hid (show R = (.mk t.k t.n t.s zs, (Tm.gens t.l u.l p).2) from by rw [Hgen2.out, hzs])
    have Hzs := Lib.hid hzs; clear hzs
    obtain ⟨A2, c2, rfl, h2⟩ := Hrw.out.toC
    have hob : ∀ g, (N0 ≤ g ∨ some g = (Value.slice A2 zs.length c2).ownBlock) → N0 ≤ g := fun g hg => by
     rcases hg with h | h
     ·exact h
     ·obtain ⟨es, h3, h4, h5⟩ := Hrw.out
      exact (h4.lt g h.symm).1
    have H2 := Lib.hid (h2.mono hob); clear h2 hob
    obtain ⟨⟨z0, z1, z2, z3⟩, ⟨zf0, zf1, zf2, zf3⟩⟩ := HZ.out.four
    have hlx := HX.out.lt
    have hlz := HZ.out.lt
    go_wp2
    have hF := (((((HZ.out.far (p := ⟨w.heap.size, 3, none⟩) (by show w.heap.size + 1 + 1 ≠ w.heap.size; omega) (.slice A2 t.l.length c2)).set_ 0 (.int .i64 t.k)).set_ 1 (.int .i64 t.n)).set_ 2 (.string t.s)).set_ 3 (.slice A2 t.l.length c2))
    have hT := ((((H2.out.setCell ⟨w.heap.size, 3, none⟩ (.slice A2 t.l.length c2) (fun g h e => by simp at e; omega)).setCell ⟨w.heap.size + 1 + 1, 0, none⟩ (.int .i64 t.k) (fun g h e => by simp at e; omega)).setCell ⟨w.heap.size + 1 + 1, 1, none⟩ (.int .i64 t.n) (fun g h e => by simp at e; omega)).setCell ⟨w.heap.size + 1 + 1, 2, none⟩ (.string t.s) (fun g h e => by simp at e; omega)).setCell ⟨w.heap.size + 1 + 1, 3, none⟩ (.slice A2 t.l.length c2) (fun g h e => by simp at e; omega)
    have hM1 : MapP (wr.setCell ⟨w.heap.size, 3, none⟩ (.slice A2 t.l.length c2)) mb (Tm.gens t.l u.l p).2 := Hmp.out.same (Below.heap_setCell _ _ _ _ (fun e => hm1 e.symm))
    have hmF := hM1.set4 (z := w.heap.size + 1 + 1) (fun e => hm3 e.symm) (.int .i64 t.k) (.int .i64 t.n) (.string t.s) (.slice A2 t.l.length c2)
    have hbF := ((((But.of_below (b := mb) HB0.out (Nat.le_refl _)).trans HB.out).setCellFar ⟨w.heap.size, 3, none⟩ (Nat.le_refl _) (.slice A2 t.l.length c2))).set4 (z := w.heap.size + 1 + 1) (by omega) (.int .i64 t.k) (.int .i64 t.n) (.string t.s) (.slice A2 t.l.length c2)
    obtain ⟨⟨q0, q1, q2, q3⟩, -⟩ := hF.four
    refine bodyPost_ret (v := .agg #[.int .i64 t.k, .int .i64 t.n, .string t.s, .slice A2 t.l.length c2]) ?_ rfl (R := RetG mb w R) (by rw [Hgen3.out]; exact ⟨A2, c2, by rw [← hzl]; rfl, hs, hT.mono (fun g h => by omega), hmF, hbF⟩)
    generalize (World.setCell _ ⟨w.heap.size + 1 + 1, 3, none⟩ _) = WF at q0 q1 q2 q3 ⊢
    clear hF hT hmF hbF hM1
    simp [results, Try.results92, go_sem, q0, q1, q2, q3]
end Go.Proofs.Ytfhgknmkpegpbaa
set_option linter.unusedVariables false
set_option linter.unusedSimpArgs false
namespace Go.Proofs.Ytfhgknmkpegpbaa
open Go.RowKit
theorem empty_size {s : ByteArray} (h : s.toList = []) : s.size = 0 := by
 have : s = ⟨#[]⟩ := bytes_ext (by rw [h]; exact empty_toList.symm)
 rw [this]; rfl
theorem node_fit {t : Tm} (h : nodeB t = true) : (1 ≤ t.k ∧ t.k ≤ 6) ∧ (-2147483647 ≤ t.n ∧ t.n ≤ 2147483647) ∧ t.s.size ≤ 255 ∧ t.l.length ≤ 64 := by
 refine ⟨node_kind h, ?_⟩
 unfold nodeB at h
 have es : ∀ {a b c : Bool}, bareB t a b c = true → (a = true ∨ t.n = 0) ∧ (b = true ∨ t.s.size = 0) ∧ (c = true ∨ t.l.length = 0) := fun {a b c} h => by
  unfold bareB at h
  simp only [Bool.and_eq_true, Bool.or_eq_true, decide_eq_true_eq] at h
  refine ⟨?_, ?_, ?_⟩
  ·rcases h.1.1 with h | h
   ·exact Or.inl h
   ·exact Or.inr (by simpa using h)
  ·rcases h.1.2 with h | h
   ·exact Or.inl h
   ·exact Or.inr (empty_size (by simpa using h))
  ·rcases h.2 with h | h
   ·exact Or.inl h
   ·exact Or.inr (by simpa using h)
 have nm : nameB t.s = true → t.s.size ≤ 32 := fun h => by
  unfold nameB at h
  simp only [Bool.and_eq_true, decide_eq_true_eq] at h
  exact h.1.2
 have bd : false = true → False := fun e => by cases e
 split at h
 ·simp only [Bool.and_eq_true, decide_eq_true_eq] at h
  have h1 := (es h.1.1).2.1.resolve_left bd
  have h2 := (es h.1.1).2.2.resolve_left bd
  omega
 split at h
 ·simp only [Bool.and_eq_true, decide_eq_true_eq] at h
  have h1 := (es h.1.1).2.1.resolve_left bd
  have h2 := (es h.1.1).2.2.resolve_left bd
  omega
 split at h
 ·simp only [Bool.and_eq_true, decide_eq_true_eq] at h
  have h1 := (es h.1).1.resolve_left bd
  have h2 := (es h.1).2.2.resolve_left bd
  have h3 := nm h.2
  omega
 split at h
 ·simp only [Bool.and_eq_true, decide_eq_true_eq] at h
  have h1 := (es h.1).1.resolve_left bd
  have h2 := (es h.1).2.2.resolve_left bd
  omega
 split at h
 ·simp only [Bool.and_eq_true, decide_eq_true_eq] at h
  have h1 := (es h.1.1.1).1.resolve_left bd
  have h3 := nm h.1.1.2
  omega
 split at h
 ·simp only [Bool.and_eq_true, decide_eq_true_eq] at h
  have h1 := (es h.1).1.resolve_left bd
  have h2 := (es h.1).2.1.resolve_left bd
  omega
 ·cases h
theorem okB_node {t : Tm} (h : t.okB = true) : nodeB t = true := by rw [Tm.okB_eq, Bool.and_eq_true] at h; exact h.1
theorem okB_fit {t : Tm} (h : t.okB = true) : ∀ x ∈ t.pre, fitN x := fun x hx => by
 have := node_fit (okB_node (okB_pre t h x hx))
 unfold fitN
 omega
theorem txt_size (N : Nat) : (∀ t : Tm, t.size ≤ N → t.okB = true → t.txt.length ≤ 300 * t.size) ∧ (∀ l : List Tm, Tm.sizes l ≤ N → Tm.okBs l = true → (Tm.txts l).length ≤ 300 * Tm.sizes l) := by
 induction N with
 | zero =>
  refine ⟨fun t h => by have := t.size_pos; omega, fun l h _ => ?_⟩
  cases l with
  | nil => simp [Tm.txts]
  | cons a l => rw [Tm.sizes] at h; have := a.size_pos; omega
 | succ n ih =>
  have h1 : ∀ t : Tm, t.size ≤ n + 1 → t.okB = true → t.txt.length ≤ 300 * t.size := fun t h ho => by
   have h2 := node_fit (okB_node ho)
   rw [Tm.okB_eq, Bool.and_eq_true] at ho
   rw [t.size_eq] at h ⊢
   have h3 := ih.2 t.l (by omega) ho.2
   rw [t.txt_eq]
   simp only [List.length_append, b8_len]
   have h4 : t.s.data.toList.length = t.s.size := Array.length_toList ..
   omega
  refine ⟨h1, fun l => ?_⟩
  induction l with
  | nil => intro _ _; simp [Tm.txts]
  | cons a l ihl =>
   intro h ho
   rw [Tm.sizes] at h ⊢
   rw [Tm.okBs, Bool.and_eq_true] at ho
   rw [Tm.txts, List.length_append]
   have := h1 a (by omega) ho.1
   have := ihl (by omega) ho.2
   omega
theorem gen_size (N : Nat) : (∀ (t u : Tm) (p : List (Tm × Tm)), t.size ≤ N → (t.gen u p).1.size ≤ t.size) ∧ (∀ (xs ys : List Tm) (p : List (Tm × Tm)), Tm.sizes xs ≤ N → Tm.sizes (Tm.gens xs ys p).1 ≤ Tm.sizes xs) := by
 induction N with
 | zero =>
  refine ⟨fun t u p h => by have := t.size_pos; omega, fun xs ys p h => ?_⟩
  cases xs with
  | nil => rw [Tm.gens_nil]; exact Nat.le_refl _
  | cons a l => rw [Tm.sizes] at h; have := a.size_pos; omega
 | succ n ih =>
  have h1 : ∀ (t u : Tm) (p : List (Tm × Tm)), t.size ≤ n + 1 → (t.gen u p).1.size ≤ t.size := fun t u p h => by
   have hs := t.size_eq
   rw [Tm.gen_eq]
   split
   ·simp only
    rw [Tm.size]
    have := ih.2 t.l u.l p (by omega)
    omega
   ·show (1 : Nat) + 0 ≤ _
    omega
  refine ⟨h1, fun xs => ?_⟩
  induction xs with
  | nil => intro ys p _; rw [Tm.gens_nil]; exact Nat.le_refl _
  | cons a l ihl =>
   intro ys p h
   rw [Tm.sizes] at h ⊢
   cases ys with
   | nil => rw [Tm.gens]; exact Nat.zero_le _
   | cons y ys =>
    rw [Tm.gens_cons]
    simp only
    rw [Tm.sizes]
    have := h1 a y p (by omega)
    have := ihl ys (a.gen y p).2 (by omega)
    omega
end Go.Proofs.Ytfhgknmkpegpbaa
set_option linter.unusedVariables false
set_option linter.unusedSimpArgs false
namespace Go.Proofs.Ytfhgknmkpegpbaa
open Go.RowKit
noncomputable def genR (t u : Tm) : Tm := (t.gen u []).1
set_option maxRecDepth 100000 in
set_option maxHeartbeats 4000000 in
theorem generalTop_calls (t u : Tm) (P Q : Nat → Prop) (w : World) (v v2 : Value) (hv : TmV P w v t) (hv2 : TmV Q w v2 u) :
  Calls Try.prog 37 #[v, v2] w (RetME w (if allIs [t, u] = true then some (genR t u) else none) 3) := by
 obtain ⟨A, c, rfl, hs, hc⟩ := hv
 obtain ⟨B, d, rfl, hs', hd⟩ := hv2
 have hmm := @run_makeMap Try.prog
 obtain ⟨W0, hW0⟩ : ∃ W0, W0 = ((w.alloc (.cells #[.int .i64 t.k, .int .i64 t.n, .string t.s, .slice A t.l.length c] 25)).alloc (.cells #[.int .i64 u.k, .int .i64 u.n, .string u.s, .slice B u.l.length d] 25)).alloc (.cells #[.int .i64 0, .int .i64 0, .string ⟨#[]⟩, .slice none 0 0] 25) := ⟨_, rfl⟩
 have hB0 : Below w.heap.size w W0 := by rw [hW0]; exact (((Below.refl _ _).alloc (Nat.le_refl _) _).alloc (by simp) _).alloc (by simp; omega) _
 have hX0 : Blk W0 w.heap.size 25 #[.int .i64 t.k, .int .i64 t.n, .string t.s, .slice A t.l.length c] := by rw [hW0]; exact ((Blk.new w 25 _).alloc _).alloc _
 have hY0 : Blk W0 (w.heap.size + 1) 25 #[.int .i64 u.k, .int .i64 u.n, .string u.s, .slice B u.l.length d] := by
  rw [hW0]
  have := Blk.new (w.alloc (.cells #[.int .i64 t.k, .int .i64 t.n, .string t.s, .slice A t.l.length c] 25)) 25 #[.int .i64 u.k, .int .i64 u.n, .string u.s, .slice B u.l.length d]
  rw [World.size_alloc] at this
  exact this.alloc _
 have hZ0 : Blk W0 (w.heap.size + 1 + 1) 25 #[.int .i64 0, .int .i64 0, .string ⟨#[]⟩, .slice none 0 0] := by
  rw [hW0]
  have := Blk.new ((w.alloc (.cells #[.int .i64 t.k, .int .i64 t.n, .string t.s, .slice A t.l.length c] 25)).alloc (.cells #[.int .i64 u.k, .int .i64 u.n, .string u.s, .slice B u.l.length d] 25)) 25 #[.int .i64 0, .int .i64 0, .string ⟨#[]⟩, .slice none 0 0]
  rwa [World.size_alloc, World.size_alloc] at this
 have hsW : W0.heap.size = w.heap.size + 1 + 1 + 1 := by rw [hW0]; simp
 obtain ⟨W1, hW1⟩ : ∃ W1, W1 = W0.alloc (.cells #[.int .i64 t.k, .int .i64 t.n, .string t.s, .slice A t.l.length c, .int .i64 u.k, .int .i64 u.n, .string u.s, .slice B u.l.length d] 25) := ⟨_, rfl⟩
 have hB1 : Below w.heap.size w W1 := by rw [hW1]; exact hB0.alloc (by omega) _
 have hL1 : Blk W1 (w.heap.size + 1 + 1 + 1) 25 #[.int .i64 t.k, .int .i64 t.n, .string t.s, .slice A t.l.length c, .int .i64 u.k, .int .i64 u.n, .string u.s, .slice B u.l.length d] := by rw [hW1, ← hsW]; exact Blk.new _ _ _
 have hX1 : Blk W1 w.heap.size 25 #[.int .i64 t.k, .int .i64 t.n, .string t.s, .slice A t.l.length c] := by rw [hW1]; exact hX0.alloc _
 have hY1 : Blk W1 (w.heap.size + 1) 25 #[.int .i64 u.k, .int .i64 u.n, .string u.s, .slice B u.l.length d] := by rw [hW1]; exact hY0.alloc _
 have hZ1 : Blk W1 (w.heap.size + 1 + 1) 25 #[.int .i64 0, .int .i64 0, .string ⟨#[]⟩, .slice none 0 0] := by rw [hW1]; exact hZ0.alloc _
 have hc1 := (hc.inside.belowP hB1 (fun g h => h.2)).mono (Q := fun g => g < w.heap.size) (fun g h => h.2)
 have hd1 := (hd.inside.belowP hB1 (fun g h => h.2)).mono (Q := fun g => g < w.heap.size) (fun g h => h.2)
 have hcall := checked_calls [t, u] _ _ 2 W1 (TmC.lit (P := fun g => g < w.heap.size ∨ g = w.heap.size + 1 + 1 + 1) [(t, A, c), (u, B, d)] (by simp; exact ⟨⟨hs, hc1.mono (fun g h => Or.inl h)⟩, hs', hd1.mono (fun g h => Or.inl h)⟩) hL1 (Or.inr rfl) (by simp))
 obtain ⟨b, hb⟩ : ∃ b, b = allIs [t, u] := ⟨_, rfl⟩
 rw [← hb] at hcall ⊢
 obtain ⟨R, hR⟩ : ∃ R, R = if b = true then some (genR t u) else none := ⟨_, rfl⟩
 rw [← hR]
 have HR := Lib.hid hR; clear hR
 have Hb := Lib.hid hb; clear hb
 have Hcall := Lib.hid hcall; clear hcall hL1 hX0 hY0 hZ0 hB0
 have Hc := Lib.hid hc1; clear hc hc1
 have Hd := Lib.hid hd1; clear hd hd1
 have HX := Lib.hid hX1; clear hX1
 have HY := Lib.hid hY1; clear hY1
 have HZ := Lib.hid hZ1; clear hZ1
 have HB1 := Lib.hid hB1; clear hB1
 have HW0 := Lib.hid hW0; clear hW0
 have HW := Lib.hid hW1; clear hW1
 have HsW := Lib.hid hsW; clear hsW
 go_enter Try.func37, Try.ntmps37
 go_wp2_with fail
 rw [← HW0.out, ← HW.out]
 refine Hcall.out.mono ?_
 rintro e w1 ⟨rfl, hb1⟩
 have hX1 := HX.out.below hb1 HX.out.lt
 have hY1 := HY.out.below hb1 HY.out.lt
 have hZ1 := HZ.out.below hb1 HZ.out.lt
 obtain ⟨⟨a0, a1, a2, a3⟩, -⟩ := hX1.four
 obtain ⟨⟨b0, b1, b2, b3⟩, -⟩ := hY1.four
 obtain ⟨⟨z0, z1, z2, z3⟩, ⟨f0, f1, f2, f3⟩⟩ := hZ1.four
 have lx := hX1.lt
 have ly := hY1.lt
 have lz := hZ1.lt
 have HX1 := Lib.hid hX1; clear hX1
 have HY1 := Lib.hid hY1; clear hY1
 have HZ1 := Lib.hid hZ1; clear hZ1
 have Hc1 := Lib.hid (Hc.out.stay hb1 (Nat.le_refl _))
 have Hd1 := Lib.hid (Hd.out.stay hb1 (Nat.le_refl _))
 have HB2 := Lib.hid (HB1.out.trans (hb1.mono HB1.out.size)); clear hb1
 cases b
 ·have he : (errT false != 0) = true := rfl
  have hr : R = none := by have := HR.out; simpa using this
  subst hr
  go_wp2
  have hF := ((((HZ1.out.set_ 0 (.int .i64 0)).set_ 1 (.int .i64 0)).set_ 2 (.string ⟨#[]⟩)).set_ 3 (.slice none 0 0))
  have hBF := ((((HB2.out.setCell (p := ⟨w.heap.size + 1 + 1, 0, none⟩) (by simp; omega) (.int .i64 0)).setCell (p := ⟨w.heap.size + 1 + 1, 1, none⟩) (by simp; omega) (.int .i64 0)).setCell (p := ⟨w.heap.size + 1 + 1, 2, none⟩) (by simp; omega) (.string ⟨#[]⟩)).setCell (p := ⟨w.heap.size + 1 + 1, 3, none⟩) (by simp; omega) (.slice none 0 0))
  obtain ⟨⟨q0, q1, q2, q3⟩, -⟩ := hF.four
  refine bodyPost_ret (v := .tuple #[.agg #[.int .i64 0, .int .i64 0, .string ⟨#[]⟩, .slice none 0 0], .int .i64 3]) ?_ rfl (R := RetME w none 3) ⟨none, 0, rfl, by decide, TmC.nil _ _ (by omega) (fun _ => rfl), hBF⟩
  generalize (World.setCell _ ⟨w.heap.size + 1 + 1, 3, none⟩ _) = WF at q0 q1 q2 q3 ⊢
  clear hF hBF
  simp [results, Try.results37, go_sem, q0, q1, q2, q3]
  try rfl
 have he : (errT true != 0) = false := rfl
 have hr : R = some (genR t u) := by have := HR.out; simpa using this
 subst hr
 have hok := Hb.out
 have hoks : isB t = true ∧ isB u = true := by simp [allIs] at hok; exact hok
 have hot := isB_iff.1 hoks.1
 have hou := isB_iff.1 hoks.2
 have htl := (txt_size t.size).1 t (Nat.le_refl _) hot.1
 have hul := (txt_size u.size).1 u (Nat.le_refl _) hou.1
 have hbm : Below w1.heap.size w1 (w1.alloc (.map #[] 0)) := (Below.refl _ _).alloc (Nat.le_refl _) _
 have hcall := general_calls t (fun g => g < w.heap.size) (fun g => g < w.heap.size) (w1.alloc (.map #[] 0)) _ _ u w1.heap.size [] ⟨A, c, rfl, hs, Hc1.out.stay hbm (Nat.le_refl _)⟩ ⟨B, d, rfl, hs', Hd1.out.stay hbm (Nat.le_refl _)⟩ (MapP.made w1) (fun g h => by omega) (fun g h => by omega) ⟨okB_fit hot.1, okB_fit hou.1⟩ List.nodup_nil (by simp; omega) (by omega)
 have hgs := (gen_size t.size).1 t u [] (Nat.le_refl _)
 obtain ⟨r, hr⟩ : ∃ r, r = t.gen u [] := ⟨_, rfl⟩
 have hgr : genR t u = r.1 := by rw [hr]; rfl
 have Hgr := Lib.hid hgr
 rw [← hr] at hcall hgs
 have hrs : r.1.size ≤ 1000000 := by omega
 have Hcall2 := Lib.hid hcall; clear hcall hgs hr hgr hot hou htl hul hoks hok Hcall HR
 have HBm := Lib.hid hbm; clear hbm
 go_wp2_with fail
 refine Hcall2.out.mono ?_
 rintro e w2 ⟨A2, c2, rfl, hs2, hx2, -, hb2⟩
 have hcall := copied_calls r.1 _ w2 _ ⟨A2, c2, rfl, hs2, hx2⟩ hrs
 have hZ2 := (HZ1.out.below HBm.out HZ1.out.lt).but hb2 (by omega)
 have HZ2 := Lib.hid hZ2; clear hZ2
 have HB3 := Lib.hid (HB2.out.trans ((HBm.out.mono HB2.out.size).trans (hb2.below HB2.out.size (by have := HB2.out.size; simp; omega)))); clear hb2 hx2
 have Hcall3 := Lib.hid hcall; clear hcall
 go_wp2_with fail
 refine Hcall3.out.mono ?_
 rintro e w3 ⟨A3, c3, rfl, -, hx3, hb3⟩
 have hZ3 := HZ2.out.below hb3 HZ2.out.lt
 clear z0 z1 z2 z3 f0 f1 f2 f3
 obtain ⟨⟨z0, z1, z2, z3⟩, ⟨f0, f1, f2, f3⟩⟩ := hZ3.four
 have hl23 : w.heap.size + 1 + 1 < w2.heap.size := HZ2.out.lt
 have HZ3 := Lib.hid hZ3; clear hZ3
 have HB4 := Lib.hid (HB3.out.trans (hb3.mono HB3.out.size)); clear hb3
 have Hx3 := Lib.hid hx3; clear hx3
 go_wp2
 have hF := ((((HZ3.out.set_ 0 (.int .i64 r.1.k)).set_ 1 (.int .i64 r.1.n)).set_ 2 (.string r.1.s)).set_ 3 (.slice A3 r.1.l.length c3))
 have hBF := ((((HB4.out.setCell (p := ⟨w.heap.size + 1 + 1, 0, none⟩) (by simp; omega) (.int .i64 r.1.k)).setCell (p := ⟨w.heap.size + 1 + 1, 1, none⟩) (by simp; omega) (.int .i64 r.1.n)).setCell (p := ⟨w.heap.size + 1 + 1, 2, none⟩) (by simp; omega) (.string r.1.s)).setCell (p := ⟨w.heap.size + 1 + 1, 3, none⟩) (by simp; omega) (.slice A3 r.1.l.length c3))
 have hT := ((((Hx3.out.setCell ⟨w.heap.size + 1 + 1, 0, none⟩ (.int .i64 r.1.k) (fun g h e => by simp at e h; omega)).setCell ⟨w.heap.size + 1 + 1, 1, none⟩ (.int .i64 r.1.n) (fun g h e => by simp at e h; omega)).setCell ⟨w.heap.size + 1 + 1, 2, none⟩ (.string r.1.s) (fun g h e => by simp at e h; omega)).setCell ⟨w.heap.size + 1 + 1, 3, none⟩ (.slice A3 r.1.l.length c3) (fun g h e => by simp at e h; omega))
 obtain ⟨⟨q0, q1, q2, q3⟩, -⟩ := hF.four
 refine bodyPost_ret (v := .tuple #[.agg #[.int .i64 r.1.k, .int .i64 r.1.n, .string r.1.s, .slice A3 r.1.l.length c3], .int .i64 0]) ?_ rfl (R := RetME w (some (genR t u)) 3) (by rw [Hgr.out]; exact ⟨A3, c3, rfl, hs2, hT.mono (fun g h => by have h2 : w2.heap.size ≤ g := h; show w.heap.size ≤ g; omega), hBF⟩)
 generalize (World.setCell _ ⟨w.heap.size + 1 + 1, 3, none⟩ _) = WF at q0 q1 q2 q3 ⊢
 clear hF hBF hT
 simp [results, Try.results37, go_sem, q0, q1, q2, q3]
end Go.Proofs.Ytfhgknmkpegpbaa
set_option linter.unusedVariables false
set_option linter.unusedSimpArgs false
namespace Go.Proofs.Ytfhgknmkpegpbaa
open Go.RowKit
def KpP (n₀ : Nat) (W W' : World) : Prop :=
 Below n₀ W W' ∧ (∀ g cs, Blk W g 25 cs → Blk W' g 25 cs) ∧ (∀ g cs, Blk W g 155 cs → Blk W' g 155 cs) ∧ (∀ g cs, Blk W g 3 cs → Blk W' g 3 cs) ∧ ∀ g v, Blk W g 39 #[v] → Blk W' g 39 #[v]
theorem KpP.refl (n₀ : Nat) (W : World) : KpP n₀ W W := ⟨Below.refl _ _, fun _ _ h => h, fun _ _ h => h, fun _ _ h => h, fun _ _ h => h⟩
theorem KpP.trans {n₀ : Nat} {A B C : World} (h : KpP n₀ A B) (k : KpP n₀ B C) : KpP n₀ A C :=
 ⟨h.1.trans k.1, fun g cs b => k.2.1 g cs (h.2.1 g cs b), fun g cs b => k.2.2.1 g cs (h.2.2.1 g cs b), fun g cs b => k.2.2.2.1 g cs (h.2.2.2.1 g cs b), fun g cs b => k.2.2.2.2 g cs (h.2.2.2.2 g cs b)⟩
theorem KpP.of_below {n₀ : Nat} {W W' : World} (hn : n₀ ≤ W.heap.size) (h : Below W.heap.size W W') : KpP n₀ W W' :=
 ⟨h.mono hn, fun _ _ b => b.below h b.lt, fun _ _ b => b.below h b.lt, fun _ _ b => b.below h b.lt, fun _ _ b => b.below h b.lt⟩
theorem KpP.putObj {n₀ : Nat} (W : World) (l : Nat) (o o' : Obj) (hl : n₀ ≤ l) (h : W.heap[l]? = some o) (hc : o.isCells = false) : KpP n₀ W (W.putObj l o') := by
 have key : ∀ g T cs, Blk W g T cs → Blk (W.putObj l o') g T cs := fun g T cs hb => by
  have hne : g ≠ l := fun e => by
   subst e
   have h1 : W.heap[g]? = some (.cells cs T (0, 0)) := hb
   rw [h] at h1
   injection h1 with h1
   subst h1
   simp [Obj.isCells] at hc
  exact (World.putObj_heap_other (fun e => hne e)).trans hb
 exact ⟨Below.putObj_ (Nat.le_refl _) W l o o' hl, fun g cs hb => key g 25 cs hb, fun g cs hb => key g 155 cs hb, fun g cs hb => key g 3 cs hb, fun g v hb => key g 39 _ hb⟩
theorem keepsFrom_below {B : Nat} {W W' : World} (h : Below W.heap.size W W') : KeepsFrom B W W' :=
 ⟨h.size, fun k o _ hk _ => (h.block k (Array.getElem?_eq_some_iff.1 hk).1).trans hk⟩
theorem keepsFrom_mono {B B' : Nat} {W W' : World} (h : KeepsFrom B W W') (hB : B ≤ B') : KeepsFrom B' W W' := ⟨h.size, fun k o hk h1 h2 => h.same k o (Nat.le_trans hB hk) h1 h2⟩
theorem keepsFrom_putObj {B l : Nat} (W : World) (o' : Obj) (hl : l < B) : KeepsFrom B W (W.putObj l o') :=
 ⟨by simp, fun k o hk h1 _ => (World.putObj_heap_other (fun e => by omega)).trans h1⟩
theorem ownFrom_below {β : Type} {B : Nat} {J : β → World → Prop} (h : OwnFrom B J) {s : β} {W W' : World} (hs : J s W) (hb : Below W.heap.size W W') : J s W' :=
 h s W W' none hs ⟨hb.os, hb.tape, hb.output, hb.size, fun k hk _ => hb.block k hk⟩ (fun r e => by cases e)
def SeqW {α : Type} (F : Fence) (n gf : Nat) (lb : Array Value) (encs : α → Array Value) (n₀ : Nat) (S Sp : List α → World → Prop) (N : Nat) (w : World) : Prop :=
 ∀ (l : Nat) (J Jx : List α → World → Prop) (W : World), Below w.heap.size w W → OwnFrom W.heap.size J → OwnFrom W.heap.size Jx →
  (∀ pre x W1, J pre W1 → pre.length < N → YieldAt F (n - 1) Try.prog l (encs x) W1 fun e W' => (e = .returned (.bool true) ∧ J (pre ++ [x]) W' ∧ KpP n₀ W1 W' ∧ KeepsFrom W.heap.size W1 W') ∨ (e = .returned (.bool false) ∧ Jx (pre ++ [x]) W' ∧ KpP n₀ W1 W' ∧ KeepsFrom W.heap.size W1 W')) →
  J [] W → CallsIn F n Try.prog gf (#[.func (.yield l) #[] #[]] ++ lb) W fun e W' => (∃ v, e = .returned v) ∧ ((∃ xs, S xs W' ∧ J xs W') ∨ (∃ pre, Sp pre W' ∧ Jx pre W'))
theorem kpP_grown {n₀ : Nat} {X Y : World} {row : Option Nat} (hn : n₀ ≤ X.heap.size) (hg : X.grownBy Y row) (hr : ∀ r, row = some r → n₀ ≤ r ∧ ∃ o : Obj, X.heap[r]? = some o ∧ o.isCells = false) : KpP n₀ X Y := by
 have key : ∀ g T cs, Blk X g T cs → Blk Y g T cs := fun g T cs hb => (hg.block g hb.lt (fun e => by
  obtain ⟨-, o, ho, hc⟩ := hr g e.symm
  rw [show X.heap[g]? = _ from hb] at ho
  injection ho with ho; subst ho; simp [Obj.isCells] at hc)).trans hb
 exact ⟨⟨hg.os, hg.tape, hg.output, hg.size, fun k hk => hg.block k (by omega) (fun e => by have := (hr k e.symm).1; omega)⟩, fun g cs hb => key g 25 cs hb, fun g cs hb => key g 155 cs hb, fun g cs hb => key g 3 cs hb, fun g v hb => key g 39 _ hb⟩
def RoundEnd {α : Type} (B n₀ : Nat) (I : List α → World → Prop) (Ix : Code → List α → World → Prop) (xs : List α) (W : World) : Exit → Act → World → Prop
 | .normal, _, W' => KeepsFrom B W W' ∧ KpP n₀ W W' ∧ I xs W'
 | .ret, _, W' => KeepsFrom B W W' ∧ KpP n₀ W W' ∧ Ix .ret xs W'
 | .exit id, _, W' => KeepsFrom B W W' ∧ KpP n₀ W W' ∧ Ix (.exit id) xs W'
 | _, _, _ => False
section
variable {F : Fence} {n : Nat} {w : World} {α : Type}
theorem round_of_body {ps : Array Tmp} {tmps : Array Value} {assign body : Code} {fn : Nat} (hfn : F.fn fn) {encs : α → Array Value} {n₀ BB : Nat} (hn₀ : n₀ ≤ w.heap.size) (hBB : w.heap.size + 1 < BB) (hps : ∀ x, (encs x).size = ps.size)
  {I : List α → World → Prop} {Ix : Code → List α → World → Prop} (hI : OwnFrom w.heap.size I) (hIx : ∀ c, OwnFrom w.heap.size (Ix c)) {Ax : α → Act → World → Prop} (hAx : ∀ x a', OwnFrom w.heap.size (fun (_ : Unit) W => Ax x a' W))
  (rec : LoopState → Option Code → Loop) (hrec : rec = fun st pe => { state := st, pending := pe, fn, tmps, params := ps, assign, body, defers := w.heap.size })
  (pre : List α) (x : α) (W : World)
  (hassign : ∀ (K : Act → World → Prop), (∀ a' W', KeepsFrom w.heap.size W W' → KpP n₀ W W' → I pre W' → Ax x a' W' → K a' W') →
   assign.wpIn (F.inRound (w.heap.size + 1)) n Try.prog (Exit.then K (fun _ _ _ => False)) { tmps := (ps.zip (encs x)).foldl (fun t (p, v) => t.setIfInBounds p v) tmps, defers := [] } W)
  (hbody : ∀ a' W', (∃ r, W'.heap[w.heap.size + 1]? = some (.loop r)) → I pre W' → Ax x a' W' → body.wpIn (F.inRound (w.heap.size + 1)) n Try.prog (RoundEnd w.heap.size n₀ I Ix (pre ++ [x]) W') a' W')
  (hl : W.heap[w.heap.size + 1]? = some (.loop (rec .ready none))) (hk : W.heap[w.heap.size]? = some (.deferred (some []))) :
  YieldAt F n Try.prog (w.heap.size + 1) (encs x) W fun e W' =>
   (e = .returned (.bool true) ∧ (I (pre ++ [x]) W' ∧ W'.heap[w.heap.size + 1]? = some (.loop (rec .ready none)) ∧ W'.heap[w.heap.size]? = some (.deferred (some []))) ∧ KpP n₀ W W' ∧ KeepsFrom BB W W') ∨
   (e = .returned (.bool false) ∧ (∃ c, Ix c (pre ++ [x]) W' ∧ W'.heap[w.heap.size + 1]? = some (.loop (rec .done (some c))) ∧ W'.heap[w.heap.size]? = some (.deferred (some []))) ∧ KpP n₀ W W' ∧ KeepsFrom BB W W') := by
 have hy := run_yield (P := Try.prog) (args := encs x) hl (by rw [hrec]; exact hps x)
 rw [hrec] at hy
 refine ⟨fn, _, assign, body, hy, roundIn_of_wpIn hfn (hassign _ ?_)⟩
 clear hy hassign
 intro a1 W1 hf1 hp1 hi1 hx1
 have l1 := hf1.same _ _ (by omega) hl rfl
 have k1 := hf1.same _ _ (Nat.le_refl _) hk rfl
 have hlt : w.heap.size + 1 < W1.heap.size := (Array.getElem?_eq_some_iff.1 l1).1
 refine ⟨_, run_beginRound l1 (by rw [hrec]), ?_⟩
 obtain ⟨W2, hW2⟩ : ∃ W2, W2 = W1.putObj (w.heap.size + 1) (.loop { rec .ready none with state := .busy }) := ⟨_, rfl⟩
 have l2 : W2.heap[w.heap.size + 1]? = some (.loop { rec .ready none with state := .busy }) := by rw [hW2]; exact World.putObj_heap_same hlt
 have k2 : W2.heap[w.heap.size]? = some (.deferred (some [])) := by rw [hW2]; exact (World.putObj_heap_other (by omega)).trans k1
 have p2 : KpP n₀ W W2 := hp1.trans (by rw [hW2]; exact KpP.putObj _ _ _ _ (by omega) l1 rfl)
 have f2 : KeepsFrom BB W W2 := (keepsFrom_mono hf1 (by omega)).trans (by rw [hW2]; exact keepsFrom_putObj _ _ hBB)
 have i2 : I pre W2 := by rw [hW2]; exact hI.putObj _ hi1 (by omega) l1 rfl
 have x2 : Ax x a1 W2 := by rw [hW2]; exact (hAx x a1).putObj (s := ()) _ hx1 (by omega) l1 rfl
 rw [← hW2]
 clear hW2 hi1 hx1 hf1 hp1
 have fin : ∀ (jump : Option Code) (W3 : World), KeepsFrom w.heap.size W2 W3 → W3.heap[w.heap.size + 1]? = some (.loop { rec .ready none with state := .busy }) ∧
   (Instr.endRound (w.heap.size + 1) jump).run Try.prog W3 = .ok (.bool jump.isNone) (W3.putObj (w.heap.size + 1) (.loop (rec (if jump.isNone then .ready else .done) jump))) ∧
   (W3.putObj (w.heap.size + 1) (.loop (rec (if jump.isNone then .ready else .done) jump))).heap[w.heap.size + 1]? = some (.loop (rec (if jump.isNone then .ready else .done) jump)) ∧
   (W3.putObj (w.heap.size + 1) (.loop (rec (if jump.isNone then .ready else .done) jump))).heap[w.heap.size]? = some (.deferred (some [])) := fun jump W3 h3 => by
  have l3 := h3.same _ _ (by omega) l2 rfl
  refine ⟨l3, ?_, World.putObj_heap_same (Array.getElem?_eq_some_iff.1 l3).1, (World.putObj_heap_other (by omega)).trans (h3.same _ _ (Nat.le_refl _) k2 rfl)⟩
  have h4 := run_endRound (P := Try.prog) jump l3
  rw [hrec] at h4 ⊢
  exact h4
 refine wpIn_mono (hbody a1 W2 ⟨_, l2⟩ i2 x2) ?_
 rintro e a3 W3 hp
 cases e with
 | normal =>
  obtain ⟨h3, p3, i3⟩ := hp
  obtain ⟨l3, hr, l4, k4⟩ := fin none W3 h3
  exact ⟨_, _, hr, .inl ⟨rfl, ⟨hI.putObj _ i3 (by omega) l3 rfl, l4, k4⟩, p2.trans (p3.trans (KpP.putObj _ _ _ _ (by omega) l3 rfl)), f2.trans ((keepsFrom_mono h3 (by omega)).trans (keepsFrom_putObj _ _ hBB))⟩⟩
 | ret =>
  obtain ⟨h3, p3, i3⟩ := hp
  obtain ⟨l3, hr, l4, k4⟩ := fin (some .ret) W3 h3
  exact ⟨_, _, hr, .inr ⟨rfl, ⟨.ret, (hIx _).putObj _ i3 (by omega) l3 rfl, l4, k4⟩, p2.trans (p3.trans (KpP.putObj _ _ _ _ (by omega) l3 rfl)), f2.trans ((keepsFrom_mono h3 (by omega)).trans (keepsFrom_putObj _ _ hBB))⟩⟩
 | exit id =>
  obtain ⟨h3, p3, i3⟩ := hp
  obtain ⟨l3, hr, l4, k4⟩ := fin (some (.exit id)) W3 h3
  exact ⟨_, _, hr, .inr ⟨rfl, ⟨.exit id, (hIx _).putObj _ i3 (by omega) l3 rfl, l4, k4⟩, p2.trans (p3.trans (KpP.putObj _ _ _ _ (by omega) l3 rfl)), f2.trans ((keepsFrom_mono h3 (by omega)).trans (keepsFrom_putObj _ _ hBB))⟩⟩
 | goto t => exact hp.elim
 | panic ch => exact hp.elim
 | outgrown => exact hp.elim
theorem wpIn_rangeW {g : Operand} {ps : Array Tmp} {assign body : Code} {Q : Exit → Act → World → Prop} {a : Act}
  (hro : F.round = none) (h1 : F.depth.isSome = true → 1 ≤ n) {gf : Nat} {lb : Array Value} (hg : a.eval g = .func (.func gf) #[] lb) (hFg : F.fn gf) (eg : ∀ args w, (callFunc gf args).run Try.prog w = .ok (.enter gf args) w)
  {encs : α → Array Value} {n₀ : Nat} (hn₀ : n₀ ≤ w.heap.size) {S Sp : List α → World → Prop} {N : Nat} {w0 : World} (hseq : SeqW F (n - 1) gf lb encs n₀ S Sp N w0)
  (hS : OwnFrom w.heap.size S) (hSp : OwnFrom w.heap.size Sp) (hb0 : Below w0.heap.size w0 w) (hps : ∀ x, (encs x).size = ps.size)
  (I : List α → World → Prop) (Ix : Code → List α → World → Prop) (hI : OwnFrom w.heap.size I) (hIx : ∀ c, OwnFrom w.heap.size (Ix c)) (h0 : I [] w) (Ax : α → Act → World → Prop) (hAx : ∀ x a', OwnFrom w.heap.size (fun (_ : Unit) W => Ax x a' W))
  (hassign : ∀ (l : Nat) (pre : List α) (x : α) (W : World) (K : Act → World → Prop), I pre W → (∀ a' W', KeepsFrom w.heap.size W W' → KpP n₀ W W' → I pre W' → Ax x a' W' → K a' W') →
   assign.wpIn (F.inRound l) (n - 1 - 1) Try.prog (Exit.then K (fun _ _ _ => False)) { tmps := (ps.zip (encs x)).foldl (fun t (p, v) => t.setIfInBounds p v) a.tmps, defers := [] } W)
  (hbody : ∀ (l : Nat) (pre : List α) (x : α) (a' : Act) (W : World), w.heap.size ≤ l → (∃ r, W.heap[l]? = some (.loop r)) → I pre W → Ax x a' W → pre.length < N → body.wpIn (F.inRound l) (n - 1 - 1) Try.prog (RoundEnd w.heap.size n₀ I Ix (pre ++ [x]) W) a' W)
  (hdone : ∀ (D : Nat) (xs : List α) (W : World), w.heap.size ≤ D → S xs W → I xs W → W.heap[D]? = some (.deferred (some [])) → Q .normal { a with defers := { target := .collected D, args := #[] } :: a.defers } W)
  (hstop : ∀ (D : Nat) (c : Code) (pre : List α) (W : World), w.heap.size ≤ D → Sp pre W → Ix c pre W → W.heap[D]? = some (.deferred (some [])) → c.wpIn F n Try.prog Q { a with defers := { target := .collected D, args := #[] } :: a.defers } W) :
  (Code.rangeFunc g ps assign body).wpIn F n Try.prog Q a w := by
 refine wpIn_rangeFunc ?_
 intro fn hfn
 rw [hro]
 obtain ⟨rec, hrec⟩ : ∃ rec : LoopState → Option Code → Loop, rec = fun st pe => { state := st, pending := pe, fn, tmps := a.tmps, params := ps, assign, body, defers := w.heap.size } := ⟨_, rfl⟩
 obtain ⟨W1, hW1⟩ : ∃ W1, (w.alloc (.deferred (some []))).alloc (.loop (rec .ready none)) = W1 := ⟨_, rfl⟩
 have l1 : W1.heap[w.heap.size + 1]? = some (.loop (rec .ready none)) := by
  rw [← hW1]; have := World.alloc_heap_new (w.alloc (.deferred (some []))) (.loop (rec .ready none)); rwa [World.size_alloc] at this
 have k1 : W1.heap[w.heap.size]? = some (.deferred (some [])) := by
  rw [← hW1]; exact (Below.heap_alloc _ _ _ (by simp)).trans (World.alloc_heap_new w _)
 have i1 : I [] W1 := by rw [← hW1]; exact hI.alloc _ (hI.alloc _ h0)
 have b1 : Below w0.heap.size w0 W1 := by
  rw [← hW1]; exact hb0.trans ((((Below.refl _ w).alloc (Nat.le_refl _) _).alloc (by simp) _).mono hb0.size)
 have s1 : w.heap.size ≤ W1.heap.size := by rw [← hW1]; simp; omega
 refine ⟨w.heap.size + 1, [{ target := .collected w.heap.size, args := #[] }], W1, { target := .fn (.func gf) lb, args := #[.func (.yield (w.heap.size + 1)) #[] #[]] }, W1, gf,
  #[.func (.yield (w.heap.size + 1)) #[] #[]] ++ lb, W1, ?_, ?_, ?_, ?_, h1, ?_⟩
 ·rw [← hW1, hrec]; exact run_enterLoop_outer _ _ _ _ _
 ·simp only [resolve, hg]
  simp [go_sem]
 ·intro f' hf'; simp [Target.leads] at hf'; subst hf'; exact hFg
 ·simp [invoke, go_sem, eg]
 have s2 : W1.heap.size = w.heap.size + 2 := by rw [← hW1]; simp
 have old : ∀ {A : World} {row : Option Nat}, (∀ r, row = some r → W1.heap.size ≤ r ∧ ∃ o : Obj, A.heap[r]? = some o ∧ o.isCells = false) → (∀ r, row = some r → w.heap.size ≤ r ∧ ∃ o : Obj, A.heap[r]? = some o ∧ o.isCells = false) :=
  fun hr r e => ⟨Nat.le_trans s1 (hr r e).1, (hr r e).2⟩
 have kept : ∀ {A B : World} {row : Option Nat} {k : Nat} {o : Obj}, k < w.heap.size + 2 → A.grownBy B row → (∀ r, row = some r → W1.heap.size ≤ r ∧ ∃ o : Obj, A.heap[r]? = some o ∧ o.isCells = false) → A.heap[k]? = some o → B.heap[k]? = some o :=
  fun hk hg hr h => (hg.block _ (Array.getElem?_eq_some_iff.1 h).1 (fun e => by have := (hr _ e.symm).1; omega)).trans h
 refine (hseq (w.heap.size + 1)
  (fun pre W => I pre W ∧ W.heap[w.heap.size + 1]? = some (.loop (rec .ready none)) ∧ W.heap[w.heap.size]? = some (.deferred (some [])))
  (fun pre W => ∃ c, Ix c pre W ∧ W.heap[w.heap.size + 1]? = some (.loop (rec .done (some c))) ∧ W.heap[w.heap.size]? = some (.deferred (some [])))
  W1 b1
  (fun s A B row hs hg' hr => ⟨hI s A B row hs.1 hg' (old hr), kept (by omega) hg' hr hs.2.1, kept (by omega) hg' hr hs.2.2⟩)
  (fun s A B row hs hg' hr => by
   obtain ⟨c, hc, hl, hk⟩ := hs
   exact ⟨c, hIx c s A B row hc hg' (old hr), kept (by omega) hg' hr hl, kept (by omega) hg' hr hk⟩)
  ?_ ⟨i1, l1, k1⟩).mono ?_
 ·rintro pre x W ⟨hi, hl, hk⟩ hlen
  exact round_of_body hfn hn₀ (by omega) hps hI hIx hAx rec hrec pre x W (fun K hK => hassign _ pre x W K hi hK) (fun a' W' hr hi' hx' => hbody _ pre x a' W' (by omega) hr hi' hx' hlen) hl hk
 ·rintro e W2 ⟨⟨v, rfl⟩, (⟨xs, hs, hi, hl, hk⟩ | ⟨pre, hsp, c, hi, hl, hk⟩)⟩
  ·exact ⟨none, _, by have := run_endLoop (P := Try.prog) hl (by rw [hrec]; simp); rw [hrec] at this; exact this,
    hdone _ xs _ (Nat.le_refl _) (hS.putObj _ hs (by omega) hl rfl) (hI.putObj _ hi (by omega) hl rfl) ((World.putObj_heap_other (by omega)).trans hk)⟩
  ·exact ⟨some c, _, by have := run_endLoop (P := Try.prog) hl (by rw [hrec]; simp); rw [hrec] at this; exact this,
    hstop _ c pre _ (Nat.le_refl _) (hSp.putObj _ hsp (by omega) hl rfl) ((hIx c).putObj _ hi (by omega) hl rfl) ((World.putObj_heap_other (by omega)).trans hk)⟩
end
end Go.Proofs.Ytfhgknmkpegpbaa
set_option linter.unusedVariables false
set_option linter.unusedSimpArgs false
namespace Go.Proofs.Ytfhgknmkpegpbaa
open Go.RowKit Go.Shelf
mutual
def Tm.plc : Tm → List Int → List (List Int × Tm) | .mk k n s l, p => (p, .mk k n s l) :: Tm.plcs l p 0
def Tm.plcs : List Tm → List Int → Nat → List (List Int × Tm)
 | [], _, _ => []
 | t :: ts, p, i => Tm.plc t (p ++ [(i : Int)]) ++ Tm.plcs ts p (i + 1)
end
theorem Tm.plc_eq (t : Tm) (p : List Int) : t.plc p = (p, t) :: Tm.plcs t.l p 0 := by cases t; rw [Tm.plc]; rfl
theorem Tm.plcs_snoc (a : List Tm) (x : Tm) (p : List Int) (i : Nat) : Tm.plcs (a ++ [x]) p i = Tm.plcs a p i ++ x.plc (p ++ [((i + a.length : Nat) : Int)]) := by
 induction a generalizing i with
 | nil => simp [Tm.plcs]
 | cons y a ih =>
  rw [List.cons_append, Tm.plcs, Tm.plcs, ih, List.append_assoc, List.length_cons, show i + 1 + a.length = i + (a.length + 1) from by omega]
theorem Tm.plc_len_le (n : Nat) : (∀ (t : Tm) (p : List Int), t.size ≤ n → (t.plc p).length = t.size) ∧ (∀ (l : List Tm) (p : List Int) (i : Nat), Tm.sizes l ≤ n → (Tm.plcs l p i).length = Tm.sizes l) := by
 induction n with
 | zero =>
  refine ⟨fun t p h => by have := t.size_pos; omega, fun l p i h => ?_⟩
  cases l with
  | nil => simp [Tm.plcs, Tm.sizes]
  | cons a l => rw [Tm.sizes] at h; have := a.size_pos; omega
 | succ n ih =>
  have h1 : ∀ (t : Tm) (p : List Int), t.size ≤ n + 1 → (t.plc p).length = t.size := fun t p h => by
   rw [t.size_eq] at h ⊢
   rw [t.plc_eq, List.length_cons, ih.2 t.l _ _ (by omega)]; omega
  refine ⟨h1, fun l => ?_⟩
  induction l with
  | nil => intro _ _ _; simp [Tm.plcs, Tm.sizes]
  | cons a l ihl =>
   intro p i h
   rw [Tm.sizes] at h ⊢
   rw [Tm.plcs, List.length_append, h1 a _ (by omega), ihl _ _ (by omega)]
def PathOk (N : Nat) (W : World) (A : Option Addr) (c : Nat) (xs : List Int) : Prop :=
 (xs = [] ∧ A = none ∧ c = 0) ∨ (xs ≠ [] ∧ xs.length ≤ c ∧ c ≤ 9223372036854775807 ∧ ∃ g cs, A = some ⟨g, 0, none⟩ ∧ N ≤ g ∧ Blk W g 3 cs ∧ ∀ (j : Nat) (u : Int), xs[j]? = some u → cs[j]? = some (.int .i64 u))
theorem PathOk.nil (N : Nat) (W : World) : PathOk N W none 0 [] := .inl ⟨rfl, rfl, rfl⟩
theorem PathOk.keep {N : Nat} {W W' : World} {A : Option Addr} {c : Nat} {xs : List Int} (h : PathOk N W A c xs) (hk : ∀ g cs, Blk W g 3 cs → Blk W' g 3 cs) : PathOk N W' A c xs := by
 rcases h with h | ⟨h1, h2, h3, g, cs, h4, h5, h6, h7⟩
 ·exact .inl h
 ·exact .inr ⟨h1, h2, h3, g, cs, h4, h5, hk g cs h6, h7⟩
theorem PathOk.kp {N n₀ : Nat} {W W' : World} {A : Option Addr} {c : Nat} {xs : List Int} (h : PathOk N W A c xs) (hk : KpP n₀ W W') : PathOk N W' A c xs := h.keep hk.2.2.2.1
theorem PathOk.below {N : Nat} {W W' : World} {A : Option Addr} {c : Nat} {xs : List Int} (h : PathOk N W A c xs) (hb : Below W.heap.size W W') : PathOk N W' A c xs := h.keep fun g cs b => b.below hb b.lt
theorem PathOk.mono {N N' : Nat} {W : World} {A : Option Addr} {c : Nat} {xs : List Int} (h : PathOk N W A c xs) (hN : N' ≤ N) : PathOk N' W A c xs := by
 rcases h with h | ⟨h1, h2, h3, g, cs, h4, h5, h6, h7⟩
 ·exact .inl h
 ·exact .inr ⟨h1, h2, h3, g, cs, h4, Nat.le_trans hN h5, h6, h7⟩
theorem PathOk.len {N : Nat} {W : World} {A : Option Addr} {c : Nat} {xs : List Int} (h : PathOk N W A c xs) : xs.length ≤ c ∧ c ≤ 9223372036854775807 ∧ (A = none → c = 0) := by
 rcases h with ⟨rfl, rfl, rfl⟩ | ⟨h1, h2, h3, g, cs, h4, h5, h6, h7⟩
 ·simp
 ·exact ⟨h2, h3, fun e => by rw [h4] at e; cases e⟩
theorem PathOk.of_own {N n c : Nat} {W : World} {A : Option Addr} {xs : List Int} (h : W.ownsRow N 3 1 (.slice A n c) n (xs.map (Value.int .i64))) (hn : n = xs.length) (hne : xs ≠ []) : PathOk N W A c xs := by
 subst hn
 rcases h.2 with ⟨_, h0⟩ | ⟨g, cap, cur, hv, hg, hb, h1, h2, h3, h4⟩
 ·exact absurd (List.length_eq_zero_iff.1 h0) hne
 ·injection hv with hA _ hc
  subst hA hc
  refine .inr ⟨hne, h1, by simpa [maxLen] using h2, g, cur, rfl, hg, hb, fun j u hu => ?_⟩
  have h5 : (xs.map (Value.int .i64))[j]? = some (.int .i64 u) := by rw [List.getElem?_map, hu]; rfl
  rw [← h4, List.getElem?_take] at h5
  split at h5
  ·rw [← h5, Array.getElem?_toList]
  ·cases h5
def RetPa (w : World) (xs : List Int) (e : Ending) (w' : World) : Prop := ∃ A c, e = .returned (.slice A xs.length c) ∧ PathOk w.heap.size w' A c xs ∧ Below w.heap.size w w'
theorem clonePath_calls (N : Nat) (xs : List Int) (A : Option Addr) (c : Nat) (w : World) (h : PathOk N w A c xs) (hl : xs.length ≤ 1000000) : Calls Try.prog 151 #[.slice A xs.length c] w (RetPa w xs) := by
 rcases h with ⟨rfl, rfl, rfl⟩ | ⟨h1, h2, h3, g, cs, rfl, h5, h6, h7⟩
 ·refine (Try.slices_Clone_int_nil 0 0 w).mono ?_
  rintro e w' ⟨rfl, rfl⟩
  exact ⟨none, 0, rfl, PathOk.nil _ _, Below.refl _ _⟩
 ·refine (Try.slices_Clone_int g 0 xs.length c xs w (Nat.le_refl _) (by omega) (fun j hj => ?_)).mono ?_
  ·rw [Nat.zero_add, h6.cell j]
   refine h7 j _ ?_
   rw [List.getD_eq_getElem?_getD, List.getElem?_eq_getElem hj]; rfl
  ·rintro e w' ⟨v', rfl, hown, -, hb⟩
   rw [List.take_length] at hown
   obtain ⟨A', c', rfl⟩ := own_slice hown
   exact ⟨A', c', rfl, PathOk.of_own hown rfl h1, hb⟩
set_option maxRecDepth 100000 in
set_option maxHeartbeats 4000000 in
theorem clip_calls (A : Option Addr) (n c : Nat) (w : World) (h1 : n ≤ c) (h2 : c ≤ 9223372036854775807) (h3 : A = none → c = 0) : Calls Try.prog 150 #[.slice A n c] w fun e w' => e = .returned (.slice A n n) ∧ w' = w := by
 cases A with
 | none =>
  have hc : c = 0 := h3 rfl
  subst hc
  have hn : n = 0 := by omega
  subst hn
  go_enter Try.func150, Try.ntmps150
  go_wp2
  go_ret
  exact ⟨rfl, rfl⟩
 | some a =>
  clear h3
  have k1 : (0 : Int) ≤ (n : Int) := by omega
  have k2 : (n : Int) ≤ (c : Int) := by omega
  go_enter Try.func150, Try.ntmps150
  go_wp2
  go_ret
  exact ⟨rfl, rfl⟩
end Go.Proofs.Ytfhgknmkpegpbaa
set_option linter.unusedVariables false
set_option linter.unusedSimpArgs false
namespace Go.Proofs.Ytfhgknmkpegpbaa
open Go.RowKit Go.Shelf
theorem info3 : ∃ i0 : TypeInfo, Try.prog.info? 3 = some i0 ∧ i0.zero = some (.int .i64 0) ∧ i0.size = 1 ∧ i0.bytes = 8 := info_parts (by kernel_rfl)
set_option maxRecDepth 100000 in
set_option maxHeartbeats 4000000 in
theorem join_calls (N : Nat) (xs : List Int) (i : Int) (A : Option Addr) (c : Nat) (w : World) (h : PathOk N w A c xs) (hl : xs.length ≤ 1000000) : Calls Try.prog 138 #[.slice A xs.length c, .int .i64 i] w (RetPa w (xs ++ [i])) := by
 obtain ⟨i0, hi0⟩ := info3
 have Hi := Lib.hid hi0; clear hi0
 have Hcall := Lib.hid (clonePath_calls N xs A c w h hl)
 clear h
 go_enter Try.func138, Try.ntmps138
 go_wp2_with fail
 refine Hcall.out.mono ?_
 rintro e w1 ⟨A1, c1, rfl, hp1, hb1⟩
 have hle := hp1.len
 have Hclip := Lib.hid (clip_calls A1 xs.length c1 w1 hle.1 hle.2.1 hle.2.2)
 have HP1 := Lib.hid hp1; clear hp1
 have HB1 := Lib.hid hb1; clear hb1
 go_wp2_with fail
 refine Hclip.out.mono ?_
 rintro e w1' ⟨rfl, rfl⟩
 have hnone : A1 = none → xs.length = 0 ∧ xs.length = 0 := fun e => by
  rcases HP1.out with ⟨rfl, _⟩ | ⟨h1, h2, h3, g, cs, h4, _⟩
  ·exact ⟨rfl, rfl⟩
  ·rw [h4] at e; cases e
 have hold : ∀ b, A1 = some b → ∀ j u, (xs.map (Value.int .i64))[j]? = some u → (w1'.alloc (.cells #[.int .i64 i] 3)).cell? (b.add j) = some u := fun b hb j u hu => by
  rcases HP1.out with ⟨rfl, _⟩ | ⟨h1, h2, h3, g, cs, h4, h5, h6, h7⟩
  ·simp at hu
  ·rw [h4] at hb
   injection hb with hb
   subst hb
   rw [add_lit0, (h6.alloc (.cells #[.int .i64 i] 3)).cell j]
   rw [List.getElem?_map] at hu
   cases hx : xs[j]? with
   | none => rw [hx] at hu; cases hu
   | some x =>
    rw [hx] at hu
    have h8 := h7 j x hx
    rw [h8]; exact hu
 have Hnone := Lib.hid hnone; clear hnone
 have Hold := Lib.hid hold; clear hold
 go_wp2_with (at_builtin; refine wpList_append_grows _ rfl (.tmp 7) (.tmp 9) 39 rfl 3 i0 _ 1 8 Try.underlying39 Hi.out.1 Hi.out.2.1 Hi.out.2.2.1 Hi.out.2.2.2 rfl (by decide) A1 xs.length xs.length (xs.map (Value.int .i64)) rfl Hnone.out (by simp) Hold.out ⟨w1'.heap.size, 0, none⟩ 1 1 [.int .i64 i] rfl rfl ?c1 ?c2 (by omega) ?c3 ?c4 ?_)
 case c1 =>
  intro j u hu
  rw [add_lit0, (Blk.new w1' 3 _).cell j]
  simpa using hu
 case c2 => simp [Value.oneCell']
 case c3 => simp only [maxLen]; omega
 case c4 => omega
 intro v' w4 hown hg
 obtain ⟨A', c', rfl⟩ := own_slice hown
 have hw1 : w.heap.size ≤ w1'.heap.size := HB1.out.size
 have HF := Lib.hid (show PathOk w.heap.size w4 A' c' (xs ++ [i]) from (PathOk.of_own (N := w1'.heap.size + 1) (n := xs.length + 1) (by rw [List.map_append]; exact hown) (by rw [List.length_append]; rfl) (by simp)).mono (by omega))
 have HBF := Lib.hid (show Below w.heap.size w w4 from (HB1.out.alloc hw1 _).grown hg (by simp; omega) (fun k hk => by cases hk))
 clear hown hg
 go_wp2
 exact bodyPost_ret (v := .slice A' (xs.length + 1) c') (by simp [results, Try.results138, go_sem]) rfl (R := RetPa w (xs ++ [i])) ⟨A', c', by simp, HF.out, HBF.out⟩
abbrev PE := List Int × Option Addr × Nat
abbrev PW (n₀ : Nat) (w0 : World) := {x : PE × EV // x.2.1.okB = true ∧ x.2.1.s.size ≤ 9223372036854775807 ∧ TmC (· < n₀) w0 x.2.2.1 x.2.2.2 x.2.1.l}
def PW.pt {n₀ : Nat} {w0 : World} (x : PW n₀ w0) : List Int × Tm := (x.1.1.1, x.1.2.1)
def PW.encs {n₀ : Nat} {w0 : World} (x : PW n₀ w0) : Array Value := #[.slice x.1.1.2.1 x.1.1.1.length x.1.1.2.2, .agg #[.int .i64 x.1.2.1.k, .int .i64 x.1.2.1.n, .string x.1.2.1.s, .slice x.1.2.2.1 x.1.2.1.l.length x.1.2.2.2]]
def PW.ok {n₀ : Nat} {w0 : World} (x : PW n₀ w0) (W : World) : Prop := PathOk n₀ W x.1.1.2.1 x.1.1.2.2 x.1.1.1
set_option maxHeartbeats 1000000 in
theorem places_calls (k n' : Int) (s : ByteArray) (A B : Option Addr) (len c plen d : Nat) (w : World) :
  Calls Try.prog 107 #[.agg #[.int .i64 k, .int .i64 n', .string s, .slice A len c], .slice B plen d] w fun e w' => e = .returned (.func (.func 137) #[] #[.pointer (some ⟨w.heap.size + 1, 0, none⟩), .pointer (some ⟨w.heap.size, 0, none⟩)]) ∧
   w' = (w.alloc (.cells #[.int .i64 k, .int .i64 n', .string s, .slice A len c] 25)).alloc (.cells #[.slice B plen d] 39) := by
 go_enter Try.func107, Try.ntmps107
 go_wp2
 go_ret
 exact ⟨rfl, rfl⟩
end Go.Proofs.Ytfhgknmkpegpbaa
set_option linter.unusedVariables false
set_option linter.unusedSimpArgs false
namespace Go.Proofs.Ytfhgknmkpegpbaa
open Go.RowKit Go.Shelf
attribute [local go_sem] Oper.semAt_some
def noPanic (Q : Exit → Act → World → Prop) : Exit → Act → World → Prop
 | .panic _, _, _ => False
 | e, a, w => Q e a w
theorem noPanic_le {Q : Exit → Act → World → Prop} : ∀ (e : Exit) (a : Act) (w : World), noPanic Q e a w → Q e a w
 | .panic _, _, _, h => h.elim
 | .normal, _, _, h => h
 | .ret, _, _, h => h
 | .exit _, _, _, h => h
 | .goto _, _, _, h => h
 | .outgrown, _, _, h => h
theorem noPanic_normal {Q : Exit → Act → World → Prop} {a : Act} {w : World} (h : Q .normal a w) : noPanic Q .normal a w := h
theorem wpIn_noPanic {F : Fence} {n : Nat} {c : Code} {Q : Exit → Act → World → Prop} {a : Act} {w : World} (h : c.wpIn F n Try.prog (noPanic Q) a w) : c.wpIn F n Try.prog Q a w := wpIn_mono h noPanic_le
theorem plcs_take (l : List Tm) (p : List Int) (i k : Nat) : Tm.plcs (l.take k) p i <+: Tm.plcs l p i := by
 induction l generalizing i k with
 | nil => rw [List.take_nil]; exact List.prefix_rfl
 | cons a l ih =>
  cases k with
  | zero => rw [List.take_zero, Tm.plcs]; exact List.nil_prefix
  | succ k => rw [List.take_succ_cons, Tm.plcs, Tm.plcs]; exact (List.prefix_append_right_inj _).2 (ih _ _)
def PlS (n₀ : Nat) (w0 : World) (t : Tm) (p : List Int) (ys : List (PW n₀ w0)) (W : World) : Prop := ys.map PW.pt = t.plc p ∧ ∀ y ∈ ys, y.ok W
def PlSp (n₀ : Nat) (w0 : World) (t : Tm) (p : List Int) (ys : List (PW n₀ w0)) (W : World) : Prop := ys.map PW.pt <+: t.plc p ∧ ∀ y ∈ ys, y.ok W
set_option maxRecDepth 100000 in
set_option maxHeartbeats 4000000 in
theorem places1_seq (n₀ : Nat) (w0 : World) (t : Tm) : ∀ (n : Nat) (x0 : PW n₀ w0) (Bp Bt : Nat) (w : World), x0.1.2.1 = t → n₀ ≤ w.heap.size → Below n₀ w0 w →
  Blk w Bp 39 #[.slice x0.1.1.2.1 x0.1.1.1.length x0.1.1.2.2] → Blk w Bt 25 #[.int .i64 t.k, .int .i64 t.n, .string t.s, .slice x0.1.2.2.1 t.l.length x0.1.2.2.2] → x0.ok w → x0.1.1.1.length + t.size ≤ 1000000 →
  SeqW Fence.wide n 137 #[.pointer (some ⟨Bp, 0, none⟩), .pointer (some ⟨Bt, 0, none⟩)] (PW.encs (n₀ := n₀) (w0 := w0)) n₀ (PlS n₀ w0 t x0.1.1.1) (PlSp n₀ w0 t x0.1.1.1) t.size w := by
 induction t using Tm.ind with
 | h t ih =>
  intro n x0 Bp Bt w hx0 hn0 hb0 hBp hBt hok0 hsz l J Jx W hW hJ hJx hY h0
  obtain ⟨⟨⟨ps, Ap, cp⟩, t', A, c⟩, ho, hs, hc⟩ := x0
  obtain rfl : t' = t := hx0
  have Ih := Lib.hid ih; clear ih
  have hlc := hc.len.1
  have hlm := hc.len.2.1
  simp only at ho hs hc hBp hBt hok0 hsz ⊢
  have hnW : n₀ ≤ W.heap.size := Nat.le_trans hn0 hW.size
  obtain ⟨W0, hW0⟩ : ∃ W0, W0 = W.alloc (.cells #[.func (.yield l) #[] #[]] 155) := ⟨_, rfl⟩
  have hbW : Below W.heap.size W W0 := by rw [hW0]; exact (Below.refl _ _).alloc (Nat.le_refl _) _
  have hk0 : KpP n₀ W W0 := KpP.of_below hnW hbW
  have hYb : Blk W0 W.heap.size 155 #[.func (.yield l) #[] #[]] := by rw [hW0]; exact Blk.new _ _ _
  have hJ1 : J [] W0 := ownFrom_below hJ h0 hbW
  have hBp0 := (hBp.below hW hBp.lt).below hbW (Nat.lt_of_lt_of_le hBp.lt hW.size)
  have hBt0 := (hBt.below hW hBt.lt).below hbW (Nat.lt_of_lt_of_le hBt.lt hW.size)
  have hb00 : Below n₀ w0 W0 := hb0.trans ((hW.mono hn0).trans (hbW.mono hnW))
  have hok1 : PathOk n₀ W0 Ap cp ps := (hok0.below hW).below hbW
  have hszW : W0.heap.size = W.heap.size + 1 := by rw [hW0]; simp
  have hpl := hok0.len
  obtain ⟨xr, hxr⟩ : ∃ xr : PW n₀ w0, xr.1 = ((ps, Ap, cp), t', A, c) := ⟨⟨((ps, Ap, cp), t', A, c), ho, hs, hc⟩, rfl⟩
  have hyy := yieldAt_anyDepth (F := Fence.wide) rfl (n - 1) (hY [] xr W0 hJ1 t'.size_pos)
  have HY := Lib.hid (fun (m : Nat) pre x W1 (h1 : J pre W1) (h2 : pre.length < t'.size) => yieldAt_anyDepth (F := Fence.wide) rfl m (hY pre x W1 h1 h2)); clear hY
  have hBpw := hBp.below hW hBp.lt
  have hBtw := hBt.below hW hBt.lt
  obtain ⟨⟨a0, a1, a2, a3⟩, -⟩ := hBtw.four
  have p0 := (Blk.one hBpw).1
  have hBpl := hBpw.lt
  have hBtl := hBtw.lt
  clear hBpw hBtw
  have HK0 := Lib.hid hk0; clear hk0
  have HYb := Lib.hid hYb; clear hYb
  have HBp := Lib.hid hBp0; clear hBp0 hBp
  have HBt := Lib.hid hBt0; clear hBt0 hBt
  have HB := Lib.hid hb00; clear hb00
  have Hok := Lib.hid hok1; clear hok1 hok0
  have HW := Lib.hid hW0; clear hW0
  have HszW := Lib.hid hszW; clear hszW
  have Hxr := Lib.hid hxr; clear hxr
  have HC := Lib.hid hc
  have Hsz := Lib.hid hsz; clear hsz
  obtain ⟨fn, tmps, assign, body, hy, hR⟩ := hyy
  simp only [PW.encs, Hxr.out] at hy
  refine callsIn_of_wp_marks Try.func137 rfl trivial ?_ rfl
  simp only [Try.ntmps137, List.size_toArray, List.length_cons, List.length_nil, Nat.reduceAdd, Nat.reduceSub, Array.replicate_succ, Array.replicate_zero, List.push_toArray, List.append_toArray, List.nil_append, List.cons_append]
  gi_wp2_with fail
  rw [← HW.out]
  rw [hy]
  gi_wp2_with fail
  refine ⟨(fun h => by simp [Fence.wide] at h), hR.mono ?_⟩
  clear hR hy
  have hxt : xr.pt = (ps, t') := by unfold PW.pt; rw [Hxr.out]
  have hxo : ∀ W', KpP n₀ W0 W' → xr.ok W' := fun W' h => by unfold PW.ok; rw [Hxr.out]; exact Hok.out.kp h
  have Hxt := Lib.hid hxt; clear hxt
  have Hxo := Lib.hid hxo; clear hxo
  rintro e W1 (⟨rfl, hJ2, hk1, hf1⟩ | ⟨rfl, hJ2, hk1, hf1⟩)
  case inr =>
   have Hj := Lib.hid hJ2; clear hJ2
   have Hk1 := Lib.hid hk1; clear hk1
   gi_wp2
   refine leaves_marks (N := W.heap.size) (fun W' => PlSp n₀ w0 t' ps [xr] W' ∧ Jx [xr] W') ?_ ?_ [] W1 trivial ⟨⟨by rw [List.map_singleton, Hxt.out, t'.plc_eq]; exact ⟨_, rfl⟩, fun y hy => by rw [List.mem_singleton.1 hy]; exact Hxo.out _ Hk1.out⟩, Hj.out⟩
   ·rintro W5 D5 ⟨h1, h2⟩ hD5 hk5
    exact ⟨⟨h1.1, fun z hz => (h1.2 z hz).kp (KpP.putObj _ _ _ (.deferred none) (by omega) hk5 rfl)⟩, hJx.putObj _ h2 hD5 hk5 rfl⟩
   ·intro W' h
    exact ⟨_, results_none rfl _ _ _, ⟨_, rfl⟩, .inr ⟨_, h.1, h.2⟩⟩
  have HYb1 := Lib.hid (hk1.2.2.1 _ _ HYb.out)
  have HBp1 := Lib.hid (hk1.2.2.2.2 _ _ HBp.out)
  have HBt1 := Lib.hid (hk1.2.1 _ _ HBt.out)
  have HK1 := Lib.hid (HK0.out.trans hk1)
  have HKx := Lib.hid hk1; clear hk1
  have HB1 := Lib.hid (HB.out.trans HKx.out.1)
  have Hj2 := Lib.hid hJ2; clear hJ2
  have hW1 : W.heap.size + 1 ≤ W1.heap.size := by have := HszW.out; have := hf1.size; omega
  clear hf1 a0 a1 a2 a3 p0
  obtain ⟨⟨a0, a1, a2, a3⟩, -⟩ := HBt1.out.four
  gi_wp2
  refine wpIn_loop (fun a' Wr => ∃ (k : Nat) (u4 u5 u17 u18 u19 u20 u21 u22 u23 u24 u25 u33 : Value) (ds : List Deferred) (ys : List (PW n₀ w0)), k ≤ t'.l.length ∧ Hid (ys.map PW.pt = Tm.plcs (t'.l.take k) ps 0) ∧ Hid (J (xr :: ys) Wr) ∧ Hid (KpP n₀ W1 Wr) ∧ Hid (∀ y ∈ ys, y.ok Wr) ∧ Hid (Marks W.heap.size Wr ds) ∧ Hid (W1.heap.size ≤ Wr.heap.size) ∧
   a' = { tmps := #[.func (.yield l) #[] #[], .pointer (some ⟨Bp, 0, none⟩), .pointer (some ⟨Bt, 0, none⟩), .pointer (some ⟨W.heap.size, 0, none⟩), u4, u5, undef, undef, .func (.yield l) #[] #[], .slice Ap ps.length cp, .agg #[.int .i64 t'.k, .int .i64 t'.n, .string t'.s, .slice A t'.l.length c], .bool true, .bool false, .pointer (some ⟨Bt, 3, none⟩), .slice A t'.l.length c, .int .i64 t'.l.length, .int .i64 k, u17, u18, u19, u20, u21, u22, u23, u24, u25, undef, undef, undef, undef, undef, undef, undef, u33], defers := ds })
   (fun a' _ => t'.l.length - (intOf (a'.tmps.getD 16 undef)).toNat) ?start ?round
  case start => exact ⟨0, undef, undef, undef, undef, undef, undef, undef, undef, undef, undef, undef, undef, [], [], Nat.zero_le _, Lib.hid (by simp [Tm.plcs]), Hj2, Lib.hid (KpP.refl _ _), Lib.hid (fun y hy => by simp at hy), Lib.hid trivial, Lib.hid (Nat.le_refl _), rfl⟩
  case round =>
   rintro _ wr ⟨k, u4, u5, u17, u18, u19, u20, u21, u22, u23, u24, u25, u33, ds, ys, hk, Hys, Hjr, Hkr, Hyo, HM, Hsr, rfl⟩
   have HBp2 := Lib.hid (Hkr.out.2.2.2.2 _ _ HBp1.out)
   have HYb2 := Lib.hid (Hkr.out.2.2.1 _ _ HYb1.out)
   by_cases hlt : k < t'.l.length
   ·obtain ⟨x, hx⟩ : ∃ x, t'.l[k]? = some x := ⟨_, List.getElem?_eq_getElem hlt⟩
    obtain ⟨g, off, Ai, ci, rfl, hPg, ⟨c0, c1, c2, c3⟩, hxs, hxc⟩ := HC.out.at_ hx
    have hBr : Below n₀ w0 wr := HB1.out.trans Hkr.out.1
    have e0 := (hBr.cell (p := ⟨g, off + k * 4, none⟩) hPg).trans c0
    have e1 := (hBr.cell (p := ⟨g, off + k * 4 + 1, none⟩) hPg).trans c1
    have e2 := (hBr.cell (p := ⟨g, off + k * 4 + 2, none⟩) hPg).trans c2
    have e3 := (hBr.cell (p := ⟨g, off + k * 4 + 3, none⟩) hPg).trans c3
    clear c0 c1 c2 c3
    have HBr := Lib.hid hBr; clear hBr
    have hxm := List.mem_of_getElem? hx
    have Hts := Lib.hid (take_snoc hx)
    have hxo := okB_mem ho hxm
    have hnr : n₀ ≤ wr.heap.size := by have := Hsr.out; omega
    have hpk : PathOk n₀ wr Ap cp ps := (Hok.out.kp HKx.out).kp Hkr.out
    have Hpk := Lib.hid hpk; clear hpk
    have Hxz := Lib.hid (show ps.length + 1 + x.size ≤ 1000000 from by have := Tm.size_child hxm; have := Hsz.out; omega)
    have Hjoin := Lib.hid (fun W' (h : PathOk n₀ W' Ap cp ps) => join_calls n₀ ps k Ap cp W' h (by have := Hsz.out; omega))
    have p0 := (Blk.one HBp2.out).1
    have hBpl2 := HBp2.out.lt
    have Hxc := Lib.hid hxc; clear hxc hx
    have hPx : PathOk n₀ (wr.alloc (.cells #[.int .i64 x.k, .int .i64 x.n, .string x.s, .slice Ai x.l.length ci] 25)) Ap cp ps := Hpk.out.below ((Below.refl _ _).alloc (Nat.le_refl _) _)
    have HPx := Lib.hid hPx; clear hPx
    gi_wp2_with fail
    have hjw := Hjoin.out (wr.alloc (.cells #[.int .i64 x.k, .int .i64 x.n, .string x.s, .slice Ai x.l.length ci] 25)).drew (HPx.out.keep (fun _ _ h => h))
    have hjw2 := callsIn_wide (n := n - 1).2 hjw
    have Hjw := Lib.hid hjw2; clear hjw hjw2
    have f138 : Fence.wide.fn 138 := trivial
    have f107 : Fence.wide.fn 107 := trivial
    have hdep : Fence.wide.depth.isSome = true → 1 ≤ n := fun h => by simp [Fence.wide] at h
    refine wpIn_noPanic ?_
    gi_region_with (first
     | ((try refine ⟨f138, hdep, ?_⟩); (try refine ⟨hdep, ?_⟩); gi_at_call 138; refine Hjw.out.mono ?_; rintro e w3 ⟨A3, c3, rfl, hp3, hb3⟩; have hbx := (Blk.new wr 25 #[.int .i64 x.k, .int .i64 x.n, .string x.s, .slice Ai x.l.length ci]).drew.below hb3 (by simp); obtain ⟨⟨s0, s1, s2, s3⟩, -⟩ := hbx.four; have hsl := hb3.size; have Hp3 := Lib.hid hp3; have Hb3 := Lib.hid hb3; clear hp3 hb3 hbx)
     | ((try refine ⟨f107, hdep, ?_⟩); (try refine ⟨hdep, ?_⟩); gi_at_call 107; refine (callsIn_wide.2 (places_calls _ _ _ _ _ _ _ _ _ _)).mono ?_; rintro e w4 ⟨rfl, rfl⟩))
    all_goals
     refine noPanic_normal ?_
     gi_wp2_with fail
     obtain ⟨Wz, hWz⟩ : ∃ Wz, Wz = (w3.alloc (.cells #[.int .i64 x.k, .int .i64 x.n, .string x.s, .slice Ai x.l.length ci] 25)).alloc (.cells #[.slice A3 (ps.length + 1) c3] 39) := ⟨_, rfl⟩
     have hs3 : wr.heap.size + 1 ≤ w3.heap.size := by have := Hb3.out.size; simpa using this
     have hb3z : Below w3.heap.size w3 Wz := by rw [hWz]; exact ((Below.refl _ _).alloc (Nat.le_refl _) _).alloc (by simp) _
     have hbz : Below wr.heap.size wr Wz := by
      have h1 : Below wr.heap.size wr (wr.alloc (.cells #[.int .i64 x.k, .int .i64 x.n, .string x.s, .slice Ai x.l.length ci] 25)).drew := ((Below.refl _ _).alloc (Nat.le_refl _) _).drew
      exact h1.trans ((Hb3.out.mono (by simp)).trans (hb3z.mono (by omega)))
     have hbt : Blk Wz w3.heap.size 25 #[.int .i64 x.k, .int .i64 x.n, .string x.s, .slice Ai x.l.length ci] := by rw [hWz]; exact (Blk.new _ _ _).alloc _
     have hbp : Blk Wz (w3.heap.size + 1) 39 #[.slice A3 (ps.length + 1) c3] := by
      rw [hWz]
      have := Blk.new (w3.alloc (.cells #[.int .i64 x.k, .int .i64 x.n, .string x.s, .slice Ai x.l.length ci] 25)) 39 #[.slice A3 (ps.length + 1) c3]
      rwa [World.size_alloc] at this
     have hpz : PathOk n₀ Wz A3 c3 (ps ++ [(k : Int)]) := (Hp3.out.mono (by simp; omega)).below hb3z
     have hkz : KpP n₀ wr Wz := KpP.of_below hnr hbz
     have hsz4 : Wz.heap.size = w3.heap.size + 2 := by rw [hWz]; simp
     obtain ⟨xe, hxe⟩ : ∃ xe : PW n₀ w0, xe.1 = ((ps ++ [(k : Int)], A3, c3), x, Ai, ci) := ⟨⟨((ps ++ [(k : Int)], A3, c3), x, Ai, ci), hxo, hxs, Hxc.out⟩, rfl⟩
     have hseq := Ih.out x hxm (n - 1) xe (w3.heap.size + 1) w3.heap.size Wz (by rw [hxe]) (by omega) (HBr.out.trans hkz.1) (by rw [hxe]; simpa using hbp) (by rw [hxe]; exact hbt) (by unfold PW.ok; rw [hxe]; exact hpz) (by rw [hxe]; have := Hxz.out; simp; omega)
     have hpt : xe.1.1.1 = ps ++ [(k : Int)] := by rw [hxe]
     rw [hpt] at hseq
     have hJz : J (xr :: ys ++ []) Wz := by rw [List.append_nil]; exact ownFrom_below hJ Hjr.out hbz
     have hMz : Marks W.heap.size Wz ds := HM.out.keep fun D _ _ h => (hbz.block D (Array.getElem?_eq_some_iff.1 h).1).trans h
     have hml : ∀ d ∈ ds, ∃ D, d.target = .collected D ∧ D < Wz.heap.size := hMz.lt
     have hnz : n₀ ≤ Wz.heap.size := by omega
     have hWz2 : W.heap.size ≤ Wz.heap.size := by have := Hsr.out; omega
     have own : ∀ {X Y : World} {row : Option Nat}, Wz.heap.size ≤ X.heap.size → X.grownBy Y row → (∀ r, row = some r → Wz.heap.size ≤ r ∧ ∃ o : Obj, X.heap[r]? = some o ∧ o.isCells = false) → KpP n₀ X Y :=
      fun hX hg hr => kpP_grown (by omega) hg (fun r e => ⟨by have := (hr r e).1; omega, (hr r e).2⟩)
     have hkz1 : KpP n₀ W1 Wz := Hkr.out.trans hkz
     have hyz : ∀ y ∈ ys, y.ok Wz := fun y hy => (Hyo.out y hy).kp hkz
     rw [← hWz]
     clear hWz hbt hbp hpz hbz hb3z hxe
     refine wpIn_rangeW rfl hdep (gf := 137) (lb := #[.pointer (some ⟨w3.heap.size + 1, 0, none⟩), .pointer (some ⟨w3.heap.size, 0, none⟩)]) rfl trivial (enters_of Try.func137 (by kernel_rfl) rfl) (n₀ := n₀) hnz hseq
      (fun s X Y row hs hg hr => ⟨hs.1, fun y hy => (hs.2 y hy).keep (fun g cs hb => (hg.block g hb.lt (fun e => by obtain ⟨-, o, ho, hc⟩ := hr g e.symm; rw [show X.heap[g]? = _ from hb] at ho; injection ho with ho; subst ho; simp [Obj.isCells] at hc)).trans hb)⟩)
      (fun s X Y row hs hg hr => ⟨hs.1, fun y hy => (hs.2 y hy).keep (fun g cs hb => (hg.block g hb.lt (fun e => by obtain ⟨-, o, ho, hc⟩ := hr g e.symm; rw [show X.heap[g]? = _ from hb] at ho; injection ho with ho; subst ho; simp [Obj.isCells] at hc)).trans hb)⟩)
      (Below.refl _ _) (fun _ => rfl)
      (fun pre W' => J (xr :: ys ++ pre) W' ∧ KpP n₀ W1 W' ∧ (∀ y ∈ ys, y.ok W') ∧ Marks W.heap.size W' ds ∧ Wz.heap.size ≤ W'.heap.size)
      (fun c pre W' => c = .ret ∧ Jx (xr :: ys ++ pre) W' ∧ KpP n₀ W1 W' ∧ (∀ y ∈ ys, y.ok W') ∧ Marks W.heap.size W' ds ∧ Wz.heap.size ≤ W'.heap.size)
      (fun s X Y row hs hg hr => ⟨hJ _ X Y row hs.1 hg (fun r e => ⟨by have := (hr r e).1; omega, (hr r e).2⟩), hs.2.1.trans (own hs.2.2.2.2 hg hr), fun y hy => (hs.2.2.1 y hy).kp (own hs.2.2.2.2 hg hr), marks_own hml () X Y row hs.2.2.2.1 hg hr, Nat.le_trans hs.2.2.2.2 hg.size⟩)
      (fun c s X Y row hs hg hr => ⟨hs.1, hJx _ X Y row hs.2.1 hg (fun r e => ⟨by have := (hr r e).1; omega, (hr r e).2⟩), hs.2.2.1.trans (own hs.2.2.2.2.2 hg hr), fun y hy => (hs.2.2.2.1 y hy).kp (own hs.2.2.2.2.2 hg hr), marks_own hml () X Y row hs.2.2.2.2.1 hg hr, Nat.le_trans hs.2.2.2.2.2 hg.size⟩)
      ⟨hJz, hkz1, hyz, hMz, Nat.le_refl _⟩
      (fun y a' W' => ∃ Bx, Wz.heap.size ≤ Bx ∧ Blk W' Bx 25 #[.int .i64 y.1.2.1.k, .int .i64 y.1.2.1.n, .string y.1.2.1.s, .slice y.1.2.2.1 y.1.2.1.l.length y.1.2.2.2] ∧ a' = { tmps := #[.func (.yield l) #[] #[], .pointer (some ⟨Bp, 0, none⟩), .pointer (some ⟨Bt, 0, none⟩), .pointer (some ⟨W.heap.size, 0, none⟩), .int .i64 k, .pointer (some ⟨wr.heap.size, 0, none⟩), .slice y.1.1.2.1 y.1.1.1.length y.1.1.2.2, .pointer (some ⟨Bx, 0, none⟩), .func (.yield l) #[] #[], .slice Ap ps.length cp, .agg #[.int .i64 t'.k, .int .i64 t'.n, .string t'.s, .slice (some ⟨g, off, none⟩) t'.l.length c], .bool true, .bool false, .pointer (some ⟨Bt, 3, none⟩), .slice (some ⟨g, off, none⟩) t'.l.length c, .int .i64 t'.l.length, .int .i64 k, .bool true, .int .i64 k, .pointer (some ⟨g, off + k * 4, none⟩), .agg #[.int .i64 x.k, .int .i64 x.n, .string x.s, .slice Ai x.l.length ci], .agg #[.int .i64 x.k, .int .i64 x.n, .string x.s, .slice Ai x.l.length ci], .slice Ap ps.length cp, .int .i64 k, .slice A3 (ps.length + 1) c3, .func (.func 137) #[] #[.pointer (some ⟨w3.heap.size + 1, 0, none⟩), .pointer (some ⟨w3.heap.size, 0, none⟩)], .slice y.1.1.2.1 y.1.1.1.length y.1.1.2.2, .agg #[.int .i64 y.1.2.1.k, .int .i64 y.1.2.1.n, .string y.1.2.1.s, .slice y.1.2.2.1 y.1.2.1.l.length y.1.2.2.2], undef, undef, undef, undef, undef, u33], defers := [] })
      (fun y a' _ X Y row hs hg hr => by
       obtain ⟨Bx, h1, h2, h3⟩ := hs
       exact ⟨Bx, h1, h2.grown hg (fun e => by
        obtain ⟨-, o, ho, hc⟩ := hr _ e.symm
        rw [show X.heap[Bx]? = some _ from h2] at ho
        injection ho with ho; subst ho; simp [Obj.isCells] at hc), h3⟩)
      ?assign ?body ?done ?stop
     case assign =>
      rintro l2 pre y W' K ⟨hj, hk', hyo', hM', hS'⟩ hK
      simp only [PW.encs]
      gi_wp2
      have hba : Below W'.heap.size W' (W'.alloc (.cells #[.int .i64 y.1.2.1.k, .int .i64 y.1.2.1.n, .string y.1.2.1.s, .slice y.1.2.2.1 y.1.2.1.l.length y.1.2.2.2] 25)) := (Below.refl _ _).alloc (Nat.le_refl _) _
      have hka : KpP n₀ W' (W'.alloc (.cells #[.int .i64 y.1.2.1.k, .int .i64 y.1.2.1.n, .string y.1.2.1.s, .slice y.1.2.2.1 y.1.2.1.l.length y.1.2.2.2] 25)) := KpP.of_below (by omega) hba
      exact hK _ _ (keepsFrom_below hba) hka ⟨ownFrom_below hJ hj hba, hk'.trans hka, fun z hz => (hyo' z hz).kp hka, hM'.keep fun D _ _ h => (hba.block D (Array.getElem?_eq_some_iff.1 h).1).trans h, by simp; omega⟩ ⟨W'.heap.size, hS', Blk.new _ _ _, rfl⟩
     case body =>
      rintro l2 pre y a' W' hl ⟨r, hr⟩ ⟨hj, hk', hyo', hM', hS'⟩ ⟨Bx, hBx, hbx, rfl⟩ hlen
      have hysl : ys.length = Tm.sizes (t'.l.take k) := by
       have h1 := congrArg List.length Hys.out
       rw [List.length_map, (Tm.plc_len_le _).2 _ _ _ (Nat.le_refl _)] at h1
       exact h1
      have hlen2 : (xr :: ys ++ pre).length < t'.size := by
       have h3 := sizes_take_le (k + 1) t'.l
       rw [Hts.out, sizes_append] at h3
       simp only [Tm.sizes, Nat.add_zero] at h3
       rw [t'.size_eq]
       simp only [List.length_append, List.length_cons]
       omega
      obtain ⟨⟨q0, q1, q2, q3⟩, -⟩ := hbx.four
      have hyb2 := (Blk.one (hk'.2.2.1 _ _ HYb1.out)).1
      have hWl : W.heap.size < W'.heap.size := by have := Hsr.out; omega
      have hbl := hbx.lt
      obtain ⟨fn2, tmps2, assign2, body2, hy2, hR2⟩ := HY.out (n - 1 - 1 - 1) (xr :: ys ++ pre) y W' hj hlen2
      simp only [PW.encs] at hy2
      have Hj := Lib.hid hj; clear hj
      have Hk' := Lib.hid hk'; clear hk'
      have Hyo' := Lib.hid hyo'; clear hyo'
      have HM' := Lib.hid hM'; clear hM'
      gi_wp2_with fail
      refine ⟨(fun h => by simp [Fence.wide, Fence.inRound] at h), (show RoundIn (Fence.wide.inRound l2) (n - 1 - 1 - 1) Try.prog l fn2 tmps2 assign2 body2 W' _ from hR2).mono ?_⟩
      clear hR2 hy2
      rintro e W4 (⟨rfl, hj4, hk4, hf4⟩ | ⟨rfl, hj4, hk4, hf4⟩)
      ·gi_wp2
       exact ⟨keepsFrom_mono hf4 hWz2, hk4, by rw [← List.append_assoc]; exact hj4, Hk'.out.trans hk4, fun z hz => (Hyo'.out z hz).kp hk4, HM'.out.keep fun D hD _ h => hf4.same D _ hD h rfl, Nat.le_trans hS' hf4.size⟩
      ·gi_wp2
       exact ⟨keepsFrom_mono hf4 hWz2, hk4, rfl, by rw [← List.append_assoc]; exact hj4, Hk'.out.trans hk4, fun z hz => (Hyo'.out z hz).kp hk4, HM'.out.keep fun D hD _ h => hf4.same D _ hD h rfl, Nat.le_trans hS' hf4.size⟩
     case done =>
      rintro D zs W' hD ⟨hzs, hzo⟩ ⟨hj, hk', hyo', hM', hS'⟩ hDk
      have hnx : (ys ++ zs).map PW.pt = Tm.plcs (t'.l.take (k + 1)) ps 0 := by
       rw [List.map_append, Hys.out, hzs, Hts.out, Tm.plcs_snoc, List.length_take, Nat.zero_add, Nat.min_eq_left (by omega)]
      have hM3 : Marks W.heap.size W' ({ target := .collected D, args := #[] } :: ds) := ⟨⟨D, rfl, by omega, hDk, fun e he h => by
       obtain ⟨E, h1, h2⟩ := hml e he
       rw [h] at h1; injection h1 with h1; omega⟩, hM'⟩
      have HM3 := Lib.hid hM3; clear hM3
      have Hnx := Lib.hid hnx; clear hnx
      have Hj := Lib.hid (show J (xr :: (ys ++ zs)) W' from hj); clear hj
      have Hk' := Lib.hid hk'; clear hk'
      have Hyo' := Lib.hid (show ∀ z ∈ ys ++ zs, z.ok W' from fun z hz => by
       rcases List.mem_append.1 hz with h | h
       ·exact hyo' z h
       ·exact hzo z h); clear hyo' hzo
      have Hs' := Lib.hid (show W1.heap.size ≤ W'.heap.size from by have := Hsr.out; omega)
      gi_wp2
      refine ⟨⟨k + 1, _, _, _, _, _, _, _, _, _, _, _, _, _, ys ++ zs, by omega, Hnx, Hj, Hk', Hyo', HM3, Hs', rfl⟩, ?_⟩
      simp [intOf]; omega
     case stop =>
      rintro D c2 pre W' hD ⟨hpre, hpo⟩ ⟨rfl, hj, hk', hyo', hM', hS'⟩ hDk
      have hM3 : Marks W.heap.size W' ({ target := .collected D, args := #[] } :: ds) := ⟨⟨D, rfl, by omega, hDk, fun e he h => by
       obtain ⟨E, h1, h2⟩ := hml e he
       rw [h] at h1; injection h1 with h1; omega⟩, hM'⟩
      have hsp : PlSp n₀ w0 t' ps (xr :: ys ++ pre) W' := by
       refine ⟨?_, fun z hz => ?_⟩
       ·rw [List.map_append, List.map_cons, Hxt.out, Hys.out, t'.plc_eq]
        refine List.prefix_cons_inj _ |>.2 ?_
        have h1 := Tm.plcs_snoc (t'.l.take k) x ps 0
        rw [← Hts.out, List.length_take, Nat.zero_add, Nat.min_eq_left (by omega)] at h1
        refine ((List.prefix_append_right_inj _).2 hpre).trans ?_
        rw [← h1]
        exact plcs_take _ _ _ _
       ·rcases List.mem_append.1 hz with h | h
        ·rcases List.mem_cons.1 h with rfl | h
         ·exact Hxo.out _ (HKx.out.trans hk')
         ·exact hyo' z h
        ·exact hpo z h
      have Hsp := Lib.hid hsp; clear hsp
      gi_wp2
      refine leaves_marks (N := W.heap.size) (fun W' => PlSp n₀ w0 t' ps (xr :: ys ++ pre) W' ∧ Jx (xr :: ys ++ pre) W') ?_ ?_ _ W' hM3 ⟨Hsp.out, hj⟩
      ·rintro W5 D5 ⟨h1, h2⟩ hD5 hk5
       exact ⟨⟨h1.1, fun z hz => (h1.2 z hz).kp (KpP.putObj _ _ _ (.deferred none) (by omega) hk5 rfl)⟩, hJx.putObj _ h2 hD5 hk5 rfl⟩
      ·rintro W5 ⟨h1, h2⟩
       exact ⟨_, results_none rfl _ _ _, ⟨_, rfl⟩, .inr ⟨_, h1, h2⟩⟩
   ·have hke : k = t'.l.length := by omega
    subst hke
    have hsF : PlS n₀ w0 t' ps (xr :: ys) wr := by
     refine ⟨?_, fun z hz => ?_⟩
     ·rw [List.map_cons, Hxt.out, Hys.out, t'.plc_eq, List.take_length]
     ·rcases List.mem_cons.1 hz with rfl | h
      ·exact Hxo.out _ (HKx.out.trans Hkr.out)
      ·exact Hyo.out z h
    have HsF := Lib.hid hsF; clear hsF
    gi_wp2
    refine leaves_marks (N := W.heap.size) (fun W' => PlS n₀ w0 t' ps (xr :: ys) W' ∧ J (xr :: ys) W') ?_ ?_ ds wr HM.out ⟨HsF.out, Hjr.out⟩
    ·rintro W5 D5 ⟨h1, h2⟩ hD5 hk5
     exact ⟨⟨h1.1, fun z hz => (h1.2 z hz).kp (KpP.putObj _ _ _ (.deferred none) (by omega) hk5 rfl)⟩, hJ.putObj _ h2 hD5 hk5 rfl⟩
    ·rintro W5 ⟨h1, h2⟩
     exact ⟨_, results_none rfl _ _ _, ⟨_, rfl⟩, .inl ⟨_, h1, h2⟩⟩
end Go.Proofs.Ytfhgknmkpegpbaa
