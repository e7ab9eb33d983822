/- Part 2 of the base: the walks and plain facts that the statement rests on. -/
import Derived.Test.YtfhgknmkpegpbaaM1
import Derived.Laws.EntriesVeiled
import Derived.WalkLawsBesides

set_option linter.unusedVariables false
set_option linter.unusedSimpArgs false
namespace Go.Proofs.Ytfhgknmkpegpbaa
open Go.RowKit
def FA (bb : Nat) : Array Value := #[.nilFunc, .func (.func 115) #[] #[.pointer (some ⟨bb, 0, none⟩)], .func (.func 116) #[] #[.pointer (some ⟨bb, 0, none⟩)], .func (.func 117) #[] #[.pointer (some ⟨bb, 0, none⟩)], .func (.func 119) #[] #[.pointer (some ⟨bb, 0, none⟩)], .func (.func 120) #[] #[.pointer (some ⟨bb, 0, none⟩)], .func (.func 121) #[] #[.pointer (some ⟨bb, 0, none⟩)]]
def RetF (w : World) (e : Ending) (w' : World) : Prop := e = .returned (.agg (FA (w.heap.size + 1))) ∧ Blk w' (w.heap.size + 1) 135 #[FB] ∧ Below w.heap.size w w'
theorem forms_calls (w : World) : Calls Try.prog 77 #[] w (RetF w) := by
 go_enter Try.func77, Try.ntmps77
 go_wp2
 refine bodyPost_ret (v := .agg (FA (w.heap.size + 1))) (by simp [results, Try.results77, go_sem, FA]) rfl ⟨rfl, ?_, ((Below.refl _ _).alloc (Nat.le_refl _) _).alloc (by simp) _⟩
 have := Blk.new (w.alloc (.cells #[.nilFunc, .func (.func 115) #[] #[.pointer (some ⟨w.heap.size + 1, 0, none⟩)], .func (.func 116) #[] #[.pointer (some ⟨w.heap.size + 1, 0, none⟩)], .func (.func 117) #[] #[.pointer (some ⟨w.heap.size + 1, 0, none⟩)], .func (.func 119) #[] #[.pointer (some ⟨w.heap.size + 1, 0, none⟩)], .func (.func 120) #[] #[.pointer (some ⟨w.heap.size + 1, 0, none⟩)], .func (.func 121) #[] #[.pointer (some ⟨w.heap.size + 1, 0, none⟩)]] 91)) 135 #[FB]
 rwa [show (w.alloc (.cells #[.nilFunc, .func (.func 115) #[] #[.pointer (some ⟨w.heap.size + 1, 0, none⟩)], .func (.func 116) #[] #[.pointer (some ⟨w.heap.size + 1, 0, none⟩)], .func (.func 117) #[] #[.pointer (some ⟨w.heap.size + 1, 0, none⟩)], .func (.func 119) #[] #[.pointer (some ⟨w.heap.size + 1, 0, none⟩)], .func (.func 120) #[] #[.pointer (some ⟨w.heap.size + 1, 0, none⟩)], .func (.func 121) #[] #[.pointer (some ⟨w.heap.size + 1, 0, none⟩)]] 91)).heap.size = w.heap.size + 1 from by simp] at this
def nodeB (t : Tm) : Bool :=
 if t.k = 1 then (bareB t true false false && decide (0 ≤ t.n)) && decide (t.n < 100000)
 else if t.k = 2 then (bareB t true false false && decide (-2147483647 ≤ t.n)) && decide (t.n ≤ 2147483647)
 else if t.k = 3 then bareB t false true false && nameB t.s
 else if t.k = 4 then bareB t false true false && decide (t.s.size ≤ 255)
 else if t.k = 5 then ((bareB t false true true && nameB t.s) && decide (1 ≤ t.l.length)) && decide (t.l.length ≤ 16)
 else if t.k = 6 then bareB t false false true && decide (t.l.length ≤ 64)
 else false
mutual
def Tm.okB : Tm → Bool | .mk k n s l => nodeB (.mk k n s l) && Tm.okBs l
def Tm.okBs : List Tm → Bool
 | [] => true
 | t :: ts => Tm.okB t && Tm.okBs ts
end
theorem Tm.okB_eq (t : Tm) : t.okB = (nodeB t && Tm.okBs t.l) := by cases t; rw [Tm.okB]; rfl
theorem Tm.okBs_append : ∀ (a b : List Tm), Tm.okBs (a ++ b) = (Tm.okBs a && Tm.okBs b)
 | [], b => by simp [Tm.okBs]
 | x :: a, b => by simp only [List.cons_append, Tm.okBs, Tm.okBs_append a b, Bool.and_assoc]
theorem Tm.okBs_take {l : List Tm} {k : Nat} {x : Tm} (h : l[k]? = some x) : Tm.okBs (l.take (k + 1)) = (Tm.okBs (l.take k) && x.okB) := by
 rw [take_snoc h, Tm.okBs_append]; simp [Tm.okBs]
theorem Tm.okBs_mem {l : List Tm} (h : Tm.okBs l = true) {x : Tm} (hx : x ∈ l) : x.okB = true := by
 induction l with
 | nil => simp at hx
 | cons y ys ih =>
  rw [Tm.okBs, Bool.and_eq_true] at h
  rcases List.mem_cons.1 hx with rfl | hx
  ·exact h.1
  ·exact ih h.2 hx
theorem Tm.depth_mem : ∀ {l : List Tm} {t : Tm}, t ∈ l → t.depth ≤ Tm.depths l
 | x :: xs, t, h => by
  rw [Tm.depths]
  rcases List.mem_cons.1 h with rfl | h
  ·omega
  ·have := Tm.depth_mem h; omega
def chkV (t : Tm) (L d : Int) : Int := if t.okB = true ∧ (t.size : Int) ≤ L ∧ (t.depth : Int) ≤ d then t.size else L + 1
theorem Blk.seven {w : World} {g : Nat} {t : TypeId} {a b c d e f h : Value} (H : Blk w g t #[a, b, c, d, e, f, h]) :
  w.cell? ⟨g, 0, none⟩ = some a ∧ w.cell? ⟨g, 1, none⟩ = some b ∧ w.cell? ⟨g, 2, none⟩ = some c ∧ w.cell? ⟨g, 3, none⟩ = some d ∧ w.cell? ⟨g, 4, none⟩ = some e ∧ w.cell? ⟨g, 5, none⟩ = some f ∧ w.cell? ⟨g, 6, none⟩ = some h :=
 ⟨by rw [H.cell 0]; rfl, by rw [H.cell 1]; rfl, by rw [H.cell 2]; rfl, by rw [H.cell 3]; rfl, by rw [H.cell 4]; rfl, by rw [H.cell 5]; rfl, by rw [H.cell 6]; rfl⟩
theorem keep_drew {W W' : World} {a : Addr} {v : Value} (hb : Below W.drew.heap.size W.drew W') (h : W.cell? a = some v) : W'.cell? a = some v := keep_cell hb (show W.drew.cell? a = some v from h)
def RetN (w : World) (n : Int) (e : Ending) (w' : World) : Prop := e = .returned (.int .i64 n) ∧ Below w.heap.size w w'
theorem node_kind {t : Tm} (h : nodeB t = true) : 1 ≤ t.k ∧ t.k ≤ 6 := by
 unfold nodeB at h
 repeat' split at h
 all_goals first | omega | simp at h
theorem cfs : (∀ args w, Sem.run Try.prog (callFunc 115 args) w = .ok (.enter 115 args) w) ∧ (∀ args w, Sem.run Try.prog (callFunc 116 args) w = .ok (.enter 116 args) w) ∧ (∀ args w, Sem.run Try.prog (callFunc 117 args) w = .ok (.enter 117 args) w) ∧
  (∀ args w, Sem.run Try.prog (callFunc 119 args) w = .ok (.enter 119 args) w) ∧ (∀ args w, Sem.run Try.prog (callFunc 120 args) w = .ok (.enter 120 args) w) ∧ (∀ args w, Sem.run Try.prog (callFunc 121 args) w = .ok (.enter 121 args) w) :=
 ⟨fun args w => by kernel_rfl, fun args w => by kernel_rfl, fun args w => by kernel_rfl, fun args w => by kernel_rfl, fun args w => by kernel_rfl, fun args w => by kernel_rfl⟩
def CntOk (t : Tm) : Prop := ∀ (P : Nat → Prop) (w : World) (v : Value) (L d : Int) (bb : Nat), TmV P w v t → Blk w bb 135 #[FB] → 0 ≤ L → L ≤ 1000000 → 0 ≤ d → d ≤ 1000000 → Calls Try.prog 78 #[v, .int .i64 L, .int .i64 d, .agg (FA bb)] w (RetN w (chkV t L d))
set_option maxRecDepth 100000 in
set_option maxHeartbeats 4000000 in
theorem cnt_k1 (t : Tm) (ih : ∀ x ∈ t.l, CntOk x) (P : Nat → Prop) (w : World) (L d : Int) (bb : Nat) (A : Option Addr) (c : Nat) (hs : t.s.size ≤ 9223372036854775807) (hc : TmC P w A c t.l) (hbb : Blk w bb 135 #[FB]) (hL1' : 1 ≤ L) (hL1 : L ≤ 1000000) (hd1' : 1 ≤ d) (hd1 : d ≤ 1000000) (hk : t.k = 1) :
  Calls Try.prog 78 #[.agg #[.int .i64 t.k, .int .i64 t.n, .string t.s, .slice A t.l.length c], .int .i64 L, .int .i64 d, .agg (FA bb)] w (RetN w (chkV t L d)) := by
 have Ih := Lib.hid ih; clear ih
 unfold FA
 obtain ⟨W0, hW0⟩ : ∃ W0, W0 = (w.alloc (.cells #[.int .i64 t.k, .int .i64 t.n, .string t.s, .slice A t.l.length c] 25)).alloc (.cells #[.nilFunc, .func (.func 115) #[] #[.pointer (some ⟨bb, 0, none⟩)], .func (.func 116) #[] #[.pointer (some ⟨bb, 0, none⟩)], .func (.func 117) #[] #[.pointer (some ⟨bb, 0, none⟩)], .func (.func 119) #[] #[.pointer (some ⟨bb, 0, none⟩)], .func (.func 120) #[] #[.pointer (some ⟨bb, 0, none⟩)], .func (.func 121) #[] #[.pointer (some ⟨bb, 0, none⟩)]] 91) := ⟨_, rfl⟩
 have hB0 : Below w.heap.size w W0 := by rw [hW0]; exact ((Below.refl _ _).alloc (Nat.le_refl _) _).alloc (by simp) _
 have hX0 : Blk W0 w.heap.size 25 #[.int .i64 t.k, .int .i64 t.n, .string t.s, .slice A t.l.length c] := by rw [hW0]; exact (Blk.new w 25 _).alloc _
 have hY0 : Blk W0 (w.heap.size + 1) 91 #[.nilFunc, .func (.func 115) #[] #[.pointer (some ⟨bb, 0, none⟩)], .func (.func 116) #[] #[.pointer (some ⟨bb, 0, none⟩)], .func (.func 117) #[] #[.pointer (some ⟨bb, 0, none⟩)], .func (.func 119) #[] #[.pointer (some ⟨bb, 0, none⟩)], .func (.func 120) #[] #[.pointer (some ⟨bb, 0, none⟩)], .func (.func 121) #[] #[.pointer (some ⟨bb, 0, none⟩)]] := by
  rw [hW0]
  have := Blk.new (w.alloc (.cells #[.int .i64 t.k, .int .i64 t.n, .string t.s, .slice A t.l.length c] 25)) 91 #[.nilFunc, .func (.func 115) #[] #[.pointer (some ⟨bb, 0, none⟩)], .func (.func 116) #[] #[.pointer (some ⟨bb, 0, none⟩)], .func (.func 117) #[] #[.pointer (some ⟨bb, 0, none⟩)], .func (.func 119) #[] #[.pointer (some ⟨bb, 0, none⟩)], .func (.func 120) #[] #[.pointer (some ⟨bb, 0, none⟩)], .func (.func 121) #[] #[.pointer (some ⟨bb, 0, none⟩)]]
  rw [show (w.alloc (.cells #[.int .i64 t.k, .int .i64 t.n, .string t.s, .slice A t.l.length c] 25)).heap.size = w.heap.size + 1 from by simp] at this
  exact this
 have ly0 := hY0.lt
 have hlc := hc.len.1
 have hlm := hc.len.2.1
 have Hc := Lib.hid (hc.stay hB0 (Nat.le_refl _)); clear hc
 have HX0 := Lib.hid hX0; clear hX0
 have HY0 := Lib.hid hY0; clear hY0
 have Hbb := Lib.hid (hbb.below hB0 hbb.lt); clear hbb
 have HB0 := Lib.hid hB0; clear hB0
 have HW := Lib.hid hW0; clear hW0
 have d1 : decide (d < 1) = false := decide_eq_false (by omega)
 have d2 : decide (L < 1) = false := decide_eq_false (by omega)
 have hsp := Tm.okB_eq t
 obtain ⟨r, hr⟩ : ∃ r, r = nodeB t := ⟨_, rfl⟩
 rw [← hr] at hsp
 have Hsp := Lib.hid hsp; clear hsp
 obtain ⟨cf1, cf2, cf3, cf4, cf5, cf6⟩ := cfs
 have HWj := HW.out
 rw [hk] at HWj
 have hcall := f115_calls t P bb W0.drew (.agg #[.int .i64 1, .int .i64 t.n, .string t.s, .slice A t.l.length c]) ⟨A, c, by rw [hk], hs, Hc.out.kept (fun _ _ _ => rfl)⟩ (show Blk W0.drew _ _ _ from Hbb.out)
 rw [show ((bareB t true false false && decide (0 ≤ t.n)) && decide (t.n < 100000)) = r from by rw [hr]; unfold nodeB; rw [if_pos hk]] at hcall
 have Hcall := Lib.hid hcall; clear hcall hr
 obtain ⟨⟨a0, a1, a2, a3⟩, -⟩ := HX0.out.four
 rw [hk] at a0
 have hy := HY0.out.seven
 obtain ⟨y0, y1, y2, y3, y4, y5, y6⟩ := hy
 have d3 : decide ((1 : Int) ≤ 1) = true := by decide
 go_enter Try.func78, Try.ntmps78
 go_wp2_with fail
 rw [← HWj]
 clear HWj
 go_region_held3 (fun W => W.cell? ⟨w.heap.size, 0, none⟩ = some (.int .i64 1) ∧ W.cell? ⟨w.heap.size, 1, none⟩ = some (.int .i64 t.n) ∧ W.cell? ⟨w.heap.size, 2, none⟩ = some (.string t.s) ∧ W.cell? ⟨w.heap.size, 3, none⟩ = some (.slice A t.l.length c) ∧ W.cell? ⟨w.heap.size + 1, 1, none⟩ = some (.func (.func 115) #[] #[.pointer (some ⟨bb, 0, none⟩)]))
  (first
   | exact ⟨a0, a1, a2, a3, y1⟩
   | exact ⟨keep_drew hb a0, keep_drew hb a1, keep_drew hb a2, keep_drew hb a3, keep_drew hb y1⟩)
  ((go_at_call 115; refine Hcall.out.mono ?_; rintro e w1 ⟨rfl, hb⟩))
 have HX1 := Lib.hid (HX0.out.below (((Below.refl _ W0).drew).trans hb) (Nat.lt_of_succ_lt ly0))
 have HY1 := Lib.hid (HY0.out.below (((Below.refl _ W0).drew).trans hb) ly0)
 have HB1 := Lib.hid (((Below.refl _ W0).drew).trans hb); clear hb
 clear a0 a1 a2 a3 y0 y1 y2 y3 y4 y5 y6 Hcall d3
 cases r
 ·have Hr := Lib.hid (show chkV t L d = L + 1 from by rw [chkV, if_neg (by rw [Hsp.out]; simp)])
  go_wp2
  go_ret
  exact ⟨by rw [Hr.out]; rfl, HB0.out.trans (HB1.out.mono HB0.out.size)⟩
 ·have hsp := Hsp.out
  rw [Bool.true_and] at hsp
  have Hok := Lib.hid hsp; clear hsp
  have Hsz := Lib.hid t.size_eq
  have Hdp := Lib.hid t.depth_eq
  obtain ⟨⟨a0, a1, a2, a3⟩, -⟩ := HX1.out.four
  go_wp2
  clear a0 a1 a2 a3
  go_loopw [9, 42] (fun n i wr => ∃ k : Nat, k ≤ t.l.length ∧ i = .int .i64 k ∧ n = .int .i64 ((1 + Tm.sizes (t.l.take k) : Nat) : Int) ∧ ((1 + Tm.sizes (t.l.take k) : Nat) : Int) ≤ L ∧ Tm.okBs (t.l.take k) = true ∧ ((Tm.depths (t.l.take k) : Nat) : Int) ≤ d - 1 ∧ Below W0.heap.size W0 wr) (fun _ i _ => t.l.length - (intOf i).toNat)
  case atStart => exact ⟨0, Nat.zero_le _, rfl, by simp [Tm.sizes], by simp [Tm.sizes]; omega, by simp [Tm.okBs], by simp [Tm.depths]; omega, HB1.out⟩
  case round =>
   obtain ⟨k, hkl, rfl, rfl, hnl, hokk, hdk, hB⟩ := hrel
   have HB := Lib.hid hB; clear hB
   obtain ⟨⟨y0, y1, y2, y3, y4, y5, y6⟩⟩ : _ ∧ True := ⟨(HY0.out.below HB.out ly0).seven, trivial⟩
   have hylt : w.heap.size + 1 < wr.heap.size := Nat.lt_of_lt_of_le ly0 HB.out.size
   have Hokk := Lib.hid hokk; clear hokk
   obtain ⟨sz, hsz'⟩ : ∃ sz, sz = 1 + Tm.sizes (t.l.take k) := ⟨_, rfl⟩
   obtain ⟨dp, hdp'⟩ : ∃ dp, dp = Tm.depths (t.l.take k) := ⟨_, rfl⟩
   rw [← hsz'] at hnl ⊢
   rw [← hdp'] at hdk
   have Hsz' := Lib.hid hsz'; clear hsz'
   have Hdp' := Lib.hid hdp'; clear hdp'
   by_cases hlt : k < t.l.length
   ·obtain ⟨x, hx⟩ : ∃ x, t.l[k]? = some x := ⟨_, List.getElem?_eq_getElem hlt⟩
    obtain ⟨g, off, Ai, ci, rfl, -, ⟨e0, e1, e2, e3⟩, hxs, hxc⟩ := (Hc.out.stay HB.out (Nat.le_refl _)).at_ hx
    have hxm := List.mem_of_getElem? hx
    have Hxz := Lib.hid (Tm.sizes_take hx)
    have Hxd := Lib.hid (Tm.depths_take hx)
    have Hxo := Lib.hid (Tm.okBs_take hx)
    have hxdm := Tm.depth_mem hxm
    have hxsm := Tm.size_mem hxm
    have Hxdm := Lib.hid hxdm; clear hxdm
    have Hxsm := Lib.hid hxsm; clear hxsm
    obtain ⟨q, hq⟩ : ∃ q, q = chkV x (L - sz) (d - 1) := ⟨_, rfl⟩
    have hcall := Ih.out x hxm P (wr.alloc (.cells #[.int .i64 x.k, .int .i64 x.n, .string x.s, .slice Ai x.l.length ci] 25)) _ (L - sz) (d - 1) bb ⟨Ai, ci, rfl, hxs, hxc.stay ((Below.refl _ _).alloc (Nat.le_refl _) _) (Nat.le_refl _)⟩ ((Hbb.out.below HB.out Hbb.out.lt).alloc _) (by omega) (by omega) (by omega) (by omega)
    rw [← hq] at hcall
    unfold FA at hcall
    have Hcall := Lib.hid hcall; clear hcall hxc hx
    have hqb : 0 ≤ q ∧ q ≤ L - sz + 1 := by
     rw [hq, chkV]; split <;> omega
    have hq0 := hqb.1
    have hq1 := hqb.2
    clear hqb
    by_cases hgood : q ≤ L - sz
    ·have hxx : x.okB = true ∧ (x.size : Int) ≤ L - sz ∧ (x.depth : Int) ≤ d - 1 ∧ q = x.size := by
      rw [hq, chkV] at hgood ⊢
      split at hgood
      ·rename_i h; rw [if_pos h]; exact ⟨h.1, h.2.1, h.2.2, rfl⟩
      ·omega
     obtain ⟨hx1, hx2, hx3, hx4⟩ := hxx
     clear hq
     subst hx4
     have Hx1 := Lib.hid hx1; clear hx1
     have hdd : decide (L < (sz : Int) + (x.size : Int)) = false := decide_eq_false (by omega)
     have hdd' : decide (L < ((sz + x.size : Nat) : Int)) = false := decide_eq_false (by omega)
     go_wp2_with fail
     refine Hcall.out.mono ?_
     rintro e w2 ⟨rfl, hb⟩
     have HB2 := Lib.hid (HB.out.trans (((Below.refl _ _).alloc HB.out.size _).trans (hb.mono (Nat.le_trans HB.out.size (by simp))))); clear hb
     go_wp2
     go_roundw
     case rel =>
      repeat apply Exists.intro
      refine ⟨⟨k + 1, ?_, ?_, ?_, ?_, ?_, ?_, ?_⟩, ?_⟩
      rotate_left 7
      ·rfl
      ·omega
      ·go_num
      ·rw [Hxz.out, Hsz'.out]; go_num
      ·rw [Hxz.out]; have := Hsz'.out; omega
      ·rw [Hxo.out, Hokk.out, Hx1.out]; rfl
      ·rw [Hxd.out]; have := Hdp'.out; omega
      ·exact HB2.out
     case measure => simp [intOf]; omega
    ·have hqe : q = L - sz + 1 := by omega
     have Hr := Lib.hid (show chkV t L d = L + 1 from by
      rw [chkV, if_neg]
      rintro ⟨h1, h2, h3⟩
      rw [Hok.out] at h1
      have hxo := Tm.okBs_mem h1 hxm
      have hle := Tm.sizes_le_take t.l (k + 1)
      have e1 := Hxz.out
      have e2 := Hsz.out
      have e3 := Hdp.out
      have e4 := Hsz'.out
      have e5 := Hxdm.out
      rw [chkV, if_pos ⟨hxo, by omega, by omega⟩] at hq
      omega)
     clear hq hgood
     subst hqe
     have hdd : decide (L < (sz : Int) + (L - sz + 1)) = true := decide_eq_true (by omega)
     have hdd' : decide (L < L + 1) = true := decide_eq_true (by omega)
     go_wp2_with fail
     refine Hcall.out.mono ?_
     rintro e w2 ⟨rfl, hb⟩
     have HB2 := Lib.hid (HB.out.trans (((Below.refl _ _).alloc HB.out.size _).trans (hb.mono (Nat.le_trans HB.out.size (by simp))))); clear hb
     go_wp2
     go_ret
     exact ⟨by rw [Hr.out]; rfl, HB0.out.trans (HB2.out.mono HB0.out.size)⟩
   ·have hke : k = t.l.length := by omega
    subst hke
    have Hr := Lib.hid (show chkV t L d = (sz : Int) from by
     have e1 := Hsz'.out
     have e2 := Hdp'.out
     have e3 := Hokk.out
     rw [List.take_length] at e1 e2 e3
     have e4 := Hsz.out
     have e5 := Hdp.out
     rw [chkV, if_pos ⟨by rw [Hok.out]; exact e3, by omega, by omega⟩]
     omega)
    clear y0 y1 y2 y3 y4 y5 y6
    go_wp2
    go_ret
    exact ⟨by rw [Hr.out]; rfl, HB0.out.trans (HB.out.mono HB0.out.size)⟩
set_option maxRecDepth 100000 in
set_option maxHeartbeats 4000000 in
theorem cnt_k2 (t : Tm) (ih : ∀ x ∈ t.l, CntOk x) (P : Nat → Prop) (w : World) (L d : Int) (bb : Nat) (A : Option Addr) (c : Nat) (hs : t.s.size ≤ 9223372036854775807) (hc : TmC P w A c t.l) (hbb : Blk w bb 135 #[FB]) (hL1' : 1 ≤ L) (hL1 : L ≤ 1000000) (hd1' : 1 ≤ d) (hd1 : d ≤ 1000000) (hk : t.k = 2) :
  Calls Try.prog 78 #[.agg #[.int .i64 t.k, .int .i64 t.n, .string t.s, .slice A t.l.length c], .int .i64 L, .int .i64 d, .agg (FA bb)] w (RetN w (chkV t L d)) := by
 have Ih := Lib.hid ih; clear ih
 unfold FA
 obtain ⟨W0, hW0⟩ : ∃ W0, W0 = (w.alloc (.cells #[.int .i64 t.k, .int .i64 t.n, .string t.s, .slice A t.l.length c] 25)).alloc (.cells #[.nilFunc, .func (.func 115) #[] #[.pointer (some ⟨bb, 0, none⟩)], .func (.func 116) #[] #[.pointer (some ⟨bb, 0, none⟩)], .func (.func 117) #[] #[.pointer (some ⟨bb, 0, none⟩)], .func (.func 119) #[] #[.pointer (some ⟨bb, 0, none⟩)], .func (.func 120) #[] #[.pointer (some ⟨bb, 0, none⟩)], .func (.func 121) #[] #[.pointer (some ⟨bb, 0, none⟩)]] 91) := ⟨_, rfl⟩
 have hB0 : Below w.heap.size w W0 := by rw [hW0]; exact ((Below.refl _ _).alloc (Nat.le_refl _) _).alloc (by simp) _
 have hX0 : Blk W0 w.heap.size 25 #[.int .i64 t.k, .int .i64 t.n, .string t.s, .slice A t.l.length c] := by rw [hW0]; exact (Blk.new w 25 _).alloc _
 have hY0 : Blk W0 (w.heap.size + 1) 91 #[.nilFunc, .func (.func 115) #[] #[.pointer (some ⟨bb, 0, none⟩)], .func (.func 116) #[] #[.pointer (some ⟨bb, 0, none⟩)], .func (.func 117) #[] #[.pointer (some ⟨bb, 0, none⟩)], .func (.func 119) #[] #[.pointer (some ⟨bb, 0, none⟩)], .func (.func 120) #[] #[.pointer (some ⟨bb, 0, none⟩)], .func (.func 121) #[] #[.pointer (some ⟨bb, 0, none⟩)]] := by
  rw [hW0]
  have := Blk.new (w.alloc (.cells #[.int .i64 t.k, .int .i64 t.n, .string t.s, .slice A t.l.length c] 25)) 91 #[.nilFunc, .func (.func 115) #[] #[.pointer (some ⟨bb, 0, none⟩)], .func (.func 116) #[] #[.pointer (some ⟨bb, 0, none⟩)], .func (.func 117) #[] #[.pointer (some ⟨bb, 0, none⟩)], .func (.func 119) #[] #[.pointer (some ⟨bb, 0, none⟩)], .func (.func 120) #[] #[.pointer (some ⟨bb, 0, none⟩)], .func (.func 121) #[] #[.pointer (some ⟨bb, 0, none⟩)]]
  rw [show (w.alloc (.cells #[.int .i64 t.k, .int .i64 t.n, .string t.s, .slice A t.l.length c] 25)).heap.size = w.heap.size + 1 from by simp] at this
  exact this
 have ly0 := hY0.lt
 have hlc := hc.len.1
 have hlm := hc.len.2.1
 have Hc := Lib.hid (hc.stay hB0 (Nat.le_refl _)); clear hc
 have HX0 := Lib.hid hX0; clear hX0
 have HY0 := Lib.hid hY0; clear hY0
 have Hbb := Lib.hid (hbb.below hB0 hbb.lt); clear hbb
 have HB0 := Lib.hid hB0; clear hB0
 have HW := Lib.hid hW0; clear hW0
 have d1 : decide (d < 1) = false := decide_eq_false (by omega)
 have d2 : decide (L < 1) = false := decide_eq_false (by omega)
 have hsp := Tm.okB_eq t
 obtain ⟨r, hr⟩ : ∃ r, r = nodeB t := ⟨_, rfl⟩
 rw [← hr] at hsp
 have Hsp := Lib.hid hsp; clear hsp
 obtain ⟨cf1, cf2, cf3, cf4, cf5, cf6⟩ := cfs
 have HWj := HW.out
 rw [hk] at HWj
 have hcall := f116_calls t P bb W0.drew (.agg #[.int .i64 2, .int .i64 t.n, .string t.s, .slice A t.l.length c]) ⟨A, c, by rw [hk], hs, Hc.out.kept (fun _ _ _ => rfl)⟩ (show Blk W0.drew _ _ _ from Hbb.out)
 rw [show ((bareB t true false false && decide (-2147483647 ≤ t.n)) && decide (t.n ≤ 2147483647)) = r from by rw [hr]; unfold nodeB; rw [if_neg (by omega), if_pos hk]] at hcall
 have Hcall := Lib.hid hcall; clear hcall hr
 obtain ⟨⟨a0, a1, a2, a3⟩, -⟩ := HX0.out.four
 rw [hk] at a0
 have hy := HY0.out.seven
 obtain ⟨y0, y1, y2, y3, y4, y5, y6⟩ := hy
 have d3 : decide ((1 : Int) ≤ 2) = true := by decide
 go_enter Try.func78, Try.ntmps78
 go_wp2_with fail
 rw [← HWj]
 clear HWj
 go_region_held3 (fun W => W.cell? ⟨w.heap.size, 0, none⟩ = some (.int .i64 2) ∧ W.cell? ⟨w.heap.size, 1, none⟩ = some (.int .i64 t.n) ∧ W.cell? ⟨w.heap.size, 2, none⟩ = some (.string t.s) ∧ W.cell? ⟨w.heap.size, 3, none⟩ = some (.slice A t.l.length c) ∧ W.cell? ⟨w.heap.size + 1, 2, none⟩ = some (.func (.func 116) #[] #[.pointer (some ⟨bb, 0, none⟩)]))
  (first
   | exact ⟨a0, a1, a2, a3, y2⟩
   | exact ⟨keep_drew hb a0, keep_drew hb a1, keep_drew hb a2, keep_drew hb a3, keep_drew hb y2⟩)
  ((go_at_call 116; refine Hcall.out.mono ?_; rintro e w1 ⟨rfl, hb⟩))
 have HX1 := Lib.hid (HX0.out.below (((Below.refl _ W0).drew).trans hb) (Nat.lt_of_succ_lt ly0))
 have HY1 := Lib.hid (HY0.out.below (((Below.refl _ W0).drew).trans hb) ly0)
 have HB1 := Lib.hid (((Below.refl _ W0).drew).trans hb); clear hb
 clear a0 a1 a2 a3 y0 y1 y2 y3 y4 y5 y6 Hcall d3
 cases r
 ·have Hr := Lib.hid (show chkV t L d = L + 1 from by rw [chkV, if_neg (by rw [Hsp.out]; simp)])
  go_wp2
  go_ret
  exact ⟨by rw [Hr.out]; rfl, HB0.out.trans (HB1.out.mono HB0.out.size)⟩
 ·have hsp := Hsp.out
  rw [Bool.true_and] at hsp
  have Hok := Lib.hid hsp; clear hsp
  have Hsz := Lib.hid t.size_eq
  have Hdp := Lib.hid t.depth_eq
  obtain ⟨⟨a0, a1, a2, a3⟩, -⟩ := HX1.out.four
  go_wp2
  clear a0 a1 a2 a3
  go_loopw [9, 42] (fun n i wr => ∃ k : Nat, k ≤ t.l.length ∧ i = .int .i64 k ∧ n = .int .i64 ((1 + Tm.sizes (t.l.take k) : Nat) : Int) ∧ ((1 + Tm.sizes (t.l.take k) : Nat) : Int) ≤ L ∧ Tm.okBs (t.l.take k) = true ∧ ((Tm.depths (t.l.take k) : Nat) : Int) ≤ d - 1 ∧ Below W0.heap.size W0 wr) (fun _ i _ => t.l.length - (intOf i).toNat)
  case atStart => exact ⟨0, Nat.zero_le _, rfl, by simp [Tm.sizes], by simp [Tm.sizes]; omega, by simp [Tm.okBs], by simp [Tm.depths]; omega, HB1.out⟩
  case round =>
   obtain ⟨k, hkl, rfl, rfl, hnl, hokk, hdk, hB⟩ := hrel
   have HB := Lib.hid hB; clear hB
   obtain ⟨⟨y0, y1, y2, y3, y4, y5, y6⟩⟩ : _ ∧ True := ⟨(HY0.out.below HB.out ly0).seven, trivial⟩
   have hylt : w.heap.size + 1 < wr.heap.size := Nat.lt_of_lt_of_le ly0 HB.out.size
   have Hokk := Lib.hid hokk; clear hokk
   obtain ⟨sz, hsz'⟩ : ∃ sz, sz = 1 + Tm.sizes (t.l.take k) := ⟨_, rfl⟩
   obtain ⟨dp, hdp'⟩ : ∃ dp, dp = Tm.depths (t.l.take k) := ⟨_, rfl⟩
   rw [← hsz'] at hnl ⊢
   rw [← hdp'] at hdk
   have Hsz' := Lib.hid hsz'; clear hsz'
   have Hdp' := Lib.hid hdp'; clear hdp'
   by_cases hlt : k < t.l.length
   ·obtain ⟨x, hx⟩ : ∃ x, t.l[k]? = some x := ⟨_, List.getElem?_eq_getElem hlt⟩
    obtain ⟨g, off, Ai, ci, rfl, -, ⟨e0, e1, e2, e3⟩, hxs, hxc⟩ := (Hc.out.stay HB.out (Nat.le_refl _)).at_ hx
    have hxm := List.mem_of_getElem? hx
    have Hxz := Lib.hid (Tm.sizes_take hx)
    have Hxd := Lib.hid (Tm.depths_take hx)
    have Hxo := Lib.hid (Tm.okBs_take hx)
    have hxdm := Tm.depth_mem hxm
    have hxsm := Tm.size_mem hxm
    have Hxdm := Lib.hid hxdm; clear hxdm
    have Hxsm := Lib.hid hxsm; clear hxsm
    obtain ⟨q, hq⟩ : ∃ q, q = chkV x (L - sz) (d - 1) := ⟨_, rfl⟩
    have hcall := Ih.out x hxm P (wr.alloc (.cells #[.int .i64 x.k, .int .i64 x.n, .string x.s, .slice Ai x.l.length ci] 25)) _ (L - sz) (d - 1) bb ⟨Ai, ci, rfl, hxs, hxc.stay ((Below.refl _ _).alloc (Nat.le_refl _) _) (Nat.le_refl _)⟩ ((Hbb.out.below HB.out Hbb.out.lt).alloc _) (by omega) (by omega) (by omega) (by omega)
    rw [← hq] at hcall
    unfold FA at hcall
    have Hcall := Lib.hid hcall; clear hcall hxc hx
    have hqb : 0 ≤ q ∧ q ≤ L - sz + 1 := by
     rw [hq, chkV]; split <;> omega
    have hq0 := hqb.1
    have hq1 := hqb.2
    clear hqb
    by_cases hgood : q ≤ L - sz
    ·have hxx : x.okB = true ∧ (x.size : Int) ≤ L - sz ∧ (x.depth : Int) ≤ d - 1 ∧ q = x.size := by
      rw [hq, chkV] at hgood ⊢
      split at hgood
      ·rename_i h; rw [if_pos h]; exact ⟨h.1, h.2.1, h.2.2, rfl⟩
      ·omega
     obtain ⟨hx1, hx2, hx3, hx4⟩ := hxx
     clear hq
     subst hx4
     have Hx1 := Lib.hid hx1; clear hx1
     have hdd : decide (L < (sz : Int) + (x.size : Int)) = false := decide_eq_false (by omega)
     have hdd' : decide (L < ((sz + x.size : Nat) : Int)) = false := decide_eq_false (by omega)
     go_wp2_with fail
     refine Hcall.out.mono ?_
     rintro e w2 ⟨rfl, hb⟩
     have HB2 := Lib.hid (HB.out.trans (((Below.refl _ _).alloc HB.out.size _).trans (hb.mono (Nat.le_trans HB.out.size (by simp))))); clear hb
     go_wp2
     go_roundw
     case rel =>
      repeat apply Exists.intro
      refine ⟨⟨k + 1, ?_, ?_, ?_, ?_, ?_, ?_, ?_⟩, ?_⟩
      rotate_left 7
      ·rfl
      ·omega
      ·go_num
      ·rw [Hxz.out, Hsz'.out]; go_num
      ·rw [Hxz.out]; have := Hsz'.out; omega
      ·rw [Hxo.out, Hokk.out, Hx1.out]; rfl
      ·rw [Hxd.out]; have := Hdp'.out; omega
      ·exact HB2.out
     case measure => simp [intOf]; omega
    ·have hqe : q = L - sz + 1 := by omega
     have Hr := Lib.hid (show chkV t L d = L + 1 from by
      rw [chkV, if_neg]
      rintro ⟨h1, h2, h3⟩
      rw [Hok.out] at h1
      have hxo := Tm.okBs_mem h1 hxm
      have hle := Tm.sizes_le_take t.l (k + 1)
      have e1 := Hxz.out
      have e2 := Hsz.out
      have e3 := Hdp.out
      have e4 := Hsz'.out
      have e5 := Hxdm.out
      rw [chkV, if_pos ⟨hxo, by omega, by omega⟩] at hq
      omega)
     clear hq hgood
     subst hqe
     have hdd : decide (L < (sz : Int) + (L - sz + 1)) = true := decide_eq_true (by omega)
     have hdd' : decide (L < L + 1) = true := decide_eq_true (by omega)
     go_wp2_with fail
     refine Hcall.out.mono ?_
     rintro e w2 ⟨rfl, hb⟩
     have HB2 := Lib.hid (HB.out.trans (((Below.refl _ _).alloc HB.out.size _).trans (hb.mono (Nat.le_trans HB.out.size (by simp))))); clear hb
     go_wp2
     go_ret
     exact ⟨by rw [Hr.out]; rfl, HB0.out.trans (HB2.out.mono HB0.out.size)⟩
   ·have hke : k = t.l.length := by omega
    subst hke
    have Hr := Lib.hid (show chkV t L d = (sz : Int) from by
     have e1 := Hsz'.out
     have e2 := Hdp'.out
     have e3 := Hokk.out
     rw [List.take_length] at e1 e2 e3
     have e4 := Hsz.out
     have e5 := Hdp.out
     rw [chkV, if_pos ⟨by rw [Hok.out]; exact e3, by omega, by omega⟩]
     omega)
    clear y0 y1 y2 y3 y4 y5 y6
    go_wp2
    go_ret
    exact ⟨by rw [Hr.out]; rfl, HB0.out.trans (HB.out.mono HB0.out.size)⟩
set_option maxRecDepth 100000 in
set_option maxHeartbeats 4000000 in
theorem cnt_k3 (t : Tm) (ih : ∀ x ∈ t.l, CntOk x) (P : Nat → Prop) (w : World) (L d : Int) (bb : Nat) (A : Option Addr) (c : Nat) (hs : t.s.size ≤ 9223372036854775807) (hc : TmC P w A c t.l) (hbb : Blk w bb 135 #[FB]) (hL1' : 1 ≤ L) (hL1 : L ≤ 1000000) (hd1' : 1 ≤ d) (hd1 : d ≤ 1000000) (hk : t.k = 3) :
  Calls Try.prog 78 #[.agg #[.int .i64 t.k, .int .i64 t.n, .string t.s, .slice A t.l.length c], .int .i64 L, .int .i64 d, .agg (FA bb)] w (RetN w (chkV t L d)) := by
 have Ih := Lib.hid ih; clear ih
 unfold FA
 obtain ⟨W0, hW0⟩ : ∃ W0, W0 = (w.alloc (.cells #[.int .i64 t.k, .int .i64 t.n, .string t.s, .slice A t.l.length c] 25)).alloc (.cells #[.nilFunc, .func (.func 115) #[] #[.pointer (some ⟨bb, 0, none⟩)], .func (.func 116) #[] #[.pointer (some ⟨bb, 0, none⟩)], .func (.func 117) #[] #[.pointer (some ⟨bb, 0, none⟩)], .func (.func 119) #[] #[.pointer (some ⟨bb, 0, none⟩)], .func (.func 120) #[] #[.pointer (some ⟨bb, 0, none⟩)], .func (.func 121) #[] #[.pointer (some ⟨bb, 0, none⟩)]] 91) := ⟨_, rfl⟩
 have hB0 : Below w.heap.size w W0 := by rw [hW0]; exact ((Below.refl _ _).alloc (Nat.le_refl _) _).alloc (by simp) _
 have hX0 : Blk W0 w.heap.size 25 #[.int .i64 t.k, .int .i64 t.n, .string t.s, .slice A t.l.length c] := by rw [hW0]; exact (Blk.new w 25 _).alloc _
 have hY0 : Blk W0 (w.heap.size + 1) 91 #[.nilFunc, .func (.func 115) #[] #[.pointer (some ⟨bb, 0, none⟩)], .func (.func 116) #[] #[.pointer (some ⟨bb, 0, none⟩)], .func (.func 117) #[] #[.pointer (some ⟨bb, 0, none⟩)], .func (.func 119) #[] #[.pointer (some ⟨bb, 0, none⟩)], .func (.func 120) #[] #[.pointer (some ⟨bb, 0, none⟩)], .func (.func 121) #[] #[.pointer (some ⟨bb, 0, none⟩)]] := by
  rw [hW0]
  have := Blk.new (w.alloc (.cells #[.int .i64 t.k, .int .i64 t.n, .string t.s, .slice A t.l.length c] 25)) 91 #[.nilFunc, .func (.func 115) #[] #[.pointer (some ⟨bb, 0, none⟩)], .func (.func 116) #[] #[.pointer (some ⟨bb, 0, none⟩)], .func (.func 117) #[] #[.pointer (some ⟨bb, 0, none⟩)], .func (.func 119) #[] #[.pointer (some ⟨bb, 0, none⟩)], .func (.func 120) #[] #[.pointer (some ⟨bb, 0, none⟩)], .func (.func 121) #[] #[.pointer (some ⟨bb, 0, none⟩)]]
  rw [show (w.alloc (.cells #[.int .i64 t.k, .int .i64 t.n, .string t.s, .slice A t.l.length c] 25)).heap.size = w.heap.size + 1 from by simp] at this
  exact this
 have ly0 := hY0.lt
 have hlc := hc.len.1
 have hlm := hc.len.2.1
 have Hc := Lib.hid (hc.stay hB0 (Nat.le_refl _)); clear hc
 have HX0 := Lib.hid hX0; clear hX0
 have HY0 := Lib.hid hY0; clear hY0
 have Hbb := Lib.hid (hbb.below hB0 hbb.lt); clear hbb
 have HB0 := Lib.hid hB0; clear hB0
 have HW := Lib.hid hW0; clear hW0
 have d1 : decide (d < 1) = false := decide_eq_false (by omega)
 have d2 : decide (L < 1) = false := decide_eq_false (by omega)
 have hsp := Tm.okB_eq t
 obtain ⟨r, hr⟩ : ∃ r, r = nodeB t := ⟨_, rfl⟩
 rw [← hr] at hsp
 have Hsp := Lib.hid hsp; clear hsp
 obtain ⟨cf1, cf2, cf3, cf4, cf5, cf6⟩ := cfs
 have HWj := HW.out
 rw [hk] at HWj
 have hcall := f117_calls t P bb W0.drew (.agg #[.int .i64 3, .int .i64 t.n, .string t.s, .slice A t.l.length c]) ⟨A, c, by rw [hk], hs, Hc.out.kept (fun _ _ _ => rfl)⟩ (show Blk W0.drew _ _ _ from Hbb.out)
 rw [show (bareB t false true false && nameB t.s) = r from by rw [hr]; unfold nodeB; rw [if_neg (by omega), if_neg (by omega), if_pos hk]] at hcall
 have Hcall := Lib.hid hcall; clear hcall hr
 obtain ⟨⟨a0, a1, a2, a3⟩, -⟩ := HX0.out.four
 rw [hk] at a0
 have hy := HY0.out.seven
 obtain ⟨y0, y1, y2, y3, y4, y5, y6⟩ := hy
 have d3 : decide ((1 : Int) ≤ 3) = true := by decide
 go_enter Try.func78, Try.ntmps78
 go_wp2_with fail
 rw [← HWj]
 clear HWj
 go_region_held3 (fun W => W.cell? ⟨w.heap.size, 0, none⟩ = some (.int .i64 3) ∧ W.cell? ⟨w.heap.size, 1, none⟩ = some (.int .i64 t.n) ∧ W.cell? ⟨w.heap.size, 2, none⟩ = some (.string t.s) ∧ W.cell? ⟨w.heap.size, 3, none⟩ = some (.slice A t.l.length c) ∧ W.cell? ⟨w.heap.size + 1, 3, none⟩ = some (.func (.func 117) #[] #[.pointer (some ⟨bb, 0, none⟩)]))
  (first
   | exact ⟨a0, a1, a2, a3, y3⟩
   | exact ⟨keep_drew hb a0, keep_drew hb a1, keep_drew hb a2, keep_drew hb a3, keep_drew hb y3⟩)
  ((go_at_call 117; refine Hcall.out.mono ?_; rintro e w1 ⟨rfl, hb⟩))
 have HX1 := Lib.hid (HX0.out.below (((Below.refl _ W0).drew).trans hb) (Nat.lt_of_succ_lt ly0))
 have HY1 := Lib.hid (HY0.out.below (((Below.refl _ W0).drew).trans hb) ly0)
 have HB1 := Lib.hid (((Below.refl _ W0).drew).trans hb); clear hb
 clear a0 a1 a2 a3 y0 y1 y2 y3 y4 y5 y6 Hcall d3
 cases r
 ·have Hr := Lib.hid (show chkV t L d = L + 1 from by rw [chkV, if_neg (by rw [Hsp.out]; simp)])
  go_wp2
  go_ret
  exact ⟨by rw [Hr.out]; rfl, HB0.out.trans (HB1.out.mono HB0.out.size)⟩
 ·have hsp := Hsp.out
  rw [Bool.true_and] at hsp
  have Hok := Lib.hid hsp; clear hsp
  have Hsz := Lib.hid t.size_eq
  have Hdp := Lib.hid t.depth_eq
  obtain ⟨⟨a0, a1, a2, a3⟩, -⟩ := HX1.out.four
  go_wp2
  clear a0 a1 a2 a3
  go_loopw [9, 42] (fun n i wr => ∃ k : Nat, k ≤ t.l.length ∧ i = .int .i64 k ∧ n = .int .i64 ((1 + Tm.sizes (t.l.take k) : Nat) : Int) ∧ ((1 + Tm.sizes (t.l.take k) : Nat) : Int) ≤ L ∧ Tm.okBs (t.l.take k) = true ∧ ((Tm.depths (t.l.take k) : Nat) : Int) ≤ d - 1 ∧ Below W0.heap.size W0 wr) (fun _ i _ => t.l.length - (intOf i).toNat)
  case atStart => exact ⟨0, Nat.zero_le _, rfl, by simp [Tm.sizes], by simp [Tm.sizes]; omega, by simp [Tm.okBs], by simp [Tm.depths]; omega, HB1.out⟩
  case round =>
   obtain ⟨k, hkl, rfl, rfl, hnl, hokk, hdk, hB⟩ := hrel
   have HB := Lib.hid hB; clear hB
   obtain ⟨⟨y0, y1, y2, y3, y4, y5, y6⟩⟩ : _ ∧ True := ⟨(HY0.out.below HB.out ly0).seven, trivial⟩
   have hylt : w.heap.size + 1 < wr.heap.size := Nat.lt_of_lt_of_le ly0 HB.out.size
   have Hokk := Lib.hid hokk; clear hokk
   obtain ⟨sz, hsz'⟩ : ∃ sz, sz = 1 + Tm.sizes (t.l.take k) := ⟨_, rfl⟩
   obtain ⟨dp, hdp'⟩ : ∃ dp, dp = Tm.depths (t.l.take k) := ⟨_, rfl⟩
   rw [← hsz'] at hnl ⊢
   rw [← hdp'] at hdk
   have Hsz' := Lib.hid hsz'; clear hsz'
   have Hdp' := Lib.hid hdp'; clear hdp'
   by_cases hlt : k < t.l.length
   ·obtain ⟨x, hx⟩ : ∃ x, t.l[k]? = some x := ⟨_, List.getElem?_eq_getElem hlt⟩
    obtain ⟨g, off, Ai, ci, rfl, -, ⟨e0, e1, e2, e3⟩, hxs, hxc⟩ := (Hc.out.stay HB.out (Nat.le_refl _)).at_ hx
    have hxm := List.mem_of_getElem? hx
    have Hxz := Lib.hid (Tm.sizes_take hx)
    have Hxd := Lib.hid (Tm.depths_take hx)
    have Hxo := Lib.hid (Tm.okBs_take hx)
    have hxdm := Tm.depth_mem hxm
    have hxsm := Tm.size_mem hxm
    have Hxdm := Lib.hid hxdm; clear hxdm
    have Hxsm := Lib.hid hxsm; clear hxsm
    obtain ⟨q, hq⟩ : ∃ q, q = chkV x (L - sz) (d - 1) := ⟨_, rfl⟩
    have hcall := Ih.out x hxm P (wr.alloc (.cells #[.int .i64 x.k, .int .i64 x.n, .string x.s, .slice Ai x.l.length ci] 25)) _ (L - sz) (d - 1) bb ⟨Ai, ci, rfl, hxs, hxc.stay ((Below.refl _ _).alloc (Nat.le_refl _) _) (Nat.le_refl _)⟩ ((Hbb.out.below HB.out Hbb.out.lt).alloc _) (by omega) (by omega) (by omega) (by omega)
    rw [← hq] at hcall
    unfold FA at hcall
    have Hcall := Lib.hid hcall; clear hcall hxc hx
    have hqb : 0 ≤ q ∧ q ≤ L - sz + 1 := by
     rw [hq, chkV]; split <;> omega
    have hq0 := hqb.1
    have hq1 := hqb.2
    clear hqb
    by_cases hgood : q ≤ L - sz
    ·have hxx : x.okB = true ∧ (x.size : Int) ≤ L - sz ∧ (x.depth : Int) ≤ d - 1 ∧ q = x.size := by
      rw [hq, chkV] at hgood ⊢
      split at hgood
      ·rename_i h; rw [if_pos h]; exact ⟨h.1, h.2.1, h.2.2, rfl⟩
      ·omega
     obtain ⟨hx1, hx2, hx3, hx4⟩ := hxx
     clear hq
     subst hx4
     have Hx1 := Lib.hid hx1; clear hx1
     have hdd : decide (L < (sz : Int) + (x.size : Int)) = false := decide_eq_false (by omega)
     have hdd' : decide (L < ((sz + x.size : Nat) : Int)) = false := decide_eq_false (by omega)
     go_wp2_with fail
     refine Hcall.out.mono ?_
     rintro e w2 ⟨rfl, hb⟩
     have HB2 := Lib.hid (HB.out.trans (((Below.refl _ _).alloc HB.out.size _).trans (hb.mono (Nat.le_trans HB.out.size (by simp))))); clear hb
     go_wp2
     go_roundw
     case rel =>
      repeat apply Exists.intro
      refine ⟨⟨k + 1, ?_, ?_, ?_, ?_, ?_, ?_, ?_⟩, ?_⟩
      rotate_left 7
      ·rfl
      ·omega
      ·go_num
      ·rw [Hxz.out, Hsz'.out]; go_num
      ·rw [Hxz.out]; have := Hsz'.out; omega
      ·rw [Hxo.out, Hokk.out, Hx1.out]; rfl
      ·rw [Hxd.out]; have := Hdp'.out; omega
      ·exact HB2.out
     case measure => simp [intOf]; omega
    ·have hqe : q = L - sz + 1 := by omega
     have Hr := Lib.hid (show chkV t L d = L + 1 from by
      rw [chkV, if_neg]
      rintro ⟨h1, h2, h3⟩
      rw [Hok.out] at h1
      have hxo := Tm.okBs_mem h1 hxm
      have hle := Tm.sizes_le_take t.l (k + 1)
      have e1 := Hxz.out
      have e2 := Hsz.out
      have e3 := Hdp.out
      have e4 := Hsz'.out
      have e5 := Hxdm.out
      rw [chkV, if_pos ⟨hxo, by omega, by omega⟩] at hq
      omega)
     clear hq hgood
     subst hqe
     have hdd : decide (L < (sz : Int) + (L - sz + 1)) = true := decide_eq_true (by omega)
     have hdd' : decide (L < L + 1) = true := decide_eq_true (by omega)
     go_wp2_with fail
     refine Hcall.out.mono ?_
     rintro e w2 ⟨rfl, hb⟩
     have HB2 := Lib.hid (HB.out.trans (((Below.refl _ _).alloc HB.out.size _).trans (hb.mono (Nat.le_trans HB.out.size (by simp))))); clear hb
     go_wp2
     go_ret
     exact ⟨by rw [Hr.out]; rfl, HB0.out.trans (HB2.out.mono HB0.out.size)⟩
   ·have hke : k = t.l.length := by omega
    subst hke
    have Hr := Lib.hid (show chkV t L d = (sz : Int) from by
     have e1 := Hsz'.out
     have e2 := Hdp'.out
     have e3 := Hokk.out
     rw [List.take_length] at e1 e2 e3
     have e4 := Hsz.out
     have e5 := Hdp.out
     rw [chkV, if_pos ⟨by rw [Hok.out]; exact e3, by omega, by omega⟩]
     omega)
    clear y0 y1 y2 y3 y4 y5 y6
    go_wp2
    go_ret
    exact ⟨by rw [Hr.out]; rfl, HB0.out.trans (HB.out.mono HB0.out.size)⟩
set_option maxRecDepth 100000 in
set_option maxHeartbeats 4000000 in
theorem cnt_k4 (t : Tm) (ih : ∀ x ∈ t.l, CntOk x) (P : Nat → Prop) (w : World) (L d : Int) (bb : Nat) (A : Option Addr) (c : Nat) (hs : t.s.size ≤ 9223372036854775807) (hc : TmC P w A c t.l) (hbb : Blk w bb 135 #[FB]) (hL1' : 1 ≤ L) (hL1 : L ≤ 1000000) (hd1' : 1 ≤ d) (hd1 : d ≤ 1000000) (hk : t.k = 4) :
  Calls Try.prog 78 #[.agg #[.int .i64 t.k, .int .i64 t.n, .string t.s, .slice A t.l.length c], .int .i64 L, .int .i64 d, .agg (FA bb)] w (RetN w (chkV t L d)) := by
 have Ih := Lib.hid ih; clear ih
 unfold FA
 obtain ⟨W0, hW0⟩ : ∃ W0, W0 = (w.alloc (.cells #[.int .i64 t.k, .int .i64 t.n, .string t.s, .slice A t.l.length c] 25)).alloc (.cells #[.nilFunc, .func (.func 115) #[] #[.pointer (some ⟨bb, 0, none⟩)], .func (.func 116) #[] #[.pointer (some ⟨bb, 0, none⟩)], .func (.func 117) #[] #[.pointer (some ⟨bb, 0, none⟩)], .func (.func 119) #[] #[.pointer (some ⟨bb, 0, none⟩)], .func (.func 120) #[] #[.pointer (some ⟨bb, 0, none⟩)], .func (.func 121) #[] #[.pointer (some ⟨bb, 0, none⟩)]] 91) := ⟨_, rfl⟩
 have hB0 : Below w.heap.size w W0 := by rw [hW0]; exact ((Below.refl _ _).alloc (Nat.le_refl _) _).alloc (by simp) _
 have hX0 : Blk W0 w.heap.size 25 #[.int .i64 t.k, .int .i64 t.n, .string t.s, .slice A t.l.length c] := by rw [hW0]; exact (Blk.new w 25 _).alloc _
 have hY0 : Blk W0 (w.heap.size + 1) 91 #[.nilFunc, .func (.func 115) #[] #[.pointer (some ⟨bb, 0, none⟩)], .func (.func 116) #[] #[.pointer (some ⟨bb, 0, none⟩)], .func (.func 117) #[] #[.pointer (some ⟨bb, 0, none⟩)], .func (.func 119) #[] #[.pointer (some ⟨bb, 0, none⟩)], .func (.func 120) #[] #[.pointer (some ⟨bb, 0, none⟩)], .func (.func 121) #[] #[.pointer (some ⟨bb, 0, none⟩)]] := by
  rw [hW0]
  have := Blk.new (w.alloc (.cells #[.int .i64 t.k, .int .i64 t.n, .string t.s, .slice A t.l.length c] 25)) 91 #[.nilFunc, .func (.func 115) #[] #[.pointer (some ⟨bb, 0, none⟩)], .func (.func 116) #[] #[.pointer (some ⟨bb, 0, none⟩)], .func (.func 117) #[] #[.pointer (some ⟨bb, 0, none⟩)], .func (.func 119) #[] #[.pointer (some ⟨bb, 0, none⟩)], .func (.func 120) #[] #[.pointer (some ⟨bb, 0, none⟩)], .func (.func 121) #[] #[.pointer (some ⟨bb, 0, none⟩)]]
  rw [show (w.alloc (.cells #[.int .i64 t.k, .int .i64 t.n, .string t.s, .slice A t.l.length c] 25)).heap.size = w.heap.size + 1 from by simp] at this
  exact this
 have ly0 := hY0.lt
 have hlc := hc.len.1
 have hlm := hc.len.2.1
 have Hc := Lib.hid (hc.stay hB0 (Nat.le_refl _)); clear hc
 have HX0 := Lib.hid hX0; clear hX0
 have HY0 := Lib.hid hY0; clear hY0
 have Hbb := Lib.hid (hbb.below hB0 hbb.lt); clear hbb
 have HB0 := Lib.hid hB0; clear hB0
 have HW := Lib.hid hW0; clear hW0
 have d1 : decide (d < 1) = false := decide_eq_false (by omega)
 have d2 : decide (L < 1) = false := decide_eq_false (by omega)
 have hsp := Tm.okB_eq t
 obtain ⟨r, hr⟩ : ∃ r, r = nodeB t := ⟨_, rfl⟩
 rw [← hr] at hsp
 have Hsp := Lib.hid hsp; clear hsp
 obtain ⟨cf1, cf2, cf3, cf4, cf5, cf6⟩ := cfs
 have HWj := HW.out
 rw [hk] at HWj
 have hcall := f119_calls t P bb W0.drew (.agg #[.int .i64 4, .int .i64 t.n, .string t.s, .slice A t.l.length c]) ⟨A, c, by rw [hk], hs, Hc.out.kept (fun _ _ _ => rfl)⟩ (show Blk W0.drew _ _ _ from Hbb.out)
 rw [show (bareB t false true false && decide (t.s.size ≤ 255)) = r from by rw [hr]; unfold nodeB; rw [if_neg (by omega), if_neg (by omega), if_neg (by omega), if_pos hk]] at hcall
 have Hcall := Lib.hid hcall; clear hcall hr
 obtain ⟨⟨a0, a1, a2, a3⟩, -⟩ := HX0.out.four
 rw [hk] at a0
 have hy := HY0.out.seven
 obtain ⟨y0, y1, y2, y3, y4, y5, y6⟩ := hy
 have d3 : decide ((1 : Int) ≤ 4) = true := by decide
 go_enter Try.func78, Try.ntmps78
 go_wp2_with fail
 rw [← HWj]
 clear HWj
 go_region_held3 (fun W => W.cell? ⟨w.heap.size, 0, none⟩ = some (.int .i64 4) ∧ W.cell? ⟨w.heap.size, 1, none⟩ = some (.int .i64 t.n) ∧ W.cell? ⟨w.heap.size, 2, none⟩ = some (.string t.s) ∧ W.cell? ⟨w.heap.size, 3, none⟩ = some (.slice A t.l.length c) ∧ W.cell? ⟨w.heap.size + 1, 4, none⟩ = some (.func (.func 119) #[] #[.pointer (some ⟨bb, 0, none⟩)]))
  (first
   | exact ⟨a0, a1, a2, a3, y4⟩
   | exact ⟨keep_drew hb a0, keep_drew hb a1, keep_drew hb a2, keep_drew hb a3, keep_drew hb y4⟩)
  ((go_at_call 119; refine Hcall.out.mono ?_; rintro e w1 ⟨rfl, hb⟩))
 have HX1 := Lib.hid (HX0.out.below (((Below.refl _ W0).drew).trans hb) (Nat.lt_of_succ_lt ly0))
 have HY1 := Lib.hid (HY0.out.below (((Below.refl _ W0).drew).trans hb) ly0)
 have HB1 := Lib.hid (((Below.refl _ W0).drew).trans hb); clear hb
 clear a0 a1 a2 a3 y0 y1 y2 y3 y4 y5 y6 Hcall d3
 cases r
 ·have Hr := Lib.hid (show chkV t L d = L + 1 from by rw [chkV, if_neg (by rw [Hsp.out]; simp)])
  go_wp2
  go_ret
  exact ⟨by rw [Hr.out]; rfl, HB0.out.trans (HB1.out.mono HB0.out.size)⟩
 ·have hsp := Hsp.out
  rw [Bool.true_and] at hsp
  have Hok := Lib.hid hsp; clear hsp
  have Hsz := Lib.hid t.size_eq
  have Hdp := Lib.hid t.depth_eq
  obtain ⟨⟨a0, a1, a2, a3⟩, -⟩ := HX1.out.four
  go_wp2
  clear a0 a1 a2 a3
  go_loopw [9, 42] (fun n i wr => ∃ k : Nat, k ≤ t.l.length ∧ i = .int .i64 k ∧ n = .int .i64 ((1 + Tm.sizes (t.l.take k) : Nat) : Int) ∧ ((1 + Tm.sizes (t.l.take k) : Nat) : Int) ≤ L ∧ Tm.okBs (t.l.take k) = true ∧ ((Tm.depths (t.l.take k) : Nat) : Int) ≤ d - 1 ∧ Below W0.heap.size W0 wr) (fun _ i _ => t.l.length - (intOf i).toNat)
  case atStart => exact ⟨0, Nat.zero_le _, rfl, by simp [Tm.sizes], by simp [Tm.sizes]; omega, by simp [Tm.okBs], by simp [Tm.depths]; omega, HB1.out⟩
  case round =>
   obtain ⟨k, hkl, rfl, rfl, hnl, hokk, hdk, hB⟩ := hrel
   have HB := Lib.hid hB; clear hB
   obtain ⟨⟨y0, y1, y2, y3, y4, y5, y6⟩⟩ : _ ∧ True := ⟨(HY0.out.below HB.out ly0).seven, trivial⟩
   have hylt : w.heap.size + 1 < wr.heap.size := Nat.lt_of_lt_of_le ly0 HB.out.size
   have Hokk := Lib.hid hokk; clear hokk
   obtain ⟨sz, hsz'⟩ : ∃ sz, sz = 1 + Tm.sizes (t.l.take k) := ⟨_, rfl⟩
   obtain ⟨dp, hdp'⟩ : ∃ dp, dp = Tm.depths (t.l.take k) := ⟨_, rfl⟩
   rw [← hsz'] at hnl ⊢
   rw [← hdp'] at hdk
   have Hsz' := Lib.hid hsz'; clear hsz'
   have Hdp' := Lib.hid hdp'; clear hdp'
   by_cases hlt : k < t.l.length
   ·obtain ⟨x, hx⟩ : ∃ x, t.l[k]? = some x := ⟨_, List.getElem?_eq_getElem hlt⟩
    obtain ⟨g, off, Ai, ci, rfl, -, ⟨e0, e1, e2, e3⟩, hxs, hxc⟩ := (Hc.out.stay HB.out (Nat.le_refl _)).at_ hx
    have hxm := List.mem_of_getElem? hx
    have Hxz := Lib.hid (Tm.sizes_take hx)
    have Hxd := Lib.hid (Tm.depths_take hx)
    have Hxo := Lib.hid (Tm.okBs_take hx)
    have hxdm := Tm.depth_mem hxm
    have hxsm := Tm.size_mem hxm
    have Hxdm := Lib.hid hxdm; clear hxdm
    have Hxsm := Lib.hid hxsm; clear hxsm
    obtain ⟨q, hq⟩ : ∃ q, q = chkV x (L - sz) (d - 1) := ⟨_, rfl⟩
    have hcall := Ih.out x hxm P (wr.alloc (.cells #[.int .i64 x.k, .int .i64 x.n, .string x.s, .slice Ai x.l.length ci] 25)) _ (L - sz) (d - 1) bb ⟨Ai, ci, rfl, hxs, hxc.stay ((Below.refl _ _).alloc (Nat.le_refl _) _) (Nat.le_refl _)⟩ ((Hbb.out.below HB.out Hbb.out.lt).alloc _) (by omega) (by omega) (by omega) (by omega)
    rw [← hq] at hcall
    unfold FA at hcall
    have Hcall := Lib.hid hcall; clear hcall hxc hx
    have hqb : 0 ≤ q ∧ q ≤ L - sz + 1 := by
     rw [hq, chkV]; split <;> omega
    have hq0 := hqb.1
    have hq1 := hqb.2
    clear hqb
    by_cases hgood : q ≤ L - sz
    ·have hxx : x.okB = true ∧ (x.size : Int) ≤ L - sz ∧ (x.depth : Int) ≤ d - 1 ∧ q = x.size := by
      rw [hq, chkV] at hgood ⊢
      split at hgood
      ·rename_i h; rw [if_pos h]; exact ⟨h.1, h.2.1, h.2.2, rfl⟩
      ·omega
     obtain ⟨hx1, hx2, hx3, hx4⟩ := hxx
     clear hq
     subst hx4
     have Hx1 := Lib.hid hx1; clear hx1
     have hdd : decide (L < (sz : Int) + (x.size : Int)) = false := decide_eq_false (by omega)
     have hdd' : decide (L < ((sz + x.size : Nat) : Int)) = false := decide_eq_false (by omega)
     go_wp2_with fail
     refine Hcall.out.mono ?_
     rintro e w2 ⟨rfl, hb⟩
     have HB2 := Lib.hid (HB.out.trans (((Below.refl _ _).alloc HB.out.size _).trans (hb.mono (Nat.le_trans HB.out.size (by simp))))); clear hb
     go_wp2
     go_roundw
     case rel =>
      repeat apply Exists.intro
      refine ⟨⟨k + 1, ?_, ?_, ?_, ?_, ?_, ?_, ?_⟩, ?_⟩
      rotate_left 7
      ·rfl
      ·omega
      ·go_num
      ·rw [Hxz.out, Hsz'.out]; go_num
      ·rw [Hxz.out]; have := Hsz'.out; omega
      ·rw [Hxo.out, Hokk.out, Hx1.out]; rfl
      ·rw [Hxd.out]; have := Hdp'.out; omega
      ·exact HB2.out
     case measure => simp [intOf]; omega
    ·have hqe : q = L - sz + 1 := by omega
     have Hr := Lib.hid (show chkV t L d = L + 1 from by
      rw [chkV, if_neg]
      rintro ⟨h1, h2, h3⟩
      rw [Hok.out] at h1
      have hxo := Tm.okBs_mem h1 hxm
      have hle := Tm.sizes_le_take t.l (k + 1)
      have e1 := Hxz.out
      have e2 := Hsz.out
      have e3 := Hdp.out
      have e4 := Hsz'.out
      have e5 := Hxdm.out
      rw [chkV, if_pos ⟨hxo, by omega, by omega⟩] at hq
      omega)
     clear hq hgood
     subst hqe
     have hdd : decide (L < (sz : Int) + (L - sz + 1)) = true := decide_eq_true (by omega)
     have hdd' : decide (L < L + 1) = true := decide_eq_true (by omega)
     go_wp2_with fail
     refine Hcall.out.mono ?_
     rintro e w2 ⟨rfl, hb⟩
     have HB2 := Lib.hid (HB.out.trans (((Below.refl _ _).alloc HB.out.size _).trans (hb.mono (Nat.le_trans HB.out.size (by simp))))); clear hb
     go_wp2
     go_ret
     exact ⟨by rw [Hr.out]; rfl, HB0.out.trans (HB2.out.mono HB0.out.size)⟩
   ·have hke : k = t.l.length := by omega
    subst hke
    have Hr := Lib.hid (show chkV t L d = (sz : Int) from by
     have e1 := Hsz'.out
     have e2 := Hdp'.out
     have e3 := Hokk.out
     rw [List.take_length] at e1 e2 e3
     have e4 := Hsz.out
     have e5 := Hdp.out
     rw [chkV, if_pos ⟨by rw [Hok.out]; exact e3, by omega, by omega⟩]
     omega)
    clear y0 y1 y2 y3 y4 y5 y6
    go_wp2
    go_ret
    exact ⟨by rw [Hr.out]; rfl, HB0.out.trans (HB.out.mono HB0.out.size)⟩
set_option maxRecDepth 100000 in
set_option maxHeartbeats 4000000 in
theorem cnt_k5 (t : Tm) (ih : ∀ x ∈ t.l, CntOk x) (P : Nat → Prop) (w : World) (L d : Int) (bb : Nat) (A : Option Addr) (c : Nat) (hs : t.s.size ≤ 9223372036854775807) (hc : TmC P w A c t.l) (hbb : Blk w bb 135 #[FB]) (hL1' : 1 ≤ L) (hL1 : L ≤ 1000000) (hd1' : 1 ≤ d) (hd1 : d ≤ 1000000) (hk : t.k = 5) :
  Calls Try.prog 78 #[.agg #[.int .i64 t.k, .int .i64 t.n, .string t.s, .slice A t.l.length c], .int .i64 L, .int .i64 d, .agg (FA bb)] w (RetN w (chkV t L d)) := by
 have Ih := Lib.hid ih; clear ih
 unfold FA
 obtain ⟨W0, hW0⟩ : ∃ W0, W0 = (w.alloc (.cells #[.int .i64 t.k, .int .i64 t.n, .string t.s, .slice A t.l.length c] 25)).alloc (.cells #[.nilFunc, .func (.func 115) #[] #[.pointer (some ⟨bb, 0, none⟩)], .func (.func 116) #[] #[.pointer (some ⟨bb, 0, none⟩)], .func (.func 117) #[] #[.pointer (some ⟨bb, 0, none⟩)], .func (.func 119) #[] #[.pointer (some ⟨bb, 0, none⟩)], .func (.func 120) #[] #[.pointer (some ⟨bb, 0, none⟩)], .func (.func 121) #[] #[.pointer (some ⟨bb, 0, none⟩)]] 91) := ⟨_, rfl⟩
 have hB0 : Below w.heap.size w W0 := by rw [hW0]; exact ((Below.refl _ _).alloc (Nat.le_refl _) _).alloc (by simp) _
 have hX0 : Blk W0 w.heap.size 25 #[.int .i64 t.k, .int .i64 t.n, .string t.s, .slice A t.l.length c] := by rw [hW0]; exact (Blk.new w 25 _).alloc _
 have hY0 : Blk W0 (w.heap.size + 1) 91 #[.nilFunc, .func (.func 115) #[] #[.pointer (some ⟨bb, 0, none⟩)], .func (.func 116) #[] #[.pointer (some ⟨bb, 0, none⟩)], .func (.func 117) #[] #[.pointer (some ⟨bb, 0, none⟩)], .func (.func 119) #[] #[.pointer (some ⟨bb, 0, none⟩)], .func (.func 120) #[] #[.pointer (some ⟨bb, 0, none⟩)], .func (.func 121) #[] #[.pointer (some ⟨bb, 0, none⟩)]] := by
  rw [hW0]
  have := Blk.new (w.alloc (.cells #[.int .i64 t.k, .int .i64 t.n, .string t.s, .slice A t.l.length c] 25)) 91 #[.nilFunc, .func (.func 115) #[] #[.pointer (some ⟨bb, 0, none⟩)], .func (.func 116) #[] #[.pointer (some ⟨bb, 0, none⟩)], .func (.func 117) #[] #[.pointer (some ⟨bb, 0, none⟩)], .func (.func 119) #[] #[.pointer (some ⟨bb, 0, none⟩)], .func (.func 120) #[] #[.pointer (some ⟨bb, 0, none⟩)], .func (.func 121) #[] #[.pointer (some ⟨bb, 0, none⟩)]]
  rw [show (w.alloc (.cells #[.int .i64 t.k, .int .i64 t.n, .string t.s, .slice A t.l.length c] 25)).heap.size = w.heap.size + 1 from by simp] at this
  exact this
 have ly0 := hY0.lt
 have hlc := hc.len.1
 have hlm := hc.len.2.1
 have Hc := Lib.hid (hc.stay hB0 (Nat.le_refl _)); clear hc
 have HX0 := Lib.hid hX0; clear hX0
 have HY0 := Lib.hid hY0; clear hY0
 have Hbb := Lib.hid (hbb.below hB0 hbb.lt); clear hbb
 have HB0 := Lib.hid hB0; clear hB0
 have HW := Lib.hid hW0; clear hW0
 have d1 : decide (d < 1) = false := decide_eq_false (by omega)
 have d2 : decide (L < 1) = false := decide_eq_false (by omega)
 have hsp := Tm.okB_eq t
 obtain ⟨r, hr⟩ : ∃ r, r = nodeB t := ⟨_, rfl⟩
 rw [← hr] at hsp
 have Hsp := Lib.hid hsp; clear hsp
 obtain ⟨cf1, cf2, cf3, cf4, cf5, cf6⟩ := cfs
 have HWj := HW.out
 rw [hk] at HWj
 have hcall := f120_calls t P bb W0.drew (.agg #[.int .i64 5, .int .i64 t.n, .string t.s, .slice A t.l.length c]) ⟨A, c, by rw [hk], hs, Hc.out.kept (fun _ _ _ => rfl)⟩ (show Blk W0.drew _ _ _ from Hbb.out)
 rw [show (((bareB t false true true && nameB t.s) && decide (1 ≤ t.l.length)) && decide (t.l.length ≤ 16)) = r from by rw [hr]; unfold nodeB; rw [if_neg (by omega), if_neg (by omega), if_neg (by omega), if_neg (by omega), if_pos hk]] at hcall
 have Hcall := Lib.hid hcall; clear hcall hr
 obtain ⟨⟨a0, a1, a2, a3⟩, -⟩ := HX0.out.four
 rw [hk] at a0
 have hy := HY0.out.seven
 obtain ⟨y0, y1, y2, y3, y4, y5, y6⟩ := hy
 have d3 : decide ((1 : Int) ≤ 5) = true := by decide
 go_enter Try.func78, Try.ntmps78
 go_wp2_with fail
 rw [← HWj]
 clear HWj
 go_region_held3 (fun W => W.cell? ⟨w.heap.size, 0, none⟩ = some (.int .i64 5) ∧ W.cell? ⟨w.heap.size, 1, none⟩ = some (.int .i64 t.n) ∧ W.cell? ⟨w.heap.size, 2, none⟩ = some (.string t.s) ∧ W.cell? ⟨w.heap.size, 3, none⟩ = some (.slice A t.l.length c) ∧ W.cell? ⟨w.heap.size + 1, 5, none⟩ = some (.func (.func 120) #[] #[.pointer (some ⟨bb, 0, none⟩)]))
  (first
   | exact ⟨a0, a1, a2, a3, y5⟩
   | exact ⟨keep_drew hb a0, keep_drew hb a1, keep_drew hb a2, keep_drew hb a3, keep_drew hb y5⟩)
  ((go_at_call 120; refine Hcall.out.mono ?_; rintro e w1 ⟨rfl, hb⟩))
 have HX1 := Lib.hid (HX0.out.below (((Below.refl _ W0).drew).trans hb) (Nat.lt_of_succ_lt ly0))
 have HY1 := Lib.hid (HY0.out.below (((Below.refl _ W0).drew).trans hb) ly0)
 have HB1 := Lib.hid (((Below.refl _ W0).drew).trans hb); clear hb
 clear a0 a1 a2 a3 y0 y1 y2 y3 y4 y5 y6 Hcall d3
 cases r
 ·have Hr := Lib.hid (show chkV t L d = L + 1 from by rw [chkV, if_neg (by rw [Hsp.out]; simp)])
  go_wp2
  go_ret
  exact ⟨by rw [Hr.out]; rfl, HB0.out.trans (HB1.out.mono HB0.out.size)⟩
 ·have hsp := Hsp.out
  rw [Bool.true_and] at hsp
  have Hok := Lib.hid hsp; clear hsp
  have Hsz := Lib.hid t.size_eq
  have Hdp := Lib.hid t.depth_eq
  obtain ⟨⟨a0, a1, a2, a3⟩, -⟩ := HX1.out.four
  go_wp2
  clear a0 a1 a2 a3
  go_loopw [9, 42] (fun n i wr => ∃ k : Nat, k ≤ t.l.length ∧ i = .int .i64 k ∧ n = .int .i64 ((1 + Tm.sizes (t.l.take k) : Nat) : Int) ∧ ((1 + Tm.sizes (t.l.take k) : Nat) : Int) ≤ L ∧ Tm.okBs (t.l.take k) = true ∧ ((Tm.depths (t.l.take k) : Nat) : Int) ≤ d - 1 ∧ Below W0.heap.size W0 wr) (fun _ i _ => t.l.length - (intOf i).toNat)
  case atStart => exact ⟨0, Nat.zero_le _, rfl, by simp [Tm.sizes], by simp [Tm.sizes]; omega, by simp [Tm.okBs], by simp [Tm.depths]; omega, HB1.out⟩
  case round =>
   obtain ⟨k, hkl, rfl, rfl, hnl, hokk, hdk, hB⟩ := hrel
   have HB := Lib.hid hB; clear hB
   obtain ⟨⟨y0, y1, y2, y3, y4, y5, y6⟩⟩ : _ ∧ True := ⟨(HY0.out.below HB.out ly0).seven, trivial⟩
   have hylt : w.heap.size + 1 < wr.heap.size := Nat.lt_of_lt_of_le ly0 HB.out.size
   have Hokk := Lib.hid hokk; clear hokk
   obtain ⟨sz, hsz'⟩ : ∃ sz, sz = 1 + Tm.sizes (t.l.take k) := ⟨_, rfl⟩
   obtain ⟨dp, hdp'⟩ : ∃ dp, dp = Tm.depths (t.l.take k) := ⟨_, rfl⟩
   rw [← hsz'] at hnl ⊢
   rw [← hdp'] at hdk
   have Hsz' := Lib.hid hsz'; clear hsz'
   have Hdp' := Lib.hid hdp'; clear hdp'
   by_cases hlt : k < t.l.length
   ·obtain ⟨x, hx⟩ : ∃ x, t.l[k]? = some x := ⟨_, List.getElem?_eq_getElem hlt⟩
    obtain ⟨g, off, Ai, ci, rfl, -, ⟨e0, e1, e2, e3⟩, hxs, hxc⟩ := (Hc.out.stay HB.out (Nat.le_refl _)).at_ hx
    have hxm := List.mem_of_getElem? hx
    have Hxz := Lib.hid (Tm.sizes_take hx)
    have Hxd := Lib.hid (Tm.depths_take hx)
    have Hxo := Lib.hid (Tm.okBs_take hx)
    have hxdm := Tm.depth_mem hxm
    have hxsm := Tm.size_mem hxm
    have Hxdm := Lib.hid hxdm; clear hxdm
    have Hxsm := Lib.hid hxsm; clear hxsm
    obtain ⟨q, hq⟩ : ∃ q, q = chkV x (L - sz) (d - 1) := ⟨_, rfl⟩
    have hcall := Ih.out x hxm P (wr.alloc (.cells #[.int .i64 x.k, .int .i64 x.n, .string x.s, .slice Ai x.l.length ci] 25)) _ (L - sz) (d - 1) bb ⟨Ai, ci, rfl, hxs, hxc.stay ((Below.refl _ _).alloc (Nat.le_refl _) _) (Nat.le_refl _)⟩ ((Hbb.out.below HB.out Hbb.out.lt).alloc _) (by omega) (by omega) (by omega) (by omega)
    rw [← hq] at hcall
    unfold FA at hcall
    have Hcall := Lib.hid hcall; clear hcall hxc hx
    have hqb : 0 ≤ q ∧ q ≤ L - sz + 1 := by
     rw [hq, chkV]; split <;> omega
    have hq0 := hqb.1
    have hq1 := hqb.2
    clear hqb
    by_cases hgood : q ≤ L - sz
    ·have hxx : x.okB = true ∧ (x.size : Int) ≤ L - sz ∧ (x.depth : Int) ≤ d - 1 ∧ q = x.size := by
      rw [hq, chkV] at hgood ⊢
      split at hgood
      ·rename_i h; rw [if_pos h]; exact ⟨h.1, h.2.1, h.2.2, rfl⟩
      ·omega
     obtain ⟨hx1, hx2, hx3, hx4⟩ := hxx
     clear hq
     subst hx4
     have Hx1 := Lib.hid hx1; clear hx1
     have hdd : decide (L < (sz : Int) + (x.size : Int)) = false := decide_eq_false (by omega)
     have hdd' : decide (L < ((sz + x.size : Nat) : Int)) = false := decide_eq_false (by omega)
     go_wp2_with fail
     refine Hcall.out.mono ?_
     rintro e w2 ⟨rfl, hb⟩
     have HB2 := Lib.hid (HB.out.trans (((Below.refl _ _).alloc HB.out.size _).trans (hb.mono (Nat.le_trans HB.out.size (by simp))))); clear hb
     go_wp2
     go_roundw
     case rel =>
      repeat apply Exists.intro
      refine ⟨⟨k + 1, ?_, ?_, ?_, ?_, ?_, ?_, ?_⟩, ?_⟩
      rotate_left 7
      ·rfl
      ·omega
      ·go_num
      ·rw [Hxz.out, Hsz'.out]; go_num
      ·rw [Hxz.out]; have := Hsz'.out; omega
      ·rw [Hxo.out, Hokk.out, Hx1.out]; rfl
      ·rw [Hxd.out]; have := Hdp'.out; omega
      ·exact HB2.out
     case measure => simp [intOf]; omega
    ·have hqe : q = L - sz + 1 := by omega
     have Hr := Lib.hid (show chkV t L d = L + 1 from by
      rw [chkV, if_neg]
      rintro ⟨h1, h2, h3⟩
      rw [Hok.out] at h1
      have hxo := Tm.okBs_mem h1 hxm
      have hle := Tm.sizes_le_take t.l (k + 1)
      have e1 := Hxz.out
      have e2 := Hsz.out
      have e3 := Hdp.out
      have e4 := Hsz'.out
      have e5 := Hxdm.out
      rw [chkV, if_pos ⟨hxo, by omega, by omega⟩] at hq
      omega)
     clear hq hgood
     subst hqe
     have hdd : decide (L < (sz : Int) + (L - sz + 1)) = true := decide_eq_true (by omega)
     have hdd' : decide (L < L + 1) = true := decide_eq_true (by omega)
     go_wp2_with fail
     refine Hcall.out.mono ?_
     rintro e w2 ⟨rfl, hb⟩
     have HB2 := Lib.hid (HB.out.trans (((Below.refl _ _).alloc HB.out.size _).trans (hb.mono (Nat.le_trans HB.out.size (by simp))))); clear hb
     go_wp2
     go_ret
     exact ⟨by rw [Hr.out]; rfl, HB0.out.trans (HB2.out.mono HB0.out.size)⟩
   ·have hke : k = t.l.length := by omega
    subst hke
    have Hr := Lib.hid (show chkV t L d = (sz : Int) from by
     have e1 := Hsz'.out
     have e2 := Hdp'.out
     have e3 := Hokk.out
     rw [List.take_length] at e1 e2 e3
     have e4 := Hsz.out
     have e5 := Hdp.out
     rw [chkV, if_pos ⟨by rw [Hok.out]; exact e3, by omega, by omega⟩]
     omega)
    clear y0 y1 y2 y3 y4 y5 y6
    go_wp2
    go_ret
    exact ⟨by rw [Hr.out]; rfl, HB0.out.trans (HB.out.mono HB0.out.size)⟩
set_option maxRecDepth 100000 in
set_option maxHeartbeats 4000000 in
theorem cnt_k6 (t : Tm) (ih : ∀ x ∈ t.l, CntOk x) (P : Nat → Prop) (w : World) (L d : Int) (bb : Nat) (A : Option Addr) (c : Nat) (hs : t.s.size ≤ 9223372036854775807) (hc : TmC P w A c t.l) (hbb : Blk w bb 135 #[FB]) (hL1' : 1 ≤ L) (hL1 : L ≤ 1000000) (hd1' : 1 ≤ d) (hd1 : d ≤ 1000000) (hk : t.k = 6) :
  Calls Try.prog 78 #[.agg #[.int .i64 t.k, .int .i64 t.n, .string t.s, .slice A t.l.length c], .int .i64 L, .int .i64 d, .agg (FA bb)] w (RetN w (chkV t L d)) := by
 have Ih := Lib.hid ih; clear ih
 unfold FA
 obtain ⟨W0, hW0⟩ : ∃ W0, W0 = (w.alloc (.cells #[.int .i64 t.k, .int .i64 t.n, .string t.s, .slice A t.l.length c] 25)).alloc (.cells #[.nilFunc, .func (.func 115) #[] #[.pointer (some ⟨bb, 0, none⟩)], .func (.func 116) #[] #[.pointer (some ⟨bb, 0, none⟩)], .func (.func 117) #[] #[.pointer (some ⟨bb, 0, none⟩)], .func (.func 119) #[] #[.pointer (some ⟨bb, 0, none⟩)], .func (.func 120) #[] #[.pointer (some ⟨bb, 0, none⟩)], .func (.func 121) #[] #[.pointer (some ⟨bb, 0, none⟩)]] 91) := ⟨_, rfl⟩
 have hB0 : Below w.heap.size w W0 := by rw [hW0]; exact ((Below.refl _ _).alloc (Nat.le_refl _) _).alloc (by simp) _
 have hX0 : Blk W0 w.heap.size 25 #[.int .i64 t.k, .int .i64 t.n, .string t.s, .slice A t.l.length c] := by rw [hW0]; exact (Blk.new w 25 _).alloc _
 have hY0 : Blk W0 (w.heap.size + 1) 91 #[.nilFunc, .func (.func 115) #[] #[.pointer (some ⟨bb, 0, none⟩)], .func (.func 116) #[] #[.pointer (some ⟨bb, 0, none⟩)], .func (.func 117) #[] #[.pointer (some ⟨bb, 0, none⟩)], .func (.func 119) #[] #[.pointer (some ⟨bb, 0, none⟩)], .func (.func 120) #[] #[.pointer (some ⟨bb, 0, none⟩)], .func (.func 121) #[] #[.pointer (some ⟨bb, 0, none⟩)]] := by
  rw [hW0]
  have := Blk.new (w.alloc (.cells #[.int .i64 t.k, .int .i64 t.n, .string t.s, .slice A t.l.length c] 25)) 91 #[.nilFunc, .func (.func 115) #[] #[.pointer (some ⟨bb, 0, none⟩)], .func (.func 116) #[] #[.pointer (some ⟨bb, 0, none⟩)], .func (.func 117) #[] #[.pointer (some ⟨bb, 0, none⟩)], .func (.func 119) #[] #[.pointer (some ⟨bb, 0, none⟩)], .func (.func 120) #[] #[.pointer (some ⟨bb, 0, none⟩)], .func (.func 121) #[] #[.pointer (some ⟨bb, 0, none⟩)]]
  rw [show (w.alloc (.cells #[.int .i64 t.k, .int .i64 t.n, .string t.s, .slice A t.l.length c] 25)).heap.size = w.heap.size + 1 from by simp] at this
  exact this
 have ly0 := hY0.lt
 have hlc := hc.len.1
 have hlm := hc.len.2.1
 have Hc := Lib.hid (hc.stay hB0 (Nat.le_refl _)); clear hc
 have HX0 := Lib.hid hX0; clear hX0
 have HY0 := Lib.hid hY0; clear hY0
 have Hbb := Lib.hid (hbb.below hB0 hbb.lt); clear hbb
 have HB0 := Lib.hid hB0; clear hB0
 have HW := Lib.hid hW0; clear hW0
 have d1 : decide (d < 1) = false := decide_eq_false (by omega)
 have d2 : decide (L < 1) = false := decide_eq_false (by omega)
 have hsp := Tm.okB_eq t
 obtain ⟨r, hr⟩ : ∃ r, r = nodeB t := ⟨_, rfl⟩
 rw [← hr] at hsp
 have Hsp := Lib.hid hsp; clear hsp
 obtain ⟨cf1, cf2, cf3, cf4, cf5, cf6⟩ := cfs
 have HWj := HW.out
 rw [hk] at HWj
 have hcall := f121_calls t P bb W0.drew (.agg #[.int .i64 6, .int .i64 t.n, .string t.s, .slice A t.l.length c]) ⟨A, c, by rw [hk], hs, Hc.out.kept (fun _ _ _ => rfl)⟩ (show Blk W0.drew _ _ _ from Hbb.out)
 rw [show (bareB t false false true && decide (t.l.length ≤ 64)) = r from by rw [hr]; unfold nodeB; rw [if_neg (by omega), if_neg (by omega), if_neg (by omega), if_neg (by omega), if_neg (by omega), if_pos hk]] at hcall
 have Hcall := Lib.hid hcall; clear hcall hr
 obtain ⟨⟨a0, a1, a2, a3⟩, -⟩ := HX0.out.four
 rw [hk] at a0
 have hy := HY0.out.seven
 obtain ⟨y0, y1, y2, y3, y4, y5, y6⟩ := hy
 have d3 : decide ((1 : Int) ≤ 6) = true := by decide
 go_enter Try.func78, Try.ntmps78
 go_wp2_with fail
 rw [← HWj]
 clear HWj
 go_region_held3 (fun W => W.cell? ⟨w.heap.size, 0, none⟩ = some (.int .i64 6) ∧ W.cell? ⟨w.heap.size, 1, none⟩ = some (.int .i64 t.n) ∧ W.cell? ⟨w.heap.size, 2, none⟩ = some (.string t.s) ∧ W.cell? ⟨w.heap.size, 3, none⟩ = some (.slice A t.l.length c) ∧ W.cell? ⟨w.heap.size + 1, 6, none⟩ = some (.func (.func 121) #[] #[.pointer (some ⟨bb, 0, none⟩)]))
  (first
   | exact ⟨a0, a1, a2, a3, y6⟩
   | exact ⟨keep_drew hb a0, keep_drew hb a1, keep_drew hb a2, keep_drew hb a3, keep_drew hb y6⟩)
  ((go_at_call 121; refine Hcall.out.mono ?_; rintro e w1 ⟨rfl, hb⟩))
 have HX1 := Lib.hid (HX0.out.below (((Below.refl _ W0).drew).trans hb) (Nat.lt_of_succ_lt ly0))
 have HY1 := Lib.hid (HY0.out.below (((Below.refl _ W0).drew).trans hb) ly0)
 have HB1 := Lib.hid (((Below.refl _ W0).drew).trans hb); clear hb
 clear a0 a1 a2 a3 y0 y1 y2 y3 y4 y5 y6 Hcall d3
 cases r
 ·have Hr := Lib.hid (show chkV t L d = L + 1 from by rw [chkV, if_neg (by rw [Hsp.out]; simp)])
  go_wp2
  go_ret
  exact ⟨by rw [Hr.out]; rfl, HB0.out.trans (HB1.out.mono HB0.out.size)⟩
 ·have hsp := Hsp.out
  rw [Bool.true_and] at hsp
  have Hok := Lib.hid hsp; clear hsp
  have Hsz := Lib.hid t.size_eq
  have Hdp := Lib.hid t.depth_eq
  obtain ⟨⟨a0, a1, a2, a3⟩, -⟩ := HX1.out.four
  go_wp2
  clear a0 a1 a2 a3
  go_loopw [9, 42] (fun n i wr => ∃ k : Nat, k ≤ t.l.length ∧ i = .int .i64 k ∧ n = .int .i64 ((1 + Tm.sizes (t.l.take k) : Nat) : Int) ∧ ((1 + Tm.sizes (t.l.take k) : Nat) : Int) ≤ L ∧ Tm.okBs (t.l.take k) = true ∧ ((Tm.depths (t.l.take k) : Nat) : Int) ≤ d - 1 ∧ Below W0.heap.size W0 wr) (fun _ i _ => t.l.length - (intOf i).toNat)
  case atStart => exact ⟨0, Nat.zero_le _, rfl, by simp [Tm.sizes], by simp [Tm.sizes]; omega, by simp [Tm.okBs], by simp [Tm.depths]; omega, HB1.out⟩
  case round =>
   obtain ⟨k, hkl, rfl, rfl, hnl, hokk, hdk, hB⟩ := hrel
   have HB := Lib.hid hB; clear hB
   obtain ⟨⟨y0, y1, y2, y3, y4, y5, y6⟩⟩ : _ ∧ True := ⟨(HY0.out.below HB.out ly0).seven, trivial⟩
   have hylt : w.heap.size + 1 < wr.heap.size := Nat.lt_of_lt_of_le ly0 HB.out.size
   have Hokk := Lib.hid hokk; clear hokk
   obtain ⟨sz, hsz'⟩ : ∃ sz, sz = 1 + Tm.sizes (t.l.take k) := ⟨_, rfl⟩
   obtain ⟨dp, hdp'⟩ : ∃ dp, dp = Tm.depths (t.l.take k) := ⟨_, rfl⟩
   rw [← hsz'] at hnl ⊢
   rw [← hdp'] at hdk
   have Hsz' := Lib.hid hsz'; clear hsz'
   have Hdp' := Lib.hid hdp'; clear hdp'
   by_cases hlt : k < t.l.length
   ·obtain ⟨x, hx⟩ : ∃ x, t.l[k]? = some x := ⟨_, List.getElem?_eq_getElem hlt⟩
    obtain ⟨g, off, Ai, ci, rfl, -, ⟨e0, e1, e2, e3⟩, hxs, hxc⟩ := (Hc.out.stay HB.out (Nat.le_refl _)).at_ hx
    have hxm := List.mem_of_getElem? hx
    have Hxz := Lib.hid (Tm.sizes_take hx)
    have Hxd := Lib.hid (Tm.depths_take hx)
    have Hxo := Lib.hid (Tm.okBs_take hx)
    have hxdm := Tm.depth_mem hxm
    have hxsm := Tm.size_mem hxm
    have Hxdm := Lib.hid hxdm; clear hxdm
    have Hxsm := Lib.hid hxsm; clear hxsm
    obtain ⟨q, hq⟩ : ∃ q, q = chkV x (L - sz) (d - 1) := ⟨_, rfl⟩
    have hcall := Ih.out x hxm P (wr.alloc (.cells #[.int .i64 x.k, .int .i64 x.n, .string x.s, .slice Ai x.l.length ci] 25)) _ (L - sz) (d - 1) bb ⟨Ai, ci, rfl, hxs, hxc.stay ((Below.refl _ _).alloc (Nat.le_refl _) _) (Nat.le_refl _)⟩ ((Hbb.out.below HB.out Hbb.out.lt).alloc _) (by omega) (by omega) (by omega) (by omega)
    rw [← hq] at hcall
    unfold FA at hcall
    have Hcall := Lib.hid hcall; clear hcall hxc hx
    have hqb : 0 ≤ q ∧ q ≤ L - sz + 1 := by
     rw [hq, chkV]; split <;> omega
    have hq0 := hqb.1
    have hq1 := hqb.2
    clear hqb
    by_cases hgood : q ≤ L - sz
    ·have hxx : x.okB = true ∧ (x.size : Int) ≤ L - sz ∧ (x.depth : Int) ≤ d - 1 ∧ q = x.size := by
      rw [hq, chkV] at hgood ⊢
      split at hgood
      ·rename_i h; rw [if_pos h]; exact ⟨h.1, h.2.1, h.2.2, rfl⟩
      ·omega
     obtain ⟨hx1, hx2, hx3, hx4⟩ := hxx
     clear hq
     subst hx4
     have Hx1 := Lib.hid hx1; clear hx1
     have hdd : decide (L < (sz : Int) + (x.size : Int)) = false := decide_eq_false (by omega)
     have hdd' : decide (L < ((sz + x.size : Nat) : Int)) = false := decide_eq_false (by omega)
     go_wp2_with fail
     refine Hcall.out.mono ?_
     rintro e w2 ⟨rfl, hb⟩
     have HB2 := Lib.hid (HB.out.trans (((Below.refl _ _).alloc HB.out.size _).trans (hb.mono (Nat.le_trans HB.out.size (by simp))))); clear hb
     go_wp2
     go_roundw
     case rel =>
      repeat apply Exists.intro
      refine ⟨⟨k + 1, ?_, ?_, ?_, ?_, ?_, ?_, ?_⟩, ?_⟩
      rotate_left 7
      ·rfl
      ·omega
      ·go_num
      ·rw [Hxz.out, Hsz'.out]; go_num
      ·rw [Hxz.out]; have := Hsz'.out; omega
      ·rw [Hxo.out, Hokk.out, Hx1.out]; rfl
      ·rw [Hxd.out]; have := Hdp'.out; omega
      ·exact HB2.out
     case measure => simp [intOf]; omega
    ·have hqe : q = L - sz + 1 := by omega
     have Hr := Lib.hid (show chkV t L d = L + 1 from by
      rw [chkV, if_neg]
      rintro ⟨h1, h2, h3⟩
      rw [Hok.out] at h1
      have hxo := Tm.okBs_mem h1 hxm
      have hle := Tm.sizes_le_take t.l (k + 1)
      have e1 := Hxz.out
      have e2 := Hsz.out
      have e3 := Hdp.out
      have e4 := Hsz'.out
      have e5 := Hxdm.out
      rw [chkV, if_pos ⟨hxo, by omega, by omega⟩] at hq
      omega)
     clear hq hgood
     subst hqe
     have hdd : decide (L < (sz : Int) + (L - sz + 1)) = true := decide_eq_true (by omega)
     have hdd' : decide (L < L + 1) = true := decide_eq_true (by omega)
     go_wp2_with fail
     refine Hcall.out.mono ?_
     rintro e w2 ⟨rfl, hb⟩
     have HB2 := Lib.hid (HB.out.trans (((Below.refl _ _).alloc HB.out.size _).trans (hb.mono (Nat.le_trans HB.out.size (by simp))))); clear hb
     go_wp2
     go_ret
     exact ⟨by rw [Hr.out]; rfl, HB0.out.trans (HB2.out.mono HB0.out.size)⟩
   ·have hke : k = t.l.length := by omega
    subst hke
    have Hr := Lib.hid (show chkV t L d = (sz : Int) from by
     have e1 := Hsz'.out
     have e2 := Hdp'.out
     have e3 := Hokk.out
     rw [List.take_length] at e1 e2 e3
     have e4 := Hsz.out
     have e5 := Hdp.out
     rw [chkV, if_pos ⟨by rw [Hok.out]; exact e3, by omega, by omega⟩]
     omega)
    clear y0 y1 y2 y3 y4 y5 y6
    go_wp2
    go_ret
    exact ⟨by rw [Hr.out]; rfl, HB0.out.trans (HB.out.mono HB0.out.size)⟩
set_option maxRecDepth 100000 in
set_option maxHeartbeats 16000000 in
theorem cnt_calls (t : Tm) : ∀ (P : Nat → Prop) (w : World) (v : Value) (L d : Int) (bb : Nat), TmV P w v t → Blk w bb 135 #[FB] → 0 ≤ L → L ≤ 1000000 → 0 ≤ d → d ≤ 1000000 →
  Calls Try.prog 78 #[v, .int .i64 L, .int .i64 d, .agg (FA bb)] w (RetN w (chkV t L d)) := by
 induction t using Tm.ind with
 | h t ih =>
  intro P w v L d bb hv hbb hL0 hL1 hd0 hd1
  obtain ⟨A, c, rfl, hs, hc⟩ := hv
  have Ih := Lib.hid (show ∀ x ∈ t.l, CntOk x from ih); clear ih
  unfold FA
  have Hcw := Lib.hid hc
  have Hbw := Lib.hid hbb
  obtain ⟨W0, hW0⟩ : ∃ W0, W0 = (w.alloc (.cells #[.int .i64 t.k, .int .i64 t.n, .string t.s, .slice A t.l.length c] 25)).alloc (.cells #[.nilFunc, .func (.func 115) #[] #[.pointer (some ⟨bb, 0, none⟩)], .func (.func 116) #[] #[.pointer (some ⟨bb, 0, none⟩)], .func (.func 117) #[] #[.pointer (some ⟨bb, 0, none⟩)], .func (.func 119) #[] #[.pointer (some ⟨bb, 0, none⟩)], .func (.func 120) #[] #[.pointer (some ⟨bb, 0, none⟩)], .func (.func 121) #[] #[.pointer (some ⟨bb, 0, none⟩)]] 91) := ⟨_, rfl⟩
  have hB0 : Below w.heap.size w W0 := by rw [hW0]; exact ((Below.refl _ _).alloc (Nat.le_refl _) _).alloc (by simp) _
  have hX0 : Blk W0 w.heap.size 25 #[.int .i64 t.k, .int .i64 t.n, .string t.s, .slice A t.l.length c] := by rw [hW0]; exact (Blk.new w 25 _).alloc _
  have hY0 : Blk W0 (w.heap.size + 1) 91 #[.nilFunc, .func (.func 115) #[] #[.pointer (some ⟨bb, 0, none⟩)], .func (.func 116) #[] #[.pointer (some ⟨bb, 0, none⟩)], .func (.func 117) #[] #[.pointer (some ⟨bb, 0, none⟩)], .func (.func 119) #[] #[.pointer (some ⟨bb, 0, none⟩)], .func (.func 120) #[] #[.pointer (some ⟨bb, 0, none⟩)], .func (.func 121) #[] #[.pointer (some ⟨bb, 0, none⟩)]] := by
   rw [hW0]
   have := Blk.new (w.alloc (.cells #[.int .i64 t.k, .int .i64 t.n, .string t.s, .slice A t.l.length c] 25)) 91 #[.nilFunc, .func (.func 115) #[] #[.pointer (some ⟨bb, 0, none⟩)], .func (.func 116) #[] #[.pointer (some ⟨bb, 0, none⟩)], .func (.func 117) #[] #[.pointer (some ⟨bb, 0, none⟩)], .func (.func 119) #[] #[.pointer (some ⟨bb, 0, none⟩)], .func (.func 120) #[] #[.pointer (some ⟨bb, 0, none⟩)], .func (.func 121) #[] #[.pointer (some ⟨bb, 0, none⟩)]]
   rw [show (w.alloc (.cells #[.int .i64 t.k, .int .i64 t.n, .string t.s, .slice A t.l.length c] 25)).heap.size = w.heap.size + 1 from by simp] at this
   exact this
  have ly0 := hY0.lt
  have hlc := hc.len.1
  have hlm := hc.len.2.1
  clear hc
  have HX0 := Lib.hid hX0; clear hX0
  have HY0 := Lib.hid hY0; clear hY0
  clear hbb
  have HB0 := Lib.hid hB0; clear hB0
  have HW := Lib.hid hW0; clear hW0
  obtain ⟨⟨x0, x1, x2, x3⟩, -⟩ := HX0.out.four
  rw [HW.out] at x0 x1 x2 x3
  by_cases q1 : d < 1
  case pos =>
   have Hr := Lib.hid (show chkV t L d = L + 1 from by rw [chkV, if_neg (by have := t.depth_eq; omega)])
   have d1 : decide (d < 1) = true := decide_eq_true q1
   go_enter Try.func78, Try.ntmps78
   go_wp2_with fail
   go_quiet (fail)
   go_wp2
   go_ret
   exact ⟨by rw [Hr.out]; rfl, by rw [← HW.out]; exact below_drewN HB0.out _⟩
  have d1 : decide (d < 1) = false := decide_eq_false q1
  by_cases q2 : L < 1
  case pos =>
   have Hr := Lib.hid (show chkV t L d = L + 1 from by rw [chkV, if_neg (by have := t.size_pos; omega)])
   have d2 : decide (L < 1) = true := decide_eq_true q2
   go_enter Try.func78, Try.ntmps78
   go_wp2_with fail
   go_quiet (fail)
   go_wp2
   go_ret
   exact ⟨by rw [Hr.out]; rfl, by rw [← HW.out]; exact below_drewN HB0.out _⟩
  have d2 : decide (L < 1) = false := decide_eq_false q2
  by_cases q3 : t.k < 1
  case pos =>
   have Hr := Lib.hid (show chkV t L d = L + 1 from by rw [chkV, if_neg (by rintro ⟨h, -⟩; rw [Tm.okB_eq, Bool.and_eq_true] at h; have := node_kind h.1; omega)])
   have d3 : decide (t.k < 1) = true := decide_eq_true q3
   go_enter Try.func78, Try.ntmps78
   go_wp2_with fail
   go_quiet (fail)
   go_wp2
   go_ret
   exact ⟨by rw [Hr.out]; rfl, by rw [← HW.out]; exact below_drewN HB0.out _⟩
  have d3 : decide (t.k < 1) = false := decide_eq_false q3
  by_cases q4 : 6 < t.k
  case pos =>
   have Hr := Lib.hid (show chkV t L d = L + 1 from by rw [chkV, if_neg (by rintro ⟨h, -⟩; rw [Tm.okB_eq, Bool.and_eq_true] at h; have := node_kind h.1; omega)])
   have d4 : decide (6 < t.k) = true := decide_eq_true q4
   go_enter Try.func78, Try.ntmps78
   go_wp2_with fail
   go_quiet (fail)
   go_wp2
   go_ret
   exact ⟨by rw [Hr.out]; rfl, by rw [← HW.out]; exact below_drewN HB0.out _⟩
  have d4 : decide (6 < t.k) = false := decide_eq_false q4
  have hkk : t.k = 1 ∨ t.k = 2 ∨ t.k = 3 ∨ t.k = 4 ∨ t.k = 5 ∨ t.k = 6 := by omega
  have hd1' : 1 ≤ d := by omega
  have hL1' : 1 ≤ L := by omega
  clear q1 q2 q3 q4 d3 d4 x0 x1 x2 x3
  rcases hkk with hk | hk | hk | hk | hk | hk
  ·exact cnt_k1 t Ih.out P w L d bb A c hs Hcw.out Hbw.out hL1' hL1 hd1' hd1 hk
  ·exact cnt_k2 t Ih.out P w L d bb A c hs Hcw.out Hbw.out hL1' hL1 hd1' hd1 hk
  ·exact cnt_k3 t Ih.out P w L d bb A c hs Hcw.out Hbw.out hL1' hL1 hd1' hd1 hk
  ·exact cnt_k4 t Ih.out P w L d bb A c hs Hcw.out Hbw.out hL1' hL1 hd1' hd1 hk
  ·exact cnt_k5 t Ih.out P w L d bb A c hs Hcw.out Hbw.out hL1' hL1 hd1' hd1 hk
  ·exact cnt_k6 t Ih.out P w L d bb A c hs Hcw.out Hbw.out hL1' hL1 hd1' hd1 hk
end Go.Proofs.Ytfhgknmkpegpbaa
set_option linter.unusedVariables false
set_option linter.unusedSimpArgs false
namespace Go.Proofs.Ytfhgknmkpegpbaa
open Go.RowKit
def isB (t : Tm) : Bool := (t.okB && decide (t.size ≤ 4000)) && decide (t.depth ≤ 600)
def allB (l : List Tm) : Bool := (Tm.okBs l && decide (Tm.sizes l ≤ 4000)) && decide (Tm.depths l ≤ 600)
theorem isB_iff {t : Tm} : isB t = true ↔ t.okB = true ∧ t.size ≤ 4000 ∧ t.depth ≤ 600 := by
 simp only [isB, Bool.and_eq_true, decide_eq_true_eq, and_assoc]
theorem allB_iff {l : List Tm} : allB l = true ↔ Tm.okBs l = true ∧ Tm.sizes l ≤ 4000 ∧ Tm.depths l ≤ 600 := by
 simp only [allB, Bool.and_eq_true, decide_eq_true_eq, and_assoc]
theorem allB_one (t : Tm) : allB [t] = isB t := by
 rw [Bool.eq_iff_iff, allB_iff, isB_iff]
 simp [Tm.okBs, Tm.sizes, Tm.depths]
def errT (b : Bool) : Int := if b then 0 else 3
theorem TmC.lit {P : Nat → Prop} {w : World} {g : Nat} (es : List EV) (h : ∀ e ∈ es, e.1.s.size ≤ 9223372036854775807 ∧ TmC P w e.2.1 e.2.2 e.1.l) {T : TypeId} (hb : Blk w g T (es.flatMap encE).toArray) (hP : P g) (hl : es.length ≤ 9223372036854775807) :
  TmC P w (some ⟨g, 0, none⟩) es.length (es.map (fun e => e.1)) := by
 refine .mk es rfl (by simp) hl (fun h => by cases h) (fun _ => ⟨g, 0, rfl, hP⟩) (fun _ => ⟨g, 0, rfl, fun j v hj => ?_⟩) (fun e he => (h e he).1) (fun e he => (h e he).2)
 rw [Nat.zero_add, hb.cell j]
 simpa using hj
set_option maxRecDepth 100000 in
set_option maxHeartbeats 4000000 in
theorem checkAll_calls (l : List Tm) (P : Nat → Prop) (A : Option Addr) (c : Nat) (w : World) (hc : TmC P w A c l) : Calls Try.prog 18 #[.slice A l.length c] w (RetN w (errT (allB l))) := by
 have hlm := hc.len.2.1
 have hlc := hc.len.1
 have Hc := Lib.hid hc; clear hc
 go_enter Try.func18, Try.ntmps18
 go_wp2_with fail
 refine (forms_calls w).mono ?_
 rintro e w1 ⟨rfl, hbb, hb⟩
 have HB1 := Lib.hid hb; clear hb
 obtain ⟨W0, hW0⟩ : ∃ W0, W0 = w1.alloc (.cells (FA (w.heap.size + 1)) 91) := ⟨_, rfl⟩
 have hB0 : Below w1.heap.size w1 W0 := by rw [hW0]; exact (Below.refl _ _).alloc (Nat.le_refl _) _
 have hX0 : Blk W0 w1.heap.size 91 (FA (w.heap.size + 1)) := by rw [hW0]; exact Blk.new _ _ _
 have Hbb := Lib.hid (hbb.below hB0 hbb.lt); clear hbb
 have lx0 := hX0.lt
 have HX0 := Lib.hid hX0; clear hX0
 have HB0 := Lib.hid (HB1.out.trans (hB0.mono HB1.out.size))
 have HB10 := Lib.hid hB0; clear hB0
 have HW := Lib.hid hW0; clear hW0
 unfold FA at *
 go_wp2
 go_loopw [3, 11] (fun n i wr => ∃ k : Nat, k ≤ l.length ∧ i = .int .i64 k ∧ Tm.sizes (l.take k) ≤ 4000 ∧ n = .int .i64 (4000 - (Tm.sizes (l.take k) : Nat)) ∧ Tm.okBs (l.take k) = true ∧ Tm.depths (l.take k) ≤ 600 ∧ Below W0.heap.size W0 wr) (fun _ i _ => l.length - (intOf i).toNat)
 case atStart => exact ⟨0, Nat.zero_le _, rfl, by simp [Tm.sizes], by simp [Tm.sizes], by simp [Tm.okBs], by simp [Tm.depths], by rw [HW.out]; exact Below.refl _ _⟩
 case round =>
  obtain ⟨k, hk, rfl, hsz, rfl, hok, hdp, hB⟩ := hrel
  obtain ⟨⟨y0, y1, y2, y3, y4, y5, y6⟩⟩ : _ ∧ True := ⟨(HX0.out.below hB lx0).seven, trivial⟩
  have HB := Lib.hid hB; clear hB
  have hylt : w1.heap.size < wr.heap.size := Nat.lt_of_lt_of_le lx0 HB.out.size
  have HBw := Lib.hid (HB0.out.trans (HB.out.mono HB0.out.size))
  obtain ⟨sz, hsz'⟩ : ∃ sz, sz = Tm.sizes (l.take k) := ⟨_, rfl⟩
  obtain ⟨dp, hdp'⟩ : ∃ dp, dp = Tm.depths (l.take k) := ⟨_, rfl⟩
  rw [← hsz'] at hsz ⊢
  rw [← hdp'] at hdp
  have Hsz' := Lib.hid hsz'; clear hsz'
  have Hdp' := Lib.hid hdp'; clear hdp'
  have Hok := Lib.hid hok; clear hok
  by_cases hlt : k < l.length
  ·obtain ⟨x, hx⟩ : ∃ x, l[k]? = some x := ⟨_, List.getElem?_eq_getElem hlt⟩
   obtain ⟨g, off, Ai, ci, rfl, -, ⟨e0, e1, e2, e3⟩, hxs, hxc⟩ := (Hc.out.stay HBw.out (Nat.le_refl _)).at_ hx
   have hxm := List.mem_of_getElem? hx
   have Hxz := Lib.hid (Tm.sizes_take hx)
   have Hxd := Lib.hid (Tm.depths_take hx)
   have Hxo := Lib.hid (Tm.okBs_take hx)
   have Hxdm := Lib.hid (Tm.depth_mem hxm)
   have hle := Tm.sizes_le_take l (k + 1)
   have Hle := Lib.hid hle; clear hle
   obtain ⟨q, hq⟩ : ∃ q, q = chkV x (4000 - (sz : Int)) 600 := ⟨_, rfl⟩
   have hcall := cnt_calls x P (wr.alloc (.cells #[.int .i64 x.k, .int .i64 x.n, .string x.s, .slice Ai x.l.length ci] 25)) _ (4000 - (sz : Int)) 600 (w.heap.size + 1) ⟨Ai, ci, rfl, hxs, hxc.stay ((Below.refl _ _).alloc (Nat.le_refl _) _) (Nat.le_refl _)⟩ ((Hbb.out.below HB.out Hbb.out.lt).alloc _) (by omega) (by omega) (by omega) (by omega)
   rw [← hq] at hcall
   unfold FA at hcall
   have Hcall := Lib.hid hcall; clear hcall hxc hx
   have hqb : 0 ≤ q ∧ q ≤ 4001 - sz := by rw [hq, chkV]; split <;> omega
   have hq0 := hqb.1
   have hq1 := hqb.2
   clear hqb
   by_cases hgood : q ≤ 4000 - (sz : Int)
   ·have hxx : x.okB = true ∧ (x.size : Int) ≤ 4000 - sz ∧ (x.depth : Int) ≤ 600 ∧ q = x.size := by
     rw [hq, chkV] at hgood ⊢
     split at hgood
     ·rename_i h; rw [if_pos h]; exact ⟨h.1, h.2.1, h.2.2, rfl⟩
     ·omega
    obtain ⟨hx1, hx2, hx3, hx4⟩ := hxx
    clear hq
    subst hx4
    have Hx1 := Lib.hid hx1; clear hx1
    have hdd : decide (4000 - (sz : Int) < (x.size : Int)) = false := decide_eq_false (by omega)
    go_wp2_with fail
    refine Hcall.out.mono ?_
    rintro e w2 ⟨rfl, hb⟩
    have HB2 := Lib.hid (HB.out.trans (((Below.refl _ _).alloc HB.out.size _).trans (hb.mono (Nat.le_trans HB.out.size (by simp))))); clear hb
    go_wp2
    go_roundw
    case rel => exact ⟨k + 1, by omega, by go_num, by rw [Hxz.out]; have := Hsz'.out; omega, by rw [Hxz.out, ← Hsz'.out]; go_num, by rw [Hxo.out, Hok.out, Hx1.out]; rfl, by rw [Hxd.out]; have := Hdp'.out; omega, HB2.out⟩
    case measure => simp [intOf]; omega
   ·have Hr := Lib.hid (show allB l = false from by
     rw [← Bool.not_eq_true, allB_iff]
     rintro ⟨h1, h2, h3⟩
     have hxo := Tm.okBs_mem h1 hxm
     have e1 := Hxz.out
     have e4 := Hsz'.out
     have e5 := Hxdm.out
     have e6 := Hle.out
     rw [chkV, if_pos ⟨hxo, by omega, by omega⟩] at hq
     omega)
    clear hq
    have hdd : decide (4000 - (sz : Int) < q) = true := decide_eq_true (by omega)
    go_wp2_with fail
    refine Hcall.out.mono ?_
    rintro e w2 ⟨rfl, hb⟩
    have HB2 := Lib.hid (HB.out.trans (((Below.refl _ _).alloc HB.out.size _).trans (hb.mono (Nat.le_trans HB.out.size (by simp))))); clear hb
    go_wp2
    go_ret
    exact ⟨by rw [Hr.out]; rfl, HB0.out.trans (HB2.out.mono HB0.out.size)⟩
  ·have hke : k = l.length := by omega
   subst hke
   have Hr := Lib.hid (show allB l = true from by
    have e1 := Hsz'.out
    have e2 := Hdp'.out
    have e3 := Hok.out
    rw [List.take_length] at e1 e2 e3
    rw [allB_iff]
    exact ⟨e3, by omega, by omega⟩)
   clear y0 y1 y2 y3 y4 y5 y6
   go_wp2
   go_ret
   exact ⟨by rw [Hr.out]; rfl, HBw.out⟩
theorem row1 (w : World) (t : Tm) (A : Option Addr) (c : Nat) {P : Nat → Prop} (hs : t.s.size ≤ 9223372036854775807) (hc : TmC P w A c t.l) :
  TmC (fun _ => True) (w.alloc (.cells #[.int .i64 t.k, .int .i64 t.n, .string t.s, .slice A t.l.length c] 25)) (some ⟨w.heap.size, 0, none⟩) 1 [t] := by
 have := TmC.lit (P := fun _ => True) (w := w.alloc (.cells #[.int .i64 t.k, .int .i64 t.n, .string t.s, .slice A t.l.length c] 25)) (g := w.heap.size) [(t, A, c)] (fun e he => by
  simp at he; subst he
  exact ⟨hs, (hc.mono (fun _ _ => trivial)).stay ((Below.refl _ _).alloc (Nat.le_refl _) _) (Nat.le_refl _)⟩) (Blk.new _ _ _) trivial (by simp)
 exact this
set_option maxRecDepth 100000 in
set_option maxHeartbeats 4000000 in
theorem check_calls (t : Tm) (P : Nat → Prop) (w : World) (v : Value) (hv : TmV P w v t) : Calls Try.prog 22 #[v] w (RetN w (errT (isB t))) := by
 obtain ⟨A, c, rfl, hs, hc⟩ := hv
 obtain ⟨W0, hW0⟩ : ∃ W0, W0 = w.alloc (.cells #[.int .i64 t.k, .int .i64 t.n, .string t.s, .slice A t.l.length c] 25) := ⟨_, rfl⟩
 have hB0 : Below w.heap.size w W0 := by rw [hW0]; exact (Below.refl _ _).alloc (Nat.le_refl _) _
 have hX0 : Blk W0 w.heap.size 25 #[.int .i64 t.k, .int .i64 t.n, .string t.s, .slice A t.l.length c] := by rw [hW0]; exact Blk.new _ _ _
 have lx0 := hX0.lt
 have hlc := hc.len.1
 have hlm := hc.len.2.1
 have Hc := Lib.hid (hc.stay hB0 (Nat.le_refl _)); clear hc
 have HX0 := Lib.hid hX0; clear hX0
 have HB0 := Lib.hid hB0; clear hB0
 have HW := Lib.hid hW0; clear hW0
 have hrow := row1 W0 t A c hs Hc.out
 have hsz : W0.heap.size = w.heap.size + 1 := by rw [HW.out]; simp
 rw [hsz] at hrow
 have hcall := checkAll_calls [t] _ _ _ _ hrow
 rw [allB_one] at hcall
 have hbel := (HB0.out.alloc HB0.out.size (.cells #[.int .i64 t.k, .int .i64 t.n, .string t.s, .slice A t.l.length c] 25))
 have hcall2 := hcall.mono (R' := RetN w (errT (isB t))) (fun e w' h => ⟨h.1, hbel.trans (h.2.mono hbel.size)⟩)
 rw [HW.out] at hcall2
 simp only [List.length_cons, List.length_nil, Nat.zero_add] at hcall2
 have Hcall := Lib.hid hcall2; clear hcall hcall2 hbel hsz hrow
 go_enter Try.func22, Try.ntmps22
 go_wp2_with fail
 refine Hcall.out.mono ?_
 rintro e w1 ⟨rfl, hb⟩
 have HB1 := Lib.hid hb; clear hb
 go_wp2
 go_ret
 exact ⟨rfl, HB1.out⟩
end Go.Proofs.Ytfhgknmkpegpbaa
set_option linter.unusedVariables false
set_option linter.unusedSimpArgs false
namespace Go.Proofs.Ytfhgknmkpegpbaa
open Go.RowKit
def allIs (l : List Tm) : Bool := l.all isB
set_option maxRecDepth 100000 in
set_option maxHeartbeats 4000000 in
theorem checked_calls (l : List Tm) (P : Nat → Prop) (A : Option Addr) (c : Nat) (w : World) (hc : TmC P w A c l) : Calls Try.prog 83 #[.slice A l.length c] w (RetN w (errT (allIs l))) := by
 have hlm := hc.len.2.1
 have hlc := hc.len.1
 have Hc := Lib.hid hc; clear hc
 go_enter Try.func83, Try.ntmps83
 go_wp2
 go_loopw [8] (fun i wr => ∃ k : Nat, k ≤ l.length ∧ i = .int .i64 k ∧ (l.take k).all isB = true ∧ Below w.heap.size w wr) (fun i _ => l.length - (intOf i).toNat)
 case atStart => exact ⟨0, Nat.zero_le _, rfl, by simp, Below.refl _ _⟩
 case round =>
  obtain ⟨k, hk, rfl, hal, hB⟩ := hrel
  have HB := Lib.hid hB; clear hB
  have Hal := Lib.hid hal; clear hal
  by_cases hlt : k < l.length
  ·obtain ⟨x, hx⟩ : ∃ x, l[k]? = some x := ⟨_, List.getElem?_eq_getElem hlt⟩
   obtain ⟨g, off, Ai, ci, rfl, -, ⟨e0, e1, e2, e3⟩, hxs, hxc⟩ := (Hc.out.stay HB.out (Nat.le_refl _)).at_ hx
   have hxm := List.mem_of_getElem? hx
   have Hts := Lib.hid (take_snoc hx)
   obtain ⟨b, hb'⟩ : ∃ b, b = isB x := ⟨_, rfl⟩
   have hcall := check_calls x P (wr.alloc (.cells #[.int .i64 x.k, .int .i64 x.n, .string x.s, .slice Ai x.l.length ci] 25)) _ ⟨Ai, ci, rfl, hxs, hxc.stay ((Below.refl _ _).alloc (Nat.le_refl _) _) (Nat.le_refl _)⟩
   rw [← hb'] at hcall
   have Hcall := Lib.hid hcall; clear hcall hxc hx
   have Hb := Lib.hid hb'; clear hb'
   go_wp2_with fail
   refine Hcall.out.mono ?_
   rintro e w2 ⟨rfl, hb⟩
   have HB2 := Lib.hid (HB.out.trans (((Below.refl _ _).alloc HB.out.size _).trans (hb.mono (Nat.le_trans HB.out.size (by simp))))); clear hb
   cases b
   ·have Hr := Lib.hid (show allIs l = false from by rw [allIs, List.all_eq_false]; exact ⟨x, hxm, by rw [← Hb.out]; simp⟩)
    have he : (errT false != 0) = true := rfl
    go_wp2
    go_ret
    exact ⟨by rw [Hr.out]; rfl, HB2.out⟩
   ·have he : (errT true != 0) = false := rfl
    go_wp2
    go_roundw
    case rel => exact ⟨k + 1, by omega, by go_num, by rw [Hts.out, List.all_append, Hal.out]; simp [← Hb.out], HB2.out⟩
    case measure => simp [intOf]; omega
  ·have hke : k = l.length := by omega
   subst hke
   have Hr := Lib.hid (show allIs l = true from by have := Hal.out; rwa [List.take_length] at this)
   go_wp2
   go_ret
   exact ⟨by rw [Hr.out]; rfl, HB.out⟩
set_option maxRecDepth 100000 in
set_option maxHeartbeats 4000000 in
theorem refNode_calls (t : Tm) (P : Nat → Prop) (w : World) (v : Value) (hv : TmV P w v t) : Calls Try.prog 144 #[v] w (RetB w (nodeB t)) := by
 obtain ⟨A, c, rfl, hs, hc⟩ := hv
 have hlc := hc.len.1
 have hlm := hc.len.2.1
 clear hc
 by_cases hkk : 1 ≤ t.k ∧ t.k ≤ 6
 case neg =>
  have k1 : (t.k == 1) = false := by simp; omega
  have k2 : (t.k == 2) = false := by simp; omega
  have k3 : (t.k == 3) = false := by simp; omega
  have k4 : (t.k == 4) = false := by simp; omega
  have k5 : (t.k == 5) = false := by simp; omega
  have k6 : (t.k == 6) = false := by simp; omega
  have Hr := Lib.hid (show nodeB t = false from by rw [← Bool.not_eq_true]; intro h; exact hkk (node_kind h))
  clear hkk
  go_enter Try.func144, Try.ntmps144
  go_wp2
  go_ret
  exact ⟨by rw [Hr.out]; rfl, (Below.refl _ _).alloc (Nat.le_refl _) _⟩
 have hkk2 : t.k = 1 ∨ t.k = 2 ∨ t.k = 3 ∨ t.k = 4 ∨ t.k = 5 ∨ t.k = 6 := by omega
 clear hkk
 rcases hkk2 with hk | hk | hk | hk | hk | hk
 ·by_cases q0 : 0 ≤ t.n
  case neg =>
   have p0 : decide (0 ≤ t.n) = false := decide_eq_false q0
   have Hr := Lib.hid (show nodeB t = false from by unfold nodeB; rw [if_pos hk]; simp [bareB, *])
   go_enter Try.func144, Try.ntmps144
   go_wp2
   go_ret
   exact ⟨by rw [Hr.out]; rfl, (Below.refl _ _).alloc (Nat.le_refl _) _⟩
  have p0 : decide (0 ≤ t.n) = true := decide_eq_true q0
  by_cases q1 : t.n < 100000
  case neg =>
   have p1 : decide (t.n < 100000) = false := decide_eq_false q1
   have Hr := Lib.hid (show nodeB t = false from by unfold nodeB; rw [if_pos hk]; simp [bareB, *])
   go_enter Try.func144, Try.ntmps144
   go_wp2
   go_ret
   exact ⟨by rw [Hr.out]; rfl, (Below.refl _ _).alloc (Nat.le_refl _) _⟩
  have p1 : decide (t.n < 100000) = true := decide_eq_true q1
  by_cases p2 : t.s.toList = []
  case neg =>
   have Hr := Lib.hid (show nodeB t = false from by unfold nodeB; rw [if_pos hk]; simp [bareB, *])
   go_enter Try.func144, Try.ntmps144
   go_wp2
   go_ret
   exact ⟨by rw [Hr.out]; rfl, (Below.refl _ _).alloc (Nat.le_refl _) _⟩
  rcases p3 : (t.l.length == 0) with _ | _
  case false =>
   have p3' : ((t.l.length : Int) == 0) = false := by rw [← p3]; cases t.l.length <;> simp <;> omega
   have Hr := Lib.hid (show nodeB t = false from by unfold nodeB; rw [if_pos hk]; simp [bareB, *])
   go_enter Try.func144, Try.ntmps144
   go_wp2
   go_ret
   exact ⟨by rw [Hr.out]; rfl, (Below.refl _ _).alloc (Nat.le_refl _) _⟩
  have p3' : ((t.l.length : Int) == 0) = true := by rw [← p3]; cases t.l.length <;> simp <;> omega
  have Hr := Lib.hid (show nodeB t = true from by unfold nodeB; rw [if_pos hk]; simp [bareB, *])
  go_enter Try.func144, Try.ntmps144
  go_wp2
  go_ret
  exact ⟨by rw [Hr.out]; rfl, (Below.refl _ _).alloc (Nat.le_refl _) _⟩
 ·by_cases q0 : -2147483647 ≤ t.n
  case neg =>
   have p0 : decide (-2147483647 ≤ t.n) = false := decide_eq_false q0
   have Hr := Lib.hid (show nodeB t = false from by unfold nodeB; rw [if_neg (by omega), if_pos hk]; simp [bareB, *])
   go_enter Try.func144, Try.ntmps144
   go_wp2
   go_ret
   exact ⟨by rw [Hr.out]; rfl, (Below.refl _ _).alloc (Nat.le_refl _) _⟩
  have p0 : decide (-2147483647 ≤ t.n) = true := decide_eq_true q0
  by_cases q1 : t.n ≤ 2147483647
  case neg =>
   have p1 : decide (t.n ≤ 2147483647) = false := decide_eq_false q1
   have Hr := Lib.hid (show nodeB t = false from by unfold nodeB; rw [if_neg (by omega), if_pos hk]; simp [bareB, *])
   go_enter Try.func144, Try.ntmps144
   go_wp2
   go_ret
   exact ⟨by rw [Hr.out]; rfl, (Below.refl _ _).alloc (Nat.le_refl _) _⟩
  have p1 : decide (t.n ≤ 2147483647) = true := decide_eq_true q1
  by_cases p2 : t.s.toList = []
  case neg =>
   have Hr := Lib.hid (show nodeB t = false from by unfold nodeB; rw [if_neg (by omega), if_pos hk]; simp [bareB, *])
   go_enter Try.func144, Try.ntmps144
   go_wp2
   go_ret
   exact ⟨by rw [Hr.out]; rfl, (Below.refl _ _).alloc (Nat.le_refl _) _⟩
  rcases p3 : (t.l.length == 0) with _ | _
  case false =>
   have p3' : ((t.l.length : Int) == 0) = false := by rw [← p3]; cases t.l.length <;> simp <;> omega
   have Hr := Lib.hid (show nodeB t = false from by unfold nodeB; rw [if_neg (by omega), if_pos hk]; simp [bareB, *])
   go_enter Try.func144, Try.ntmps144
   go_wp2
   go_ret
   exact ⟨by rw [Hr.out]; rfl, (Below.refl _ _).alloc (Nat.le_refl _) _⟩
  have p3' : ((t.l.length : Int) == 0) = true := by rw [← p3]; cases t.l.length <;> simp <;> omega
  have Hr := Lib.hid (show nodeB t = true from by unfold nodeB; rw [if_neg (by omega), if_pos hk]; simp [bareB, *])
  go_enter Try.func144, Try.ntmps144
  go_wp2
  go_ret
  exact ⟨by rw [Hr.out]; rfl, (Below.refl _ _).alloc (Nat.le_refl _) _⟩
 ·rcases p0 : (t.n == 0) with _ | _
  case false =>
   have Hr := Lib.hid (show nodeB t = false from by unfold nodeB; rw [if_neg (by omega), if_neg (by omega), if_pos hk]; simp [bareB, *])
   go_enter Try.func144, Try.ntmps144
   go_wp2
   go_ret
   exact ⟨by rw [Hr.out]; rfl, (Below.refl _ _).alloc (Nat.le_refl _) _⟩
  rcases pn : nameB t.s with _ | _
  case false =>
   have Hnm := Lib.hid pn
   have Hr := Lib.hid (show nodeB t = false from by unfold nodeB; rw [if_neg (by omega), if_neg (by omega), if_pos hk]; simp [bareB, *])
   go_enter Try.func144, Try.ntmps144
   go_wp2_with fail
   refine (refName_calls t.s _ hs).mono ?_
   rintro e w1 ⟨he, rfl⟩
   rw [Hnm.out] at he
   subst he
   go_wp2
   go_ret
   exact ⟨by rw [Hr.out]; rfl, (Below.refl _ _).alloc (Nat.le_refl _) _⟩
  have Hnm := Lib.hid pn
  rcases p2 : (t.l.length == 0) with _ | _
  case false =>
   have p2' : ((t.l.length : Int) == 0) = false := by rw [← p2]; cases t.l.length <;> simp <;> omega
   have Hr := Lib.hid (show nodeB t = false from by unfold nodeB; rw [if_neg (by omega), if_neg (by omega), if_pos hk]; simp [bareB, *])
   go_enter Try.func144, Try.ntmps144
   go_wp2_with fail
   refine (refName_calls t.s _ hs).mono ?_
   rintro e w1 ⟨he, rfl⟩
   rw [Hnm.out] at he
   subst he
   go_wp2
   go_ret
   exact ⟨by rw [Hr.out]; rfl, (Below.refl _ _).alloc (Nat.le_refl _) _⟩
  have p2' : ((t.l.length : Int) == 0) = true := by rw [← p2]; cases t.l.length <;> simp <;> omega
  have Hr := Lib.hid (show nodeB t = true from by unfold nodeB; rw [if_neg (by omega), if_neg (by omega), if_pos hk]; simp [bareB, *])
  go_enter Try.func144, Try.ntmps144
  go_wp2_with fail
  refine (refName_calls t.s _ hs).mono ?_
  rintro e w1 ⟨he, rfl⟩
  rw [Hnm.out] at he
  subst he
  go_wp2
  go_ret
  exact ⟨by rw [Hr.out]; rfl, (Below.refl _ _).alloc (Nat.le_refl _) _⟩
 ·rcases p0 : (t.n == 0) with _ | _
  case false =>
   have Hr := Lib.hid (show nodeB t = false from by unfold nodeB; rw [if_neg (by omega), if_neg (by omega), if_neg (by omega), if_pos hk]; simp [bareB, *])
   go_enter Try.func144, Try.ntmps144
   go_wp2
   go_ret
   exact ⟨by rw [Hr.out]; rfl, (Below.refl _ _).alloc (Nat.le_refl _) _⟩
  by_cases q1 : t.s.size ≤ 255
  case neg =>
   have p1 : decide (t.s.size ≤ 255) = false := decide_eq_false q1
   have p1' : decide ((t.s.size : Int) ≤ 255) = false := decide_eq_false (by omega)
   have Hr := Lib.hid (show nodeB t = false from by unfold nodeB; rw [if_neg (by omega), if_neg (by omega), if_neg (by omega), if_pos hk]; simp [bareB, *])
   go_enter Try.func144, Try.ntmps144
   go_wp2
   go_ret
   exact ⟨by rw [Hr.out]; rfl, (Below.refl _ _).alloc (Nat.le_refl _) _⟩
  have p1 : decide (t.s.size ≤ 255) = true := decide_eq_true q1
  have p1' : decide ((t.s.size : Int) ≤ 255) = true := decide_eq_true (by omega)
  rcases p2 : (t.l.length == 0) with _ | _
  case false =>
   have p2' : ((t.l.length : Int) == 0) = false := by rw [← p2]; cases t.l.length <;> simp <;> omega
   have Hr := Lib.hid (show nodeB t = false from by unfold nodeB; rw [if_neg (by omega), if_neg (by omega), if_neg (by omega), if_pos hk]; simp [bareB, *])
   go_enter Try.func144, Try.ntmps144
   go_wp2
   go_ret
   exact ⟨by rw [Hr.out]; rfl, (Below.refl _ _).alloc (Nat.le_refl _) _⟩
  have p2' : ((t.l.length : Int) == 0) = true := by rw [← p2]; cases t.l.length <;> simp <;> omega
  have Hr := Lib.hid (show nodeB t = true from by unfold nodeB; rw [if_neg (by omega), if_neg (by omega), if_neg (by omega), if_pos hk]; simp [bareB, *])
  go_enter Try.func144, Try.ntmps144
  go_wp2
  go_ret
  exact ⟨by rw [Hr.out]; rfl, (Below.refl _ _).alloc (Nat.le_refl _) _⟩
 ·rcases p0 : (t.n == 0) with _ | _
  case false =>
   have Hr := Lib.hid (show nodeB t = false from by unfold nodeB; rw [if_neg (by omega), if_neg (by omega), if_neg (by omega), if_neg (by omega), if_pos hk]; simp [bareB, *])
   go_enter Try.func144, Try.ntmps144
   go_wp2
   go_ret
   exact ⟨by rw [Hr.out]; rfl, (Below.refl _ _).alloc (Nat.le_refl _) _⟩
  rcases pn : nameB t.s with _ | _
  case false =>
   have Hnm := Lib.hid pn
   have Hr := Lib.hid (show nodeB t = false from by unfold nodeB; rw [if_neg (by omega), if_neg (by omega), if_neg (by omega), if_neg (by omega), if_pos hk]; simp [bareB, *])
   go_enter Try.func144, Try.ntmps144
   go_wp2_with fail
   refine (refName_calls t.s _ hs).mono ?_
   rintro e w1 ⟨he, rfl⟩
   rw [Hnm.out] at he
   subst he
   go_wp2
   go_ret
   exact ⟨by rw [Hr.out]; rfl, (Below.refl _ _).alloc (Nat.le_refl _) _⟩
  have Hnm := Lib.hid pn
  by_cases q2 : 1 ≤ t.l.length
  case neg =>
   have p2 : decide (1 ≤ t.l.length) = false := decide_eq_false q2
   have p2' : decide ((1 : Int) ≤ (t.l.length : Int)) = false := decide_eq_false (by omega)
   have Hr := Lib.hid (show nodeB t = false from by unfold nodeB; rw [if_neg (by omega), if_neg (by omega), if_neg (by omega), if_neg (by omega), if_pos hk]; simp [bareB, *])
   go_enter Try.func144, Try.ntmps144
   go_wp2_with fail
   refine (refName_calls t.s _ hs).mono ?_
   rintro e w1 ⟨he, rfl⟩
   rw [Hnm.out] at he
   subst he
   go_wp2
   go_ret
   exact ⟨by rw [Hr.out]; rfl, (Below.refl _ _).alloc (Nat.le_refl _) _⟩
  have p2 : decide (1 ≤ t.l.length) = true := decide_eq_true q2
  have p2' : decide ((1 : Int) ≤ (t.l.length : Int)) = true := decide_eq_true (by omega)
  by_cases q3 : t.l.length ≤ 16
  case neg =>
   have p3 : decide (t.l.length ≤ 16) = false := decide_eq_false q3
   have p3' : decide ((t.l.length : Int) ≤ 16) = false := decide_eq_false (by omega)
   have Hr := Lib.hid (show nodeB t = false from by unfold nodeB; rw [if_neg (by omega), if_neg (by omega), if_neg (by omega), if_neg (by omega), if_pos hk]; simp [bareB, *])
   go_enter Try.func144, Try.ntmps144
   go_wp2_with fail
   refine (refName_calls t.s _ hs).mono ?_
   rintro e w1 ⟨he, rfl⟩
   rw [Hnm.out] at he
   subst he
   go_wp2
   go_ret
   exact ⟨by rw [Hr.out]; rfl, (Below.refl _ _).alloc (Nat.le_refl _) _⟩
  have p3 : decide (t.l.length ≤ 16) = true := decide_eq_true q3
  have p3' : decide ((t.l.length : Int) ≤ 16) = true := decide_eq_true (by omega)
  have Hr := Lib.hid (show nodeB t = true from by unfold nodeB; rw [if_neg (by omega), if_neg (by omega), if_neg (by omega), if_neg (by omega), if_pos hk]; simp [bareB, *])
  go_enter Try.func144, Try.ntmps144
  go_wp2_with fail
  refine (refName_calls t.s _ hs).mono ?_
  rintro e w1 ⟨he, rfl⟩
  rw [Hnm.out] at he
  subst he
  go_wp2
  go_ret
  exact ⟨by rw [Hr.out]; rfl, (Below.refl _ _).alloc (Nat.le_refl _) _⟩
 ·rcases p0 : (t.n == 0) with _ | _
  case false =>
   have Hr := Lib.hid (show nodeB t = false from by unfold nodeB; rw [if_neg (by omega), if_neg (by omega), if_neg (by omega), if_neg (by omega), if_neg (by omega), if_pos hk]; simp [bareB, *])
   go_enter Try.func144, Try.ntmps144
   go_wp2
   go_ret
   exact ⟨by rw [Hr.out]; rfl, (Below.refl _ _).alloc (Nat.le_refl _) _⟩
  by_cases p1 : t.s.toList = []
  case neg =>
   have Hr := Lib.hid (show nodeB t = false from by unfold nodeB; rw [if_neg (by omega), if_neg (by omega), if_neg (by omega), if_neg (by omega), if_neg (by omega), if_pos hk]; simp [bareB, *])
   go_enter Try.func144, Try.ntmps144
   go_wp2
   go_ret
   exact ⟨by rw [Hr.out]; rfl, (Below.refl _ _).alloc (Nat.le_refl _) _⟩
  by_cases q2 : t.l.length ≤ 64
  case neg =>
   have p2 : decide (t.l.length ≤ 64) = false := decide_eq_false q2
   have p2' : decide ((t.l.length : Int) ≤ 64) = false := decide_eq_false (by omega)
   have Hr := Lib.hid (show nodeB t = false from by unfold nodeB; rw [if_neg (by omega), if_neg (by omega), if_neg (by omega), if_neg (by omega), if_neg (by omega), if_pos hk]; simp [bareB, *])
   go_enter Try.func144, Try.ntmps144
   go_wp2
   go_ret
   exact ⟨by rw [Hr.out]; rfl, (Below.refl _ _).alloc (Nat.le_refl _) _⟩
  have p2 : decide (t.l.length ≤ 64) = true := decide_eq_true q2
  have p2' : decide ((t.l.length : Int) ≤ 64) = true := decide_eq_true (by omega)
  have Hr := Lib.hid (show nodeB t = true from by unfold nodeB; rw [if_neg (by omega), if_neg (by omega), if_neg (by omega), if_neg (by omega), if_neg (by omega), if_pos hk]; simp [bareB, *])
  go_enter Try.func144, Try.ntmps144
  go_wp2
  go_ret
  exact ⟨by rw [Hr.out]; rfl, (Below.refl _ _).alloc (Nat.le_refl _) _⟩
end Go.Proofs.Ytfhgknmkpegpbaa
set_option linter.unusedVariables false
set_option linter.unusedSimpArgs false
namespace Go.Proofs.Ytfhgknmkpegpbaa
open Go.RowKit
def cmpI (a b : Int) : Int := if a < b then -1 else if b < a then 1 else 0
set_option maxRecDepth 100000 in
set_option maxHeartbeats 4000000 in
theorem isNaNI_calls (x : Int) (w : World) : Calls Try.prog 141 #[.int .i64 x] w fun e w' => e = .returned (.bool false) ∧ w = w' := by
 go_enter Try.func141, Try.ntmps141
 go_wp2
 go_ret
 exact ⟨by simp, rfl⟩
theorem isNaNS_calls (x : ByteArray) (w : World) : Calls Try.prog 145 #[.string x] w fun e w' => e = .returned (.bool false) ∧ w = w' := by
 go_enter Try.func145, Try.ntmps145
 go_wp2
 go_ret
 exact ⟨by simp, rfl⟩
set_option maxRecDepth 100000 in
set_option maxHeartbeats 4000000 in
theorem cmpI_calls (a b : Int) (w : World) : Calls Try.prog 113 #[.int .i64 a, .int .i64 b] w fun e w' => e = .returned (.int .i64 (cmpI a b)) ∧ w = w' := by
 by_cases h1 : a < b
 ·have Hr := Lib.hid (show cmpI a b = -1 from by rw [cmpI, if_pos h1])
  have d1 : decide (a < b) = true := decide_eq_true h1
  go_enter Try.func113, Try.ntmps113
  go_wp2_with (go_at_call 141; refine (isNaNI_calls _ _).mono ?_; rintro e w' ⟨rfl, rfl⟩)
  go_ret
  exact ⟨by rw [Hr.out]; rfl, rfl⟩
 ·have d1 : decide (a < b) = false := decide_eq_false h1
  by_cases h2 : b < a
  ·have Hr := Lib.hid (show cmpI a b = 1 from by rw [cmpI, if_neg h1, if_pos h2])
   have d2 : decide (b < a) = true := decide_eq_true h2
   go_enter Try.func113, Try.ntmps113
   go_wp2_with (go_at_call 141; refine (isNaNI_calls _ _).mono ?_; rintro e w' ⟨rfl, rfl⟩)
   go_ret
   exact ⟨by rw [Hr.out]; rfl, rfl⟩
  ·have Hr := Lib.hid (show cmpI a b = 0 from by rw [cmpI, if_neg h1, if_neg h2])
   have d2 : decide (b < a) = false := decide_eq_false h2
   go_enter Try.func113, Try.ntmps113
   go_wp2_with (go_at_call 141; refine (isNaNI_calls _ _).mono ?_; rintro e w' ⟨rfl, rfl⟩)
   go_ret
   exact ⟨by rw [Hr.out]; rfl, rfl⟩
def cmpS (a b : ByteArray) : Int := if Op.bytesLess a.toList b.toList = true then -1 else if a.toList = b.toList then 0 else 1
set_option maxRecDepth 100000 in
set_option maxHeartbeats 4000000 in
theorem cmpS_calls (a b : ByteArray) (w : World) : Calls Try.prog 125 #[.string a, .string b] w fun e w' => e = .returned (.int .i64 (cmpS a b)) ∧ w = w' := by
 rcases h1 : Op.bytesLess a.toList b.toList with _ | _
 ·by_cases h2 : a.toList = b.toList
  ·have Hr := Lib.hid (show cmpS a b = 0 from by rw [cmpS, if_neg (by rw [h1]; simp), if_pos h2])
   have d2 : (a.toList == b.toList) = true := by simpa using h2
   clear h2
   go_enter Try.func125, Try.ntmps125
   go_wp2_with (go_at_call 145; refine (isNaNS_calls _ _).mono ?_; rintro e w' ⟨rfl, rfl⟩)
   go_ret
   exact ⟨by rw [Hr.out]; rfl, rfl⟩
  ·have Hr := Lib.hid (show cmpS a b = 1 from by rw [cmpS, if_neg (by rw [h1]; simp), if_neg h2])
   have d2 : (a.toList == b.toList) = false := by simpa using h2
   clear h2
   go_enter Try.func125, Try.ntmps125
   go_wp2_with (go_at_call 145; refine (isNaNS_calls _ _).mono ?_; rintro e w' ⟨rfl, rfl⟩)
   go_ret
   exact ⟨by rw [Hr.out]; rfl, rfl⟩
 ·have Hr := Lib.hid (show cmpS a b = -1 from by rw [cmpS, if_pos h1])
  go_enter Try.func125, Try.ntmps125
  go_wp2_with (go_at_call 145; refine (isNaNS_calls _ _).mono ?_; rintro e w' ⟨rfl, rfl⟩)
  go_ret
  exact ⟨by rw [Hr.out]; rfl, rfl⟩
def orI : List Int → Int
 | [] => 0
 | x :: xs => if x = 0 then orI xs else x
theorem orI_zeros : ∀ {l : List Int} (k : Nat), (∀ (j : Nat) (x : Int), j < k → l[j]? = some x → x = 0) → orI (l.drop k) = orI l
 | _, 0, _ => by simp
 | [], k + 1, _ => by simp
 | y :: ys, k + 1, h => by
  have hy := h 0 y (by omega) rfl
  rw [List.drop_succ_cons, orI, if_pos hy]
  exact orI_zeros k (fun j x hj hx => h (j + 1) x (by omega) (by simpa using hx))
theorem orI_at {l : List Int} {k : Nat} {x : Int} (h : l[k]? = some x) (hz : ∀ (j : Nat) (x : Int), j < k → l[j]? = some x → x = 0) (hx : x ≠ 0) : orI l = x := by
 rw [← orI_zeros k hz]
 obtain ⟨h1, h2⟩ := List.getElem?_eq_some_iff.1 h
 rw [List.drop_eq_getElem_cons h1, h2, orI, if_neg hx]
set_option maxRecDepth 100000 in
set_option maxHeartbeats 4000000 in
theorem or_calls (l : List Int) (A : Option Addr) (c : Nat) (w : World) (hl : l.length ≤ 1000) (hr : Rd w A (l.flatMap encI)) : Calls Try.prog 124 #[.slice A l.length c] w fun e w' => e = .returned (.int .i64 (orI l)) ∧ w = w' := by
 have HR := Lib.hid hr; clear hr
 go_enter Try.func124, Try.ntmps124
 go_wp2
 go_loop [8] (fun i => ∃ k : Nat, k ≤ l.length ∧ i = .int .i64 k ∧ (∀ (j : Nat) (x : Int), j < k → l[j]? = some x → x = 0)) (fun i => l.length - (intOf i).toNat)
 case atStart => exact ⟨0, Nat.zero_le _, rfl, fun j x h => absurd h (by omega)⟩
 case round =>
  obtain ⟨k, hk, rfl, hz⟩ := hrel
  have Hz := Lib.hid hz; clear hz
  by_cases hlt : k < l.length
  ·obtain ⟨x, hx⟩ : ∃ x, l[k]? = some x := ⟨_, List.getElem?_eq_getElem hlt⟩
   obtain ⟨g, off, rfl, e0⟩ := Rd.atI HR.out hx
   have Hx := Lib.hid hx; clear hx
   by_cases hx0 : x = 0
   ·have d1 : (x != 0) = false := by simpa using hx0
    have Hx0 := Lib.hid hx0; clear hx0
    go_wp2
    go_round
    case rel => exact ⟨k + 1, by omega, by go_num, fun j y hj hy => by
     rcases Nat.lt_or_ge j k with h1 | h1
     ·exact Hz.out j y h1 hy
     ·obtain rfl : j = k := by omega
      have h2 := Hx.out
      rw [hy] at h2
      injection h2 with h2
      rw [h2]; exact Hx0.out⟩
    case measure => simp [intOf]; omega
   ·have d1 : (x != 0) = true := by simpa using hx0
    have Hr := Lib.hid (orI_at Hx.out Hz.out hx0)
    clear hx0
    go_wp2
    go_ret
    exact ⟨by rw [Hr.out]; rfl, rfl⟩
  ·have hke : k = l.length := by omega
   subst hke
   have Hr := Lib.hid (show orI l = 0 from by
    have := orI_zeros l.length Hz.out
    rw [List.drop_length] at this
    exact this.symm)
   go_wp2
   go_ret
   exact ⟨by rw [Hr.out]; rfl, rfl⟩
end Go.Proofs.Ytfhgknmkpegpbaa
set_option linter.unusedVariables false
set_option linter.unusedSimpArgs false
namespace Go.Proofs.Ytfhgknmkpegpbaa
open Go.RowKit
mutual
def Tm.ord : Tm → Tm → Int
 | .mk k n s l, .mk k' n' s' l' => if k = k' then (if orI [cmpI n n', cmpI l.length l'.length, cmpS s s'] = 0 then Tm.ords l l' else orI [cmpI n n', cmpI l.length l'.length, cmpS s s']) else cmpI k k'
def Tm.ords : List Tm → List Tm → Int
 | [], [] => 0
 | [], _ :: _ => -1
 | _ :: _, [] => 1
 | x :: xs, y :: ys => if Tm.ord x y = 0 then Tm.ords xs ys else Tm.ord x y
end
theorem Tm.ord_eq (t u : Tm) : Tm.ord t u = if t.k = u.k then (if orI [cmpI t.n u.n, cmpI t.l.length u.l.length, cmpS t.s u.s] = 0 then Tm.ords t.l u.l else orI [cmpI t.n u.n, cmpI t.l.length u.l.length, cmpS t.s u.s]) else cmpI t.k u.k := by
 cases t; cases u; rw [Tm.ord]; rfl
theorem ords_same : ∀ {xs ys : List Tm} (k : Nat), k ≤ xs.length → k ≤ ys.length → (∀ (j : Nat) (x y : Tm), j < k → xs[j]? = some x → ys[j]? = some y → Tm.ord x y = 0) → Tm.ords (xs.drop k) (ys.drop k) = Tm.ords xs ys
 | _, _, 0, _, _, _ => by simp
 | [], _, k + 1, h, _, _ => by simp at h
 | _ :: _, [], k + 1, _, h, _ => by simp at h
 | x :: xs, y :: ys, k + 1, h1, h2, h => by
  have hy := h 0 x y (by omega) rfl rfl
  rw [List.drop_succ_cons, List.drop_succ_cons, Tm.ords, if_pos hy]
  exact ords_same k (by simpa using h1) (by simpa using h2) (fun j a b hj ha hb => h (j + 1) a b (by omega) (by simpa using ha) (by simpa using hb))
set_option maxRecDepth 100000 in
set_option maxHeartbeats 4000000 in
theorem compareFunc_calls (fid : Nat) (xs ys : List Tm) (A : Option Addr) (c : Nat) (B : Option Addr) (d : Nat) (P Q : Nat → Prop) (w : World) (hx : TmC P w A c xs) (hy : TmC Q w B d ys)
  (hcf : ∀ args w, Sem.run Try.prog (callFunc fid args) w = .ok (.enter fid args) w)
  (hf : ∀ x ∈ xs, ∀ y w1 v1 v2, TmV P w1 v1 x → TmV Q w1 v2 y → Calls Try.prog fid #[v1, v2] w1 (RetN w1 (Tm.ord x y))) :
  Calls Try.prog 126 #[.slice A xs.length c, .slice B ys.length d, .func (.func fid) #[] #[]] w (RetN w (Tm.ords xs ys)) := by
 have hxl := hx.len
 have hyl := hy.len
 have hx1 : xs.length ≤ 9223372036854775807 := by omega
 have hy1 : ys.length ≤ 9223372036854775807 := by omega
 have Hx := Lib.hid hx; clear hx hxl
 have Hy := Lib.hid hy; clear hy hyl
 have Hf := Lib.hid hf; clear hf
 go_enter Try.func126, Try.ntmps126
 go_wp2
 go_loopw [13] (fun i wr => ∃ k : Nat, k ≤ xs.length ∧ k ≤ ys.length ∧ i = .int .i64 k ∧ (∀ (j : Nat) (x y : Tm), j < k → xs[j]? = some x → ys[j]? = some y → Tm.ord x y = 0) ∧ Below w.heap.size w wr) (fun i _ => xs.length - (intOf i).toNat)
 case atStart => exact ⟨0, Nat.zero_le _, Nat.zero_le _, rfl, fun j x y h => absurd h (by omega), Below.refl _ _⟩
 case round =>
  obtain ⟨k, hk, hky, rfl, heq, hB⟩ := hrel
  have Heq := Lib.hid heq; clear heq
  have HB := Lib.hid hB; clear hB
  have Hs := Lib.hid (ords_same k hk hky Heq.out)
  by_cases hlt : k < xs.length
  ·obtain ⟨x, hx⟩ : ∃ x, xs[k]? = some x := ⟨_, List.getElem?_eq_getElem hlt⟩
   obtain ⟨g, off, Ai, ci, rfl, -, ⟨e0, e1, e2, e3⟩, hxs, hxc⟩ := (Hx.out.stay HB.out (Nat.le_refl _)).at_ hx
   by_cases hlt2 : k < ys.length
   ·obtain ⟨y, hy⟩ : ∃ y, ys[k]? = some y := ⟨_, List.getElem?_eq_getElem hlt2⟩
    obtain ⟨g', off', Bi, di, rfl, -, ⟨f0, f1, f2, f3⟩, hys, hyc⟩ := (Hy.out.stay HB.out (Nat.le_refl _)).at_ hy
    have hb0 : Below wr.heap.size wr (wr.alloc (.cells #[.int .i64 x.k, .int .i64 x.n, .string x.s, .slice Ai x.l.length ci] 25)) := (Below.refl _ _).alloc (Nat.le_refl _) _
    have q0 := keep_cell hb0 f0
    have q1 := keep_cell hb0 f1
    have q2 := keep_cell hb0 f2
    have q3 := keep_cell hb0 f3
    clear hb0
    have hbb : Below wr.heap.size wr ((wr.alloc (.cells #[.int .i64 x.k, .int .i64 x.n, .string x.s, .slice Ai x.l.length ci] 25)).alloc (.cells #[.int .i64 y.k, .int .i64 y.n, .string y.s, .slice Bi y.l.length di] 25)) := ((Below.refl _ _).alloc (Nat.le_refl _) _).alloc (by simp) _
    obtain ⟨r, hr⟩ : ∃ r, r = Tm.ord x y := ⟨_, rfl⟩
    have hcall := Hf.out x (List.mem_of_getElem? hx) y _ _ _ ⟨Ai, ci, rfl, hxs, hxc.stay hbb (Nat.le_refl _)⟩ ⟨Bi, di, rfl, hys, hyc.stay hbb (Nat.le_refl _)⟩
    rw [← hr] at hcall
    have Hcall := Lib.hid hcall; clear hcall hxc hyc
    have HBB := Lib.hid (HB.out.trans (hbb.mono HB.out.size)); clear hbb
    have hst : Tm.ords xs ys = if r = 0 then Tm.ords (xs.drop (k + 1)) (ys.drop (k + 1)) else r := by
     rw [← Hs.out]
     obtain ⟨h1, h2⟩ := List.getElem?_eq_some_iff.1 hx
     obtain ⟨h3, h4⟩ := List.getElem?_eq_some_iff.1 hy
     rw [List.drop_eq_getElem_cons h1, h2, List.drop_eq_getElem_cons h3, h4, Tm.ords, hr]
    have Hst := Lib.hid hst; clear hst
    have Hxx := Lib.hid hx; clear hx
    have Hyy := Lib.hid hy; clear hy
    have Hr := Lib.hid hr; clear hr
    have d1 : decide ((ys.length : Int) ≤ (k : Int)) = false := decide_eq_false (by omega)
    have d2 : decide (ys.length ≤ k) = false := decide_eq_false (by omega)
    have hlen' : (k : Int) < (ys.length : Int) := by omega
    go_wp2_with fail
    refine Hcall.out.mono ?_
    rintro e w1 ⟨rfl, hb⟩
    have HB1 := Lib.hid (HBB.out.trans (hb.mono HBB.out.size)); clear hb
    by_cases hr0 : r = 0
    ·have d3 : (r != 0) = false := by simpa using hr0
     have Hr0 := Lib.hid hr0; clear hr0
     go_wp2
     go_roundw
     case rel => exact ⟨k + 1, by omega, by omega, by go_num, fun j a b hj ha hb => by
      rcases Nat.lt_or_ge j k with h1 | h1
      ·exact Heq.out j a b h1 ha hb
      ·obtain rfl : j = k := by omega
       have h2 := Hxx.out
       rw [ha] at h2
       injection h2 with h2
       have h3 := Hyy.out
       rw [hb] at h3
       injection h3 with h3
       rw [h2, h3, ← Hr.out]; exact Hr0.out, HB1.out⟩
     case measure => simp [intOf]; omega
    ·have d3 : (r != 0) = true := by simpa using hr0
     have Hrr := Lib.hid (show Tm.ords xs ys = r from by rw [Hst.out, if_neg hr0])
     clear hr0
     go_wp2
     go_ret
     exact ⟨by rw [Hrr.out]; rfl, HB1.out⟩
   ·have Hrr := Lib.hid (show Tm.ords xs ys = 1 from by
     rw [← Hs.out, List.drop_of_length_le (l := ys) (by omega)]
     obtain ⟨h1, h2⟩ := List.getElem?_eq_some_iff.1 hx
     rw [List.drop_eq_getElem_cons h1, Tm.ords])
    have d1 : decide ((ys.length : Int) ≤ (k : Int)) = true := decide_eq_true (by omega)
    have d2 : decide (ys.length ≤ k) = true := decide_eq_true (by omega)
    have Hbel := Lib.hid (HB.out.alloc HB.out.size (.cells #[.int .i64 x.k, .int .i64 x.n, .string x.s, .slice Ai x.l.length ci] 25))
    clear hx
    go_wp2
    go_ret
    exact ⟨by rw [Hrr.out]; rfl, Hbel.out⟩
  ·have hke : k = xs.length := by omega
   subst hke
   by_cases hlt2 : xs.length < ys.length
   ·have Hrr := Lib.hid (show Tm.ords xs ys = -1 from by
     rw [← Hs.out, List.drop_length, List.drop_eq_getElem_cons hlt2, Tm.ords])
    have d1 : decide (xs.length < ys.length) = true := decide_eq_true hlt2
    have d2 : decide ((xs.length : Int) < (ys.length : Int)) = true := decide_eq_true (by omega)
    go_wp2
    go_ret
    exact ⟨by rw [Hrr.out]; rfl, HB.out⟩
   ·have Hrr := Lib.hid (show Tm.ords xs ys = 0 from by
     rw [← Hs.out, List.drop_length, List.drop_of_length_le (by omega), Tm.ords])
    have d1 : decide (xs.length < ys.length) = false := decide_eq_false hlt2
    have d2 : decide ((xs.length : Int) < (ys.length : Int)) = false := decide_eq_false (by omega)
    go_wp2
    go_ret
    exact ⟨by rw [Hrr.out]; rfl, HB.out⟩
theorem rd3 {w : World} {g : Nat} {x y z : Int} (h0 : w.cell? ⟨g, 0, none⟩ = some (.int .i64 x)) (h1 : w.cell? ⟨g, 1, none⟩ = some (.int .i64 y)) (h2 : w.cell? ⟨g, 2, none⟩ = some (.int .i64 z)) : Rd w (some ⟨g, 0, none⟩) ([x, y, z].flatMap encI) := by
 intro _
 refine ⟨g, 0, rfl, fun j v hj => ?_⟩
 rw [Nat.zero_add]
 match j with
 | 0 => injection hj with hj; rw [← hj]; exact h0
 | 1 => injection hj with hj; rw [← hj]; exact h1
 | 2 => injection hj with hj; rw [← hj]; exact h2
 | j + 3 => simp [encI] at hj
theorem below_alloc1 (W : World) (o : Obj) : Below W.heap.size W (W.alloc o) := (Below.refl _ _).alloc (Nat.le_refl _) _
set_option maxRecDepth 100000 in
set_option maxHeartbeats 4000000 in
theorem compare_calls (t : Tm) : ∀ (P Q : Nat → Prop) (w : World) (v v2 : Value) (u : Tm), TmV P w v t → TmV Q w v2 u → Calls Try.prog 84 #[v, v2] w (RetN w (Tm.ord t u)) := by
 induction t using Tm.ind with
 | h t ih =>
  intro P Q w v v2 u hv hv2
  obtain ⟨A, c, rfl, hs, hc⟩ := hv
  obtain ⟨B, d, rfl, hs', hd⟩ := hv2
  have Ih := Lib.hid ih; clear ih
  obtain ⟨W0, hW0⟩ : ∃ W0, W0 = (w.alloc (.cells #[.int .i64 t.k, .int .i64 t.n, .string t.s, .slice A t.l.length c] 25)).alloc (.cells #[.int .i64 u.k, .int .i64 u.n, .string u.s, .slice B u.l.length d] 25) := ⟨_, rfl⟩
  have hB0 : Below w.heap.size w W0 := by rw [hW0]; exact ((Below.refl _ _).alloc (Nat.le_refl _) _).alloc (by simp) _
  have hX0 : Blk W0 w.heap.size 25 #[.int .i64 t.k, .int .i64 t.n, .string t.s, .slice A t.l.length c] := by rw [hW0]; exact (Blk.new w 25 _).alloc _
  have hY0 : Blk W0 (w.heap.size + 1) 25 #[.int .i64 u.k, .int .i64 u.n, .string u.s, .slice B u.l.length d] := by
   rw [hW0]
   have := Blk.new (w.alloc (.cells #[.int .i64 t.k, .int .i64 t.n, .string t.s, .slice A t.l.length c] 25)) 25 #[.int .i64 u.k, .int .i64 u.n, .string u.s, .slice B u.l.length d]
   rw [show (w.alloc (.cells #[.int .i64 t.k, .int .i64 t.n, .string t.s, .slice A t.l.length c] 25)).heap.size = w.heap.size + 1 from by simp] at this
   exact this
  have ly0 := hY0.lt
  have hlc := hc.len.1
  have hlm := hc.len.2.1
  have hld := hd.len.1
  have hln := hd.len.2.1
  have Hc := Lib.hid (hc.stay hB0 (Nat.le_refl _)); clear hc
  have Hd := Lib.hid (hd.stay hB0 (Nat.le_refl _)); clear hd
  have HX0 := Lib.hid hX0; clear hX0
  have HY0 := Lib.hid hY0; clear hY0
  have HB0 := Lib.hid hB0; clear hB0
  have HW := Lib.hid hW0; clear hW0
  have hsp := Tm.ord_eq t u
  obtain ⟨R, hR⟩ : ∃ R, R = Tm.ord t u := ⟨_, rfl⟩
  rw [← hR] at hsp ⊢
  have Hsp := Lib.hid hsp; clear hsp hR
  by_cases hk : t.k = u.k
  case neg =>
   have Hr := Lib.hid (show R = cmpI t.k u.k from by rw [Hsp.out, if_neg hk])
   have h1 : (t.k != u.k) = true := by simpa using hk
   clear hk
   go_enter Try.func84, Try.ntmps84
   go_wp2_with (go_at_call 113; refine (cmpI_calls _ _ _).mono ?_; rintro e w' ⟨rfl, rfl⟩)
   go_ret
   exact ⟨by rw [Hr.out]; rfl, by rw [← HW.out]; exact HB0.out⟩
  have hk1 : (t.k != u.k) = false := by simpa using hk
  obtain ⟨o3, ho3⟩ : ∃ o3, o3 = orI [cmpI t.n u.n, cmpI t.l.length u.l.length, cmpS t.s u.s] := ⟨_, rfl⟩
  have Hr := Lib.hid (show R = if o3 = 0 then Tm.ords t.l u.l else o3 from by rw [Hsp.out, if_pos hk, ho3])
  clear hk Hsp
  have Ho3 := Lib.hid ho3; clear ho3
  obtain ⟨⟨a0, a1, a2, a3⟩, -⟩ := HX0.out.four
  obtain ⟨⟨b0, b1, b2, b3⟩, -⟩ := HY0.out.four
  go_enter Try.func84, Try.ntmps84
  go_wp2_with fail
  rw [← HW.out]
  go_region_held3 (fun W => W.cell? ⟨w.heap.size, 1, none⟩ = some (.int .i64 t.n) ∧ W.cell? ⟨w.heap.size, 2, none⟩ = some (.string t.s) ∧ W.cell? ⟨w.heap.size, 3, none⟩ = some (.slice A t.l.length c) ∧ W.cell? ⟨w.heap.size + 1, 1, none⟩ = some (.int .i64 u.n) ∧ W.cell? ⟨w.heap.size + 1, 2, none⟩ = some (.string u.s) ∧ W.cell? ⟨w.heap.size + 1, 3, none⟩ = some (.slice B u.l.length d))
   (first
    | exact ⟨a1, a2, a3, b1, b2, b3⟩
    | (go_split_ands; refine ⟨?_, ?_, ?_, ?_, ?_, ?_⟩ <;> first | assumption | exact keep_cell (below_alloc1 _ _) (by assumption)))
   (first
    | (go_at_call 113; refine (cmpI_calls _ _ _).mono ?_; rintro e w' ⟨rfl, rfl⟩)
    | (go_at_call 125; refine (cmpS_calls _ _ _).mono ?_; rintro e w' ⟨rfl, rfl⟩)
    | (go_at_call 124; refine (or_calls [cmpI t.n u.n, cmpI t.l.length u.l.length, cmpS t.s u.s] _ 3 _ (by simp) (rd3 (by simp) (by simp) (by simp))).mono ?_; rintro e w' ⟨rfl, rfl⟩))
  rw [← Ho3.out]
  obtain ⟨W1, hW1⟩ : ∃ W1, W1 = (W0.alloc (.cells #[.int .i64 (cmpI t.n u.n), .int .i64 (cmpI t.l.length u.l.length), .int .i64 (cmpS t.s u.s)] 3)).drew := ⟨_, rfl⟩
  have hB1 : Below W0.heap.size W0 W1 := by rw [hW1]; exact ((Below.refl _ _).alloc (Nat.le_refl _) _).drew
  rw [← hW1]
  have c3 := keep_cell hB1 a3
  have e3 := keep_cell hB1 b3
  have hsz : w.heap.size ≤ W0.heap.size := HB0.out.size
  have Hc1 := Lib.hid (Hc.out.stay hB1 (Nat.le_refl _))
  have Hd1 := Lib.hid (Hd.out.stay hB1 (Nat.le_refl _))
  have HB1 := Lib.hid (HB0.out.trans (hB1.mono hsz))
  clear hB1 hW1
  by_cases h0 : o3 = 0
  ·have Hrr := Lib.hid (show R = Tm.ords t.l u.l from by rw [Hr.out, if_pos h0])
   have h1 : (o3 != 0) = false := by simpa using h0
   clear h0 Hr Ho3
   have hcall := compareFunc_calls 84 t.l u.l A c B d P Q W1 Hc1.out Hd1.out (fun _ _ => rfl) (fun x hx y w1 v1 v2 h1 h2 => Ih.out x hx P Q w1 v1 v2 y h1 h2)
   rw [← Hrr.out] at hcall
   have Hcall := Lib.hid hcall; clear hcall
   go_wp2_with fail
   refine Hcall.out.mono ?_
   rintro e w1 ⟨rfl, hb⟩
   have HB2 := Lib.hid (HB1.out.trans (hb.mono HB1.out.size)); clear hb
   go_wp2
   go_ret
   exact ⟨rfl, HB2.out⟩
  ·have Hrr := Lib.hid (show R = o3 from by rw [Hr.out, if_neg h0])
   have h1 : (o3 != 0) = true := by simpa using h0
   clear h0 Hr Ho3
   go_wp2
   go_ret
   exact ⟨by rw [Hrr.out]; rfl, HB1.out⟩
end Go.Proofs.Ytfhgknmkpegpbaa
set_option linter.unusedVariables false
set_option linter.unusedSimpArgs false
namespace Go.Proofs.Ytfhgknmkpegpbaa
open Go.RowKit
def RetA (w : World) (x : Value) (e : Ending) (w' : World) : Prop := e = .returned x ∧ Below w.heap.size w w'
def Tm.va (n : Int) : Tm := .mk 1 n ⟨#[]⟩ []
def Tm.at' (s : ByteArray) : Tm := .mk 3 0 s []
def Tm.fn (s : ByteArray) (l : List Tm) : Tm := .mk 5 0 s l
def vV (n : Int) : Value := .agg #[.int .i64 1, .int .i64 n, .string ⟨#[]⟩, .slice none 0 0]
def vA (s : ByteArray) : Value := .agg #[.int .i64 3, .int .i64 0, .string s, .slice none 0 0]
def vF (s : ByteArray) (v : Value) : Value := .agg #[.int .i64 5, .int .i64 0, .string s, v]
theorem TmV.va (P : Nat → Prop) (w : World) (n : Int) : TmV P w (vV n) (Tm.va n) := ⟨none, 0, rfl, by show (0 : Nat) ≤ _; omega, TmC.nil P w (by omega) (fun _ => rfl)⟩
theorem TmV.at' (P : Nat → Prop) (w : World) (s : ByteArray) (h : s.size ≤ 9223372036854775807) : TmV P w (vA s) (Tm.at' s) := ⟨none, 0, rfl, h, TmC.nil P w (by omega) (fun _ => rfl)⟩
theorem TmV.fn {P : Nat → Prop} {w : World} {A : Option Addr} {c : Nat} {l : List Tm} (s : ByteArray) (h : s.size ≤ 9223372036854775807) (hc : TmC P w A c l) : TmV P w (vF s (.slice A l.length c)) (Tm.fn s l) := ⟨A, c, rfl, h, hc⟩
set_option maxRecDepth 100000 in
set_option maxHeartbeats 4000000 in
theorem v_calls (n : Int) (w : World) : Calls Try.prog 44 #[.int .i64 n] w (RetA w (vV n)) := by
 go_enter Try.func44, Try.ntmps44
 go_wp2
 refine bodyPost_ret (v := vV n) (by simp [results, Try.results44, go_sem]; rfl) rfl (R := RetA w (vV n)) ⟨rfl, ?_⟩
 exact (Below.refl _ _).alloc (Nat.le_refl _) _
set_option maxRecDepth 100000 in
set_option maxHeartbeats 4000000 in
theorem a_calls (s : ByteArray) (w : World) : Calls Try.prog 75 #[.string s] w (RetA w (vA s)) := by
 go_enter Try.func75, Try.ntmps75
 go_wp2
 refine bodyPost_ret (v := vA s) (by simp [results, Try.results75, go_sem]; rfl) rfl (R := RetA w (vA s)) ⟨rfl, ?_⟩
 exact (Below.refl _ _).alloc (Nat.le_refl _) _
set_option maxRecDepth 100000 in
set_option maxHeartbeats 4000000 in
theorem f_calls (s : ByteArray) (A : Option Addr) (n c : Nat) (w : World) : Calls Try.prog 74 #[.string s, .slice A n c] w (RetA w (vF s (.slice A n c))) := by
 go_enter Try.func74, Try.ntmps74
 go_wp2
 refine bodyPost_ret (v := vF s (.slice A n c)) (by simp [results, Try.results74, go_sem]; rfl) rfl (R := RetA w (vF s (.slice A n c))) ⟨rfl, ?_⟩
 exact (Below.refl _ _).alloc (Nat.le_refl _) _
set_option maxRecDepth 100000 in
set_option maxHeartbeats 4000000 in
theorem compareTop_calls (t u : Tm) (P Q : Nat → Prop) (w : World) (v v2 : Value) (hv : TmV P w v t) (hv2 : TmV Q w v2 u) :
  Calls Try.prog 27 #[v, v2] w (RetA w (.tuple #[.int .i64 (if allIs [t, u] = true then Tm.ord t u else 0), .int .i64 (errT (allIs [t, u]))])) := by
 obtain ⟨A, c, rfl, hs, hc⟩ := hv
 obtain ⟨B, d, rfl, hs', hd⟩ := hv2
 obtain ⟨W1, hW1⟩ : ∃ W1, W1 = ((w.alloc (.cells #[.int .i64 t.k, .int .i64 t.n, .string t.s, .slice A t.l.length c] 25)).alloc (.cells #[.int .i64 u.k, .int .i64 u.n, .string u.s, .slice B u.l.length d] 25)).alloc (.cells #[.int .i64 t.k, .int .i64 t.n, .string t.s, .slice A t.l.length c, .int .i64 u.k, .int .i64 u.n, .string u.s, .slice B u.l.length d] 25) := ⟨_, rfl⟩
 have hB1 : Below w.heap.size w W1 := by rw [hW1]; exact (((Below.refl _ _).alloc (Nat.le_refl _) _).alloc (by simp) _).alloc (by simp; omega) _
 have hX : Blk W1 w.heap.size 25 #[.int .i64 t.k, .int .i64 t.n, .string t.s, .slice A t.l.length c] := by rw [hW1]; exact ((Blk.new w 25 _).alloc _).alloc _
 have hY : Blk W1 (w.heap.size + 1) 25 #[.int .i64 u.k, .int .i64 u.n, .string u.s, .slice B u.l.length d] := by
  rw [hW1]
  have := Blk.new (w.alloc (.cells #[.int .i64 t.k, .int .i64 t.n, .string t.s, .slice A t.l.length c] 25)) 25 #[.int .i64 u.k, .int .i64 u.n, .string u.s, .slice B u.l.length d]
  rw [show (w.alloc (.cells #[.int .i64 t.k, .int .i64 t.n, .string t.s, .slice A t.l.length c] 25)).heap.size = w.heap.size + 1 from by simp] at this
  exact this.alloc _
 have hZ : Blk W1 (w.heap.size + 1 + 1) 25 #[.int .i64 t.k, .int .i64 t.n, .string t.s, .slice A t.l.length c, .int .i64 u.k, .int .i64 u.n, .string u.s, .slice B u.l.length d] := by
  rw [hW1]
  have := Blk.new ((w.alloc (.cells #[.int .i64 t.k, .int .i64 t.n, .string t.s, .slice A t.l.length c] 25)).alloc (.cells #[.int .i64 u.k, .int .i64 u.n, .string u.s, .slice B u.l.length d] 25)) 25 #[.int .i64 t.k, .int .i64 t.n, .string t.s, .slice A t.l.length c, .int .i64 u.k, .int .i64 u.n, .string u.s, .slice B u.l.length d]
  rw [show ((w.alloc (.cells #[.int .i64 t.k, .int .i64 t.n, .string t.s, .slice A t.l.length c] 25)).alloc (.cells #[.int .i64 u.k, .int .i64 u.n, .string u.s, .slice B u.l.length d] 25)).heap.size = w.heap.size + 1 + 1 from by simp] at this
  exact this
 have hc1 := (hc.inside.belowP hB1 (fun g h => h.2)).mono (Q := fun g => P g ∨ Q g ∨ g = w.heap.size + 1 + 1) (fun g h => Or.inl h.1)
 have hd1 := (hd.inside.belowP hB1 (fun g h => h.2)).mono (Q := fun g => P g ∨ Q g ∨ g = w.heap.size + 1 + 1) (fun g h => Or.inr (Or.inl h.1))
 have hcall := checked_calls [t, u] _ _ 2 W1 (TmC.lit (P := fun g => P g ∨ Q g ∨ g = w.heap.size + 1 + 1) [(t, A, c), (u, B, d)] (by simp; exact ⟨⟨hs, hc1⟩, hs', hd1⟩) hZ (Or.inr (Or.inr rfl)) (by simp))
 obtain ⟨b, hb⟩ : ∃ b, b = allIs [t, u] := ⟨_, rfl⟩
 obtain ⟨o, ho⟩ : ∃ o, o = if b = true then Tm.ord t u else 0 := ⟨_, rfl⟩
 rw [← hb] at hcall ⊢
 rw [← ho]
 have Ho := Lib.hid ho; clear ho
 have Hcall := Lib.hid hcall; clear hcall hZ
 have Hc := Lib.hid hc; clear hc hc1
 have Hd := Lib.hid hd; clear hd hd1
 have HX := Lib.hid hX; clear hX
 have HY := Lib.hid hY; clear hY
 have HB1 := Lib.hid hB1; clear hB1 hb
 have HW := Lib.hid hW1; clear hW1
 go_enter Try.func27, Try.ntmps27
 go_wp2_with fail
 rw [← HW.out]
 refine Hcall.out.mono ?_
 rintro e w1 ⟨rfl, hb1⟩
 have hsz := HB1.out.size
 have lx := HX.out.lt
 have ly := HY.out.lt
 obtain ⟨⟨a0, a1, a2, a3⟩, -⟩ := (HX.out.below hb1 lx).four
 obtain ⟨⟨b0, b1, b2, b3⟩, -⟩ := (HY.out.below hb1 ly).four
 have HB2 := Lib.hid (HB1.out.trans (hb1.mono hsz))
 clear hb1 lx ly
 cases b
 ·have he : (errT false != 0) = true := rfl
  have ho := Ho.out
  rw [if_neg (by simp)] at ho
  subst ho
  go_wp2
  exact bodyPost_ret (v := .tuple #[.int .i64 0, .int .i64 (errT false)]) (by simp [results, Try.results27, go_sem]) rfl (R := RetA w _) ⟨rfl, HB2.out⟩
 ·have he : (errT true != 0) = false := rfl
  have ho := Ho.out
  rw [if_pos rfl] at ho
  have Hh := Lib.hid ho; clear ho Ho
  have hcall := compare_calls t P Q w1 _ _ u ⟨A, c, rfl, hs, Hc.out.stay HB2.out (Nat.le_refl _)⟩ ⟨B, d, rfl, hs', Hd.out.stay HB2.out (Nat.le_refl _)⟩
  rw [← Hh.out] at hcall
  have Hcall2 := Lib.hid hcall; clear hcall Hcall
  go_wp2_with fail
  refine Hcall2.out.mono ?_
  rintro e w2 ⟨rfl, hb2⟩
  have HB3 := Lib.hid (HB2.out.trans (hb2.mono HB2.out.size)); clear hb2
  go_wp2
  exact bodyPost_ret (v := .tuple #[.int .i64 o, .int .i64 (errT true)]) (by simp [results, Try.results27, go_sem]; rfl) rfl (R := RetA w _) ⟨rfl, HB3.out⟩
theorem eqI_false {xs ys : List Int} : decide (xs = ys) = false ↔ xs ≠ ys := decide_eq_false_iff_not
set_option maxRecDepth 100000 in
set_option maxHeartbeats 4000000 in
theorem equalInt_calls (xs ys : List Int) (A : Option Addr) (c : Nat) (B : Option Addr) (d : Nat) (w : World) (hx : Rd w A (xs.flatMap encI)) (hy : Rd w B (ys.flatMap encI)) (hlx : xs.length ≤ c) (hcx : c ≤ 9223372036854775807) (hly : ys.length ≤ d) (hcy : d ≤ 9223372036854775807) :
  Calls Try.prog 34 #[.slice A xs.length c, .slice B ys.length d] w (RetB w (decide (xs = ys))) := by
 have hx1 : xs.length ≤ 9223372036854775807 := by omega
 have hy1 : ys.length ≤ 9223372036854775807 := by omega
 have Hx := Lib.hid hx; clear hx
 have Hy := Lib.hid hy; clear hy
 by_cases hlen : xs.length = ys.length
 case neg =>
  have Hr := Lib.hid (show decide (xs = ys) = false from eqI_false.2 (fun e => hlen (by rw [e])))
  have hb : ((xs.length : Int) != (ys.length : Int)) = true := by simp; omega
  have hb2 : (xs.length != ys.length) = true := by simpa using hlen
  clear hlen
  go_enter Try.func34, Try.ntmps34
  go_wp2
  go_ret
  exact ⟨by rw [Hr.out]; rfl, Below.refl _ _⟩
 have Hlen := Lib.hid hlen
 go_enter Try.func34, Try.ntmps34
 rw [← hlen]
 clear hlen
 go_wp2
 go_loopw [13] (fun i wr => ∃ k : Nat, k ≤ xs.length ∧ i = .int .i64 k ∧ xs.take k = ys.take k ∧ Below w.heap.size w wr) (fun i _ => xs.length - (intOf i).toNat)
 case atStart => exact ⟨0, Nat.zero_le _, rfl, by simp, Below.refl _ _⟩
 case round =>
  obtain ⟨k, hk, rfl, heq, hB⟩ := hrel
  have Heq := Lib.hid heq; clear heq
  have HB := Lib.hid hB; clear hB
  by_cases hlt : k < xs.length
  ·obtain ⟨x, hx⟩ : ∃ x, xs[k]? = some x := ⟨_, List.getElem?_eq_getElem hlt⟩
   obtain ⟨y, hy⟩ : ∃ y, ys[k]? = some y := ⟨_, List.getElem?_eq_getElem (by rw [← Hlen.out]; exact hlt)⟩
   obtain ⟨g, off, rfl, e0⟩ := (Hx.out.below HB.out (Nat.le_refl _)).atI hx
   obtain ⟨g', off', rfl, f0⟩ := (Hy.out.below HB.out (Nat.le_refl _)).atI hy
   have Hxx := Lib.hid hx; clear hx
   have Hyy := Lib.hid hy; clear hy
   have hlt' : k < ys.length := by rw [← Hlen.out]; exact hlt
   have hlen' : (k : Int) < (ys.length : Int) := by omega
   by_cases hxy : x = y
   ·have Hnx := Lib.hid (show xs.take (k + 1) = ys.take (k + 1) from by rw [take_snoc Hxx.out, take_snoc Hyy.out, Heq.out, hxy])
    have hne : (x != y) = false := by simpa using hxy
    clear hxy
    go_wp2_with fail
    go_quiet (fail)
    go_wp2
    go_roundw
    case rel => exact ⟨k + 1, by omega, by go_num, Hnx.out, below_drewN HB.out _⟩
    case measure => simp [intOf]; omega
   ·have Hf' := Lib.hid (show decide (xs = ys) = false from eqI_false.2 (fun e => by
     subst e
     have h1 := Hxx.out.symm.trans Hyy.out
     injection h1 with h1
     exact hxy h1))
    have hne : (x != y) = true := by simpa using hxy
    clear hxy
    go_wp2_with fail
    go_quiet (fail)
    go_wp2
    go_ret
    exact ⟨by rw [Hf'.out]; rfl, below_drewN HB.out _⟩
  ·have hke : k = xs.length := by omega
   subst hke
   have Hf' := Lib.hid (show decide (xs = ys) = true from decide_eq_true (by
    have := Heq.out
    rw [List.take_length, Hlen.out, List.take_length] at this
    exact this))
   go_wp2
   go_ret
   exact ⟨by rw [Hf'.out]; rfl, HB.out⟩
end Go.Proofs.Ytfhgknmkpegpbaa
