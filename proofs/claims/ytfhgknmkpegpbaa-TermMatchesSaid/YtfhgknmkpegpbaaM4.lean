/- Part 4 of the base: the walks and plain facts that the statement rests on. -/
import Derived.Test.YtfhgknmkpegpbaaM3
import Derived.Maps.OwnOps
import Derived.Test.YtfhgknmkpegpbaaM1
import Derived.Maps.OwnSet

set_option linter.unusedVariables false
set_option linter.unusedSimpArgs false
namespace Go.Proofs.Ytfhgknmkpegpbaa
open Go.RowKit
theorem var_bd {t : Tm} (h : t.okB = true) (hk : t.k = 1) : 0 ≤ t.n ∧ t.n < 100000 := by
 rw [Tm.okB_eq, Bool.and_eq_true] at h
 have h1 := h.1
 unfold nodeB at h1
 rw [if_pos hk] at h1
 simp only [Bool.and_eq_true, decide_eq_true_eq] at h1
 exact ⟨h1.1.2, h1.2⟩
theorem okB_pre (t : Tm) : t.okB = true → ∀ x ∈ t.pre, x.okB = true := by
 induction t using Tm.ind with
 | h t ih =>
  intro h x hx
  rw [t.pre_eq] at hx
  rcases List.mem_cons.1 hx with rfl | hx
  ·exact h
  ·have : ∀ l : List Tm, (∀ y ∈ l, y ∈ t.l) → x ∈ Tm.pres l → x.okB = true := by
    intro l
    induction l with
    | nil => intro _ hx; simp [Tm.pres] at hx
    | cons a l ihl =>
     intro hl hx
     rw [Tm.pres, List.mem_append] at hx
     rcases hx with hx | hx
     ·exact ih a (hl a (by simp)) (okB_mem h (hl a (by simp))) x hx
     ·exact ihl (fun y hy => hl y (by simp [hy])) hx
   exact this t.l (fun y hy => hy) hx
theorem pickF_size {l : List Tm} (h : subB l = true) {n : Int} {x : Tm} (hx : pickF l n = some x) : x.size ≤ 1000000 := by
 unfold subB at h
 rw [Bool.and_eq_true] at h
 unfold pickF at hx
 split at hx
 ·rename_i y hy
  split at hx
  ·cases hx
  ·rename_i hf
   injection hx with hx
   subst hx
   have h2 := h.2
   simp only [Bool.not_eq_true', List.any_eq_false] at h2
   have h3 := h2 y (List.mem_of_getElem? hy)
   unfold badB at h3
   have h4 : isB y = true := by
    cases hb : isB y
    ·exfalso; apply h3; rw [hb]; simp at hf; simp [hf]
    ·rfl
   have := (isB_iff.1 h4).2.1
   omega
 ·cases hx
def substR (t : Tm) (l : List Tm) : Option Tm := if isB t = true ∧ subB l = true then repT (pickF l) t else none
def substE (t : Tm) (l : List Tm) : Int := if isB t = true then (if subB l = true then 2 else 1) else 3
set_option maxRecDepth 100000 in
set_option maxHeartbeats 4000000 in
theorem subst_calls (t : Tm) (l : List Tm) (P Q : Nat → Prop) (w : World) (v : Value) (A : Option Addr) (c : Nat) (hv : TmV P w v t) (hl : TmC Q w A c l) :
  Calls Try.prog 42 #[v, .slice A l.length c] w (RetME w (substR t l) (substE t l)) := by
 obtain ⟨B, d, rfl, hs, hc⟩ := hv
 obtain ⟨W0, hW0⟩ : ∃ W0, W0 = (w.alloc (.cells #[.int .i64 t.k, .int .i64 t.n, .string t.s, .slice B t.l.length d] 25)).alloc (.cells #[.int .i64 0, .int .i64 0, .string ⟨#[]⟩, .slice none 0 0] 25) := ⟨_, rfl⟩
 have hB0 : Below w.heap.size w W0 := by rw [hW0]; exact ((Below.refl _ _).alloc (Nat.le_refl _) _).alloc (by simp) _
 have hX0 : Blk W0 w.heap.size 25 #[.int .i64 t.k, .int .i64 t.n, .string t.s, .slice B t.l.length d] := by rw [hW0]; exact (Blk.new w 25 _).alloc _
 have hY0 : Blk W0 (w.heap.size + 1) 25 #[.int .i64 0, .int .i64 0, .string ⟨#[]⟩, .slice none 0 0] := by
  rw [hW0]
  have := Blk.new (w.alloc (.cells #[.int .i64 t.k, .int .i64 t.n, .string t.s, .slice B t.l.length d] 25)) 25 #[.int .i64 0, .int .i64 0, .string ⟨#[]⟩, .slice none 0 0]
  rwa [World.size_alloc] at this
 have hc0 := hc.inside.stay hB0 (Nat.le_refl _)
 have hl0 := hl.inside.stay hB0 (Nat.le_refl _)
 have hcall := check_calls t _ W0 _ ⟨B, d, rfl, hs, hc0⟩
 obtain ⟨tb, htb⟩ : ∃ tb, tb = isB t := ⟨_, rfl⟩
 obtain ⟨lb, hlb⟩ : ∃ lb, lb = subB l := ⟨_, rfl⟩
 obtain ⟨R, hR⟩ : ∃ R, R = substR t l := ⟨_, rfl⟩
 obtain ⟨er, her⟩ : ∃ er, er = substE t l := ⟨_, rfl⟩
 rw [← hR, ← her]
 unfold substR at hR
 unfold substE at her
 rw [← htb] at hcall hR her
 rw [← hlb] at hR her
 have Hcall := Lib.hid hcall; clear hcall
 have HR := Lib.hid hR; clear hR
 have Her := Lib.hid her; clear her
 have Htb := Lib.hid htb; clear htb
 have Hlb := Lib.hid hlb; clear hlb
 have Hc0 := Lib.hid hc0; clear hc0 hc
 have Hl0 := Lib.hid hl0; clear hl0 hl
 have HX0 := Lib.hid hX0; clear hX0
 have HY0 := Lib.hid hY0; clear hY0
 have HB0 := Lib.hid hB0; clear hB0
 have HW0 := Lib.hid hW0; clear hW0
 go_enter Try.func42, Try.ntmps42
 go_wp2_with fail
 rw [← HW0.out]
 go_wp2_with fail
 refine Hcall.out.mono ?_
 rintro e w1 ⟨rfl, hb1⟩
 have hX1 := HX0.out.below hb1 HX0.out.lt
 have hY1 := HY0.out.below hb1 HY0.out.lt
 have hlX1 := hX1.lt
 have hlY1 := hY1.lt
 obtain ⟨⟨a0, a1, a2, a3⟩, -⟩ := hX1.four
 obtain ⟨⟨d0, d1, d2, d3⟩, ⟨g0, g1, g2, g3⟩⟩ := hY1.four
 have HX1 := Lib.hid hX1; clear hX1
 have HY1 := Lib.hid hY1; clear hY1
 have Hc1 := Lib.hid (Hc0.out.stay hb1 (Nat.le_refl _))
 have Hl1 := Lib.hid (Hl0.out.stay hb1 (Nat.le_refl _))
 have HB1 := Lib.hid (HB0.out.trans (hb1.mono HB0.out.size)); clear hb1
 cases tb
 ·have he : (errT false != 0) = true := rfl
  have hr : R = none := by have := HR.out; simpa using this
  have her : er = 3 := by have := Her.out; simpa using this
  subst hr her
  go_wp2
  have hF := ((((HY1.out.set_ 0 (.int .i64 0)).set_ 1 (.int .i64 0)).set_ 2 (.string ⟨#[]⟩)).set_ 3 (.slice none 0 0))
  have hBF := ((((HB1.out.setCell (p := ⟨w.heap.size + 1, 0, none⟩) (by simp) (.int .i64 0)).setCell (p := ⟨w.heap.size + 1, 1, none⟩) (by simp) (.int .i64 0)).setCell (p := ⟨w.heap.size + 1, 2, none⟩) (by simp) (.string ⟨#[]⟩)).setCell (p := ⟨w.heap.size + 1, 3, none⟩) (by simp) (.slice none 0 0))
  obtain ⟨⟨z0, z1, z2, z3⟩, -⟩ := hF.four
  refine bodyPost_ret (v := .tuple #[.agg #[.int .i64 0, .int .i64 0, .string ⟨#[]⟩, .slice none 0 0], .int .i64 3]) ?_ rfl (R := RetME w none 3) ⟨none, 0, rfl, by decide, TmC.nil _ _ (by omega) (fun _ => rfl), hBF⟩
  generalize (World.setCell _ ⟨w.heap.size + 1, 3, none⟩ _) = WF at z0 z1 z2 z3 ⊢
  clear hF hBF
  simp [results, Try.results42, go_sem, z0, z1, z2, z3]
  try rfl
 have he : (errT true != 0) = false := rfl
 have hcall := substitution_calls l _ A c w1 Hl1.out
 rw [← Hlb.out] at hcall
 have Hcall2 := Lib.hid hcall; clear hcall Hcall
 go_wp2_with fail
 refine Hcall2.out.mono ?_
 rintro e w2 ⟨rfl, hb2⟩
 have hX2 := HX1.out.below hb2 HX1.out.lt
 have hY2 := HY1.out.below hb2 HY1.out.lt
 have hlX2 := hX2.lt
 have hlY2 := hY2.lt
 clear a0 a1 a2 a3 d0 d1 d2 d3 g0 g1 g2 g3
 obtain ⟨⟨a0, a1, a2, a3⟩, -⟩ := hX2.four
 obtain ⟨⟨d0, d1, d2, d3⟩, ⟨g0, g1, g2, g3⟩⟩ := hY2.four
 have HX2 := Lib.hid hX2; clear hX2
 have HY2 := Lib.hid hY2; clear hY2
 have Hc2 := Lib.hid (Hc1.out.stay hb2 (Nat.le_refl _))
 have Hl2 := Lib.hid (Hl1.out.stay hb2 (Nat.le_refl _))
 have HB2 := Lib.hid (HB1.out.trans (hb2.mono HB1.out.size)); clear hb2
 cases lb
 ·have hr : R = none := by have := HR.out; simpa using this
  have her : er = 1 := by have := Her.out; simpa using this
  subst hr her
  go_wp2
  have hF := ((((HY2.out.set_ 0 (.int .i64 0)).set_ 1 (.int .i64 0)).set_ 2 (.string ⟨#[]⟩)).set_ 3 (.slice none 0 0))
  have hBF := ((((HB2.out.setCell (p := ⟨w.heap.size + 1, 0, none⟩) (by simp) (.int .i64 0)).setCell (p := ⟨w.heap.size + 1, 1, none⟩) (by simp) (.int .i64 0)).setCell (p := ⟨w.heap.size + 1, 2, none⟩) (by simp) (.string ⟨#[]⟩)).setCell (p := ⟨w.heap.size + 1, 3, none⟩) (by simp) (.slice none 0 0))
  obtain ⟨⟨z0, z1, z2, z3⟩, -⟩ := hF.four
  refine bodyPost_ret (v := .tuple #[.agg #[.int .i64 0, .int .i64 0, .string ⟨#[]⟩, .slice none 0 0], .int .i64 1]) ?_ rfl (R := RetME w none 1) ⟨none, 0, rfl, by decide, TmC.nil _ _ (by omega) (fun _ => rfl), hBF⟩
  generalize (World.setCell _ ⟨w.heap.size + 1, 3, none⟩ _) = WF at z0 z1 z2 z3 ⊢
  clear hF hBF
  simp [results, Try.results42, go_sem, z0, z1, z2, z3]
  try rfl
 have hr : R = repT (pickF l) t := by have := HR.out; simpa using this
 have her : er = 2 := by have := Her.out; simpa using this
 subst her
 have Hr := Lib.hid hr; clear hr HR Her
 have hsz : t.size ≤ 1000000 := by have := (isB_iff.1 Htb.out.symm).2.1; omega
 have hvar : ∀ x ∈ t.pre, x.k = 1 → 0 ≤ x.n ∧ x.n < 100000 := fun x hx hk => var_bd (okB_pre t (isB_iff.1 Htb.out.symm).1 x hx) hk
 have hrep : ∀ W, Below w2.heap.size w2 W → Blk W w2.heap.size 22 #[.slice A l.length c] → Calls Try.prog 85 #[.agg #[.int .i64 t.k, .int .i64 t.n, .string t.s, .slice B t.l.length d], .func (.func 133) #[] #[.pointer (some ⟨w2.heap.size, 0, none⟩)]] W (RetME W R 2) := fun W hW hbk => by
  have hsW := hW.size
  have hw2s := HB2.out.size
  rw [Hr.out]
  refine replaced_calls 133 w2.heap.size (pickF l) (fun g => Q g ∧ g < w.heap.size) (fun W' => Blk W' w2.heap.size 22 #[.slice A l.length c] ∧ TmC (fun g => Q g ∧ g < w.heap.size) W' A c l) W (fun b W' W'' h1 h2 h3 => ⟨h2.1.but h3 (by have := hbk.lt; omega), h2.2.but h3 (fun g hg => by have := hg.2; omega)⟩) (fun g hg => by have := hg.2; omega) (fun _ _ => rfl)
   (fun n x hx => pickF_size Hlb.out.symm hx) (fun W' n h1 h2 h3 => picked1_calls l _ A c w2.heap.size W' n h1.1 h1.2 h2 h3) t _ _ ⟨B, d, rfl, hs, Hc2.out.stay hW (Nat.le_refl _)⟩ ⟨hbk, Hl2.out.stay hW (Nat.le_refl _)⟩ hsz hvar
 have Hrep := Lib.hid hrep; clear hrep hsz hvar
 go_wp2_with fail
 (first | go_region_with (first
   | (go_at_call 94; refine (picked_calls _ _ _ _).mono ?_; rintro e w' ⟨rfl, rfl⟩)
   | (go_at_call 85; refine (Hrep.out _ ((Below.refl _ _).alloc (Nat.le_refl _) _).drew (Blk.new _ _ _).drew).mono ?_; rintro e w3 ⟨A2, c2, rfl, hs2, hx2, hb3⟩; generalize hz : (if R.isSome = true then (0 : Int) else 2) = er2; have Hz := Lib.hid hz; clear hz; have hY3 := (((HY2.out.alloc (.cells #[.slice A l.length c] 22)).drew).below hb3 (by simp; omega)); obtain ⟨⟨u0, u1, u2, u3⟩, ⟨v0, v1, v2, v3⟩⟩ := hY3.four; have HY3 := Lib.hid hY3; clear hY3; have hX3 := (((HX2.out.alloc (.cells #[.slice A l.length c] 22)).drew).below hb3 (by simp; omega)); obtain ⟨⟨s0, s1, s2, s3⟩, -⟩ := hX3.four; clear hX3; have hB3 := HB2.out.trans ((((Below.refl w2.heap.size w2).alloc (Nat.le_refl _) (.cells #[.slice A l.length c] 22)).drew.trans (hb3.mono (by simp))).mono HB2.out.size); have HB3 := Lib.hid hB3; clear hB3 hb3;have Hx2 := Lib.hid hx2; clear hx2)) | fail)
 all_goals
  go_wp2
  have hF := ((((HY3.out.set_ 0 (.int .i64 (R.getD Tm.zero).k)).set_ 1 (.int .i64 (R.getD Tm.zero).n)).set_ 2 (.string (R.getD Tm.zero).s)).set_ 3 (.slice A2 (R.getD Tm.zero).l.length c2))
  have hBF := ((((HB3.out.setCell (p := ⟨w.heap.size + 1, 0, none⟩) (by simp) (.int .i64 (R.getD Tm.zero).k)).setCell (p := ⟨w.heap.size + 1, 1, none⟩) (by simp) (.int .i64 (R.getD Tm.zero).n)).setCell (p := ⟨w.heap.size + 1, 2, none⟩) (by simp) (.string (R.getD Tm.zero).s)).setCell (p := ⟨w.heap.size + 1, 3, none⟩) (by simp) (.slice A2 (R.getD Tm.zero).l.length c2))
  have hsw := HB2.out.size
  have hT := ((((Hx2.out.setCell ⟨w.heap.size + 1, 0, none⟩ (.int .i64 (R.getD Tm.zero).k) (fun g h e => by simp at e h; omega)).setCell ⟨w.heap.size + 1, 1, none⟩ (.int .i64 (R.getD Tm.zero).n) (fun g h e => by simp at e h; omega)).setCell ⟨w.heap.size + 1, 2, none⟩ (.string (R.getD Tm.zero).s) (fun g h e => by simp at e h; omega)).setCell ⟨w.heap.size + 1, 3, none⟩ (.slice A2 (R.getD Tm.zero).l.length c2) (fun g h e => by simp at e h; omega))
  obtain ⟨⟨z0, z1, z2, z3⟩, -⟩ := hF.four
  refine bodyPost_ret (v := .tuple #[.agg #[.int .i64 (R.getD Tm.zero).k, .int .i64 (R.getD Tm.zero).n, .string (R.getD Tm.zero).s, .slice A2 (R.getD Tm.zero).l.length c2], .int .i64 er2]) ?_ (by simp [go_sem]) (R := RetME w R 2) ⟨A2, c2, by rw [Hz.out], hs2, hT.mono (fun g h => by simp at h; omega), hBF⟩
  generalize (World.setCell _ ⟨w.heap.size + 1, 3, none⟩ _) = WF at z0 z1 z2 z3 ⊢
  clear hF hT hBF
  simp [results, Try.results42, go_sem, z0, z1, z2, z3]
end Go.Proofs.Ytfhgknmkpegpbaa
set_option linter.unusedVariables false
set_option linter.unusedSimpArgs false
namespace Go.Proofs.Ytfhgknmkpegpbaa
open Go.RowKit
def RetVE (w : World) (xs : List Int) (er : Int) (e : Ending) (w' : World) : Prop :=
 ∃ v, e = .returned (.tuple #[v, .int .i64 er]) ∧ w'.ownsRow w.heap.size 3 1 v xs.length (xs.map (Value.int .i64)) ∧ (v = .slice none 0 0 ↔ xs = []) ∧ Below w.heap.size w w'
set_option maxRecDepth 100000 in
set_option maxHeartbeats 4000000 in
theorem varsTop_calls (l : List Tm) (P : Nat → Prop) (A : Option Addr) (c : Nat) (w : World) (hc : TmC P w A c l) : Calls Try.prog 43 #[.slice A l.length c] w (RetVE w (if allB l = true then varsL l else []) (errT (allB l))) := by
 have hcall := checkAll_calls l P A c w hc
 obtain ⟨b, hb⟩ : ∃ b, b = allB l := ⟨_, rfl⟩
 obtain ⟨xs, hxs⟩ : ∃ xs, xs = (if b = true then varsL l else []) := ⟨_, rfl⟩
 rw [← hb] at hcall ⊢
 rw [← hxs]
 have Hxs := Lib.hid hxs; clear hxs
 have Hb := Lib.hid hb; clear hb
 have Hcall := Lib.hid hcall; clear hcall
 have Hc := Lib.hid hc; clear hc
 go_enter Try.func43, Try.ntmps43
 go_wp2_with fail
 refine Hcall.out.mono ?_
 rintro e w1 ⟨rfl, hb1⟩
 have hc1 := Hc.out.stay hb1 (Nat.le_refl _)
 have HB1 := Lib.hid hb1; clear hb1
 cases b
 ·have he : (errT false != 0) = true := rfl
  have hx : xs = [] := by have := Hxs.out; simpa using this
  subst hx
  go_wp2
  exact bodyPost_ret (v := .tuple #[.slice none 0 0, .int .i64 (errT false)]) (by simp [results, Try.results43, go_sem]) rfl (R := RetVE w [] _) ⟨_, rfl, World.ownsRow_nil _ _ _ _, by simp, HB1.out⟩
 ·have he : (errT true != 0) = false := rfl
  have hx : xs = varsL l := by have := Hxs.out; simpa using this
  have h1 := allB_iff.1 Hb.out.symm
  have hcall := vars_calls l P A c w1 hc1 h1.1 (by omega)
  rw [← hx] at hcall
  have Hcall2 := Lib.hid hcall; clear hcall hx h1 hc1 Hcall
  go_wp2_with fail
  refine Hcall2.out.mono ?_
  rintro e w2 ⟨v, rfl, hrow, hnil, hb2⟩
  have HB2 := Lib.hid (HB1.out.trans (hb2.mono HB1.out.size))
  have Hrow := Lib.hid (own_lower hrow HB1.out.size); clear hrow hb2
  have Hnil := Lib.hid hnil; clear hnil
  go_wp2
  exact bodyPost_ret (v := .tuple #[v, .int .i64 0]) (by simp [results, Try.results43, go_sem]) rfl (R := RetVE w xs _) ⟨_, rfl, Hrow.out, Hnil.out, HB2.out⟩
abbrev IV := List Int × Option Addr × Nat
def encS (x : IV) : List Value := [.slice x.2.1 x.1.length x.2.2]
def SlC (P : Nat → Prop) (w : World) (A : Option Addr) (c : Nat) (ls : List (List Int)) : Prop :=
 ∃ es : List IV, ls = es.map (fun e => e.1) ∧ ls.length ≤ c ∧ c ≤ 9223372036854775807 ∧ (A = none → c = 0) ∧ (ls ≠ [] → ∃ g off, A = some ⟨g, off, none⟩ ∧ P g) ∧ Rd w A (es.flatMap encS) ∧
  ∀ e ∈ es, e.1.length ≤ e.2.2 ∧ e.2.2 ≤ 9223372036854775807 ∧ (e.1 ≠ [] → ∃ g off, e.2.1 = some ⟨g, off, none⟩ ∧ P g) ∧ Rd w e.2.1 (e.1.flatMap encI)
theorem SlC.stay {P : Nat → Prop} {w w' : World} {A : Option Addr} {c B : Nat} {ls : List (List Int)} (h : SlC P w A c ls) (hb : Below B w w') (hB : w.heap.size ≤ B) : SlC P w' A c ls := by
 obtain ⟨es, h1, h2, h3, h4, h5, h6, h7⟩ := h
 exact ⟨es, h1, h2, h3, h4, h5, h6.below hb hB, fun e he => ⟨(h7 e he).1, (h7 e he).2.1, (h7 e he).2.2.1, (h7 e he).2.2.2.below hb hB⟩⟩
theorem SlC.at_ {P : Nat → Prop} {w : World} {A : Option Addr} {c k : Nat} {ls : List (List Int)} {x : List Int} (h : SlC P w A c ls) (hx : ls[k]? = some x) :
  ∃ g off Ai ci, A = some ⟨g, off, none⟩ ∧ w.cell? ⟨g, off + k, none⟩ = some (.slice Ai x.length ci) ∧ x.length ≤ ci ∧ ci ≤ 9223372036854775807 ∧ Rd w Ai (x.flatMap encI) := by
 obtain ⟨es, rfl, h2, h3, h4, h5, h6, h7⟩ := h
 rw [List.getElem?_map] at hx
 cases he : es[k]? with
 | none => rw [he] at hx; simp at hx
 | some e =>
  rw [he] at hx
  simp at hx
  subst hx
  obtain ⟨g, off, hA, hcell⟩ := Rows.at 1 (fun _ => rfl) (by omega) h6 (ne_of_get he)
  have h8 := h7 e (List.mem_of_getElem? he)
  have h9 := hcell k e 0 _ he rfl
  rw [Nat.mul_one, Nat.add_zero] at h9
  exact ⟨g, off, e.2.1, e.2.2, hA, h9, h8.1, h8.2.1, h8.2.2.2⟩
set_option maxRecDepth 100000 in
set_option maxHeartbeats 4000000 in
theorem equalRows_calls (xs ys : List (List Int)) (A : Option Addr) (c : Nat) (B : Option Addr) (d : Nat) (P Q : Nat → Prop) (w : World) (hx : SlC P w A c xs) (hy : SlC Q w B d ys) :
  Calls Try.prog 76 #[.slice A xs.length c, .slice B ys.length d, .func (.func 34) #[] #[]] w (RetB w (decide (xs = ys))) := by
 have hx1 : xs.length ≤ 9223372036854775807 := by obtain ⟨es, h1, h2, h3, -⟩ := hx; omega
 have hy1 : ys.length ≤ 9223372036854775807 := by obtain ⟨es, h1, h2, h3, -⟩ := hy; omega
 have Hx := Lib.hid hx; clear hx
 have Hy := Lib.hid hy; clear hy
 have hcf : ∀ args w, Sem.run Try.prog (callFunc 34 args) w = .ok (.enter 34 args) w := fun _ _ => rfl
 by_cases hlen : xs.length = ys.length
 case neg =>
  have Hr := Lib.hid (show decide (xs = ys) = false from decide_eq_false_iff_not.2 (fun e => hlen (by rw [e])))
  have hb : ((xs.length : Int) != (ys.length : Int)) = true := by simp; omega
  have hb2 : (xs.length != ys.length) = true := by simpa using hlen
  clear hlen
  go_enter Try.func76, Try.ntmps76
  go_wp2
  go_ret
  exact ⟨by rw [Hr.out]; rfl, Below.refl _ _⟩
 have Hlen := Lib.hid hlen
 go_enter Try.func76, Try.ntmps76
 rw [← hlen]
 clear hlen
 go_wp2
 go_loopw [17] (fun i wr => ∃ k : Nat, k ≤ xs.length ∧ i = .int .i64 k ∧ xs.take k = ys.take k ∧ Below w.heap.size w wr) (fun i _ => xs.length - (intOf i).toNat)
 case atStart => exact ⟨0, Nat.zero_le _, rfl, by simp, Below.refl _ _⟩
 case round =>
  obtain ⟨k, hk, rfl, heq, hB⟩ := hrel
  have Heq := Lib.hid heq; clear heq
  have HB := Lib.hid hB; clear hB
  by_cases hlt : k < xs.length
  ·obtain ⟨x, hx⟩ : ∃ x, xs[k]? = some x := ⟨_, List.getElem?_eq_getElem hlt⟩
   obtain ⟨y, hy⟩ : ∃ y, ys[k]? = some y := ⟨_, List.getElem?_eq_getElem (by rw [← Hlen.out]; exact hlt)⟩
   obtain ⟨g, off, Ai, ci, rfl, e0, hxl, hxm, hxr⟩ := (Hx.out.stay HB.out (Nat.le_refl _)).at_ hx
   obtain ⟨g', off', Bi, di, rfl, f0, hyl, hym, hyr⟩ := (Hy.out.stay HB.out (Nat.le_refl _)).at_ hy
   obtain ⟨r, hr⟩ : ∃ r, r = decide (x = y) := ⟨_, rfl⟩
   have hcall := equalInt_calls x y Ai ci Bi di wr hxr hyr hxl hxm hyl hym
   rw [← hr] at hcall
   have Hcall := Lib.hid hcall; clear hcall hxr hyr
   have Hxx := Lib.hid hx; clear hx
   have Hyy := Lib.hid hy; clear hy
   have Hr := Lib.hid hr; clear hr
   have hlt' : k < ys.length := by rw [← Hlen.out]; exact hlt
   have hlen' : (k : Int) < (ys.length : Int) := by omega
   go_wp2_with fail
   refine Hcall.out.mono ?_
   rintro e w1 ⟨rfl, hb⟩
   have HB1 := Lib.hid (HB.out.trans (hb.mono HB.out.size)); clear hb
   cases r
   ·have Hf' := Lib.hid (show decide (xs = ys) = false from decide_eq_false_iff_not.2 (fun e => by
     subst e
     have h1 := Hxx.out.symm.trans Hyy.out
     injection h1 with h1
     exact (decide_eq_false_iff_not.1 Hr.out.symm) h1))
    go_wp2
    go_ret
    exact ⟨by rw [Hf'.out]; rfl, HB1.out⟩
   ·have hxy := of_decide_eq_true Hr.out.symm
    have Hnx := Lib.hid (show xs.take (k + 1) = ys.take (k + 1) from by rw [take_snoc Hxx.out, take_snoc Hyy.out, Heq.out, hxy])
    clear hxy
    go_wp2
    go_roundw
    case rel => exact ⟨k + 1, by omega, by go_num, Hnx.out, HB1.out⟩
    case measure => simp [intOf]; omega
  ·have hke : k = xs.length := by omega
   subst hke
   have Hf' := Lib.hid (show decide (xs = ys) = true from decide_eq_true (by
    have := Heq.out
    rw [List.take_length, Hlen.out, List.take_length] at this
    exact this))
   go_wp2
   go_ret
   exact ⟨by rw [Hf'.out]; rfl, HB.out⟩
end Go.Proofs.Ytfhgknmkpegpbaa
set_option linter.unusedVariables false
set_option linter.unusedSimpArgs false
namespace Go.Proofs.Ytfhgknmkpegpbaa
open Go.RowKit
noncomputable section
mutual
def Tm.mat : Tm → Tm → List Tm → List Tm × Bool
 | .mk k n s l, u, sub => if k = 1 then (match sub[n.toNat]? with
   | some x => if freeB x = true then (sub.set n.toNat u, true) else (sub, sameB x u)
   | none => (sub, false)) else if k = u.k ∧ n = u.n ∧ s.toList = u.s.toList ∧ l.length = u.l.length then Tm.mats l u.l sub else (sub, false)
def Tm.mats : List Tm → List Tm → List Tm → List Tm × Bool
 | [], _, sub => (sub, true)
 | _ :: _, [], sub => (sub, true)
 | x :: xs, y :: ys, sub => if (Tm.mat x y sub).2 = true then Tm.mats xs ys (Tm.mat x y sub).1 else ((Tm.mat x y sub).1, false)
end
end
theorem Tm.mat_eq (t u : Tm) (sub : List Tm) : t.mat u sub = if t.k = 1 then (match sub[t.n.toNat]? with
      | some x => if freeB x = true then (sub.set t.n.toNat u, true) else (sub, sameB x u)
      | none => (sub, false)) else if t.k = u.k ∧ t.n = u.n ∧ t.s.toList = u.s.toList ∧ t.l.length = u.l.length then Tm.mats t.l u.l sub else (sub, false) := by
  cases t; rw [Tm.mat]; rfl
theorem Tm.mats_nil (ys sub : List Tm) : Tm.mats [] ys sub = (sub, true) := by rw [Tm.mats]
theorem Tm.mats_cons (x y : Tm) (xs ys sub : List Tm) : Tm.mats (x :: xs) (y :: ys) sub = if (Tm.mat x y sub).2 = true then Tm.mats xs ys (Tm.mat x y sub).1 else ((Tm.mat x y sub).1, false) := by rw [Tm.mats]
theorem Tm.mat_len (n : Nat) : (∀ (t u : Tm) (sub : List Tm), t.size ≤ n → (t.mat u sub).1.length = sub.length) ∧ (∀ (xs ys sub : List Tm), Tm.sizes xs ≤ n → (Tm.mats xs ys sub).1.length = sub.length) := by
 induction n with
 | zero =>
  refine ⟨fun t u sub h => by have := t.size_pos; omega, fun xs ys sub h => ?_⟩
  cases xs with
  | nil => rw [Tm.mats_nil]
  | cons a l => rw [Tm.sizes] at h; have := a.size_pos; omega
 | succ n ih =>
  have h1 : ∀ (t u : Tm) (sub : List Tm), t.size ≤ n + 1 → (t.mat u sub).1.length = sub.length := fun t u sub h => by
   rw [t.size_eq] at h
   rw [Tm.mat_eq]
   split
   ·split
    ·split <;> simp
    ·rfl
   ·split
    ·exact ih.2 _ _ _ (by omega)
    ·rfl
  refine ⟨h1, fun xs => ?_⟩
  induction xs with
  | nil => intro ys sub _; rw [Tm.mats_nil]
  | cons a l ihl =>
   intro ys sub h
   rw [Tm.sizes] at h
   cases ys with
   | nil => rw [Tm.mats]
   | cons y ys =>
    rw [Tm.mats_cons]
    split
    ·rw [ihl ys _ (by omega)]; exact h1 a y sub (by omega)
    ·exact h1 a y sub (by omega)
def SubC (P : Nat → Prop) (w : World) (g : Nat) (sub : List Tm) : Prop :=
 ∃ es : List EV, sub = es.map (fun e => e.1) ∧ Blk w g 25 (es.flatMap encE).toArray ∧ ∀ e ∈ es, e.1.s.size ≤ 9223372036854775807 ∧ TmC P w e.2.1 e.2.2 e.1.l
theorem flatMap_set4 : ∀ (es : List EV) (n : Nat) (e : EV), n < es.length → ((((es.flatMap encE).set (n * 4) (.int .i64 e.1.k)).set (n * 4 + 1) (.int .i64 e.1.n)).set (n * 4 + 2) (.string e.1.s)).set (n * 4 + 3) (.slice e.2.1 e.1.l.length e.2.2) = (es.set n e).flatMap encE
 | [], n, e, h => by simp at h
 | a :: es, 0, e, h => by simp [encE]
 | a :: es, n + 1, e, h => by
  have ih := flatMap_set4 es n e (by simpa using h)
  rw [List.set_cons_succ, List.flatMap_cons, List.flatMap_cons, ← ih]
  have h4 : (n + 1) * 4 = n * 4 + 4 := by omega
  rw [h4]
  simp [encE, show n * 4 + 4 + 1 = n * 4 + 1 + 4 from by omega, show n * 4 + 4 + 2 = n * 4 + 2 + 4 from by omega, show n * 4 + 4 + 3 = n * 4 + 3 + 4 from by omega]
theorem SubC.cells {P : Nat → Prop} {w : World} {g n : Nat} {sub : List Tm} {x : Tm} (h : SubC P w g sub) (hx : sub[n]? = some x) :
  ∃ A c, w.cell? ⟨g, n * 4, none⟩ = some (.int .i64 x.k) ∧ w.cell? ⟨g, n * 4 + 1, none⟩ = some (.int .i64 x.n) ∧ w.cell? ⟨g, n * 4 + 2, none⟩ = some (.string x.s) ∧ w.cell? ⟨g, n * 4 + 3, none⟩ = some (.slice A x.l.length c) ∧ x.s.size ≤ 9223372036854775807 ∧ TmC P w A c x.l := by
 obtain ⟨es, rfl, h2, h3⟩ := h
 rw [List.getElem?_map] at hx
 cases he : es[n]? with
 | none => rw [he] at hx; simp at hx
 | some e =>
  rw [he] at hx
  simp at hx
  subst hx
  have hf : ∀ j, j < 4 → w.cell? ⟨g, n * 4 + j, none⟩ = (encE e)[j]? := fun j hj => by
   rw [h2.cell, List.getElem?_toArray, flatMap_get encE 4 encE_len es n j e he hj]
  exact ⟨e.2.1, e.2.2, hf 0 (by omega), hf 1 (by omega), hf 2 (by omega), hf 3 (by omega), h3 e (List.mem_of_getElem? he)⟩
theorem SubC.frozen {P : Nat → Prop} {w : World} {g : Nat} {sub : List Tm} (h : SubC P w g sub) (i : Nat) : w.frozen? ⟨g, i, none⟩ = false := by
 obtain ⟨es, _, h2, _⟩ := h; exact h2.frozen i
theorem SubC.lt {P : Nat → Prop} {w : World} {g : Nat} {sub : List Tm} (h : SubC P w g sub) : g < w.heap.size := by
 obtain ⟨es, _, h2, _⟩ := h; exact h2.lt
theorem SubC.below {P : Nat → Prop} {w w' : World} {g B : Nat} {sub : List Tm} (h : SubC P w g sub) (hb : Below B w w') (hB : w.heap.size ≤ B) : SubC P w' g sub := by
 obtain ⟨es, h1, h2, h3⟩ := h
 exact ⟨es, h1, h2.below hb (Nat.lt_of_lt_of_le h2.lt hB), fun e he => ⟨(h3 e he).1, (h3 e he).2.stay hb hB⟩⟩
theorem SubC.put {P : Nat → Prop} {w : World} {g n : Nat} {sub : List Tm} {u : Tm} {A : Option Addr} {c : Nat} (h : SubC P w g sub) (hn : n < sub.length) (hs : u.s.size ≤ 9223372036854775807) (hu : TmC P w A c u.l) (hP : ∀ j, P j → j ≠ g) :
  SubC P ((((w.setCell ⟨g, n * 4, none⟩ (.int .i64 u.k)).setCell ⟨g, n * 4 + 1, none⟩ (.int .i64 u.n)).setCell ⟨g, n * 4 + 2, none⟩ (.string u.s)).setCell ⟨g, n * 4 + 3, none⟩ (.slice A u.l.length c)) g (sub.set n u) := by
 obtain ⟨es, rfl, h2, h3⟩ := h
 rw [List.length_map] at hn
 have hk : ∀ {A' c'} {l' : List Tm}, TmC P w A' c' l' → TmC P ((((w.setCell ⟨g, n * 4, none⟩ (.int .i64 u.k)).setCell ⟨g, n * 4 + 1, none⟩ (.int .i64 u.n)).setCell ⟨g, n * 4 + 2, none⟩ (.string u.s)).setCell ⟨g, n * 4 + 3, none⟩ (.slice A u.l.length c)) A' c' l' := fun h =>
  (((h.setCell _ _ (fun j hj => hP j hj)).setCell _ _ (fun j hj => hP j hj)).setCell _ _ (fun j hj => hP j hj)).setCell _ _ (fun j hj => hP j hj)
 refine ⟨es.set n (u, A, c), by rw [List.map_set], ?_, fun e he => ?_⟩
 ·have h4 := (((h2.set_ (n * 4) (.int .i64 u.k)).set_ (n * 4 + 1) (.int .i64 u.n)).set_ (n * 4 + 2) (.string u.s)).set_ (n * 4 + 3) (.slice A u.l.length c)
  rw [← flatMap_set4 es n (u, A, c) hn]
  simpa using h4
 ·rcases List.mem_or_eq_of_mem_set he with h5 | h5
  ·exact ⟨(h3 e h5).1, hk (h3 e h5).2⟩
  ·subst h5
   exact ⟨hs, hk hu⟩
end Go.Proofs.Ytfhgknmkpegpbaa
set_option linter.unusedVariables false
set_option linter.unusedSimpArgs false
namespace Go.Proofs.Ytfhgknmkpegpbaa
open Go.RowKit
def RetS (P : Nat → Prop) (g : Nat) (w : World) (r : List Tm × Bool) (e : Ending) (w' : World) : Prop := e = .returned (.bool r.2) ∧ SubC P w' g r.1 ∧ But g w w'
theorem SubC.but {P : Nat → Prop} {w w' : World} {g : Nat} {sub : List Tm} (h : SubC P w g sub) (hb : Below w.heap.size w w') : SubC P w' g sub := h.below hb (Nat.le_refl _)
theorem but_cell {b : Nat} {W W' : World} {g o : Nat} {v : Value} (hb : But b W W') (hne : g ≠ b) (h : W.cell? ⟨g, o, none⟩ = some v) : W'.cell? ⟨g, o, none⟩ = some v := by
 rw [cell_of_heap (hb.block g (World.block_lt_of_cell? W _ h) hne)]; exact h
theorem mats_step {xs ys sub : List Tm} {k : Nat} {x y : Tm} (hx : xs[k]? = some x) (hy : ys[k]? = some y) : Tm.mats (xs.drop k) (ys.drop k) sub = if (x.mat y sub).2 = true then Tm.mats (xs.drop (k + 1)) (ys.drop (k + 1)) (x.mat y sub).1 else ((x.mat y sub).1, false) := by
 obtain ⟨h1, h2⟩ := List.getElem?_eq_some_iff.1 hx
 obtain ⟨h3, h4⟩ := List.getElem?_eq_some_iff.1 hy
 rw [List.drop_eq_getElem_cons h1, h2, List.drop_eq_getElem_cons h3, h4, Tm.mats_cons]
set_option maxRecDepth 100000 in
set_option maxHeartbeats 4000000 in
theorem match_calls (t : Tm) : ∀ (P : Nat → Prop) (w : World) (v v2 : Value) (u : Tm) (sub : List Tm) (g0 : Nat), TmV P w v t → TmV P w v2 u → SubC P w g0 sub → (∀ h, P h → h ≠ g0) → sub.length ≤ 100000 → (∀ x ∈ t.pre, x.k = 1 → 0 ≤ x.n ∧ x.n < sub.length) →
  Calls Try.prog 89 #[v, v2, .slice (some ⟨g0, 0, none⟩) sub.length sub.length] w (RetS P g0 w (t.mat u sub)) := by
 induction t using Tm.ind with
 | h t ih =>
  intro P w v v2 u sub g0 hv hv2 hsub hP hsl hvar
  obtain ⟨A, c, rfl, hs, hc⟩ := hv
  obtain ⟨B, d, rfl, hs', hd⟩ := hv2
  have Ih := Lib.hid ih; clear ih
  obtain ⟨W0, hW0⟩ : ∃ W0, W0 = (w.alloc (.cells #[.int .i64 t.k, .int .i64 t.n, .string t.s, .slice A t.l.length c] 25)).alloc (.cells #[.int .i64 u.k, .int .i64 u.n, .string u.s, .slice B u.l.length d] 25) := ⟨_, rfl⟩
  have hB0 : Below w.heap.size w W0 := by rw [hW0]; exact ((Below.refl _ _).alloc (Nat.le_refl _) _).alloc (by simp) _
  have hX0 : Blk W0 w.heap.size 25 #[.int .i64 t.k, .int .i64 t.n, .string t.s, .slice A t.l.length c] := by rw [hW0]; exact (Blk.new w 25 _).alloc _
  have hY0 : Blk W0 (w.heap.size + 1) 25 #[.int .i64 u.k, .int .i64 u.n, .string u.s, .slice B u.l.length d] := by
   rw [hW0]
   have := Blk.new (w.alloc (.cells #[.int .i64 t.k, .int .i64 t.n, .string t.s, .slice A t.l.length c] 25)) 25 #[.int .i64 u.k, .int .i64 u.n, .string u.s, .slice B u.l.length d]
   rwa [World.size_alloc] at this
  have ly0 := hY0.lt
  have lg0 := hsub.lt
  have hlc := hc.len.1
  have hlm := hc.len.2.1
  have hld := hd.len.1
  have hln := hd.len.2.1
  have Hc := Lib.hid (hc.stay hB0 (Nat.le_refl _)); clear hc
  have Hd := Lib.hid (hd.stay hB0 (Nat.le_refl _)); clear hd
  have Hs0 := Lib.hid (hsub.below hB0 (Nat.le_refl _))
  have Hsw := Lib.hid hsub; clear hsub
  have HX0 := Lib.hid hX0; clear hX0
  have HY0 := Lib.hid hY0; clear hY0
  have HB0 := Lib.hid hB0; clear hB0
  have HW := Lib.hid hW0; clear hW0
  have HP := Lib.hid hP; clear hP
  have Hvar := Lib.hid hvar; clear hvar
  have hmt := Tm.mat_eq t u sub
  obtain ⟨R, hR⟩ : ∃ R, R = t.mat u sub := ⟨_, rfl⟩
  rw [← hR] at hmt ⊢
  have Hmt := Lib.hid hmt; clear hmt hR
  have HbW := Lib.hid (But.of_below (b := g0) HB0.out (Nat.le_refl _))
  obtain ⟨⟨a0, a1, a2, a3⟩, -⟩ := HX0.out.four
  obtain ⟨⟨b0, b1, b2, b3⟩, -⟩ := HY0.out.four
  by_cases hkv : t.k = 1
  case pos =>
   obtain ⟨hv0, hv1⟩ := Hvar.out t (by rw [t.pre_eq]; simp) hkv
   obtain ⟨m, hm⟩ : ∃ m : Nat, t.n = m := ⟨t.n.toNat, by omega⟩
   have hm1 : m < sub.length := by omega
   obtain ⟨x, hx⟩ : ∃ x, sub[m]? = some x := ⟨_, List.getElem?_eq_getElem hm1⟩
   have Hmt2 := Lib.hid (show R = if freeB x = true then (sub.set m u, true) else (sub, sameB x u) from by rw [Hmt.out, if_pos hkv, hm, show (m : Int).toNat = m from rfl, hx])
   have dkv : (t.k == 1) = true := by simpa using hkv
   rw [hm] at HW HX0 ⊢
   obtain ⟨Ax, cx, e0, e1, e2, e3, hxs, hxc⟩ := Hsw.out.cells hx
   have hxc := hxc.stay HB0.out (Nat.le_refl _)
   obtain ⟨fb, hfb⟩ : ∃ fb, fb = freeB x := ⟨_, rfl⟩
   have hcall := free_calls x P W0 _ ⟨Ax, cx, rfl, hxs, hxc⟩
   rw [← hfb] at hcall
   have Hfb := Lib.hid hfb; clear hfb
   have Hcall := Lib.hid hcall; clear hcall
   have Hxc := Lib.hid hxc; clear hxc
   have HXm := HX0
   clear hkv hv0 hv1 hm a0 a1 a2 a3 Hmt
   have hm0 : (0 : Int) ≤ (m : Int) := by omega
   have hm2 : (m : Int) < (sub.length : Int) := by omega
   have hx' := hx
   have Hx := Lib.hid hx; clear hx hx'
   go_enter Try.func89, Try.ntmps89
   go_wp2_with fail
   rw [← HW.out]
   refine Hcall.out.mono ?_
   rintro e w1 ⟨rfl, hb1⟩
   have hX1 := HXm.out.below hb1 (Nat.lt_of_succ_lt ly0)
   have hY1 := HY0.out.below hb1 ly0
   obtain ⟨⟨a0, a1, a2, a3⟩, -⟩ := hX1.four
   obtain ⟨⟨c0, c1, c2, c3⟩, -⟩ := hY1.four
   clear hX1 hY1 b0 b1 b2 b3
   have hS1 := Hs0.out.below hb1 (Nat.le_refl _)
   have hf0 := hS1.frozen (m * 4)
   have hf1 := hS1.frozen (m * 4 + 1)
   have hf2 := hS1.frozen (m * 4 + 2)
   have hf3 := hS1.frozen (m * 4 + 3)
   obtain ⟨Ay, cy, q0, q1, q2, q3, hys, hyc⟩ := hS1.cells Hx.out
   have HS1 := Lib.hid hS1; clear hS1
   have hd1 := Hd.out.stay hb1 (Nat.le_refl _)
   have Hd1 := Lib.hid hd1; clear hd1
   have Hyc := Lib.hid hyc; clear hyc
   have hw1 := hb1.size
   have HB1 := Lib.hid (HB0.out.trans (hb1.mono HB0.out.size)); clear hb1
   clear e0 e1 e2 e3
   have n3 : w.heap.size ≠ g0 := by omega
   have n4 : w.heap.size + 1 ≠ g0 := by omega
   cases fb
   ·have Hf := Lib.hid (show R = (sub, sameB x u) from by rw [Hmt2.out, ← Hfb.out]; simp)
    obtain ⟨sb, hsb⟩ : ∃ sb, sb = sameB x u := ⟨_, rfl⟩
    have hcall := same_calls x P P w1.drew _ _ u ⟨Ay, cy, rfl, hys, Hyc.out.kept (fun _ _ _ => rfl)⟩ ⟨B, d, rfl, hs', Hd1.out.kept (fun _ _ _ => rfl)⟩
    rw [← hsb] at hcall
    have Hf2 := Lib.hid (show R = (sub, sb) from by rw [Hf.out, hsb])
    have Hcall2 := Lib.hid hcall; clear hcall hsb Hcall Hmt2 Hf
    go_wp2_with fail
    go_region_held3 (fun W => W.cell? ⟨w.heap.size, 1, none⟩ = some (.int .i64 m) ∧ W.cell? ⟨w.heap.size + 1, 0, none⟩ = some (.int .i64 u.k) ∧ W.cell? ⟨w.heap.size + 1, 1, none⟩ = some (.int .i64 u.n) ∧ W.cell? ⟨w.heap.size + 1, 2, none⟩ = some (.string u.s) ∧ W.cell? ⟨w.heap.size + 1, 3, none⟩ = some (.slice B u.l.length d) ∧ W.cell? ⟨g0, m * 4, none⟩ = some (.int .i64 x.k) ∧ W.cell? ⟨g0, m * 4 + 1, none⟩ = some (.int .i64 x.n) ∧ W.cell? ⟨g0, m * 4 + 2, none⟩ = some (.string x.s) ∧ W.cell? ⟨g0, m * 4 + 3, none⟩ = some (.slice Ay x.l.length cy))
     (first
      | exact ⟨a1, c0, c1, c2, c3, q0, q1, q2, q3⟩
      | (go_split_ands; refine ⟨?_, ?_, ?_, ?_, ?_, ?_, ?_, ?_, ?_⟩ <;> exact keep_cell hb (by assumption)))
     ((go_at_call 24; refine Hcall2.out.mono ?_; rintro e w2 ⟨rfl, hb⟩))
    have hb' : Below w1.heap.size w1 w2 := (Below.refl _ w1).drew.trans hb
    have HS2 := Lib.hid (HS1.out.below hb' (Nat.le_refl _))
    have HB2 := Lib.hid (But.of_below (b := g0) (HB1.out.trans (hb'.mono HB1.out.size)) (Nat.le_refl _))
    clear hb hb'
    go_wp2
    go_ret
    exact ⟨by rw [Hf2.out]; rfl, by rw [Hf2.out]; exact HS2.out, HB2.out⟩
   ·have Hf := Lib.hid (show R = (sub.set m u, true) from by rw [Hmt2.out, ← Hfb.out]; simp)
    clear Hmt2
    go_wp2
    go_ret
    refine ⟨by rw [Hf.out]; rfl, ?_, ?_⟩
    ·rw [Hf.out]
     exact HS1.out.put hm1 hs' Hd1.out HP.out
    ·exact (((((But.of_below (b := g0) HB1.out (Nat.le_refl _)).setCell _ _).setCell _ _).setCell _ _).setCell _ _)
  have dkv : (t.k == 1) = false := by simpa using hkv
  have Hmt2 := Lib.hid (show R = if t.k = u.k ∧ t.n = u.n ∧ t.s.toList = u.s.toList ∧ t.l.length = u.l.length then Tm.mats t.l u.l sub else (sub, false) from by rw [Hmt.out, if_neg hkv])
  clear Hmt hkv
  by_cases hk : t.k = u.k
  case neg =>
   have Hr := Lib.hid (show R = (sub, false) from by rw [Hmt2.out, if_neg (fun h => hk h.1)])
   have h1 : (t.k != u.k) = true := by simpa using hk
   clear a0 a1 a2 a3 b0 b1 b2 b3
   go_enter Try.func89, Try.ntmps89
   go_wp2
   go_ret
   exact ⟨by rw [Hr.out]; rfl, by rw [Hr.out, ← HW.out]; exact Hs0.out, by rw [← HW.out]; exact HbW.out⟩
  have hk1 : (t.k != u.k) = false := by simpa using hk
  have Hk := Lib.hid hk; clear hk
  by_cases hn : t.n = u.n
  case neg =>
   have Hr := Lib.hid (show R = (sub, false) from by rw [Hmt2.out, if_neg (fun h => hn h.2.1)])
   have h1 : (t.n != u.n) = true := by simpa using hn
   clear a0 a1 a2 a3 b0 b1 b2 b3
   go_enter Try.func89, Try.ntmps89
   go_wp2
   go_ret
   exact ⟨by rw [Hr.out]; rfl, by rw [Hr.out, ← HW.out]; exact Hs0.out, by rw [← HW.out]; exact HbW.out⟩
  have hn1 : (t.n != u.n) = false := by simpa using hn
  have Hn := Lib.hid hn; clear hn
  by_cases hss : t.s.toList = u.s.toList
  case neg =>
   have Hr := Lib.hid (show R = (sub, false) from by rw [Hmt2.out, if_neg (fun h => hss h.2.2.1)])
   have h1 : (t.s.toList == u.s.toList) = false := by simpa using hss
   clear a0 a1 a2 a3 b0 b1 b2 b3
   go_enter Try.func89, Try.ntmps89
   go_wp2
   go_ret
   exact ⟨by rw [Hr.out]; rfl, by rw [Hr.out, ← HW.out]; exact Hs0.out, by rw [← HW.out]; exact HbW.out⟩
  have hs1 : (t.s.toList == u.s.toList) = true := by simpa using hss
  have Hss := Lib.hid hss; clear hss
  by_cases hll : t.l.length = u.l.length
  case neg =>
   have Hr := Lib.hid (show R = (sub, false) from by rw [Hmt2.out, if_neg (fun h => hll h.2.2.2)])
   have h1 : ((t.l.length : Int) != (u.l.length : Int)) = true := by simp; omega
   have h2 : (t.l.length != u.l.length) = true := by simpa using hll
   clear hll
   clear a0 a1 a2 a3 b0 b1 b2 b3
   go_enter Try.func89, Try.ntmps89
   go_wp2
   go_ret
   exact ⟨by rw [Hr.out]; rfl, by rw [Hr.out, ← HW.out]; exact Hs0.out, by rw [← HW.out]; exact HbW.out⟩
  have hl1 : ((t.l.length : Int) != (u.l.length : Int)) = false := by simp; omega
  have hl2 : (t.l.length != u.l.length) = false := by simpa using hll
  have Hr := Lib.hid (show R = Tm.mats t.l u.l sub from by rw [Hmt2.out, if_pos ⟨Hk.out, Hn.out, Hss.out, hll⟩])
  have Hll := Lib.hid hll; clear hll
  have hlen63 : t.l.length ≤ 9223372036854775807 := by omega
  clear a0 a1 a2 a3 b0 b1 b2 b3
  go_enter Try.func89, Try.ntmps89
  go_wp2
  clear hl1 hl2 hs1 hn1 hk1 dkv
  go_loopw [60] (fun i wr => ∃ (k : Nat) (sub' : List Tm), k ≤ t.l.length ∧ i = .int .i64 k ∧ (SubC P wr g0 sub' ∧ But g0 W0 wr ∧ sub'.length = sub.length ∧ Tm.mats t.l u.l sub = Tm.mats (t.l.drop k) (u.l.drop k) sub')) (fun i _ => t.l.length - (intOf i).toNat)
  case atStart => exact ⟨0, sub, Nat.zero_le _, rfl, by rw [← HW.out]; exact Hs0.out, by rw [← HW.out]; exact But.refl _ _, rfl, rfl⟩
  case round =>
   obtain ⟨k, sub', hk, rfl, hsb, hB, hsl', hlink⟩ := hrel
   have hlg := hsb.lt
   have hX := HX0.out.but hB (by omega)
   have hY := HY0.out.but hB (by omega)
   obtain ⟨⟨a0, a1, a2, a3⟩, -⟩ := hX.four
   obtain ⟨⟨b0, b1, b2, b3⟩, -⟩ := hY.four
   have Hsb := Lib.hid hsb; clear hsb
   have Hlink := Lib.hid hlink; clear hlink
   have Hsl := Lib.hid hsl'; clear hsl'
   have hws := hB.size
   have HB := Lib.hid hB; clear hB hX hY
   by_cases hlt : k < t.l.length
   ·obtain ⟨x, hx⟩ : ∃ x, t.l[k]? = some x := ⟨_, List.getElem?_eq_getElem hlt⟩
    obtain ⟨y, hy⟩ : ∃ y, u.l[k]? = some y := ⟨_, List.getElem?_eq_getElem (by rw [← Hll.out]; exact hlt)⟩
    obtain ⟨g, off, Ai, ci, rfl, hPg, ⟨e0, e1, e2, e3⟩, hxs, hxc⟩ := (Hc.out.but HB.out HP.out).at_ hx
    obtain ⟨g', off', Bi, di, rfl, hPg', ⟨f0, f1, f2, f3⟩, hys, hyc⟩ := (Hd.out.but HB.out HP.out).at_ hy
    have hxm := List.mem_of_getElem? hx
    obtain ⟨r, hr⟩ : ∃ r, r = x.mat y sub' := ⟨_, rfl⟩
    have hcall := Ih.out x hxm P wr.drew _ _ y sub' g0 ⟨Ai, ci, rfl, hxs, hxc.kept (fun _ _ _ => rfl)⟩ ⟨Bi, di, rfl, hys, hyc.kept (fun _ _ _ => rfl)⟩ (Hsb.out.but (Below.refl _ wr).drew) HP.out (by rw [Hsl.out]; exact hsl) (fun z hz hz1 => by rw [Hsl.out]; exact Hvar.out z (pre_mem hxm hz) hz1)
    rw [← hr, Hsl.out] at hcall
    have hst := mats_step (sub := sub') hx hy
    rw [← hr] at hst
    have Hst := Lib.hid (Hlink.out.trans hst); clear hst
    have hrl : r.1.length = sub'.length := by rw [hr]; exact (Tm.mat_len x.size).1 x y sub' (Nat.le_refl _)
    have Hrl := Lib.hid (hrl.trans Hsl.out); clear hrl
    have Hcall := Lib.hid hcall; clear hcall hxc hyc hx hy hr
    have hk0 : (0 : Int) ≤ (k : Int) := by omega
    have hk1 : (k : Int) < (t.l.length : Int) := by omega
    have hk2 : (k : Int) < (u.l.length : Int) := by have := Hll.out; omega
    have hk3 : k < u.l.length := by omega
    have n1 := HP.out g hPg
    have n2 := HP.out g' hPg'
    have n3 : w.heap.size ≠ g0 := by omega
    have n4 : w.heap.size + 1 ≠ g0 := by omega
    go_wp2_with fail
    go_region_held3 (fun W => W.cell? ⟨w.heap.size, 3, none⟩ = some (.slice (some ⟨g, off, none⟩) t.l.length c) ∧ W.cell? ⟨w.heap.size + 1, 3, none⟩ = some (.slice (some ⟨g', off', none⟩) u.l.length d) ∧ W.cell? ⟨g, off + k * 4, none⟩ = some (.int .i64 x.k) ∧ W.cell? ⟨g, off + k * 4 + 1, none⟩ = some (.int .i64 x.n) ∧ W.cell? ⟨g, off + k * 4 + 2, none⟩ = some (.string x.s) ∧ W.cell? ⟨g, off + k * 4 + 3, none⟩ = some (.slice Ai x.l.length ci) ∧ W.cell? ⟨g', off' + k * 4, none⟩ = some (.int .i64 y.k) ∧ W.cell? ⟨g', off' + k * 4 + 1, none⟩ = some (.int .i64 y.n) ∧ W.cell? ⟨g', off' + k * 4 + 2, none⟩ = some (.string y.s) ∧ W.cell? ⟨g', off' + k * 4 + 3, none⟩ = some (.slice Bi y.l.length di))
     (first
      | exact ⟨a3, b3, e0, e1, e2, e3, f0, f1, f2, f3⟩
      | (go_split_ands; refine ⟨?_, ?_, ?_, ?_, ?_, ?_, ?_, ?_, ?_, ?_⟩ <;> exact but_cell hb (by assumption) (by assumption)))
     ((go_at_call 89; refine Hcall.out.mono ?_; rintro e w1 ⟨rfl, hsb2, hb⟩))
    have HB1 := Lib.hid (HB.out.trans (show But g0 wr w1 from ⟨hb.os, hb.tape, hb.output, hb.size, hb.block⟩)); clear hb
    have Hsb2 := Lib.hid hsb2; clear hsb2
    clear a0 a1 a2 a3 b0 b1 b2 b3 e0 e1 e2 e3 f0 f1 f2 f3
    obtain ⟨rs, rb⟩ := r
    cases rb
    ·have Hf := Lib.hid (show R = (rs, false) from by rw [Hr.out, Hst.out, if_neg (by simp)])
     go_wp2
     go_ret
     exact ⟨by rw [Hf.out]; rfl, by rw [Hf.out]; exact Hsb2.out, HbW.out.trans HB1.out⟩
    ·have Hst2 := Lib.hid (show Tm.mats t.l u.l sub = Tm.mats (t.l.drop (k + 1)) (u.l.drop (k + 1)) rs from by rw [Hst.out, if_pos rfl])
     go_wp2
     go_roundw
     case rel => exact ⟨k + 1, rs, by omega, by go_num, Hsb2.out, HB1.out, Hrl.out, Hst2.out⟩
     case measure => simp [intOf]; omega
   ·have hke : k = t.l.length := by omega
    subst hke
    have Hf := Lib.hid (show R = (sub', true) from by rw [Hr.out, Hlink.out, List.drop_length, Tm.mats_nil])
    go_wp2
    go_ret
    exact ⟨by rw [Hf.out]; rfl, by rw [Hf.out]; exact Hsb.out, HbW.out.trans HB.out⟩
end Go.Proofs.Ytfhgknmkpegpbaa
set_option linter.unusedVariables false
set_option linter.unusedSimpArgs false
namespace Go.Proofs.Ytfhgknmkpegpbaa
open Go.RowKit
abbrev zc : Array Value := #[.int .i64 0, .int .i64 0, .string ⟨#[]⟩, .slice none 0 0]
theorem mkT (m : Nat) (hm : m ≤ 100000) (W : World) : (Instr.makeSlice 22 (.int .i64 (m : Int)) (.int .i64 (m : Int))).run Try.prog W = .ok (.slice (some ⟨W.heap.size, 0, none⟩) m m) (W.alloc (.cells (madeCells zc (m * 4)) 25)) := by
 obtain ⟨i0, hi, hz0, hz1, hz2⟩ := info25
 have h := run_make_rowN (P := Try.prog) 22 25 i0 _ Try.underlying22 hi hz0 .i64 .i64 m m (Nat.le_refl _) (by rw [hz2]; omega) (by omega) W
 rw [hz1] at h
 exact h
abbrev zE : EV := (Tm.zero, none, 0)
theorem rep_zero (m : Nat) : (List.replicate m zE).flatMap encE = (madeCells zc (m * 4)).toList := by
 apply List.ext_getElem?
 intro i
 have hlen : ((List.replicate m zE).flatMap encE).length = m * 4 := by rw [flatMap_len encE 4 encE_len, List.length_replicate]
 by_cases hi : i < m * 4
 ·have h1 : i = i / 4 * 4 + i % 4 := by omega
  have h2 : (List.replicate m zE)[i / 4]? = some zE := by rw [List.getElem?_replicate, if_pos (by omega)]
  have h3 := flatMap_get encE 4 encE_len (List.replicate m zE) (i / 4) (i % 4) zE h2 (by omega)
  rw [← h1] at h3
  rw [h3]
  have h4 : i % 4 = 0 ∨ i % 4 = 1 ∨ i % 4 = 2 ∨ i % 4 = 3 := by omega
  rcases h4 with h | h | h | h <;> simp [encE, madeCells, h, hi, Tm.zero, Tm.k, Tm.n, Tm.s, Tm.l]
 ·rw [List.getElem?_eq_none (by omega), List.getElem?_eq_none (by simp [madeCells]; omega)]
theorem SubC.made (P : Nat → Prop) (w : World) (m : Nat) : SubC P (w.alloc (.cells (madeCells zc (m * 4)) 25)) w.heap.size (List.replicate m Tm.zero) := by
 refine ⟨List.replicate m zE, by simp, ?_, fun e he => ?_⟩
 ·have := Blk.new w 25 (madeCells zc (m * 4))
  rw [rep_zero]
  simpa using this
 ·obtain rfl := (List.mem_replicate.1 he).2
  exact ⟨by show (0 : Nat) ≤ _; omega, TmC.nil _ _ (show (0 : Nat) ≤ _ by omega) (fun _ => rfl)⟩
def maxV (xs : List Int) : Int := xs.foldl (fun a x => max a (x + 1)) 0
theorem maxV_snoc (xs : List Int) (x : Int) : maxV (xs ++ [x]) = max (maxV xs) (x + 1) := by simp [maxV]
theorem maxV_bd {xs : List Int} (h : ∀ x ∈ xs, 0 ≤ x ∧ x < 100000) : 0 ≤ maxV xs ∧ maxV xs ≤ 100000 := by
 have : ∀ (l : List Int) (a : Int), 0 ≤ a → a ≤ 100000 → (∀ x ∈ l, 0 ≤ x ∧ x < 100000) → 0 ≤ l.foldl (fun a x => max a (x + 1)) a ∧ l.foldl (fun a x => max a (x + 1)) a ≤ 100000 := by
  intro l
  induction l with
  | nil => intro a h1 h2 _; exact ⟨h1, h2⟩
  | cons x l ih =>
   intro a h1 h2 hl
   have := hl x (by simp)
   exact ih (max a (x + 1)) (by omega) (by omega) (fun y hy => hl y (by simp [hy]))
 exact this xs 0 (by omega) (by omega) h
theorem varsFrom_mem {acc : List Int} {l : List Tm} {x : Int} (h : x ∈ varsFrom acc l) : x ∈ acc ∨ ∃ t ∈ l, t.k = 1 ∧ t.n = x := by
 induction l generalizing acc with
 | nil => exact Or.inl h
 | cons t l ih =>
  rcases ih (acc := varsAcc acc t) h with h1 | ⟨u, h1, h2⟩
  ·unfold varsAcc at h1
   split at h1
   ·rename_i hc
    rcases List.mem_append.1 h1 with h2 | h2
    ·exact Or.inl h2
    ·exact Or.inr ⟨t, by simp, hc.1, ((List.mem_singleton.1 h2).symm)⟩
   ·exact Or.inl h1
  ·exact Or.inr ⟨u, by simp [h1], h2⟩
theorem varsFrom_keep {acc : List Int} {l : List Tm} {x : Int} (h : x ∈ acc) : x ∈ varsFrom acc l := by
 induction l generalizing acc with
 | nil => exact h
 | cons t l ih =>
  refine ih (acc := varsAcc acc t) ?_
  unfold varsAcc
  split
  ·exact List.mem_append.2 (Or.inl h)
  ·exact h
theorem varsFrom_has {acc : List Int} {l : List Tm} {t : Tm} (ht : t ∈ l) (hk : t.k = 1) : t.n ∈ varsFrom acc l := by
 induction l generalizing acc with
 | nil => simp at ht
 | cons u l ih =>
  rcases List.mem_cons.1 ht with rfl | h
  ·refine varsFrom_keep (acc := varsAcc acc t) (l := l) ?_
   unfold varsAcc
   split
   ·simp
   ·rename_i hc
    by_cases hm : t.n ∈ acc
    ·exact hm
    ·exact absurd ⟨hk, hm⟩ hc
  ·exact ih h
theorem maxV_gt {xs : List Int} {x : Int} (h : x ∈ xs) : x < maxV xs := by
 have : ∀ (l : List Int) (a : Int), a ≤ l.foldl (fun a x => max a (x + 1)) a ∧ (x ∈ l → x < l.foldl (fun a x => max a (x + 1)) a) := by
  intro l
  induction l with
  | nil => intro a; exact ⟨Int.le_refl _, fun h => by simp at h⟩
  | cons y l ih =>
   intro a
   have h1 := ih (max a (y + 1))
   refine ⟨by have := h1.1; simp only [List.foldl_cons]; omega, fun hx => ?_⟩
   rcases List.mem_cons.1 hx with rfl | hx
   ·have := h1.1; simp only [List.foldl_cons]; omega
   ·exact h1.2 hx
 exact (this xs 0).2 h
end Go.Proofs.Ytfhgknmkpegpbaa
set_option linter.unusedVariables false
set_option linter.unusedSimpArgs false
namespace Go.Proofs.Ytfhgknmkpegpbaa
open Go.RowKit
def SubI (R : Nat → Nat → Prop) (w : World) (g : Nat) (sub : List Tm) : Prop :=
 ∃ es : List EV, sub = es.map (fun e => e.1) ∧ Blk w g 25 (es.flatMap encE).toArray ∧ ∀ i e, es[i]? = some e → e.1.s.size ≤ 9223372036854775807 ∧ TmC (R i) w e.2.1 e.2.2 e.1.l
theorem SubC.toI {P : Nat → Prop} {w : World} {g : Nat} {sub : List Tm} (h : SubC P w g sub) : SubI (fun _ => P) w g sub := by
 obtain ⟨es, h1, h2, h3⟩ := h
 exact ⟨es, h1, h2, fun i e he => h3 e (List.mem_of_getElem? he)⟩
theorem SubI.mono {R R' : Nat → Nat → Prop} {w : World} {g : Nat} {sub : List Tm} (h : SubI R w g sub) (hR : ∀ i, i < sub.length → ∀ j, R i j → R' i j) : SubI R' w g sub := by
 obtain ⟨es, rfl, h2, h3⟩ := h
 refine ⟨es, rfl, h2, fun i e he => ⟨(h3 i e he).1, (h3 i e he).2.mono (hR i ?_)⟩⟩
 rw [List.length_map]
 exact (List.getElem?_eq_some_iff.1 he).1
theorem SubI.toC {P : Nat → Prop} {w : World} {g : Nat} {sub : List Tm} (h : SubI (fun _ => P) w g sub) : SubC P w g sub := by
 obtain ⟨es, h1, h2, h3⟩ := h
 refine ⟨es, h1, h2, fun e he => ?_⟩
 obtain ⟨i, hi⟩ := List.mem_iff_getElem?.1 he
 exact h3 i e hi
theorem SubI.lt {R : Nat → Nat → Prop} {w : World} {g : Nat} {sub : List Tm} (h : SubI R w g sub) : g < w.heap.size := by obtain ⟨es, _, h2, _⟩ := h; exact h2.lt
theorem SubI.frozen {R : Nat → Nat → Prop} {w : World} {g : Nat} {sub : List Tm} (h : SubI R w g sub) (i : Nat) : w.frozen? ⟨g, i, none⟩ = false := by obtain ⟨es, _, h2, _⟩ := h; exact h2.frozen i
theorem SubI.below {R : Nat → Nat → Prop} {w w' : World} {g B : Nat} {sub : List Tm} (h : SubI R w g sub) (hb : Below B w w') (hB : w.heap.size ≤ B) : SubI R w' g sub := by
 obtain ⟨es, h1, h2, h3⟩ := h
 exact ⟨es, h1, h2.below hb (Nat.lt_of_lt_of_le h2.lt hB), fun i e he => ⟨(h3 i e he).1, (h3 i e he).2.stay hb hB⟩⟩
theorem SubI.cells {R : Nat → Nat → Prop} {w : World} {g n : Nat} {sub : List Tm} {x : Tm} (h : SubI R w g sub) (hx : sub[n]? = some x) :
  ∃ A c, w.cell? ⟨g, n * 4, none⟩ = some (.int .i64 x.k) ∧ w.cell? ⟨g, n * 4 + 1, none⟩ = some (.int .i64 x.n) ∧ w.cell? ⟨g, n * 4 + 2, none⟩ = some (.string x.s) ∧ w.cell? ⟨g, n * 4 + 3, none⟩ = some (.slice A x.l.length c) ∧ x.s.size ≤ 9223372036854775807 ∧ TmC (R n) w A c x.l := by
 obtain ⟨es, rfl, h2, h3⟩ := h
 rw [List.getElem?_map] at hx
 cases he : es[n]? with
 | none => rw [he] at hx; simp at hx
 | some e =>
  rw [he] at hx
  simp at hx
  subst hx
  have hf : ∀ j, j < 4 → w.cell? ⟨g, n * 4 + j, none⟩ = (encE e)[j]? := fun j hj => by
   rw [h2.cell, List.getElem?_toArray, flatMap_get encE 4 encE_len es n j e he hj]
  exact ⟨e.2.1, e.2.2, hf 0 (by omega), hf 1 (by omega), hf 2 (by omega), hf 3 (by omega), h3 n e he⟩
theorem SubI.put {R R' : Nat → Nat → Prop} {w : World} {g n : Nat} {sub : List Tm} {u : Tm} {A : Option Addr} {c : Nat} (h : SubI R w g sub) (hn : sub[n]? = some u) (hs : u.s.size ≤ 9223372036854775807) (hu : TmC (R' n) w A c u.l) (hP : ∀ i j, (R i j ∨ R' i j) → j ≠ g) (hR : ∀ i, i ≠ n → ∀ j, R i j → R' i j) :
  SubI R' ((((w.setCell ⟨g, n * 4, none⟩ (.int .i64 u.k)).setCell ⟨g, n * 4 + 1, none⟩ (.int .i64 u.n)).setCell ⟨g, n * 4 + 2, none⟩ (.string u.s)).setCell ⟨g, n * 4 + 3, none⟩ (.slice A u.l.length c)) g sub := by
 obtain ⟨es, rfl, h2, h3⟩ := h
 have hnl : n < es.length := by have := (List.getElem?_eq_some_iff.1 hn).1; rwa [List.length_map] at this
 have hk : ∀ {i : Nat} {A' c'} {l' : List Tm}, TmC (R' i) w A' c' l' → TmC (R' i) ((((w.setCell ⟨g, n * 4, none⟩ (.int .i64 u.k)).setCell ⟨g, n * 4 + 1, none⟩ (.int .i64 u.n)).setCell ⟨g, n * 4 + 2, none⟩ (.string u.s)).setCell ⟨g, n * 4 + 3, none⟩ (.slice A u.l.length c)) A' c' l' := fun h =>
  (((h.setCell _ _ (fun j hj => hP _ j (Or.inr hj))).setCell _ _ (fun j hj => hP _ j (Or.inr hj))).setCell _ _ (fun j hj => hP _ j (Or.inr hj))).setCell _ _ (fun j hj => hP _ j (Or.inr hj))
 refine ⟨es.set n (u, A, c), ?_, ?_, fun i e he => ?_⟩
 ·rw [List.map_set]
  apply List.ext_getElem?
  intro i
  rw [List.getElem?_set]
  split
  ·rename_i hi
   subst hi
   rw [hn]; simp [hnl]
  ·rfl
 ·have h4 := (((h2.set_ (n * 4) (.int .i64 u.k)).set_ (n * 4 + 1) (.int .i64 u.n)).set_ (n * 4 + 2) (.string u.s)).set_ (n * 4 + 3) (.slice A u.l.length c)
  rw [← flatMap_set4 es n (u, A, c) hnl]
  simpa using h4
 ·rw [List.getElem?_set] at he
  split at he
  ·rename_i hi
   subst hi
   simp [hnl] at he
   subst he
   exact ⟨hs, hk hu⟩
  ·rename_i hi
   exact ⟨(h3 i e he).1, hk ((h3 i e he).2.mono (hR i (Ne.symm hi)))⟩
end Go.Proofs.Ytfhgknmkpegpbaa
set_option linter.unusedVariables false
set_option linter.unusedSimpArgs false
namespace Go.Proofs.Ytfhgknmkpegpbaa
open Go.RowKit
theorem Tm.mat_mem (n : Nat) : (∀ (t u : Tm) (sub : List Tm), t.size ≤ n → ∀ x ∈ (t.mat u sub).1, x ∈ sub ∨ x.size ≤ u.size) ∧ (∀ (xs ys sub : List Tm), Tm.sizes xs ≤ n → ∀ x ∈ (Tm.mats xs ys sub).1, x ∈ sub ∨ x.size ≤ Tm.sizes ys) := by
 induction n with
 | zero =>
  refine ⟨fun t u sub h => by have := t.size_pos; omega, fun xs ys sub h x hx => ?_⟩
  cases xs with
  | nil => rw [Tm.mats_nil] at hx; exact Or.inl hx
  | cons a l => rw [Tm.sizes] at h; have := a.size_pos; omega
 | succ n ih =>
  have h1 : ∀ (t u : Tm) (sub : List Tm), t.size ≤ n + 1 → ∀ x ∈ (t.mat u sub).1, x ∈ sub ∨ x.size ≤ u.size := fun t u sub h x hx => by
   rw [t.size_eq] at h
   rw [Tm.mat_eq] at hx
   split at hx
   ·split at hx
    ·split at hx
     ·rcases List.mem_or_eq_of_mem_set hx with h2 | h2
      ·exact Or.inl h2
      ·rw [h2]; exact Or.inr (Nat.le_refl _)
     ·exact Or.inl hx
    ·exact Or.inl hx
   ·split at hx
    ·rcases ih.2 _ _ _ (by omega) x hx with h2 | h2
     ·exact Or.inl h2
     ·rw [u.size_eq]; exact Or.inr (by omega)
    ·exact Or.inl hx
  refine ⟨h1, fun xs => ?_⟩
  induction xs with
  | nil => intro ys sub _ x hx; rw [Tm.mats_nil] at hx; exact Or.inl hx
  | cons a l ihl =>
   intro ys sub h x hx
   rw [Tm.sizes] at h
   cases ys with
   | nil => rw [Tm.mats] at hx; exact Or.inl hx
   | cons y ys =>
    rw [Tm.mats_cons] at hx
    rw [Tm.sizes]
    have key : x ∈ (a.mat y sub).1 → x ∈ sub ∨ x.size ≤ y.size + Tm.sizes ys := fun h2 => by
     rcases h1 a y sub (by omega) x h2 with h3 | h3
     ·exact Or.inl h3
     ·exact Or.inr (by omega)
    split at hx
    ·rcases ihl ys _ (by omega) x hx with h2 | h2
     ·exact key h2
     ·exact Or.inr (by omega)
    ·exact key hx
theorem flatMap_encI (xs : List Int) : xs.flatMap encI = xs.map (Value.int .i64) := by
 induction xs with
 | nil => rfl
 | cons x xs ih => rw [List.flatMap_cons, ih]; rfl
noncomputable def matchR (p t : Tm) : Option (List Tm) := if (p.mat t (List.replicate (maxV (varsL [p])).toNat Tm.zero)).2 = true then some (p.mat t (List.replicate (maxV (varsL [p])).toNat Tm.zero)).1 else none
def RetMa (w : World) (r : Option (List Tm)) (er : Int) (e : Ending) (w' : World) : Prop :=
 ∃ A c, e = .returned (.tuple #[.slice A (r.getD []).length c, .bool r.isSome, .int .i64 er]) ∧ TmC (w.heap.size ≤ ·) w' A c (r.getD []) ∧ Below w.heap.size w w'
set_option maxRecDepth 100000 in
set_option maxHeartbeats 4000000 in
theorem matchTop_calls (t u : Tm) (P Q : Nat → Prop) (w : World) (v v2 : Value) (hv : TmV P w v t) (hv2 : TmV Q w v2 u) :
  Calls Try.prog 35 #[v, v2] w (RetMa w (if allIs [t, u] = true then matchR t u else none) (errT (allIs [t, u]))) := by
 obtain ⟨A, c, rfl, hs, hc⟩ := hv
 obtain ⟨B, d, rfl, hs', hd⟩ := hv2
 obtain ⟨W1, hW1⟩ : ∃ W1, W1 = ((w.alloc (.cells #[.int .i64 t.k, .int .i64 t.n, .string t.s, .slice A t.l.length c] 25)).alloc (.cells #[.int .i64 u.k, .int .i64 u.n, .string u.s, .slice B u.l.length d] 25)).alloc (.cells #[.int .i64 t.k, .int .i64 t.n, .string t.s, .slice A t.l.length c, .int .i64 u.k, .int .i64 u.n, .string u.s, .slice B u.l.length d] 25) := ⟨_, rfl⟩
 have hB1 : Below w.heap.size w W1 := by rw [hW1]; exact (((Below.refl _ _).alloc (Nat.le_refl _) _).alloc (by simp) _).alloc (by simp; omega) _
 have hX : Blk W1 w.heap.size 25 #[.int .i64 t.k, .int .i64 t.n, .string t.s, .slice A t.l.length c] := by rw [hW1]; exact ((Blk.new w 25 _).alloc _).alloc _
 have hY : Blk W1 (w.heap.size + 1) 25 #[.int .i64 u.k, .int .i64 u.n, .string u.s, .slice B u.l.length d] := by
  rw [hW1]
  have := Blk.new (w.alloc (.cells #[.int .i64 t.k, .int .i64 t.n, .string t.s, .slice A t.l.length c] 25)) 25 #[.int .i64 u.k, .int .i64 u.n, .string u.s, .slice B u.l.length d]
  rw [show (w.alloc (.cells #[.int .i64 t.k, .int .i64 t.n, .string t.s, .slice A t.l.length c] 25)).heap.size = w.heap.size + 1 from by simp] at this
  exact this.alloc _
 have hZ : Blk W1 (w.heap.size + 1 + 1) 25 #[.int .i64 t.k, .int .i64 t.n, .string t.s, .slice A t.l.length c, .int .i64 u.k, .int .i64 u.n, .string u.s, .slice B u.l.length d] := by
  rw [hW1]
  have := Blk.new ((w.alloc (.cells #[.int .i64 t.k, .int .i64 t.n, .string t.s, .slice A t.l.length c] 25)).alloc (.cells #[.int .i64 u.k, .int .i64 u.n, .string u.s, .slice B u.l.length d] 25)) 25 #[.int .i64 t.k, .int .i64 t.n, .string t.s, .slice A t.l.length c, .int .i64 u.k, .int .i64 u.n, .string u.s, .slice B u.l.length d]
  rw [show ((w.alloc (.cells #[.int .i64 t.k, .int .i64 t.n, .string t.s, .slice A t.l.length c] 25)).alloc (.cells #[.int .i64 u.k, .int .i64 u.n, .string u.s, .slice B u.l.length d] 25)).heap.size = w.heap.size + 1 + 1 from by simp] at this
  exact this
 have hc1 := (hc.inside.belowP hB1 (fun g h => h.2)).mono (Q := fun g => g < w.heap.size) (fun g h => h.2)
 have hd1 := (hd.inside.belowP hB1 (fun g h => h.2)).mono (Q := fun g => g < w.heap.size) (fun g h => h.2)
 have hcall := checked_calls [t, u] _ _ 2 W1 (TmC.lit (P := fun g => g < w.heap.size ∨ g = w.heap.size + 1 + 1) [(t, A, c), (u, B, d)] (by simp; exact ⟨⟨hs, hc1.mono (fun g h => Or.inl h)⟩, hs', hd1.mono (fun g h => Or.inl h)⟩) hZ (Or.inr rfl) (by simp))
 obtain ⟨b, hb⟩ : ∃ b, b = allIs [t, u] := ⟨_, rfl⟩
 rw [← hb] at hcall ⊢
 obtain ⟨R, hR⟩ : ∃ R, R = if b = true then matchR t u else none := ⟨_, rfl⟩
 rw [← hR]
 have HR := Lib.hid hR; clear hR
 have Hb := Lib.hid hb; clear hb
 have Hcall := Lib.hid hcall; clear hcall hZ
 have Hc := Lib.hid hc1; clear hc hc1
 have Hd := Lib.hid hd1; clear hd hd1
 have HX := Lib.hid hX; clear hX
 have HY := Lib.hid hY; clear hY
 have HB1 := Lib.hid hB1; clear hB1
 have HW := Lib.hid hW1; clear hW1
 go_enter Try.func35, Try.ntmps35
 go_wp2_with fail
 rw [← HW.out]
 refine Hcall.out.mono ?_
 rintro e w1 ⟨rfl, hb1⟩
 have hsz := HB1.out.size
 have lx := HX.out.lt
 have ly := HY.out.lt
 have hX1 := HX.out.below hb1 lx
 have hY1 := HY.out.below hb1 ly
 obtain ⟨⟨a0, a1, a2, a3⟩, -⟩ := hX1.four
 obtain ⟨⟨b0, b1, b2, b3⟩, -⟩ := hY1.four
 have HX1 := Lib.hid hX1; clear hX1
 have HY1 := Lib.hid hY1; clear hY1
 have HB2 := Lib.hid (HB1.out.trans (hb1.mono hsz))
 have Hc1 := Lib.hid (Hc.out.stay hb1 (Nat.le_refl _))
 have Hd1 := Lib.hid (Hd.out.stay hb1 (Nat.le_refl _))
 clear hb1 lx ly
 cases b
 ·have he : (errT false != 0) = true := rfl
  have hr : R = none := by have := HR.out; simpa using this
  subst hr
  go_wp2
  exact bodyPost_ret (v := .tuple #[.slice none 0 0, .bool false, .int .i64 (errT false)]) (by simp [results, Try.results35, go_sem]) rfl (R := RetMa w none _) ⟨none, 0, rfl, TmC.nil _ _ (by omega) (fun _ => rfl), HB2.out⟩
 have he : (errT true != 0) = false := rfl
 have hr : R = matchR t u := by have := HR.out; simpa using this
 have Hr := Lib.hid hr; clear hr HR
 have hoks : isB t = true := by have := Hb.out; simp [allIs] at this; exact this.1
 have Hok := Lib.hid hoks; clear hoks
 have Hou := Lib.hid (show isB u = true from by have := Hb.out; simp [allIs] at this; exact this.2)
 have hokt := isB_iff.1 Hok.out
 have hvr : ∀ x ∈ varsL [t], 0 ≤ x ∧ x < 100000 := fun x hx => by
  rcases varsFrom_mem hx with h | ⟨y, hy, hk, rfl⟩
  ·simp at h
  ·exact var_bd (okB_pre t hokt.1 y (by simpa [Tm.pres] using hy)) hk
 have hbb : Below w1.heap.size w1 (w1.alloc (.cells #[.int .i64 t.k, .int .i64 t.n, .string t.s, .slice A t.l.length c] 25)) := (Below.refl _ _).alloc (Nat.le_refl _) _
 have hcall := vars_calls [t] (fun g => g < w.heap.size ∨ g = w1.heap.size) _ 1 (w1.alloc (.cells #[.int .i64 t.k, .int .i64 t.n, .string t.s, .slice A t.l.length c] 25)) (TmC.lit [(t, A, c)] (by simp; exact ⟨hs, (Hc1.out.stay hbb (Nat.le_refl _)).mono (fun g h => Or.inl h)⟩) (Blk.new _ _ _) (Or.inr rfl) (by simp)) (by simp [Tm.okBs, hokt.1]) (by simp [Tm.sizes]; omega)
 obtain ⟨xs, hxs⟩ : ∃ xs, xs = varsL [t] := ⟨_, rfl⟩
 rw [← hxs] at hcall hvr
 have Hxs := Lib.hid hxs; clear hxs
 have Hvr := Lib.hid hvr; clear hvr
 have Hcall2 := Lib.hid hcall; clear hcall hokt Hcall
 have HBB := Lib.hid hbb; clear hbb
 go_wp2_with fail
 refine Hcall2.out.mono ?_
 rintro e w2 ⟨vs, rfl, hrow, hnil, hb2⟩
 have hb12 := HBB.out.trans (hb2.mono HBB.out.size)
 obtain ⟨As, cs, rfl⟩ := own_slice hrow
 have hrd := own_rd hrow
 have hX2 := HX1.out.below hb12 HX1.out.lt
 have hY2 := HY1.out.below hb12 HY1.out.lt
 have HX2 := Lib.hid hX2
 have HY2 := Lib.hid hY2
 have Hc2 := Lib.hid (Hc1.out.stay hb12 (Nat.le_refl _))
 have Hd2 := Lib.hid (Hd1.out.stay hb12 (Nat.le_refl _))
 have HB3 := Lib.hid (HB2.out.trans (hb12.mono HB2.out.size))
 have Hrd := Lib.hid (show Rd w2 As (xs.flatMap encI) from by rw [flatMap_encI]; exact hrd)
 have hxl : xs.length ≤ 9223372036854775807 := by
  have h1 := varsFrom_len [] (Tm.pres [t])
  rw [Tm.pres_len] at h1
  have h2 := (isB_iff.1 Hok.out).2.1
  have h3 : xs.length = (varsFrom [] (Tm.pres [t])).length := by rw [Hxs.out]; rfl
  simp [Tm.sizes] at h1
  omega
 clear a0 a1 a2 a3 b0 b1 b2 b3 hrow hnil hb2 hb12 hrd hX2 hY2
 have hmkT : ∀ m : Nat, m ≤ 100000 → ∀ W : World, (Instr.makeSlice 22 (.int .i64 (m : Int)) (.int .i64 (m : Int))).run Try.prog W = .ok (.slice (some ⟨W.heap.size, 0, none⟩) m m) (W.alloc (.cells (madeCells zc (m * 4)) 25)) := fun m hm W => mkT m hm W
 have HmkT := Lib.hid hmkT; clear hmkT
 go_wp2
 go_loopw [8, 24] (fun a i wr => ∃ k : Nat, k ≤ xs.length ∧ i = .int .i64 k ∧ a = .int .i64 (maxV (xs.take k)) ∧ wr = w2) (fun _ i _ => xs.length - (intOf i).toNat)
 case atStart => exact ⟨0, Nat.zero_le _, rfl, rfl, rfl⟩
 case round =>
  obtain ⟨k, hk, rfl, rfl, rfl⟩ := hrel
  by_cases hlt : k < xs.length
  ·obtain ⟨x, hx⟩ : ∃ x, xs[k]? = some x := ⟨_, List.getElem?_eq_getElem hlt⟩
   obtain ⟨g, off, rfl, e0⟩ := Hrd.out.atI hx
   have hts : maxV (xs.take (k + 1)) = max (maxV (xs.take k)) (x + 1) := by rw [take_snoc hx, maxV_snoc]
   have hxb := Hvr.out x (List.mem_of_getElem? hx)
   have hx0 : 0 ≤ x := hxb.1
   have hx1 : x ≤ 1000000 := by omega
   have Hts := Lib.hid hts; clear hts hx hxb
   obtain ⟨M, hM⟩ : ∃ M, M = maxV (xs.take k) := ⟨_, rfl⟩
   rw [← hM]
   have HM := Lib.hid hM; clear hM
   go_wp2
   go_roundw
   case rel => exact ⟨k + 1, by omega, by go_num, by rw [Hts.out, ← HM.out], trivial⟩
   case measure => simp [intOf]; omega
  ·have hke : k = xs.length := by omega
   subst hke
   rw [List.take_length]
   have hmb := maxV_bd Hvr.out
   obtain ⟨m, hm⟩ : ∃ m : Nat, maxV xs = m := ⟨(maxV xs).toNat, by omega⟩
   rw [hm]
   have hm1 : m ≤ 100000 := by omega
   have hmk := HmkT.out m hm1
   have Hm := Lib.hid hm; clear hm hmb
   have hm0 : (0 : Int) ≤ (m : Int) := by omega
   have lx := HX2.out.lt
   have ly := HY2.out.lt
   obtain ⟨⟨a0, a1, a2, a3⟩, -⟩ := HX2.out.four
   obtain ⟨⟨b0, b1, b2, b3⟩, -⟩ := HY2.out.four
   have hbm : Below wr.heap.size wr (wr.alloc (.cells (madeCells zc (m * 4)) 25)) := (Below.refl _ _).alloc (Nat.le_refl _) _
   have hlr : (List.replicate m Tm.zero).length = m := List.length_replicate
   have hcall := match_calls t (fun g => g < w.heap.size) (wr.alloc (.cells (madeCells zc (m * 4)) 25)) _ _ u (List.replicate m Tm.zero) wr.heap.size ⟨A, c, rfl, hs, Hc2.out.stay hbm (Nat.le_refl _)⟩ ⟨B, d, rfl, hs', Hd2.out.stay hbm (Nat.le_refl _)⟩ (SubC.made _ _ _) (fun h hh => by omega) (by omega) (fun y hy hyk => by
    have h1 := var_bd (okB_pre t (isB_iff.1 Hok.out).1 y hy) hyk
    have h2 : y.n ∈ xs := by rw [Hxs.out]; exact varsFrom_has (by simpa [Tm.pres] using hy) hyk
    have h3 := maxV_gt h2
    rw [Hm.out] at h3
    exact ⟨h1.1, by omega⟩)
   rw [hlr] at hcall
   have hRe : R = if (t.mat u (List.replicate m Tm.zero)).2 = true then some (t.mat u (List.replicate m Tm.zero)).1 else none := by rw [Hr.out, matchR, ← Hxs.out, Hm.out]; rfl
   have hln := (Tm.mat_len t.size).1 t u (List.replicate m Tm.zero) (Nat.le_refl _)
   rw [hlr] at hln
   obtain ⟨⟨rs, rb⟩, hrr⟩ : ∃ r, r = t.mat u (List.replicate m Tm.zero) := ⟨_, rfl⟩
   have hmem := (Tm.mat_mem t.size).1 t u (List.replicate m Tm.zero) (Nat.le_refl _)
   rw [← hrr] at hcall hRe hln hmem
   have Hmem := Lib.hid (show ∀ x ∈ rs, x.size ≤ 1000000 from fun x hx => by
    have h2 := (isB_iff.1 Hou.out).2.1
    rcases hmem x hx with h | h
    ·rw [(List.mem_replicate.1 h).2]; show (1 : Nat) + 0 ≤ _; omega
    ·omega)
   clear hmem
   have HRe := Lib.hid hRe; clear hRe hrr
   have Hln := Lib.hid (show rs.length = m from hln); clear hln
   have Hcall3 := Lib.hid hcall; clear hcall
   have HBm := Lib.hid (HB3.out.trans (hbm.mono HB3.out.size)); clear hbm
   go_wp2_with fail
   refine Hcall3.out.mono ?_
   rintro e w3 ⟨rfl, hsb, hb3⟩
   have Hsb := Lib.hid (show SubC _ w3 wr.heap.size rs from hsb); clear hsb
   have HB4 := Lib.hid (HBm.out.trans (hb3.below (by have := HBm.out.size; omega) HBm.out.size)); clear hb3
   cases rb
   ·have hr : R = none := by have := HRe.out; simpa using this
    subst hr
    go_wp2
    exact bodyPost_ret (v := .tuple #[.slice none 0 0, .bool false, .int .i64 0]) (by simp [results, Try.results35, go_sem]) rfl (R := RetMa w none _) ⟨none, 0, rfl, TmC.nil _ _ (by omega) (fun _ => rfl), HB4.out⟩
   ·have hr : R = some rs := by have := HRe.out; simpa using this
    subst hr
    have HG := Lib.hid (show SubI (fun i j => (i < 0 ∧ w.heap.size ≤ j ∧ j ≠ wr.heap.size) ∨ (0 ≤ i ∧ j < w.heap.size)) w3 wr.heap.size rs from Hsb.out.toI.mono (fun i _ j hj => Or.inr ⟨Nat.zero_le _, hj⟩))
    have hrl := Hln.out
    have hwr : w.heap.size ≤ wr.heap.size := HB3.out.size
    go_wp2
    obtain ⟨G, hG⟩ : ∃ G, G = wr.heap.size := ⟨_, rfl⟩
    rw [← hG] at HG hwr ⊢
    clear hG
    go_loopw [42] (fun i wx => ∃ k : Nat, k ≤ m ∧ i = .int .i64 k ∧ (SubI (fun i j => (i < k ∧ w.heap.size ≤ j ∧ j ≠ G) ∨ (k ≤ i ∧ j < w.heap.size)) wx G rs ∧ Below w.heap.size w wx)) (fun i _ => m - (intOf i).toNat)
    case atStart => exact ⟨0, Nat.zero_le _, rfl, HG.out, HB4.out⟩
    case round =>
     obtain ⟨k, hk, rfl, hsi, hB⟩ := hrel
     have HB := Lib.hid hB; clear hB
     by_cases hkm : k < m
     ·obtain ⟨x, hx⟩ : ∃ x, rs[k]? = some x := ⟨_, List.getElem?_eq_getElem (by omega)⟩
      obtain ⟨Ax, cx, e0, e1, e2, e3, hxs, hxc⟩ := hsi.cells hx
      have hxz := Hmem.out x (List.mem_of_getElem? hx)
      have hcall := copied_calls x _ _ _ ⟨Ax, cx, rfl, hxs, hxc⟩ hxz
      have Hcall4 := Lib.hid hcall; clear hcall hxc
      have Hx := Lib.hid hx; clear hx
      have Hsi := Lib.hid hsi; clear hsi
      go_wp2_with fail
      refine Hcall4.out.mono ?_
      rintro e w4 ⟨A5, c5, rfl, -, hx5, hb5⟩
      have hsi2 := Hsi.out.below hb5 (Nat.le_refl _)
      have hlG := Hsi.out.lt
      have hcs := hsi2.cells Hx.out
      obtain ⟨A6, c6, q0, q1, q2, q3, -, -⟩ := hcs
      have f0 := hsi2.frozen (k * 4)
      have f1 := hsi2.frozen (k * 4 + 1)
      have f2 := hsi2.frozen (k * 4 + 2)
      have f3 := hsi2.frozen (k * 4 + 3)
      have hBw := HB.out.size
      have hnew := SubI.put (R' := fun i j => (i < k + 1 ∧ w.heap.size ≤ j ∧ j ≠ G) ∨ (k + 1 ≤ i ∧ j < w.heap.size)) hsi2 Hx.out hxs (hx5.mono (fun j hj => Or.inl ⟨by omega, by omega, by omega⟩)) (fun i j hj => by omega) (fun i hi j hj => by omega)
      have Hnew := Lib.hid hnew; clear hnew hsi2 hx5
      have HB6 := Lib.hid ((((HB.out.trans (hb5.mono HB.out.size)).setCell (p := ⟨G, k * 4, none⟩) hwr (.int .i64 x.k)).setCell (p := ⟨G, k * 4 + 1, none⟩) hwr (.int .i64 x.n)).setCell (p := ⟨G, k * 4 + 2, none⟩) hwr (.string x.s) |>.setCell (p := ⟨G, k * 4 + 3, none⟩) hwr (.slice A5 x.l.length c5))
      clear hb5
      go_wp2
      go_roundw
      case rel => exact ⟨k + 1, by omega, by go_num, Hnew.out, HB6.out⟩
      case measure => simp [intOf]; omega
     ·have hke : k = m := by omega
      subst hke
      have hfin : TmC (w.heap.size ≤ ·) wr (some ⟨G, 0, none⟩) rs.length rs := by
       obtain ⟨es, h1, h2, h3⟩ := hsi
       subst h1
       rw [List.length_map] at hrl ⊢
       refine TmC.lit es (fun e he => ?_) h2 hwr (by omega)
       obtain ⟨i, hi⟩ := List.mem_iff_getElem?.1 he
       have hil := (List.getElem?_eq_some_iff.1 hi).1
       exact ⟨(h3 i e hi).1, (h3 i e hi).2.mono (fun j hj => by omega)⟩
      have Hfin := Lib.hid hfin; clear hfin hsi
      go_wp2
      refine bodyPost_ret (v := .tuple #[.slice (some ⟨G, 0, none⟩) rs.length rs.length, .bool true, .int .i64 0]) (by simp [results, Try.results35, go_sem, hrl]) rfl (R := RetMa w (some rs) _) ⟨_, _, rfl, Hfin.out, HB.out⟩
end Go.Proofs.Ytfhgknmkpegpbaa
set_option linter.unusedVariables false
set_option linter.unusedSimpArgs false
namespace Go.Proofs.Ytfhgknmkpegpbaa
open Go.RowKit
def MapN (W : World) (b n : Nat) (val : Int → Int) : Prop :=
 ∃ D : DataW Unit, W.ownsMap Try.prog 3 (plainElem Try.prog 3) b n D ∧ Maps.IsMap D ∧ ∀ x, D.atKey (.int .i64 x) (.lit (.int .i64 0)) = .lit (.int .i64 (val x))
theorem MapN.made (w : World) : MapN (w.alloc (.map #[] 0)) w.heap.size 0 (fun _ => 0) := ⟨_, World.ownsMap_made w _ _ _, Maps.isMap_empty, fun _ => rfl⟩
theorem MapN.kept {w w' : World} {b n : Nat} {m : Int → Int} {row : Option Nat} (h : MapN w b n m) (hg : w.grownBy w' row) (hne : some b ≠ row) : MapN w' b n m := by
 obtain ⟨D, h1, h2⟩ := h; exact ⟨D, h1.kept hg hne, h2⟩
theorem MapN.lt {w : World} {b n : Nat} {m : Int → Int} (h : MapN w b n m) : b < w.heap.size := by obtain ⟨D, h1, h2⟩ := h; exact h1.lt
theorem lit_inj {a b : Int} (h : (DataW.lit (Lit.int .i64 a) : DataW Unit) = .lit (.int .i64 b)) : a = b := by
 cases h; rfl
theorem MapN.lookup {w : World} {b n : Nat} {m : Int → Int} (h : MapN w b n m) {x : Int} (hx : (Lit.int .i64 x).wf = true) :
  (Instr.lookup 98 (.map (some b)) (.int .i64 x) false).run Try.prog w = .ok (.int .i64 (m x)) w := by
 obtain ⟨D, h1, -, h2⟩ := h
 obtain ⟨c, hrun, hat, -⟩ := h1.lookup_int (Maps.int_keyed Try.underlying3) Try.underlying98 Try.underlying3 (Try.zeroValue3 _) (Maps.keyOf_int_mk Try.underlying3 hx)
 rw [h2] at hat
 rw [show m x = c from lit_inj hat]
 exact hrun
theorem MapN.put {w : World} {b n : Nat} {D : DataW Unit} {m : Int → Int} {x y : Int} (h1 : w.ownsMap Try.prog 3 (plainElem Try.prog 3) b n (D.put (.int .i64 x) (.lit (.int .i64 y)))) (hm : Maps.IsMap D)
  (h2 : ∀ x, D.atKey (.int .i64 x) (.lit (.int .i64 0)) = .lit (.int .i64 (m x))) : MapN w b n (fun z => if z = x then y else m z) := by
 refine ⟨_, h1, ?_, fun z => ?_⟩
 ·obtain ⟨es, rfl⟩ := hm; exact ⟨_, rfl⟩
 ·by_cases h : z = x
  ·subst h
   rw [Maps.atKey_put_same hm (show WideAt.IsKeyLit (.int .i64 z) from trivial)]; simp
  ·rw [Maps.atKey_put_other (by simpa using h), h2]
   show _ = DataW.lit (Lit.int .i64 (if z = x then y else m z))
   rw [if_neg h]
theorem int_wf {n : Int} (h0 : 0 ≤ n) (h1 : n < 100000) : (Lit.int .i64 n).wf = true := by
 unfold Lit.wf
 simp [IntKind.min, IntKind.max, IntKind.bits, IntKind.signed]
 omega
def nowF (val : Int → Int) (n : Int) : Option Tm := some (Tm.va (val n))
set_option maxRecDepth 100000 in
set_option maxHeartbeats 4000000 in
theorem normal1_calls (Q : Nat → Prop) (cb mb k : Nat) (val : Int → Int) (w : World) (n : Int) (hb : Blk w cb 98 #[.map (some mb)]) (hm : MapN w mb k val) (h0 : 0 ≤ n) (h1 : n < 100000) :
  Calls Try.prog 86 #[.int .i64 n, .pointer (some ⟨cb, 0, none⟩)] w (RetP Q w (nowF val n)) := by
 have hlook := (hm.kept (World.grownBy_alloc w (.cells #[.int .i64 0, .int .i64 0, .string ⟨#[]⟩, .slice none 0 0] 25) none) (by simp)).lookup (int_wf h0 h1)
 have hlt := hb.lt
 obtain ⟨b0, -⟩ := Blk.one hb
 clear hm hb h0 h1
 go_enter Try.func86, Try.ntmps86
 go_wp2
 refine bodyPost_ret (v := .tuple #[.agg #[.int .i64 1, .int .i64 (val n), .string ⟨#[]⟩, .slice none 0 0], .bool true]) (by simp [results, Try.results86, go_sem]) rfl (R := RetP Q w _) ⟨none, 0, rfl, by show (0 : Nat) ≤ _; omega, TmC.nil _ _ (by omega) (fun _ => rfl), ?_⟩
 exact (Below.refl _ _).alloc (Nat.le_refl _) _
end Go.Proofs.Ytfhgknmkpegpbaa
set_option linter.unusedVariables false
set_option linter.unusedSimpArgs false
namespace Go.Proofs.Ytfhgknmkpegpbaa
open Go.RowKit
def nowOf (xs : List Int) (k : Nat) : Int → Int := fun z => if z ∈ xs.take k then ((xs.take k).idxOf z : Int) else 0
theorem nowOf_zero (xs : List Int) : nowOf xs 0 = fun _ => 0 := by funext z; simp [nowOf]
theorem nowOf_succ {xs : List Int} {k : Nat} {x : Int} (hx : xs[k]? = some x) (hn : x ∉ xs.take k) : nowOf xs (k + 1) = fun z => if z = x then (k : Int) else nowOf xs k z := by
 funext z
 have hl : (xs.take k).length = k := by have := (List.getElem?_eq_some_iff.1 hx).1; rw [List.length_take]; omega
 unfold nowOf
 rw [take_snoc hx]
 by_cases h : z = x
 ·subst h
  rw [if_pos (by simp), if_pos rfl, List.idxOf_append, if_neg hn]
  simp [hl]
 ·rw [if_neg h]
  by_cases hm : z ∈ xs.take k
  ·rw [if_pos (by simp [hm]), if_pos hm, List.idxOf_append, if_pos hm]
  ·rw [if_neg (by simp [hm, h]), if_neg hm]
def normT (val : Int → Int) (t : Tm) : Tm := (repT (nowF val) t).getD Tm.zero
theorem varsFrom_nodup {acc : List Int} {l : List Tm} (h : acc.Nodup) : (varsFrom acc l).Nodup := by
 induction l generalizing acc with
 | nil => exact h
 | cons t l ih =>
  refine ih (acc := varsAcc acc t) ?_
  unfold varsAcc
  split
  ·rename_i hc
   rw [List.nodup_append]
   exact ⟨h, by simp, fun a ha b hb => by rw [List.mem_singleton.1 hb]; exact fun e => hc.2 (e ▸ ha)⟩
  ·exact h
end Go.Proofs.Ytfhgknmkpegpbaa
set_option linter.unusedVariables false
set_option linter.unusedSimpArgs false
namespace Go.Proofs.Ytfhgknmkpegpbaa
open Go.RowKit
def b8 (n : Int) : List UInt8 := (List.range 8).map fun k => UInt8.ofNat ((n / (2 ^ (8 * k) : Int)) % 256).toNat
theorem b8_len (n : Int) : (b8 n).length = 8 := by simp [b8]
theorem u8_inj {a b : Int} (ha : 0 ≤ a) (ha2 : a < 256) (hb : 0 ≤ b) (hb2 : b < 256) (h : UInt8.ofNat a.toNat = UInt8.ofNat b.toNat) : a = b := by
 have h1 := congrArg UInt8.toNat h
 rw [UInt8.toNat_ofNat', UInt8.toNat_ofNat'] at h1
 omega
theorem b8_inj {n m : Int} (hn : -9223372036854775808 ≤ n) (hn2 : n ≤ 9223372036854775807) (hm : -9223372036854775808 ≤ m) (hm2 : m ≤ 9223372036854775807) (h : b8 n = b8 m) : n = m := by
 have key : ∀ k, k < 8 → (n / (2 ^ (8 * k) : Int)) % 256 = (m / (2 ^ (8 * k) : Int)) % 256 := fun k hk => by
  have h1 := congrArg (fun l => l[k]?) h
  simp only [b8, List.getElem?_map, List.getElem?_range hk, Option.map_some] at h1
  injection h1 with h1
  exact u8_inj (Int.emod_nonneg _ (by omega)) (Int.emod_lt_of_pos _ (by omega)) (Int.emod_nonneg _ (by omega)) (Int.emod_lt_of_pos _ (by omega)) h1
 have k0 := key 0 (by omega)
 have k1 := key 1 (by omega)
 have k2 := key 2 (by omega)
 have k3 := key 3 (by omega)
 have k4 := key 4 (by omega)
 have k5 := key 5 (by omega)
 have k6 := key 6 (by omega)
 have k7 := key 7 (by omega)
 simp at k0 k1 k2 k3 k4 k5 k6 k7
 clear key h
 omega
mutual
def Tm.txt : Tm → List UInt8 | .mk k n s l => b8 k ++ (b8 n ++ (b8 s.size ++ (b8 l.length ++ (s.data.toList ++ Tm.txts l))))
def Tm.txts : List Tm → List UInt8
 | [] => []
 | t :: ts => Tm.txt t ++ Tm.txts ts
end
theorem Tm.txt_eq (t : Tm) : t.txt = b8 t.k ++ (b8 t.n ++ (b8 t.s.size ++ (b8 t.l.length ++ (t.s.data.toList ++ Tm.txts t.l)))) := by cases t; rw [Tm.txt]; rfl
theorem Tm.txts_append (a b : List Tm) : Tm.txts (a ++ b) = Tm.txts a ++ Tm.txts b := by
 induction a with
 | nil => rfl
 | cons x a ih => rw [List.cons_append, Tm.txts, Tm.txts, ih, List.append_assoc]
def fitN (t : Tm) : Prop := (-9223372036854775808 ≤ t.k ∧ t.k ≤ 9223372036854775807) ∧ (-9223372036854775808 ≤ t.n ∧ t.n ≤ 9223372036854775807) ∧ t.s.size ≤ 9223372036854775807 ∧ t.l.length ≤ 9223372036854775807
theorem b8_app {n m : Int} {r r' : List UInt8} (hn : -9223372036854775808 ≤ n) (hn2 : n ≤ 9223372036854775807) (hm : -9223372036854775808 ≤ m) (hm2 : m ≤ 9223372036854775807) (h : b8 n ++ r = b8 m ++ r') : n = m ∧ r = r' := by
 obtain ⟨h1, h2⟩ := List.append_inj h (by rw [b8_len, b8_len])
 exact ⟨b8_inj hn hn2 hm hm2 h1, h2⟩
theorem Tm.txt_inj (N : Nat) : (∀ (t u : Tm) (r r' : List UInt8), t.size ≤ N → (∀ x ∈ t.pre, fitN x) → (∀ x ∈ u.pre, fitN x) → t.txt ++ r = u.txt ++ r' → t = u ∧ r = r') ∧
  (∀ (xs ys : List Tm) (r r' : List UInt8), Tm.sizes xs ≤ N → (∀ x ∈ Tm.pres xs, fitN x) → (∀ x ∈ Tm.pres ys, fitN x) → xs.length = ys.length → Tm.txts xs ++ r = Tm.txts ys ++ r' → xs = ys ∧ r = r') := by
 induction N with
 | zero =>
  refine ⟨fun t u r r' h => by have := t.size_pos; omega, fun xs ys r r' h hx hy hl he => ?_⟩
  cases xs with
  | nil => cases ys with
   | nil => exact ⟨rfl, he⟩
   | cons y ys => simp at hl
  | cons a l => rw [Tm.sizes] at h; have := a.size_pos; omega
 | succ n ih =>
  have h1 : ∀ (t u : Tm) (r r' : List UInt8), t.size ≤ n + 1 → (∀ x ∈ t.pre, fitN x) → (∀ x ∈ u.pre, fitN x) → t.txt ++ r = u.txt ++ r' → t = u ∧ r = r' := fun t u r r' h ht hu he => by
   rw [t.size_eq] at h
   rw [t.pre_eq] at ht
   rw [u.pre_eq] at hu
   rw [t.txt_eq, u.txt_eq] at he
   simp only [List.append_assoc] at he
   obtain ⟨a1, a2, a3, a4⟩ := ht t (List.mem_cons_self ..)
   obtain ⟨c1, c2, c3, c4⟩ := hu u (List.mem_cons_self ..)
   obtain ⟨e1, he⟩ := b8_app a1.1 a1.2 c1.1 c1.2 he
   obtain ⟨e2, he⟩ := b8_app a2.1 a2.2 c2.1 c2.2 he
   obtain ⟨e3, he⟩ := b8_app (by omega) (by omega) (by omega) (by omega) he
   obtain ⟨e4, he⟩ := b8_app (by omega) (by omega) (by omega) (by omega) he
   obtain ⟨e5, he⟩ := List.append_inj he (by show t.s.data.size = u.s.data.size; exact Int.ofNat.inj e3)
   obtain ⟨e6, he⟩ := ih.2 t.l u.l r r' (by omega) (fun x hx => ht x (List.mem_cons_of_mem _ hx)) (fun x hx => hu x (List.mem_cons_of_mem _ hx)) (Int.ofNat.inj e4) he
   refine ⟨?_, he⟩
   cases t with | mk k1 n1 s1 l1 =>
   cases u with | mk k2 n2 s2 l2 =>
   have e1' : k1 = k2 := e1
   have e2' : n1 = n2 := e2
   have e6' : l1 = l2 := e6
   have e5' : s1 = s2 := by
    cases s1; cases s2
    congr 1
    exact Array.toList_inj.1 e5
   rw [e1', e2', e5', e6']
  refine ⟨h1, fun xs => ?_⟩
  induction xs with
  | nil =>
   intro ys r r' h hx hy hl he
   cases ys with
   | nil => exact ⟨rfl, he⟩
   | cons y ys => simp at hl
  | cons a l ihl =>
   intro ys r r' h hx hy hl he
   rw [Tm.sizes] at h
   cases ys with
   | nil => simp at hl
   | cons y ys =>
    rw [Tm.txts, Tm.txts, List.append_assoc, List.append_assoc] at he
    rw [Tm.pres] at hx hy
    obtain ⟨q1, he⟩ := h1 a y _ _ (by omega) (fun x hx' => hx x (List.mem_append_left _ hx')) (fun x hx' => hy x (List.mem_append_left _ hx')) he
    obtain ⟨q2, he⟩ := ihl ys r r' (by omega) (fun x hx' => hx x (List.mem_append_right _ hx')) (fun x hx' => hy x (List.mem_append_right _ hx')) (by simpa using hl) he
    exact ⟨by rw [q1, q2], he⟩
end Go.Proofs.Ytfhgknmkpegpbaa
set_option linter.unusedVariables false
set_option linter.unusedSimpArgs false
namespace Go.Proofs.Ytfhgknmkpegpbaa
open Go.RowKit
noncomputable section
open Classical in
def pidx (p : List (Tm × Tm)) (q : Tm × Tm) : Nat := p.findIdx (fun x => decide (x = q))
open Classical in
def padd (p : List (Tm × Tm)) (q : Tm × Tm) : List (Tm × Tm) := if q ∈ p then p else p ++ [q]
mutual
def Tm.gen : Tm → Tm → List (Tm × Tm) → Tm × List (Tm × Tm)
 | .mk k n s l, u, p => if k = u.k ∧ k ≠ 1 ∧ n = u.n ∧ s.toList = u.s.toList ∧ l.length = u.l.length then (.mk k n s (Tm.gens l u.l p).1, (Tm.gens l u.l p).2) else (Tm.va (pidx p (.mk k n s l, u)), padd p (.mk k n s l, u))
def Tm.gens : List Tm → List Tm → List (Tm × Tm) → List Tm × List (Tm × Tm)
 | [], _, p => ([], p)
 | _ :: _, [], p => ([], p)
 | x :: xs, y :: ys, p => ((Tm.gen x y p).1 :: (Tm.gens xs ys (Tm.gen x y p).2).1, (Tm.gens xs ys (Tm.gen x y p).2).2)
end
end
theorem Tm.gen_eq (t u : Tm) (p : List (Tm × Tm)) : t.gen u p = if t.k = u.k ∧ t.k ≠ 1 ∧ t.n = u.n ∧ t.s.toList = u.s.toList ∧ t.l.length = u.l.length then (.mk t.k t.n t.s (Tm.gens t.l u.l p).1, (Tm.gens t.l u.l p).2) else (Tm.va (pidx p (t, u)), padd p (t, u)) := by
 cases t; rw [Tm.gen]; rfl
theorem Tm.gens_nil (ys : List Tm) (p : List (Tm × Tm)) : Tm.gens [] ys p = ([], p) := by rw [Tm.gens]
theorem Tm.gens_cons (x y : Tm) (xs ys : List Tm) (p : List (Tm × Tm)) : Tm.gens (x :: xs) (y :: ys) p = ((Tm.gen x y p).1 :: (Tm.gens xs ys (Tm.gen x y p).2).1, (Tm.gens xs ys (Tm.gen x y p).2).2) := by rw [Tm.gens]
theorem Tm.gens_snoc {xs ys : List Tm} {x y : Tm} (hl : xs.length = ys.length) (p : List (Tm × Tm)) :
  Tm.gens (xs ++ [x]) (ys ++ [y]) p = ((Tm.gens xs ys p).1 ++ [(Tm.gen x y (Tm.gens xs ys p).2).1], (Tm.gen x y (Tm.gens xs ys p).2).2) := by
 induction xs generalizing ys p with
 | nil =>
  cases ys with
  | nil => rw [List.nil_append, List.nil_append, Tm.gens_cons, Tm.gens_nil, Tm.gens_nil]; rfl
  | cons y' ys => simp at hl
 | cons a xs ih =>
  cases ys with
  | nil => simp at hl
  | cons b ys =>
   rw [List.cons_append, List.cons_append, Tm.gens_cons, Tm.gens_cons, ih (by simpa using hl)]
   rfl
theorem Tm.gens_len {xs ys : List Tm} (hl : xs.length = ys.length) (p : List (Tm × Tm)) : (Tm.gens xs ys p).1.length = xs.length := by
 induction xs generalizing ys p with
 | nil => rw [Tm.gens_nil]
 | cons a xs ih =>
  cases ys with
  | nil => simp at hl
  | cons b ys => rw [Tm.gens_cons, List.length_cons, ih (by simpa using hl)]; rfl
theorem Tm.gen_pairs (F : Tm → Prop) (N : Nat) : (∀ (t u : Tm) (p : List (Tm × Tm)), t.size ≤ N → (∀ x ∈ t.pre, F x) → (∀ x ∈ u.pre, F x) → p.Nodup → (∀ q ∈ p, (∀ x ∈ q.1.pre, F x) ∧ ∀ x ∈ q.2.pre, F x) →
      (t.gen u p).2.length ≤ p.length + t.size ∧ (t.gen u p).2.Nodup ∧ ∀ q ∈ (t.gen u p).2, (∀ x ∈ q.1.pre, F x) ∧ ∀ x ∈ q.2.pre, F x) ∧
    (∀ (xs ys : List Tm) (p : List (Tm × Tm)), Tm.sizes xs ≤ N → (∀ x ∈ Tm.pres xs, F x) → (∀ x ∈ Tm.pres ys, F x) → p.Nodup → (∀ q ∈ p, (∀ x ∈ q.1.pre, F x) ∧ ∀ x ∈ q.2.pre, F x) →
      (Tm.gens xs ys p).2.length ≤ p.length + Tm.sizes xs ∧ (Tm.gens xs ys p).2.Nodup ∧ ∀ q ∈ (Tm.gens xs ys p).2, (∀ x ∈ q.1.pre, F x) ∧ ∀ x ∈ q.2.pre, F x) := by
  induction N with
  | zero =>
    refine ⟨fun t u p h => by have := t.size_pos; omega, fun xs ys p h hx hy hn hp => ?_⟩
    cases xs with
    | nil => rw [Tm.gens_nil]; exact ⟨Nat.le_add_right _ _, hn, hp⟩
    | cons a l => rw [Tm.sizes] at h; have := a.size_pos; omega
  | succ n ih =>
    have h1 : ∀ (t u : Tm) (p : List (Tm × Tm)), t.size ≤ n + 1 → (∀ x ∈ t.pre, F x) → (∀ x ∈ u.pre, F x) → p.Nodup → (∀ q ∈ p, (∀ x ∈ q.1.pre, F x) ∧ ∀ x ∈ q.2.pre, F x) →
      (t.gen u p).2.length ≤ p.length + t.size ∧ (t.gen u p).2.Nodup ∧ ∀ q ∈ (t.gen u p).2, (∀ x ∈ q.1.pre, F x) ∧ ∀ x ∈ q.2.pre, F x := fun t u p h hx hy hn hp => by
      have hsz := t.size_eq
      rw [Tm.gen_eq]
      split
      · obtain ⟨a1, a2, a3⟩ := ih.2 t.l u.l p (by omega) (fun x h => hx x (by rw [t.pre_eq]; exact List.mem_cons_of_mem _ h)) (fun x h => hy x (by rw [u.pre_eq]; exact List.mem_cons_of_mem _ h)) hn hp
        exact ⟨by simp only; omega, a2, a3⟩
      · simp only
        unfold padd
        split
        · exact ⟨by omega, hn, hp⟩
        · rename_i hnp
          refine ⟨by simp; omega, ?_, fun q hq => ?_⟩
          · rw [List.nodup_append]
            exact ⟨hn, by simp, fun a ha b hb => by rw [List.mem_singleton.1 hb]; exact fun e => hnp (e ▸ ha)⟩
          · rcases List.mem_append.1 hq with hq | hq
            · exact hp q hq
            · rw [List.mem_singleton.1 hq]; exact ⟨hx, hy⟩
    refine ⟨h1, fun xs => ?_⟩
    induction xs with
    | nil => intro ys p h hx hy hn hp; rw [Tm.gens_nil]; exact ⟨Nat.le_add_right _ _, hn, hp⟩
    | cons a l ihl =>
      intro ys p h hx hy hn hp
      cases ys with
      | nil => rw [Tm.gens]; exact ⟨Nat.le_add_right _ _, hn, hp⟩
      | cons y ys =>
        rw [Tm.sizes] at h ⊢
        rw [Tm.pres] at hx hy
        rw [Tm.gens_cons]
        obtain ⟨a1, a2, a3⟩ := h1 a y p (by omega) (fun x hx' => hx x (List.mem_append_left _ hx')) (fun x hx' => hy x (List.mem_append_left _ hx')) hn hp
        obtain ⟨b1, b2, b3⟩ := ihl ys (Tm.gen a y p).2 (by omega) (fun x hx' => hx x (List.mem_append_right _ hx')) (fun x hx' => hy x (List.mem_append_right _ hx')) a2 a3
        exact ⟨by simp only; omega, b2, b3⟩
end Go.Proofs.Ytfhgknmkpegpbaa
set_option linter.unusedVariables false
set_option linter.unusedSimpArgs false
namespace Go.Proofs.Ytfhgknmkpegpbaa
open Go.RowKit
def Bld (W : World) (B b : Nat) (bs : List UInt8) : Prop := Lib.IsBuilderF 149 5 B b (Lib.byteCells bs) W
theorem writeByte_calls (B b : Nat) (bs : List UInt8) (c : Int) (x : UInt8) (w : World) (h : Bld w B b bs) (hc : c = (x.toNat : Int)) (hlen : bs.length + 1 ≤ 140737488355328) (hBw : B ≤ w.heap.size) :
  Calls Try.prog 148 #[.pointer (some ⟨b, 0, none⟩), .int .u8 c] w fun e w' => e = .returned .nilIface ∧ Bld w' B b (bs ++ [x]) ∧ Below B w w' ∧ Lib.OthersKept 5 (some b) w w' := by
 have h1 : Calls Try.prog 148 #[.pointer (some ⟨b, 0, none⟩), .int .u8 c] w fun e w' => e = .returned .nilIface ∧ (Lib.BuilderAtF 149 5 B b (.pointer (some ⟨b, 0, none⟩)) (Lib.byteCells bs ++ [.int .u8 c]) w' ∧ Below B w w' ∧ Lib.OthersKept 5 (some b) w w') :=
  Any.Builder_WriteByte_k Try.lays167 Try.Builder_ExtraB B b (Lib.byteCells bs) c w h (by rw [Lib.byteCells_length]; exact hlen) hBw
 refine h1.mono ?_
 rintro e w' ⟨rfl, h2, h3, h4⟩
 refine ⟨rfl, .inr ?_, h3, h4⟩
 rw [Lib.byteCells_append, show Lib.byteCells [x] = [Value.int .u8 c] from by rw [hc]; rfl]
 exact h2
theorem writeString_calls (B b : Nat) (bs : List UInt8) (s : ByteArray) (w : World) (h : Bld w B b bs) (hlen : bs.length + s.size ≤ 140737488355328) (hBw : B ≤ w.heap.size) :
  Calls Try.prog 149 #[.pointer (some ⟨b, 0, none⟩), .string s] w fun e w' => e = .returned (.tuple #[.int .i64 s.size, .nilIface]) ∧ Bld w' B b (bs ++ s.data.toList) ∧ Below B w w' ∧ Lib.OthersKept 5 (some b) w w' := by
 have h1 : Calls Try.prog 149 #[.pointer (some ⟨b, 0, none⟩), .string s] w fun e w' => e = .returned (.tuple #[.int .i64 s.size, .nilIface]) ∧ (Lib.BuilderAtF 149 5 B b (.pointer (some ⟨b, 0, none⟩)) (Lib.byteCells bs ++ Lib.strCells s) w' ∧ Below B w w' ∧ Lib.OthersKept 5 (some b) w w') :=
  Any.Builder_WriteString_k Try.lays166 Try.Builder_ExtraB B b (Lib.byteCells bs) s w h (by rw [Lib.byteCells_length]; exact hlen) hBw
 refine h1.mono ?_
 rintro e w' ⟨rfl, h2, h3, h4⟩
 refine ⟨rfl, .inr ?_, h3, h4⟩
 rw [Lib.byteCells_append, ← Lib.strCells_eq]
 exact h2
theorem string_calls (B b : Nat) (bs : List UInt8) (w : World) (h : Bld w B b bs) (hBw : B ≤ w.heap.size) :
  Calls Try.prog 131 #[.pointer (some ⟨b, 0, none⟩)] w fun e w' => e = .returned (.string ⟨bs.toArray⟩) ∧ Bld w' B b bs ∧ Below B w w' ∧ Lib.OthersKept 5 (some b) w w' :=
 Any.Builder_String_any_k Try.lays169b Try.Builder_ExtraB B b bs w h hBw
theorem Bld.alloc {W : World} {B b : Nat} {bs : List UInt8} (h : Bld W B b bs) (o : Obj) : Bld (W.alloc o) B b bs := Lib.IsBuilderF.alloc h o
theorem Bld.lt {W : World} {B b : Nat} {bs : List UInt8} (h : Bld W B b bs) : b < W.heap.size := by
 rcases h with h | h
 ·exact h.lt
 ·exact h.lt
theorem Blk.others {W W' : World} {g b T : Nat} {cs : Array Value} (h : Blk W g T cs) (hk : Lib.OthersKept 5 (some b) W W') (hg : g ≠ b) (hT : T ≠ 5) : Blk W' g T cs :=
 hk g _ h (by simpa using hg) (fun c fz e => by injection e with _ e2; exact hT e2)
def RetTx (w : World) (B b : Nat) (bs : List UInt8) (e : Ending) (w' : World) : Prop := e = .returned (.tuple #[]) ∧ Bld w' B b bs ∧ Below B w w' ∧ Lib.OthersKept 5 (some b) w w'
set_option maxRecDepth 100000 in
set_option maxHeartbeats 4000000 in
theorem text_calls (t : Tm) : ∀ (P : Nat → Prop) (B b : Nat) (bs : List UInt8) (w : World) (v : Value), TmV P w v t → (∀ g, P g → g < B) → B ≤ b → Bld w B b bs → B ≤ w.heap.size → bs.length + t.txt.length ≤ 1000000000 → (∀ x ∈ t.pre, fitN x) →
  Calls Try.prog 130 #[.pointer (some ⟨b, 0, none⟩), v] w (RetTx w B b (bs ++ t.txt)) := by
 induction t using Tm.ind with
 | h t ih =>
  intro P B b bs w v hv hP hBb hbl hBw hlen hfit
  obtain ⟨A, c, rfl, hs, hc⟩ := hv
  have Ih := Lib.hid ih; clear ih
  have hlc := hc.len.1
  have hlm := hc.len.2.1
  have hlt := hbl.lt
  have hf := hfit t (by rw [t.pre_eq]; exact List.mem_cons_self ..)
  obtain ⟨ns, hns⟩ : ∃ ns : List Int, ns = [t.k, t.n, (t.s.size : Int), (t.l.length : Int)] := ⟨_, rfl⟩
  have htxt : t.txt = ns.flatMap b8 ++ (t.s.data.toList ++ Tm.txts t.l) := by rw [t.txt_eq, hns]; simp
  have hnl : ns.length = 4 := by rw [hns]; rfl
  obtain ⟨W0, hW0⟩ : ∃ W0, W0 = w.alloc (.cells #[.int .i64 t.k, .int .i64 t.n, .string t.s, .slice A t.l.length c] 25) := ⟨_, rfl⟩
  have hX0 : Blk W0 w.heap.size 25 #[.int .i64 t.k, .int .i64 t.n, .string t.s, .slice A t.l.length c] := by rw [hW0]; exact Blk.new _ _ _
  have hl0 : Bld W0 B b bs := by rw [hW0]; exact hbl.alloc _
  have hB0 : Below B w W0 := by rw [hW0]; exact (Below.refl _ _).alloc hBw _
  have hO0 : Lib.OthersKept 5 (some b) w W0 := by rw [hW0]; exact (Lib.OthersKept.refl _ _ _).alloc _
  have hc0 : TmC P W0 A c t.l := hc.belowP hB0 hP
  have hsz0 : W0.heap.size = w.heap.size + 1 := by rw [hW0]; simp
  obtain ⟨⟨a0, a1, a2, a3⟩, -⟩ := hX0.four
  have Hfit := Lib.hid hfit; clear hfit
  have Hlen := Lib.hid hlen; clear hlen
  have Htxt := Lib.hid htxt; clear htxt
  have Hf := Lib.hid hf; clear hf
  have HX0 := Lib.hid hX0; clear hX0
  have Hl0 := Lib.hid hl0; clear hl0 hbl
  have HB0 := Lib.hid hB0; clear hB0
  have HO0 := Lib.hid hO0; clear hO0
  have Hc := Lib.hid (hc.mono (Q := P) (fun g h => h)); clear hc0 hc
  have HP := Lib.hid hP; clear hP
  have HW := Lib.hid hW0; clear hW0
  have Hsz := Lib.hid hsz0; clear hsz0
  have Hns := Lib.hid hns; clear hns
  go_enter Try.func130, Try.ntmps130
  go_wp2_with fail
  rw [← HW.out]
  go_wp2
  obtain ⟨G, hG⟩ : ∃ G, G = w.heap.size + 1 := ⟨_, rfl⟩
  have hb3 := Blk.new W0 3 #[.int .i64 t.k, .int .i64 t.n, .int .i64 t.s.size, .int .i64 t.l.length]
  rw [Hsz.out, ← hG] at hb3
  obtain ⟨W1, hW1⟩ : ∃ W1, W1 = W0.alloc (.cells #[.int .i64 t.k, .int .i64 t.n, .int .i64 t.s.size, .int .i64 t.l.length] 3) := ⟨_, rfl⟩
  have hI : Hid (Blk W1 w.heap.size 25 #[.int .i64 t.k, .int .i64 t.n, .string t.s, .slice A t.l.length c] ∧ Blk W1 G 3 #[.int .i64 t.k, .int .i64 t.n, .int .i64 t.s.size, .int .i64 t.l.length] ∧ Below B w W1 ∧ Lib.OthersKept 5 (some b) w W1) := by
   refine Lib.hid ⟨?_, ?_, ?_, ?_⟩
   ·rw [hW1]; exact HX0.out.alloc _
   ·rw [hW1]; exact hb3
   ·rw [hW1]; exact HB0.out.alloc (by have := Hsz.out; omega) _
   ·rw [hW1]; exact HO0.out.alloc _
  have hL1 : Hid (Bld W1 B b bs) := Lib.hid (by rw [hW1]; exact Hl0.out.alloc _)
  have hGb : b < G := by rw [hG]; omega
  rw [← hW1, ← hG]
  have HG := Lib.hid hG; clear hG hb3 hW1
  go_loopw [21] (fun i wr => ∃ j : Nat, j ≤ 4 ∧ i = .int .i64 j ∧ Hid (Bld wr B b (bs ++ (ns.take j).flatMap b8)) ∧ Hid (Blk wr w.heap.size 25 #[.int .i64 t.k, .int .i64 t.n, .string t.s, .slice A t.l.length c] ∧ Blk wr G 3 #[.int .i64 t.k, .int .i64 t.n, .int .i64 t.s.size, .int .i64 t.l.length] ∧ Below B w wr ∧ Lib.OthersKept 5 (some b) w wr)) (fun i _ => 4 - (intOf i).toNat)
  case atStart => exact ⟨0, by omega, rfl, by simpa using hL1, hI⟩
  case round =>
   obtain ⟨j, hj, rfl, HL, HI⟩ := hrel
   by_cases hlt4 : j < 4
   ·obtain ⟨n, hn⟩ : ∃ n, ns[j]? = some n := ⟨_, List.getElem?_eq_getElem (by omega)⟩
    have e0 : wr.cell? ⟨G, j, none⟩ = some (.int .i64 n) := by
     rw [HI.out.2.1.cell j]
     rw [Hns.out] at hn
     match j, hlt4, hn with
     | 0, _, hn => simp at hn; rw [← hn]; rfl
     | 1, _, hn => simp at hn; rw [← hn]; rfl
     | 2, _, hn => simp at hn; rw [← hn]; rfl
     | 3, _, hn => simp at hn; rw [← hn]; rfl
    have hnb : -9223372036854775808 ≤ n ∧ n ≤ 9223372036854775807 := by
     have hf := Hf.out
     unfold fitN at hf
     rw [Hns.out] at hn
     match j, hlt4, hn with
     | 0, _, hn => simp at hn; omega
     | 1, _, hn => simp at hn; omega
     | 2, _, hn => simp at hn; omega
     | 3, _, hn => simp at hn; omega
    have Hnb := Lib.hid hnb; clear hnb
    have d4 : decide ((j : Int) < 4) = true := decide_eq_true (by omega)
    have Htk := Lib.hid (show (ns.take (j + 1)).flatMap b8 = (ns.take j).flatMap b8 ++ b8 n from by rw [take_snoc hn]; simp)
    have hln : (bs ++ (ns.take j).flatMap b8).length + 8 ≤ 1000000000 := by
     have h1 := Hlen.out
     rw [Htxt.out] at h1
     have h2 : ((ns.take (j + 1)).flatMap b8).length ≤ (ns.flatMap b8).length := by
      conv => rhs; rw [← List.take_append_drop (j + 1) ns, List.flatMap_append, List.length_append]
      omega
     rw [Htk.out] at h2
     simp only [List.length_append, b8_len] at h1 h2 ⊢
     omega
    have Hln := Lib.hid hln; clear hln hn
    go_wp2
    go_loopw [25] (fun i wr => ∃ k : Nat, k ≤ 8 ∧ i = .int .i64 k ∧ Hid (Bld wr B b (bs ++ (ns.take j).flatMap b8 ++ (b8 n).take k)) ∧ Hid (Blk wr w.heap.size 25 #[.int .i64 t.k, .int .i64 t.n, .string t.s, .slice A t.l.length c] ∧ Blk wr G 3 #[.int .i64 t.k, .int .i64 t.n, .int .i64 t.s.size, .int .i64 t.l.length] ∧ Below B w wr ∧ Lib.OthersKept 5 (some b) w wr)) (fun i _ => 8 - (intOf i).toNat)
    case atStart => exact ⟨0, by omega, rfl, by simpa using HL, HI⟩
    case round =>
     obtain ⟨k, hk, rfl, HL2, HI2⟩ := hrel
     by_cases hlt8 : k < 8
     ·obtain ⟨x, hx⟩ : ∃ x, x = UInt8.ofNat ((n / (2 ^ (8 * k) : Int)) % 256).toNat := ⟨_, rfl⟩
      have hxc : n / 2 ^ (8 * k) % 256 = (x.toNat : Int) := by
       rw [hx, UInt8.toNat_ofNat']
       have h1 := Int.emod_nonneg (n / 2 ^ (8 * k)) (show (256 : Int) ≠ 0 by omega)
       have h2 := Int.emod_lt_of_pos (n / 2 ^ (8 * k)) (show (0 : Int) < 256 by omega)
       omega
      have hxk : (b8 n)[k]? = some x := by
       simp only [b8, List.getElem?_map, List.getElem?_range hlt8, Option.map_some]
       rw [hx]
      have Htk8 := Lib.hid (show (b8 n).take (k + 1) = (b8 n).take k ++ [x] from take_snoc hxk)
      have hcall := writeByte_calls B b (bs ++ (ns.take j).flatMap b8 ++ (b8 n).take k) (n / 2 ^ (8 * k) % 256) x wr HL2.out hxc (by have := Hln.out; have h3 := List.length_take_le k (b8 n); rw [List.length_append]; omega) (by have := HI2.out.2.2.1.size; omega)
      have Hcall := Lib.hid hcall; clear hcall hxc hxk hx
      go_wp2_with fail
      refine Hcall.out.mono ?_
      rintro e w2 ⟨rfl, hL3, hB3, hO3⟩
      have HL3 := Lib.hid (show Bld w2 B b (bs ++ (ns.take j).flatMap b8 ++ (b8 n).take (k + 1)) from by rw [Htk8.out, ← List.append_assoc]; exact hL3)
      have HI3 := Lib.hid (show Blk w2 w.heap.size 25 #[.int .i64 t.k, .int .i64 t.n, .string t.s, .slice A t.l.length c] ∧ Blk w2 G 3 #[.int .i64 t.k, .int .i64 t.n, .int .i64 t.s.size, .int .i64 t.l.length] ∧ Below B w w2 ∧ Lib.OthersKept 5 (some b) w w2 from
       ⟨HI2.out.1.others hO3 (by omega) (by decide), HI2.out.2.1.others hO3 (by omega) (by decide), HI2.out.2.2.1.trans hB3, HI2.out.2.2.2.trans hO3⟩)
      clear hL3 hB3 hO3
      go_wp2
      go_roundw
      case rel => exact ⟨k + 1, by omega, by go_num, HL3, HI3⟩
      case measure => simp [intOf]; omega
     ·have hke : k = 8 := by omega
      subst hke
      have HL3 := Lib.hid (show Bld wr B b (bs ++ (ns.take (j + 1)).flatMap b8) from by
       rw [Htk.out, ← List.append_assoc]
       have := HL2.out
       rwa [List.take_of_length_le (l := b8 n) (by rw [b8_len]; omega)] at this)
      go_wp2
      go_roundw
      case rel => exact ⟨j + 1, by omega, by go_num, HL3, HI2⟩
      case measure => simp [intOf]; omega
   ·have hje : j = 4 := by omega
    subst hje
    have hL4 : Bld wr B b (bs ++ ns.flatMap b8) := by
     have := HL.out
     rwa [List.take_of_length_le (by omega)] at this
    have hl1 := Hlen.out
    rw [Htxt.out] at hl1
    simp only [List.length_append] at hl1
    obtain ⟨⟨x0, x1, x2, x3⟩, -⟩ := HI.out.1.four
    have hcall := writeString_calls B b _ t.s wr hL4 (by have : t.s.size = t.s.data.toList.length := (Array.length_toList ..).symm; rw [List.length_append]; omega) (by have := HI.out.2.2.1.size; omega)
    have Hl1 := Lib.hid hl1; clear hl1 hL4
    have Hcall := Lib.hid hcall; clear hcall
    go_wp2_with fail
    refine Hcall.out.mono ?_
    rintro e w2 ⟨rfl, hL3, hB3, hO3⟩
    have HL5 := Lib.hid hL3
    have hI5 : Blk w2 w.heap.size 25 #[.int .i64 t.k, .int .i64 t.n, .string t.s, .slice A t.l.length c] ∧ Below B w w2 ∧ Lib.OthersKept 5 (some b) w w2 :=
     ⟨HI.out.1.others hO3 (by omega) (by decide), HI.out.2.2.1.trans hB3, HI.out.2.2.2.trans hO3⟩
    have HI5 := Lib.hid hI5; clear hI5 hL3 hB3 hO3 x0 x1 x2 x3
    obtain ⟨⟨x0, x1, x2, x3⟩, -⟩ := HI5.out.1.four
    go_wp2
    obtain ⟨bs5, hbs5⟩ : ∃ bs5, bs5 = bs ++ ns.flatMap b8 ++ t.s.data.toList := ⟨_, rfl⟩
    rw [← hbs5] at HL5
    have Hb5 := Lib.hid hbs5; clear hbs5
    go_loopw [44] (fun i wr => ∃ j : Nat, j ≤ t.l.length ∧ i = .int .i64 j ∧ Hid (Bld wr B b (bs5 ++ Tm.txts (t.l.take j))) ∧ Hid (Below B w wr ∧ Lib.OthersKept 5 (some b) w wr)) (fun i _ => t.l.length - (intOf i).toNat)
    case atStart => exact ⟨0, Nat.zero_le _, rfl, by simpa [Tm.txts] using HL5, Lib.hid HI5.out.2⟩
    case round =>
     obtain ⟨j, hj, rfl, HL6, HI6⟩ := hrel
     by_cases hlt : j < t.l.length
     ·obtain ⟨x, hx⟩ : ∃ x, t.l[j]? = some x := ⟨_, List.getElem?_eq_getElem hlt⟩
      have hcr : TmC P wr A c t.l := Hc.out.belowP HI6.out.1 HP.out
      obtain ⟨g, off, Ai, ci, rfl, hPg, ⟨e0, e1, e2, e3⟩, hxs, hxc⟩ := hcr.at_ hx
      have hxm := List.mem_of_getElem? hx
      have Htk6 := Lib.hid (show Tm.txts (t.l.take (j + 1)) = Tm.txts (t.l.take j) ++ x.txt from by rw [take_snoc hx, Tm.txts_append]; simp [Tm.txts])
      have hxl : (bs5 ++ Tm.txts (t.l.take j)).length + x.txt.length ≤ 1000000000 := by
       have h1 := Hl1.out
       have h2 : (Tm.txts (t.l.take (j + 1))).length ≤ (Tm.txts t.l).length := by
        conv => rhs; rw [← List.take_append_drop (j + 1) t.l, Tm.txts_append, List.length_append]
        omega
       rw [Htk6.out] at h2
       rw [Hb5.out]
       simp only [List.length_append] at h1 h2 ⊢
       omega
      have hxf : ∀ y ∈ x.pre, fitN y := fun y hy => Hfit.out y (by
       rw [t.pre_eq]
       refine List.mem_cons_of_mem _ ?_
       have h1 := congrArg Tm.pres (List.take_append_drop (j + 1) t.l)
       rw [take_snoc hx, Tm.pres_append, Tm.pres_append] at h1
       rw [← h1]
       simp [Tm.pres, hy])
      have hcall := Ih.out x hxm P B b (bs5 ++ Tm.txts (t.l.take j)) (wr.alloc (.cells #[.int .i64 x.k, .int .i64 x.n, .string x.s, .slice Ai x.l.length ci] 25)) _ ⟨Ai, ci, rfl, hxs, hxc.belowP ((Below.refl _ _).alloc (Nat.le_refl _) _) (fun g hg => Nat.lt_of_lt_of_le (HP.out g hg) (by have := HI6.out.1.size; omega))⟩ HP.out hBb (HL6.out.alloc _) (by have := HI6.out.1.size; simp; omega) hxl hxf
      have Hcall2 := Lib.hid hcall; clear hcall hxc hx hxl hxf hcr
      go_wp2_with fail
      refine Hcall2.out.mono ?_
      rintro e w3 ⟨rfl, hL3, hB3, hO3⟩
      have HL7 := Lib.hid (show Bld w3 B b (bs5 ++ Tm.txts (t.l.take (j + 1))) from by rw [Htk6.out, ← List.append_assoc]; exact hL3)
      have HI7 := Lib.hid (show Below B w w3 ∧ Lib.OthersKept 5 (some b) w w3 from ⟨(HI6.out.1.alloc (by have := HI6.out.1.size; omega) _).trans hB3, (HI6.out.2.alloc _).trans hO3⟩)
      clear hL3 hB3 hO3
      go_wp2
      go_roundw
      case rel => exact ⟨j + 1, by omega, by go_num, HL7, HI7⟩
      case measure => simp [intOf]; omega
     ·have hje : j = t.l.length := by omega
      subst hje
      have hfin : Bld wr B b (bs ++ t.txt) := by
       have := HL6.out
       rw [List.take_length, Hb5.out] at this
       rw [Htxt.out]
       simpa [List.append_assoc] using this
      have Hfin := Lib.hid hfin; clear hfin
      go_wp2
      exact bodyPost_ret (v := .tuple #[]) (by simp [results, Try.results130, go_sem]) rfl (R := RetTx w B b _) ⟨rfl, Hfin.out, HI6.out.1, HI6.out.2⟩
end Go.Proofs.Ytfhgknmkpegpbaa
set_option linter.unusedVariables false
set_option linter.unusedSimpArgs false
namespace Go.Proofs.Ytfhgknmkpegpbaa
open Go.RowKit
def pkey (q : Tm × Tm) : List UInt8 := q.1.txt ++ q.2.txt
def fitP (q : Tm × Tm) : Prop := (∀ x ∈ q.1.pre, fitN x) ∧ ∀ x ∈ q.2.pre, fitN x
theorem pkey_inj {q r : Tm × Tm} (hq : fitP q) (hr : fitP r) (h : pkey q = pkey r) : q = r := by
 obtain ⟨h1, h2⟩ := (Tm.txt_inj q.1.size).1 q.1 r.1 _ _ (Nat.le_refl _) hq.1 hr.1 h
 obtain ⟨h3, -⟩ := (Tm.txt_inj q.2.size).1 q.2 r.2 [] [] (Nat.le_refl _) hq.2 hr.2 (by rw [h2])
 exact Prod.ext h1 h3
theorem pidx_not {p : List (Tm × Tm)} {q : Tm × Tm} (h : q ∉ p) : pidx p q = p.length := by
 unfold pidx
 rw [List.findIdx_eq_length]
 intro x hx
 simp
 rintro rfl
 exact h hx
theorem pidx_old {p : List (Tm × Tm)} {q r : Tm × Tm} (h : q ∈ p) : pidx (p ++ [r]) q = pidx p q := by
 unfold pidx
 rw [List.findIdx_append, if_pos (List.findIdx_lt_length_of_exists ⟨q, h, by simp⟩)]
theorem pidx_new {p : List (Tm × Tm)} {q : Tm × Tm} (h : q ∉ p) : pidx (p ++ [q]) q = p.length := by
 have h1 := pidx_not h
 unfold pidx at h1 ⊢
 rw [List.findIdx_append, if_neg (by omega), List.findIdx_cons]
 simp
theorem pidx_lt {p : List (Tm × Tm)} {q : Tm × Tm} (h : q ∈ p) : pidx p q < p.length := by
 unfold pidx
 exact List.findIdx_lt_length_of_exists ⟨q, h, by simp⟩
open Classical in
def MapP (W : World) (mb : Nat) (p : List (Tm × Tm)) : Prop :=
 ∃ D : DataW Unit, W.ownsMap Try.prog 9 (plainElem Try.prog 3) mb p.length D ∧ Maps.Tidy D ∧ Maps.size D = p.length ∧
  ∀ q, fitP q → Maps.has D (.string (pkey q)) = decide (q ∈ p) ∧ (q ∈ p → D.atKey (.string (pkey q)) (.lit (.int .i64 0)) = .lit (.int .i64 (pidx p q)))
theorem MapP.made (w : World) : MapP (w.alloc (.map #[] 0)) w.heap.size [] := ⟨_, World.ownsMap_made w _ _ _, Maps.tidy_empty, rfl, fun q _ => ⟨by simp [Maps.has], fun h => by simp at h⟩⟩
theorem MapP.kept {w w' : World} {b : Nat} {p : List (Tm × Tm)} {row : Option Nat} (h : MapP w b p) (hg : w.grownBy w' row) (hne : some b ≠ row) : MapP w' b p := by
 obtain ⟨D, h1, h2⟩ := h; exact ⟨D, h1.kept hg hne, h2⟩
theorem MapP.lt {w : World} {b : Nat} {p : List (Tm × Tm)} (h : MapP w b p) : b < w.heap.size := by obtain ⟨D, h1, h2⟩ := h; exact h1.lt
theorem MapP.below {w w' : World} {b B : Nat} {p : List (Tm × Tm)} (h : MapP w b p) (hb : Below B w w') (hB : b < B) : MapP w' b p := by
 obtain ⟨D, ⟨es, clock, h1, h2, h3, h4⟩, h5⟩ := h
 exact ⟨D, ⟨es, clock, (hb.block b hB).trans h1, h2, h3, h4⟩, h5⟩
theorem MapP.same {w w' : World} {b : Nat} {p : List (Tm × Tm)} (h : MapP w b p) (hb : w'.heap[b]? = w.heap[b]?) : MapP w' b p := by
 obtain ⟨D, ⟨es, clock, h1, h2, h3, h4⟩, h5⟩ := h
 exact ⟨D, ⟨es, clock, hb.trans h1, h2, h3, h4⟩, h5⟩
theorem isKey_string (l : List UInt8) : WideAt.IsKeyLit (.string l) := trivial
theorem MapP.put {w w1 : World} {b : Nat} {p : List (Tm × Tm)} {q : Tm × Tm} {D : DataW Unit} (h1 : w1.ownsMap Try.prog 9 (plainElem Try.prog 3) b (p.length + 1) (D.put (.string (pkey q)) (.lit (.int .i64 p.length)))) (h2 : Maps.Tidy D) (h3 : Maps.size D = p.length)
  (h4 : ∀ q, fitP q → Maps.has D (.string (pkey q)) = @decide (q ∈ p) (Classical.propDecidable _) ∧ (q ∈ p → D.atKey (.string (pkey q)) (.lit (.int .i64 0)) = .lit (.int .i64 (pidx p q)))) (hq : fitP q) (hn : q ∉ p) : MapP w1 b (p ++ [q]) := by
 refine ⟨_, by simpa using h1, h2.put (isKey_string _) _, ?_, fun r hr => ?_⟩
 ·rw [Maps.size_put h2, (h4 q hq).1, h3]
  simp [hn]
 ·by_cases e : r = q
  ·subst e
   refine ⟨?_, fun _ => ?_⟩
   ·rw [Maps.has_put_same h2.isMap (isKey_string _)]; simp
   ·rw [Maps.atKey_put_same h2.isMap (isKey_string _), pidx_new hn]
  ·have hne : (Lit.string (pkey r)) ≠ .string (pkey q) := fun e2 => e (pkey_inj hr hq (by injection e2))
   refine ⟨?_, fun hm => ?_⟩
   ·rw [Maps.has_put_other hne, (h4 r hr).1]
    simp [e]
   ·have hm' : r ∈ p := by
     rcases List.mem_append.1 hm with h | h
     ·exact h
     ·exact absurd (List.mem_singleton.1 h) e
    rw [Maps.atKey_put_other hne, (h4 r hr).2 hm', pidx_old hm']
theorem Tm.txts_mem {l : List Tm} {x : Tm} (h : x ∈ l) : x.txt.length ≤ (Tm.txts l).length := by
 induction l with
 | nil => simp at h
 | cons a l ih =>
  rw [Tm.txts, List.length_append]
  rcases List.mem_cons.1 h with rfl | h
  ·omega
  ·have := ih h; omega
theorem Tm.txt_child {t x : Tm} (h : x ∈ t.l) : x.txt.length ≤ t.txt.length := by
 have := Tm.txts_mem h
 rw [t.txt_eq]
 simp only [List.length_append]
 omega
def RetG (mb : Nat) (w : World) (r : Tm × List (Tm × Tm)) (e : Ending) (w' : World) : Prop :=
 ∃ A c, e = .returned (.agg #[.int .i64 r.1.k, .int .i64 r.1.n, .string r.1.s, .slice A r.1.l.length c]) ∧ r.1.s.size ≤ 9223372036854775807 ∧ TmC (w.heap.size ≤ ·) w' A c r.1.l ∧ MapP w' mb r.2 ∧ But mb w w'
end Go.Proofs.Ytfhgknmkpegpbaa
