/- Layer 1, part 6 of the base: the walks and plain facts named in NOTES.md as T43, V1, V2, V3, V4, T36, V5, T44, Y1. -/
import Derived.Test.YtfhgknmkpegpbaaM5
import Derived.Test.YtfhgknmkpegpbaaM3
import Derived.Test.YtfhgknmkpegpbaaRows
import Derived.WalkKit
import Derived.ProofKit
import Derived.OpenShut
import Derived.ShutString
import Derived.ChangeOld
import Derived.Below
import Derived.SizedLaws
import Derived.Deep.Slices
import Derived.Deep.Fields
import Derived.ChangeSame
import Derived.Lib.SmallJoins

set_option linter.unusedVariables false
set_option linter.unusedSimpArgs false
namespace Go.Proofs.Ytfhgknmkpegpbaa
open Go.RowKit

/-- The least general term. -/
noncomputable def genR (t u : Tm) : Tm := (t.gen u []).1

set_option maxRecDepth 100000 in
set_option maxHeartbeats 4000000 in
theorem generalTop_calls (t u : Tm) (P Q : Nat → Prop) (w : World) (v v2 : Value) (hv : TmV P w v t) (hv2 : TmV Q w v2 u) :
    Calls Try.prog 37 #[v, v2] w (RetME w (if allIs [t, u] = true then some (genR t u) else none) 3) := by
  obtain ⟨A, c, rfl, hs, hc⟩ := hv
  obtain ⟨B, d, rfl, hs', hd⟩ := hv2
  have hmm := @run_makeMap Try.prog
  obtain ⟨W0, hW0⟩ : ∃ W0, W0 = ((w.alloc (.cells #[.int .i64 t.k, .int .i64 t.n, .string t.s, .slice A t.l.length c] 25)).alloc (.cells #[.int .i64 u.k, .int .i64 u.n, .string u.s, .slice B u.l.length d] 25)).alloc (.cells #[.int .i64 0, .int .i64 0, .string ⟨#[]⟩, .slice none 0 0] 25) := ⟨_, rfl⟩
  have hB0 : Below w.heap.size w W0 := by rw [hW0]; exact (((Below.refl _ _).alloc (Nat.le_refl _) _).alloc (by simp) _).alloc (by simp; omega) _
  have hX0 : Blk W0 w.heap.size 25 #[.int .i64 t.k, .int .i64 t.n, .string t.s, .slice A t.l.length c] := by rw [hW0]; exact ((Blk.new w 25 _).alloc _).alloc _
  have hY0 : Blk W0 (w.heap.size + 1) 25 #[.int .i64 u.k, .int .i64 u.n, .string u.s, .slice B u.l.length d] := by
    rw [hW0]
    have := Blk.new (w.alloc (.cells #[.int .i64 t.k, .int .i64 t.n, .string t.s, .slice A t.l.length c] 25)) 25 #[.int .i64 u.k, .int .i64 u.n, .string u.s, .slice B u.l.length d]
    rw [World.size_alloc] at this
    exact this.alloc _
  have hZ0 : Blk W0 (w.heap.size + 1 + 1) 25 #[.int .i64 0, .int .i64 0, .string ⟨#[]⟩, .slice none 0 0] := by
    rw [hW0]
    have := Blk.new ((w.alloc (.cells #[.int .i64 t.k, .int .i64 t.n, .string t.s, .slice A t.l.length c] 25)).alloc (.cells #[.int .i64 u.k, .int .i64 u.n, .string u.s, .slice B u.l.length d] 25)) 25 #[.int .i64 0, .int .i64 0, .string ⟨#[]⟩, .slice none 0 0]
    rwa [World.size_alloc, World.size_alloc] at this
  have hsW : W0.heap.size = w.heap.size + 1 + 1 + 1 := by rw [hW0]; simp
  obtain ⟨W1, hW1⟩ : ∃ W1, W1 = W0.alloc (.cells #[.int .i64 t.k, .int .i64 t.n, .string t.s, .slice A t.l.length c, .int .i64 u.k, .int .i64 u.n, .string u.s, .slice B u.l.length d] 25) := ⟨_, rfl⟩
  have hB1 : Below w.heap.size w W1 := by rw [hW1]; exact hB0.alloc (by omega) _
  have hL1 : Blk W1 (w.heap.size + 1 + 1 + 1) 25 #[.int .i64 t.k, .int .i64 t.n, .string t.s, .slice A t.l.length c, .int .i64 u.k, .int .i64 u.n, .string u.s, .slice B u.l.length d] := by rw [hW1, ← hsW]; exact Blk.new _ _ _
  have hX1 : Blk W1 w.heap.size 25 #[.int .i64 t.k, .int .i64 t.n, .string t.s, .slice A t.l.length c] := by rw [hW1]; exact hX0.alloc _
  have hY1 : Blk W1 (w.heap.size + 1) 25 #[.int .i64 u.k, .int .i64 u.n, .string u.s, .slice B u.l.length d] := by rw [hW1]; exact hY0.alloc _
  have hZ1 : Blk W1 (w.heap.size + 1 + 1) 25 #[.int .i64 0, .int .i64 0, .string ⟨#[]⟩, .slice none 0 0] := by rw [hW1]; exact hZ0.alloc _
  have hc1 := (hc.inside.belowP hB1 (fun g h => h.2)).mono (Q := fun g => g < w.heap.size) (fun g h => h.2)
  have hd1 := (hd.inside.belowP hB1 (fun g h => h.2)).mono (Q := fun g => g < w.heap.size) (fun g h => h.2)
  have hcall := checked_calls [t, u] _ _ 2 W1 (TmC.lit (P := fun g => g < w.heap.size ∨ g = w.heap.size + 1 + 1 + 1) [(t, A, c), (u, B, d)] (by simp; exact ⟨⟨hs, hc1.mono (fun g h => Or.inl h)⟩, hs', hd1.mono (fun g h => Or.inl h)⟩) hL1 (Or.inr rfl) (by simp))
  obtain ⟨b, hb⟩ : ∃ b, b = allIs [t, u] := ⟨_, rfl⟩
  rw [← hb] at hcall ⊢
  obtain ⟨R, hR⟩ : ∃ R, R = if b = true then some (genR t u) else none := ⟨_, rfl⟩
  rw [← hR]
  have HR := Lib.hid hR; clear hR
  have Hb := Lib.hid hb; clear hb
  have Hcall := Lib.hid hcall; clear hcall hL1 hX0 hY0 hZ0 hB0
  have Hc := Lib.hid hc1; clear hc hc1
  have Hd := Lib.hid hd1; clear hd hd1
  have HX := Lib.hid hX1; clear hX1
  have HY := Lib.hid hY1; clear hY1
  have HZ := Lib.hid hZ1; clear hZ1
  have HB1 := Lib.hid hB1; clear hB1
  have HW0 := Lib.hid hW0; clear hW0
  have HW := Lib.hid hW1; clear hW1
  have HsW := Lib.hid hsW; clear hsW
  go_enter Try.func37, Try.ntmps37
  go_wp2_with fail
  rw [← HW0.out, ← HW.out]
  refine Hcall.out.mono ?_
  rintro e w1 ⟨rfl, hb1⟩
  have hX1 := HX.out.below hb1 HX.out.lt
  have hY1 := HY.out.below hb1 HY.out.lt
  have hZ1 := HZ.out.below hb1 HZ.out.lt
  obtain ⟨⟨a0, a1, a2, a3⟩, -⟩ := hX1.four
  obtain ⟨⟨b0, b1, b2, b3⟩, -⟩ := hY1.four
  obtain ⟨⟨z0, z1, z2, z3⟩, ⟨f0, f1, f2, f3⟩⟩ := hZ1.four
  have lx := hX1.lt
  have ly := hY1.lt
  have lz := hZ1.lt
  have HX1 := Lib.hid hX1; clear hX1
  have HY1 := Lib.hid hY1; clear hY1
  have HZ1 := Lib.hid hZ1; clear hZ1
  have Hc1 := Lib.hid (Hc.out.stay hb1 (Nat.le_refl _))
  have Hd1 := Lib.hid (Hd.out.stay hb1 (Nat.le_refl _))
  have HB2 := Lib.hid (HB1.out.trans (hb1.mono HB1.out.size)); clear hb1
  cases b
  · have he : (errT false != 0) = true := rfl
    have hr : R = none := by have := HR.out; simpa using this
    subst hr
    go_wp2
    have hF := ((((HZ1.out.set_ 0 (.int .i64 0)).set_ 1 (.int .i64 0)).set_ 2 (.string ⟨#[]⟩)).set_ 3 (.slice none 0 0))
    have hBF := ((((HB2.out.setCell (p := ⟨w.heap.size + 1 + 1, 0, none⟩) (by simp; omega) (.int .i64 0)).setCell (p := ⟨w.heap.size + 1 + 1, 1, none⟩) (by simp; omega) (.int .i64 0)).setCell (p := ⟨w.heap.size + 1 + 1, 2, none⟩) (by simp; omega) (.string ⟨#[]⟩)).setCell (p := ⟨w.heap.size + 1 + 1, 3, none⟩) (by simp; omega) (.slice none 0 0))
    obtain ⟨⟨q0, q1, q2, q3⟩, -⟩ := hF.four
    refine bodyPost_ret (v := .tuple #[.agg #[.int .i64 0, .int .i64 0, .string ⟨#[]⟩, .slice none 0 0], .int .i64 3]) ?_ rfl (R := RetME w none 3) ⟨none, 0, rfl, by decide, TmC.nil _ _ (by omega) (fun _ => rfl), hBF⟩
    generalize (World.setCell _ ⟨w.heap.size + 1 + 1, 3, none⟩ _) = WF at q0 q1 q2 q3 ⊢
    clear hF hBF
    simp [results, Try.results37, go_sem, q0, q1, q2, q3]
    try rfl
  have he : (errT true != 0) = false := rfl
  have hr : R = some (genR t u) := by have := HR.out; simpa using this
  subst hr
  have hok := Hb.out
  have hoks : isB t = true ∧ isB u = true := by simp [allIs] at hok; exact hok
  have hot := isB_iff.1 hoks.1
  have hou := isB_iff.1 hoks.2
  have htl := (txt_size t.size).1 t (Nat.le_refl _) hot.1
  have hul := (txt_size u.size).1 u (Nat.le_refl _) hou.1
  have hbm : Below w1.heap.size w1 (w1.alloc (.map #[] 0)) := (Below.refl _ _).alloc (Nat.le_refl _) _
  have hcall := general_calls t (fun g => g < w.heap.size) (fun g => g < w.heap.size) (w1.alloc (.map #[] 0)) _ _ u w1.heap.size [] ⟨A, c, rfl, hs, Hc1.out.stay hbm (Nat.le_refl _)⟩ ⟨B, d, rfl, hs', Hd1.out.stay hbm (Nat.le_refl _)⟩ (MapP.made w1) (fun g h => by omega) (fun g h => by omega) ⟨okB_fit hot.1, okB_fit hou.1⟩ List.nodup_nil (by simp; omega) (by omega)
  have hgs := (gen_size t.size).1 t u [] (Nat.le_refl _)
  obtain ⟨r, hr⟩ : ∃ r, r = t.gen u [] := ⟨_, rfl⟩
  have hgr : genR t u = r.1 := by rw [hr]; rfl
  have Hgr := Lib.hid hgr
  rw [← hr] at hcall hgs
  have hrs : r.1.size ≤ 1000000 := by omega
  have Hcall2 := Lib.hid hcall; clear hcall hgs hr hgr hot hou htl hul hoks hok Hcall HR
  have HBm := Lib.hid hbm; clear hbm
  go_wp2_with fail
  refine Hcall2.out.mono ?_
  rintro e w2 ⟨A2, c2, rfl, hs2, hx2, -, hb2⟩
  have hcall := copied_calls r.1 _ w2 _ ⟨A2, c2, rfl, hs2, hx2⟩ hrs
  have hZ2 := (HZ1.out.below HBm.out HZ1.out.lt).but hb2 (by omega)
  have HZ2 := Lib.hid hZ2; clear hZ2
  have HB3 := Lib.hid (HB2.out.trans ((HBm.out.mono HB2.out.size).trans (hb2.below HB2.out.size (by have := HB2.out.size; simp; omega)))); clear hb2 hx2
  have Hcall3 := Lib.hid hcall; clear hcall
  go_wp2_with fail
  refine Hcall3.out.mono ?_
  rintro e w3 ⟨A3, c3, rfl, -, hx3, hb3⟩
  have hZ3 := HZ2.out.below hb3 HZ2.out.lt
  clear z0 z1 z2 z3 f0 f1 f2 f3
  obtain ⟨⟨z0, z1, z2, z3⟩, ⟨f0, f1, f2, f3⟩⟩ := hZ3.four
  have hl23 : w.heap.size + 1 + 1 < w2.heap.size := HZ2.out.lt
  have HZ3 := Lib.hid hZ3; clear hZ3
  have HB4 := Lib.hid (HB3.out.trans (hb3.mono HB3.out.size)); clear hb3
  have Hx3 := Lib.hid hx3; clear hx3
  go_wp2
  have hF := ((((HZ3.out.set_ 0 (.int .i64 r.1.k)).set_ 1 (.int .i64 r.1.n)).set_ 2 (.string r.1.s)).set_ 3 (.slice A3 r.1.l.length c3))
  have hBF := ((((HB4.out.setCell (p := ⟨w.heap.size + 1 + 1, 0, none⟩) (by simp; omega) (.int .i64 r.1.k)).setCell (p := ⟨w.heap.size + 1 + 1, 1, none⟩) (by simp; omega) (.int .i64 r.1.n)).setCell (p := ⟨w.heap.size + 1 + 1, 2, none⟩) (by simp; omega) (.string r.1.s)).setCell (p := ⟨w.heap.size + 1 + 1, 3, none⟩) (by simp; omega) (.slice A3 r.1.l.length c3))
  have hT := ((((Hx3.out.setCell ⟨w.heap.size + 1 + 1, 0, none⟩ (.int .i64 r.1.k) (fun g h e => by simp at e h; omega)).setCell ⟨w.heap.size + 1 + 1, 1, none⟩ (.int .i64 r.1.n) (fun g h e => by simp at e h; omega)).setCell ⟨w.heap.size + 1 + 1, 2, none⟩ (.string r.1.s) (fun g h e => by simp at e h; omega)).setCell ⟨w.heap.size + 1 + 1, 3, none⟩ (.slice A3 r.1.l.length c3) (fun g h e => by simp at e h; omega))
  obtain ⟨⟨q0, q1, q2, q3⟩, -⟩ := hF.four
  refine bodyPost_ret (v := .tuple #[.agg #[.int .i64 r.1.k, .int .i64 r.1.n, .string r.1.s, .slice A3 r.1.l.length c3], .int .i64 0]) ?_ rfl (R := RetME w (some (genR t u)) 3) (by rw [Hgr.out]; exact ⟨A3, c3, rfl, hs2, hT.mono (fun g h => by have h2 : w2.heap.size ≤ g := h; show w.heap.size ≤ g; omega), hBF⟩)
  generalize (World.setCell _ ⟨w.heap.size + 1 + 1, 3, none⟩ _) = WF at q0 q1 q2 q3 ⊢
  clear hF hBF hT
  simp [results, Try.results37, go_sem, q0, q1, q2, q3]
end Go.Proofs.Ytfhgknmkpegpbaa

/- A range over a function whose contract says, of the last world too, what was given out. -/
set_option linter.unusedVariables false
set_option linter.unusedSimpArgs false
namespace Go.Proofs.Ytfhgknmkpegpbaa
open Go.RowKit

/-- What a round keeps of cells. -/
def KpP (n₀ : Nat) (W W' : World) : Prop :=
  Below n₀ W W' ∧ (∀ g cs, Blk W g 25 cs → Blk W' g 25 cs) ∧ (∀ g cs, Blk W g 155 cs → Blk W' g 155 cs) ∧ (∀ g cs, Blk W g 3 cs → Blk W' g 3 cs) ∧ ∀ g v, Blk W g 39 #[v] → Blk W' g 39 #[v]
theorem KpP.refl (n₀ : Nat) (W : World) : KpP n₀ W W := ⟨Below.refl _ _, fun _ _ h => h, fun _ _ h => h, fun _ _ h => h, fun _ _ h => h⟩
theorem KpP.trans {n₀ : Nat} {A B C : World} (h : KpP n₀ A B) (k : KpP n₀ B C) : KpP n₀ A C :=
  ⟨h.1.trans k.1, fun g cs b => k.2.1 g cs (h.2.1 g cs b), fun g cs b => k.2.2.1 g cs (h.2.2.1 g cs b), fun g cs b => k.2.2.2.1 g cs (h.2.2.2.1 g cs b), fun g cs b => k.2.2.2.2 g cs (h.2.2.2.2 g cs b)⟩
theorem KpP.of_below {n₀ : Nat} {W W' : World} (hn : n₀ ≤ W.heap.size) (h : Below W.heap.size W W') : KpP n₀ W W' :=
  ⟨h.mono hn, fun _ _ b => b.below h b.lt, fun _ _ b => b.below h b.lt, fun _ _ b => b.below h b.lt, fun _ _ b => b.below h b.lt⟩
theorem KpP.putObj {n₀ : Nat} (W : World) (l : Nat) (o o' : Obj) (hl : n₀ ≤ l) (h : W.heap[l]? = some o) (hc : o.isCells = false) : KpP n₀ W (W.putObj l o') := by
  have key : ∀ g T cs, Blk W g T cs → Blk (W.putObj l o') g T cs := fun g T cs hb => by
    have hne : g ≠ l := fun e => by
      subst e
      have h1 : W.heap[g]? = some (.cells cs T (0, 0)) := hb
      rw [h] at h1
      injection h1 with h1
      subst h1
      simp [Obj.isCells] at hc
    exact (World.putObj_heap_other (fun e => hne e)).trans hb
  exact ⟨Below.putObj_ (Nat.le_refl _) W l o o' hl, fun g cs hb => key g 25 cs hb, fun g cs hb => key g 155 cs hb, fun g cs hb => key g 3 cs hb, fun g v hb => key g 39 _ hb⟩
theorem keepsFrom_below {B : Nat} {W W' : World} (h : Below W.heap.size W W') : KeepsFrom B W W' :=
  ⟨h.size, fun k o _ hk _ => (h.block k (Array.getElem?_eq_some_iff.1 hk).1).trans hk⟩
theorem keepsFrom_mono {B B' : Nat} {W W' : World} (h : KeepsFrom B W W') (hB : B ≤ B') : KeepsFrom B' W W' := ⟨h.size, fun k o hk h1 h2 => h.same k o (Nat.le_trans hB hk) h1 h2⟩
theorem keepsFrom_putObj {B l : Nat} (W : World) (o' : Obj) (hl : l < B) : KeepsFrom B W (W.putObj l o') :=
  ⟨by simp, fun k o hk h1 _ => (World.putObj_heap_other (fun e => by omega)).trans h1⟩
theorem ownFrom_mono {β : Type} {B B' : Nat} {J : β → World → Prop} (h : OwnFrom B J) (hB : B ≤ B') : OwnFrom B' J :=
  fun s W W' row hs hg hr => h s W W' row hs hg (fun r e => ⟨Nat.le_trans hB (hr r e).1, (hr r e).2⟩)
theorem ownFrom_below {β : Type} {B : Nat} {J : β → World → Prop} (h : OwnFrom B J) {s : β} {W W' : World} (hs : J s W) (hb : Below W.heap.size W W') : J s W' :=
  h s W W' none hs ⟨hb.os, hb.tape, hb.output, hb.size, fun k hk _ => hb.block k hk⟩ (fun r e => by cases e)

/-- An iterator's contract: what was given out stands in the world behind. -/
def SeqW {α : Type} (F : Fence) (n gf : Nat) (lb : Array Value) (encs : α → Array Value) (n₀ : Nat) (S Sp : List α → World → Prop) (N : Nat) (w : World) : Prop :=
  ∀ (l : Nat) (J Jx : List α → World → Prop) (W : World), Below w.heap.size w W → OwnFrom W.heap.size J → OwnFrom W.heap.size Jx →
    (∀ pre x W1, J pre W1 → pre.length < N → YieldAt F (n - 1) Try.prog l (encs x) W1 fun e W' => (e = .returned (.bool true) ∧ J (pre ++ [x]) W' ∧ KpP n₀ W1 W' ∧ KeepsFrom W.heap.size W1 W') ∨ (e = .returned (.bool false) ∧ Jx (pre ++ [x]) W' ∧ KpP n₀ W1 W' ∧ KeepsFrom W.heap.size W1 W')) →
    J [] W → CallsIn F n Try.prog gf (#[.func (.yield l) #[] #[]] ++ lb) W fun e W' => (∃ v, e = .returned v) ∧ ((∃ xs, S xs W' ∧ J xs W') ∨ (∃ pre, Sp pre W' ∧ Jx pre W'))

theorem kpP_grown {n₀ : Nat} {X Y : World} {row : Option Nat} (hn : n₀ ≤ X.heap.size) (hg : X.grownBy Y row) (hr : ∀ r, row = some r → n₀ ≤ r ∧ ∃ o : Obj, X.heap[r]? = some o ∧ o.isCells = false) : KpP n₀ X Y := by
  have key : ∀ g T cs, Blk X g T cs → Blk Y g T cs := fun g T cs hb => (hg.block g hb.lt (fun e => by
    obtain ⟨-, o, ho, hc⟩ := hr g e.symm
    rw [show X.heap[g]? = _ from hb] at ho
    injection ho with ho; subst ho; simp [Obj.isCells] at hc)).trans hb
  exact ⟨⟨hg.os, hg.tape, hg.output, hg.size, fun k hk => hg.block k (by omega) (fun e => by have := (hr k e.symm).1; omega)⟩, fun g cs hb => key g 25 cs hb, fun g cs hb => key g 155 cs hb, fun g cs hb => key g 3 cs hb, fun g v hb => key g 39 _ hb⟩
/-- How a round's body may end. -/
def RoundEnd {α : Type} (B n₀ : Nat) (I : List α → World → Prop) (Ix : Code → List α → World → Prop) (xs : List α) (W : World) : Exit → Act → World → Prop
  | .normal, _, W' => KeepsFrom B W W' ∧ KpP n₀ W W' ∧ I xs W'
  | .ret, _, W' => KeepsFrom B W W' ∧ KpP n₀ W W' ∧ Ix .ret xs W'
  | .exit id, _, W' => KeepsFrom B W W' ∧ KpP n₀ W W' ∧ Ix (.exit id) xs W'
  | _, _, _ => False

section
variable {F : Fence} {n : Nat} {w : World} {α : Type}
/-- One round of a loop whose record lies in block w.heap.size + 1. -/
theorem round_of_body {ps : Array Tmp} {tmps : Array Value} {assign body : Code} {fn : Nat} (hfn : F.fn fn) {encs : α → Array Value} {n₀ BB : Nat} (hn₀ : n₀ ≤ w.heap.size) (hBB : w.heap.size + 1 < BB) (hps : ∀ x, (encs x).size = ps.size)
    {I : List α → World → Prop} {Ix : Code → List α → World → Prop} (hI : OwnFrom w.heap.size I) (hIx : ∀ c, OwnFrom w.heap.size (Ix c)) {Ax : α → Act → World → Prop} (hAx : ∀ x a', OwnFrom w.heap.size (fun (_ : Unit) W => Ax x a' W))
    (rec : LoopState → Option Code → Loop) (hrec : rec = fun st pe => { state := st, pending := pe, fn, tmps, params := ps, assign, body, defers := w.heap.size })
    (pre : List α) (x : α) (W : World)
    (hassign : ∀ (K : Act → World → Prop), (∀ a' W', KeepsFrom w.heap.size W W' → KpP n₀ W W' → I pre W' → Ax x a' W' → K a' W') →
      assign.wpIn (F.inRound (w.heap.size + 1)) n Try.prog (Exit.then K (fun _ _ _ => False)) { tmps := (ps.zip (encs x)).foldl (fun t (p, v) => t.setIfInBounds p v) tmps, defers := [] } W)
    (hbody : ∀ a' W', (∃ r, W'.heap[w.heap.size + 1]? = some (.loop r)) → I pre W' → Ax x a' W' → body.wpIn (F.inRound (w.heap.size + 1)) n Try.prog (RoundEnd w.heap.size n₀ I Ix (pre ++ [x]) W') a' W')
    (hl : W.heap[w.heap.size + 1]? = some (.loop (rec .ready none))) (hk : W.heap[w.heap.size]? = some (.deferred (some []))) :
    YieldAt F n Try.prog (w.heap.size + 1) (encs x) W fun e W' =>
      (e = .returned (.bool true) ∧ (I (pre ++ [x]) W' ∧ W'.heap[w.heap.size + 1]? = some (.loop (rec .ready none)) ∧ W'.heap[w.heap.size]? = some (.deferred (some []))) ∧ KpP n₀ W W' ∧ KeepsFrom BB W W') ∨
      (e = .returned (.bool false) ∧ (∃ c, Ix c (pre ++ [x]) W' ∧ W'.heap[w.heap.size + 1]? = some (.loop (rec .done (some c))) ∧ W'.heap[w.heap.size]? = some (.deferred (some []))) ∧ KpP n₀ W W' ∧ KeepsFrom BB W W') := by
  have hy := run_yield (P := Try.prog) (args := encs x) hl (by rw [hrec]; exact hps x)
  rw [hrec] at hy
  refine ⟨fn, _, assign, body, hy, roundIn_of_wpIn hfn (hassign _ ?_)⟩
  clear hy hassign
  intro a1 W1 hf1 hp1 hi1 hx1
  have l1 := hf1.same _ _ (by omega) hl rfl
  have k1 := hf1.same _ _ (Nat.le_refl _) hk rfl
  have hlt : w.heap.size + 1 < W1.heap.size := (Array.getElem?_eq_some_iff.1 l1).1
  refine ⟨_, run_beginRound l1 (by rw [hrec]), ?_⟩
  obtain ⟨W2, hW2⟩ : ∃ W2, W2 = W1.putObj (w.heap.size + 1) (.loop { rec .ready none with state := .busy }) := ⟨_, rfl⟩
  have l2 : W2.heap[w.heap.size + 1]? = some (.loop { rec .ready none with state := .busy }) := by rw [hW2]; exact World.putObj_heap_same hlt
  have k2 : W2.heap[w.heap.size]? = some (.deferred (some [])) := by rw [hW2]; exact (World.putObj_heap_other (by omega)).trans k1
  have p2 : KpP n₀ W W2 := hp1.trans (by rw [hW2]; exact KpP.putObj _ _ _ _ (by omega) l1 rfl)
  have f2 : KeepsFrom BB W W2 := (keepsFrom_mono hf1 (by omega)).trans (by rw [hW2]; exact keepsFrom_putObj _ _ hBB)
  have i2 : I pre W2 := by rw [hW2]; exact hI.putObj _ hi1 (by omega) l1 rfl
  have x2 : Ax x a1 W2 := by rw [hW2]; exact (hAx x a1).putObj (s := ()) _ hx1 (by omega) l1 rfl
  rw [← hW2]
  clear hW2 hi1 hx1 hf1 hp1
  have fin : ∀ (jump : Option Code) (W3 : World), KeepsFrom w.heap.size W2 W3 → W3.heap[w.heap.size + 1]? = some (.loop { rec .ready none with state := .busy }) ∧
      (Instr.endRound (w.heap.size + 1) jump).run Try.prog W3 = .ok (.bool jump.isNone) (W3.putObj (w.heap.size + 1) (.loop (rec (if jump.isNone then .ready else .done) jump))) ∧
      (W3.putObj (w.heap.size + 1) (.loop (rec (if jump.isNone then .ready else .done) jump))).heap[w.heap.size + 1]? = some (.loop (rec (if jump.isNone then .ready else .done) jump)) ∧
      (W3.putObj (w.heap.size + 1) (.loop (rec (if jump.isNone then .ready else .done) jump))).heap[w.heap.size]? = some (.deferred (some [])) := fun jump W3 h3 => by
    have l3 := h3.same _ _ (by omega) l2 rfl
    refine ⟨l3, ?_, World.putObj_heap_same (Array.getElem?_eq_some_iff.1 l3).1, (World.putObj_heap_other (by omega)).trans (h3.same _ _ (Nat.le_refl _) k2 rfl)⟩
    have h4 := run_endRound (P := Try.prog) jump l3
    rw [hrec] at h4 ⊢
    exact h4
  refine wpIn_mono (hbody a1 W2 ⟨_, l2⟩ i2 x2) ?_
  rintro e a3 W3 hp
  cases e with
  | normal =>
    obtain ⟨h3, p3, i3⟩ := hp
    obtain ⟨l3, hr, l4, k4⟩ := fin none W3 h3
    exact ⟨_, _, hr, .inl ⟨rfl, ⟨hI.putObj _ i3 (by omega) l3 rfl, l4, k4⟩, p2.trans (p3.trans (KpP.putObj _ _ _ _ (by omega) l3 rfl)), f2.trans ((keepsFrom_mono h3 (by omega)).trans (keepsFrom_putObj _ _ hBB))⟩⟩
  | ret =>
    obtain ⟨h3, p3, i3⟩ := hp
    obtain ⟨l3, hr, l4, k4⟩ := fin (some .ret) W3 h3
    exact ⟨_, _, hr, .inr ⟨rfl, ⟨.ret, (hIx _).putObj _ i3 (by omega) l3 rfl, l4, k4⟩, p2.trans (p3.trans (KpP.putObj _ _ _ _ (by omega) l3 rfl)), f2.trans ((keepsFrom_mono h3 (by omega)).trans (keepsFrom_putObj _ _ hBB))⟩⟩
  | exit id =>
    obtain ⟨h3, p3, i3⟩ := hp
    obtain ⟨l3, hr, l4, k4⟩ := fin (some (.exit id)) W3 h3
    exact ⟨_, _, hr, .inr ⟨rfl, ⟨.exit id, (hIx _).putObj _ i3 (by omega) l3 rfl, l4, k4⟩, p2.trans (p3.trans (KpP.putObj _ _ _ _ (by omega) l3 rfl)), f2.trans ((keepsFrom_mono h3 (by omega)).trans (keepsFrom_putObj _ _ hBB))⟩⟩
  | goto t => exact hp.elim
  | panic ch => exact hp.elim
  | outgrown => exact hp.elim

/-- The statement 'for .. := range g', where g's contract is a SeqW. -/
theorem wpIn_rangeW {g : Operand} {ps : Array Tmp} {assign body : Code} {Q : Exit → Act → World → Prop} {a : Act}
    (hro : F.round = none) (h1 : F.depth.isSome = true → 1 ≤ n) {gf : Nat} {lb : Array Value} (hg : a.eval g = .func (.func gf) #[] lb) (hFg : F.fn gf) (eg : ∀ args w, (callFunc gf args).run Try.prog w = .ok (.enter gf args) w)
    {encs : α → Array Value} {n₀ : Nat} (hn₀ : n₀ ≤ w.heap.size) {S Sp : List α → World → Prop} {N : Nat} {w0 : World} (hseq : SeqW F (n - 1) gf lb encs n₀ S Sp N w0)
    (hS : OwnFrom w.heap.size S) (hSp : OwnFrom w.heap.size Sp) (hb0 : Below w0.heap.size w0 w) (hps : ∀ x, (encs x).size = ps.size)
    (I : List α → World → Prop) (Ix : Code → List α → World → Prop) (hI : OwnFrom w.heap.size I) (hIx : ∀ c, OwnFrom w.heap.size (Ix c)) (h0 : I [] w) (Ax : α → Act → World → Prop) (hAx : ∀ x a', OwnFrom w.heap.size (fun (_ : Unit) W => Ax x a' W))
    (hassign : ∀ (l : Nat) (pre : List α) (x : α) (W : World) (K : Act → World → Prop), I pre W → (∀ a' W', KeepsFrom w.heap.size W W' → KpP n₀ W W' → I pre W' → Ax x a' W' → K a' W') →
      assign.wpIn (F.inRound l) (n - 1 - 1) Try.prog (Exit.then K (fun _ _ _ => False)) { tmps := (ps.zip (encs x)).foldl (fun t (p, v) => t.setIfInBounds p v) a.tmps, defers := [] } W)
    (hbody : ∀ (l : Nat) (pre : List α) (x : α) (a' : Act) (W : World), w.heap.size ≤ l → (∃ r, W.heap[l]? = some (.loop r)) → I pre W → Ax x a' W → pre.length < N → body.wpIn (F.inRound l) (n - 1 - 1) Try.prog (RoundEnd w.heap.size n₀ I Ix (pre ++ [x]) W) a' W)
    (hdone : ∀ (D : Nat) (xs : List α) (W : World), w.heap.size ≤ D → S xs W → I xs W → W.heap[D]? = some (.deferred (some [])) → Q .normal { a with defers := { target := .collected D, args := #[] } :: a.defers } W)
    (hstop : ∀ (D : Nat) (c : Code) (pre : List α) (W : World), w.heap.size ≤ D → Sp pre W → Ix c pre W → W.heap[D]? = some (.deferred (some [])) → c.wpIn F n Try.prog Q { a with defers := { target := .collected D, args := #[] } :: a.defers } W) :
    (Code.rangeFunc g ps assign body).wpIn F n Try.prog Q a w := by
  refine wpIn_rangeFunc ?_
  intro fn hfn
  rw [hro]
  obtain ⟨rec, hrec⟩ : ∃ rec : LoopState → Option Code → Loop, rec = fun st pe => { state := st, pending := pe, fn, tmps := a.tmps, params := ps, assign, body, defers := w.heap.size } := ⟨_, rfl⟩
  obtain ⟨W1, hW1⟩ : ∃ W1, (w.alloc (.deferred (some []))).alloc (.loop (rec .ready none)) = W1 := ⟨_, rfl⟩
  have l1 : W1.heap[w.heap.size + 1]? = some (.loop (rec .ready none)) := by
    rw [← hW1]; have := World.alloc_heap_new (w.alloc (.deferred (some []))) (.loop (rec .ready none)); rwa [World.size_alloc] at this
  have k1 : W1.heap[w.heap.size]? = some (.deferred (some [])) := by
    rw [← hW1]; exact (Below.heap_alloc _ _ _ (by simp)).trans (World.alloc_heap_new w _)
  have i1 : I [] W1 := by rw [← hW1]; exact hI.alloc _ (hI.alloc _ h0)
  have b1 : Below w0.heap.size w0 W1 := by
    rw [← hW1]; exact hb0.trans ((((Below.refl _ w).alloc (Nat.le_refl _) _).alloc (by simp) _).mono hb0.size)
  have s1 : w.heap.size ≤ W1.heap.size := by rw [← hW1]; simp; omega
  refine ⟨w.heap.size + 1, [{ target := .collected w.heap.size, args := #[] }], W1, { target := .fn (.func gf) lb, args := #[.func (.yield (w.heap.size + 1)) #[] #[]] }, W1, gf,
    #[.func (.yield (w.heap.size + 1)) #[] #[]] ++ lb, W1, ?_, ?_, ?_, ?_, h1, ?_⟩
  · rw [← hW1, hrec]; exact run_enterLoop_outer _ _ _ _ _
  · simp only [resolve, hg]
    simp [go_sem]
  · intro f' hf'; simp [Target.leads] at hf'; subst hf'; exact hFg
  · simp [invoke, go_sem, eg]
  have s2 : W1.heap.size = w.heap.size + 2 := by rw [← hW1]; simp
  have old : ∀ {A : World} {row : Option Nat}, (∀ r, row = some r → W1.heap.size ≤ r ∧ ∃ o : Obj, A.heap[r]? = some o ∧ o.isCells = false) → (∀ r, row = some r → w.heap.size ≤ r ∧ ∃ o : Obj, A.heap[r]? = some o ∧ o.isCells = false) :=
    fun hr r e => ⟨Nat.le_trans s1 (hr r e).1, (hr r e).2⟩
  have kept : ∀ {A B : World} {row : Option Nat} {k : Nat} {o : Obj}, k < w.heap.size + 2 → A.grownBy B row → (∀ r, row = some r → W1.heap.size ≤ r ∧ ∃ o : Obj, A.heap[r]? = some o ∧ o.isCells = false) → A.heap[k]? = some o → B.heap[k]? = some o :=
    fun hk hg hr h => (hg.block _ (Array.getElem?_eq_some_iff.1 h).1 (fun e => by have := (hr _ e.symm).1; omega)).trans h
  refine (hseq (w.heap.size + 1)
    (fun pre W => I pre W ∧ W.heap[w.heap.size + 1]? = some (.loop (rec .ready none)) ∧ W.heap[w.heap.size]? = some (.deferred (some [])))
    (fun pre W => ∃ c, Ix c pre W ∧ W.heap[w.heap.size + 1]? = some (.loop (rec .done (some c))) ∧ W.heap[w.heap.size]? = some (.deferred (some [])))
    W1 b1
    (fun s A B row hs hg' hr => ⟨hI s A B row hs.1 hg' (old hr), kept (by omega) hg' hr hs.2.1, kept (by omega) hg' hr hs.2.2⟩)
    (fun s A B row hs hg' hr => by
      obtain ⟨c, hc, hl, hk⟩ := hs
      exact ⟨c, hIx c s A B row hc hg' (old hr), kept (by omega) hg' hr hl, kept (by omega) hg' hr hk⟩)
    ?_ ⟨i1, l1, k1⟩).mono ?_
  · rintro pre x W ⟨hi, hl, hk⟩ hlen
    exact round_of_body hfn hn₀ (by omega) hps hI hIx hAx rec hrec pre x W (fun K hK => hassign _ pre x W K hi hK) (fun a' W' hr hi' hx' => hbody _ pre x a' W' (by omega) hr hi' hx' hlen) hl hk
  · rintro e W2 ⟨⟨v, rfl⟩, (⟨xs, hs, hi, hl, hk⟩ | ⟨pre, hsp, c, hi, hl, hk⟩)⟩
    · exact ⟨none, _, by have := run_endLoop (P := Try.prog) hl (by rw [hrec]; simp); rw [hrec] at this; exact this,
        hdone _ xs _ (Nat.le_refl _) (hS.putObj _ hs (by omega) hl rfl) (hI.putObj _ hi (by omega) hl rfl) ((World.putObj_heap_other (by omega)).trans hk)⟩
    · exact ⟨some c, _, by have := run_endLoop (P := Try.prog) hl (by rw [hrec]; simp); rw [hrec] at this; exact this,
        hstop _ c pre _ (Nat.le_refl _) (hSp.putObj _ hsp (by omega) hl rfl) ((hIx c).putObj _ hi (by omega) hl rfl) ((World.putObj_heap_other (by omega)).trans hk)⟩
end
end Go.Proofs.Ytfhgknmkpegpbaa

set_option linter.unusedVariables false
set_option linter.unusedSimpArgs false
namespace Go.Proofs.Ytfhgknmkpegpbaa
open Go.RowKit Go.Shelf

mutual
/-- The places of a tree's nodes, with the nodes. -/
def Tm.plc : Tm → List Int → List (List Int × Tm) | .mk k n s l, p => (p, .mk k n s l) :: Tm.plcs l p 0
def Tm.plcs : List Tm → List Int → Nat → List (List Int × Tm)
  | [], _, _ => []
  | t :: ts, p, i => Tm.plc t (p ++ [(i : Int)]) ++ Tm.plcs ts p (i + 1)
end
theorem Tm.plc_eq (t : Tm) (p : List Int) : t.plc p = (p, t) :: Tm.plcs t.l p 0 := by cases t; rw [Tm.plc]; rfl
theorem Tm.plcs_snoc (a : List Tm) (x : Tm) (p : List Int) (i : Nat) : Tm.plcs (a ++ [x]) p i = Tm.plcs a p i ++ x.plc (p ++ [((i + a.length : Nat) : Int)]) := by
  induction a generalizing i with
  | nil => simp [Tm.plcs]
  | cons y a ih =>
    rw [List.cons_append, Tm.plcs, Tm.plcs, ih, List.append_assoc, List.length_cons, show i + 1 + a.length = i + (a.length + 1) from by omega]
theorem Tm.plc_len_le (n : Nat) : (∀ (t : Tm) (p : List Int), t.size ≤ n → (t.plc p).length = t.size) ∧ (∀ (l : List Tm) (p : List Int) (i : Nat), Tm.sizes l ≤ n → (Tm.plcs l p i).length = Tm.sizes l) := by
  induction n with
  | zero =>
    refine ⟨fun t p h => by have := t.size_pos; omega, fun l p i h => ?_⟩
    cases l with
    | nil => simp [Tm.plcs, Tm.sizes]
    | cons a l => rw [Tm.sizes] at h; have := a.size_pos; omega
  | succ n ih =>
    have h1 : ∀ (t : Tm) (p : List Int), t.size ≤ n + 1 → (t.plc p).length = t.size := fun t p h => by
      rw [t.size_eq] at h ⊢
      rw [t.plc_eq, List.length_cons, ih.2 t.l _ _ (by omega)]; omega
    refine ⟨h1, fun l => ?_⟩
    induction l with
    | nil => intro _ _ _; simp [Tm.plcs, Tm.sizes]
    | cons a l ihl =>
      intro p i h
      rw [Tm.sizes] at h ⊢
      rw [Tm.plcs, List.length_append, h1 a _ (by omega), ihl _ _ (by omega)]
theorem Tm.plc_len (t : Tm) (p : List Int) : (t.plc p).length = t.size := (Tm.plc_len_le t.size).1 t p (Nat.le_refl _)

/-- A slice that holds a place. -/
def PathOk (N : Nat) (W : World) (A : Option Addr) (c : Nat) (xs : List Int) : Prop :=
  (xs = [] ∧ A = none ∧ c = 0) ∨ (xs ≠ [] ∧ xs.length ≤ c ∧ c ≤ 9223372036854775807 ∧ ∃ g cs, A = some ⟨g, 0, none⟩ ∧ N ≤ g ∧ Blk W g 3 cs ∧ ∀ (j : Nat) (u : Int), xs[j]? = some u → cs[j]? = some (.int .i64 u))
theorem PathOk.nil (N : Nat) (W : World) : PathOk N W none 0 [] := .inl ⟨rfl, rfl, rfl⟩
theorem PathOk.keep {N : Nat} {W W' : World} {A : Option Addr} {c : Nat} {xs : List Int} (h : PathOk N W A c xs) (hk : ∀ g cs, Blk W g 3 cs → Blk W' g 3 cs) : PathOk N W' A c xs := by
  rcases h with h | ⟨h1, h2, h3, g, cs, h4, h5, h6, h7⟩
  · exact .inl h
  · exact .inr ⟨h1, h2, h3, g, cs, h4, h5, hk g cs h6, h7⟩
theorem PathOk.kp {N n₀ : Nat} {W W' : World} {A : Option Addr} {c : Nat} {xs : List Int} (h : PathOk N W A c xs) (hk : KpP n₀ W W') : PathOk N W' A c xs := h.keep hk.2.2.2.1
theorem PathOk.below {N : Nat} {W W' : World} {A : Option Addr} {c : Nat} {xs : List Int} (h : PathOk N W A c xs) (hb : Below W.heap.size W W') : PathOk N W' A c xs := h.keep fun g cs b => b.below hb b.lt
theorem PathOk.mono {N N' : Nat} {W : World} {A : Option Addr} {c : Nat} {xs : List Int} (h : PathOk N W A c xs) (hN : N' ≤ N) : PathOk N' W A c xs := by
  rcases h with h | ⟨h1, h2, h3, g, cs, h4, h5, h6, h7⟩
  · exact .inl h
  · exact .inr ⟨h1, h2, h3, g, cs, h4, Nat.le_trans hN h5, h6, h7⟩
theorem PathOk.len {N : Nat} {W : World} {A : Option Addr} {c : Nat} {xs : List Int} (h : PathOk N W A c xs) : xs.length ≤ c ∧ c ≤ 9223372036854775807 ∧ (A = none → c = 0) := by
  rcases h with ⟨rfl, rfl, rfl⟩ | ⟨h1, h2, h3, g, cs, h4, h5, h6, h7⟩
  · simp
  · exact ⟨h2, h3, fun e => by rw [h4] at e; cases e⟩
theorem PathOk.of_own {N n c : Nat} {W : World} {A : Option Addr} {xs : List Int} (h : W.ownsRow N 3 1 (.slice A n c) n (xs.map (Value.int .i64))) (hn : n = xs.length) (hne : xs ≠ []) : PathOk N W A c xs := by
  subst hn
  rcases h.2 with ⟨_, h0⟩ | ⟨g, cap, cur, hv, hg, hb, h1, h2, h3, h4⟩
  · exact absurd (List.length_eq_zero_iff.1 h0) hne
  · injection hv with hA _ hc
    subst hA hc
    refine .inr ⟨hne, h1, by simpa [maxLen] using h2, g, cur, rfl, hg, hb, fun j u hu => ?_⟩
    have h5 : (xs.map (Value.int .i64))[j]? = some (.int .i64 u) := by rw [List.getElem?_map, hu]; rfl
    rw [← h4, List.getElem?_take] at h5
    split at h5
    · rw [← h5, Array.getElem?_toList]
    · cases h5
/-- What Clone gives for a place. -/
def RetPa (w : World) (xs : List Int) (e : Ending) (w' : World) : Prop := ∃ A c, e = .returned (.slice A xs.length c) ∧ PathOk w.heap.size w' A c xs ∧ Below w.heap.size w w'
theorem clonePath_calls (N : Nat) (xs : List Int) (A : Option Addr) (c : Nat) (w : World) (h : PathOk N w A c xs) (hl : xs.length ≤ 1000000) : Calls Try.prog 151 #[.slice A xs.length c] w (RetPa w xs) := by
  rcases h with ⟨rfl, rfl, rfl⟩ | ⟨h1, h2, h3, g, cs, rfl, h5, h6, h7⟩
  · refine (Try.slices_Clone_int_nil 0 0 w).mono ?_
    rintro e w' ⟨rfl, rfl⟩
    exact ⟨none, 0, rfl, PathOk.nil _ _, Below.refl _ _⟩
  · refine (Try.slices_Clone_int g 0 xs.length c xs w (Nat.le_refl _) (by omega) (fun j hj => ?_)).mono ?_
    · rw [Nat.zero_add, h6.cell j]
      refine h7 j _ ?_
      rw [List.getD_eq_getElem?_getD, List.getElem?_eq_getElem hj]; rfl
    · rintro e w' ⟨v', rfl, hown, -, hb⟩
      rw [List.take_length] at hown
      obtain ⟨A', c', rfl⟩ := own_slice hown
      exact ⟨A', c', rfl, PathOk.of_own hown rfl h1, hb⟩

set_option maxRecDepth 100000 in
set_option maxHeartbeats 4000000 in
theorem clip_calls (A : Option Addr) (n c : Nat) (w : World) (h1 : n ≤ c) (h2 : c ≤ 9223372036854775807) (h3 : A = none → c = 0) : Calls Try.prog 150 #[.slice A n c] w fun e w' => e = .returned (.slice A n n) ∧ w' = w := by
  cases A with
  | none =>
    have hc : c = 0 := h3 rfl
    subst hc
    have hn : n = 0 := by omega
    subst hn
    go_enter Try.func150, Try.ntmps150
    go_wp2
    go_ret
    exact ⟨rfl, rfl⟩
  | some a =>
    clear h3
    have k1 : (0 : Int) ≤ (n : Int) := by omega
    have k2 : (n : Int) ≤ (c : Int) := by omega
    go_enter Try.func150, Try.ntmps150
    go_wp2
    go_ret
    exact ⟨rfl, rfl⟩
end Go.Proofs.Ytfhgknmkpegpbaa

set_option linter.unusedVariables false
set_option linter.unusedSimpArgs false
namespace Go.Proofs.Ytfhgknmkpegpbaa
open Go.RowKit Go.Shelf

theorem info3 : ∃ i0 : TypeInfo, Try.prog.info? 3 = some i0 ∧ i0.zero = some (.int .i64 0) ∧ i0.size = 1 ∧ i0.bytes = 8 := info_parts (by kernel_rfl)
set_option maxRecDepth 100000 in
set_option maxHeartbeats 4000000 in
theorem join_calls (N : Nat) (xs : List Int) (i : Int) (A : Option Addr) (c : Nat) (w : World) (h : PathOk N w A c xs) (hl : xs.length ≤ 1000000) : Calls Try.prog 138 #[.slice A xs.length c, .int .i64 i] w (RetPa w (xs ++ [i])) := by
  obtain ⟨i0, hi0⟩ := info3
  have Hi := Lib.hid hi0; clear hi0
  have Hcall := Lib.hid (clonePath_calls N xs A c w h hl)
  clear h
  go_enter Try.func138, Try.ntmps138
  go_wp2_with fail
  refine Hcall.out.mono ?_
  rintro e w1 ⟨A1, c1, rfl, hp1, hb1⟩
  have hle := hp1.len
  have Hclip := Lib.hid (clip_calls A1 xs.length c1 w1 hle.1 hle.2.1 hle.2.2)
  have HP1 := Lib.hid hp1; clear hp1
  have HB1 := Lib.hid hb1; clear hb1
  go_wp2_with fail
  refine Hclip.out.mono ?_
  rintro e w1' ⟨rfl, rfl⟩
  have hnone : A1 = none → xs.length = 0 ∧ xs.length = 0 := fun e => by
    rcases HP1.out with ⟨rfl, _⟩ | ⟨h1, h2, h3, g, cs, h4, _⟩
    · exact ⟨rfl, rfl⟩
    · rw [h4] at e; cases e
  have hold : ∀ b, A1 = some b → ∀ j u, (xs.map (Value.int .i64))[j]? = some u → (w1'.alloc (.cells #[.int .i64 i] 3)).cell? (b.add j) = some u := fun b hb j u hu => by
    rcases HP1.out with ⟨rfl, _⟩ | ⟨h1, h2, h3, g, cs, h4, h5, h6, h7⟩
    · simp at hu
    · rw [h4] at hb
      injection hb with hb
      subst hb
      rw [add_lit0, (h6.alloc (.cells #[.int .i64 i] 3)).cell j]
      rw [List.getElem?_map] at hu
      cases hx : xs[j]? with
      | none => rw [hx] at hu; cases hu
      | some x =>
        rw [hx] at hu
        have h8 := h7 j x hx
        rw [h8]; exact hu
  have Hnone := Lib.hid hnone; clear hnone
  have Hold := Lib.hid hold; clear hold
  go_wp2_with (at_builtin; refine wpList_append_grows _ rfl (.tmp 7) (.tmp 9) 39 rfl 3 i0 _ 1 8 Try.underlying39 Hi.out.1 Hi.out.2.1 Hi.out.2.2.1 Hi.out.2.2.2 rfl (by decide) A1 xs.length xs.length (xs.map (Value.int .i64)) rfl Hnone.out (by simp) Hold.out ⟨w1'.heap.size, 0, none⟩ 1 1 [.int .i64 i] rfl rfl ?c1 ?c2 (by omega) ?c3 ?c4 ?_)
  case c1 =>
    intro j u hu
    rw [add_lit0, (Blk.new w1' 3 _).cell j]
    simpa using hu
  case c2 => simp [Value.oneCell']
  case c3 => simp only [maxLen]; omega
  case c4 => omega
  intro v' w4 hown hg
  obtain ⟨A', c', rfl⟩ := own_slice hown
  have hw1 : w.heap.size ≤ w1'.heap.size := HB1.out.size
  have HF := Lib.hid (show PathOk w.heap.size w4 A' c' (xs ++ [i]) from (PathOk.of_own (N := w1'.heap.size + 1) (n := xs.length + 1) (by rw [List.map_append]; exact hown) (by rw [List.length_append]; rfl) (by simp)).mono (by omega))
  have HBF := Lib.hid (show Below w.heap.size w w4 from (HB1.out.alloc hw1 _).grown hg (by simp; omega) (fun k hk => by cases hk))
  clear hown hg
  go_wp2
  exact bodyPost_ret (v := .slice A' (xs.length + 1) c') (by simp [results, Try.results138, go_sem]) rfl (R := RetPa w (xs ++ [i])) ⟨A', c', by simp, HF.out, HBF.out⟩
/-- A place with its node. -/
abbrev PE := List Int × Option Addr × Nat
abbrev PW (n₀ : Nat) (w0 : World) := {x : PE × EV // x.2.1.okB = true ∧ x.2.1.s.size ≤ 9223372036854775807 ∧ TmC (· < n₀) w0 x.2.2.1 x.2.2.2 x.2.1.l}
def PW.pt {n₀ : Nat} {w0 : World} (x : PW n₀ w0) : List Int × Tm := (x.1.1.1, x.1.2.1)
def PW.encs {n₀ : Nat} {w0 : World} (x : PW n₀ w0) : Array Value := #[.slice x.1.1.2.1 x.1.1.1.length x.1.1.2.2, .agg #[.int .i64 x.1.2.1.k, .int .i64 x.1.2.1.n, .string x.1.2.1.s, .slice x.1.2.2.1 x.1.2.1.l.length x.1.2.2.2]]
def PW.ok {n₀ : Nat} {w0 : World} (x : PW n₀ w0) (W : World) : Prop := PathOk n₀ W x.1.1.2.1 x.1.1.2.2 x.1.1.1

set_option maxHeartbeats 1000000 in
theorem places_calls (k n' : Int) (s : ByteArray) (A B : Option Addr) (len c plen d : Nat) (w : World) :
    Calls Try.prog 107 #[.agg #[.int .i64 k, .int .i64 n', .string s, .slice A len c], .slice B plen d] w fun e w' => e = .returned (.func (.func 137) #[] #[.pointer (some ⟨w.heap.size + 1, 0, none⟩), .pointer (some ⟨w.heap.size, 0, none⟩)]) ∧
      w' = (w.alloc (.cells #[.int .i64 k, .int .i64 n', .string s, .slice A len c] 25)).alloc (.cells #[.slice B plen d] 39) := by
  go_enter Try.func107, Try.ntmps107
  go_wp2
  go_ret
  exact ⟨rfl, rfl⟩
end Go.Proofs.Ytfhgknmkpegpbaa

set_option linter.unusedVariables false
set_option linter.unusedSimpArgs false
namespace Go.Proofs.Ytfhgknmkpegpbaa
open Go.RowKit Go.Shelf
attribute [local go_sem] Oper.semAt_some

def noPanic (Q : Exit → Act → World → Prop) : Exit → Act → World → Prop
  | .panic _, _, _ => False
  | e, a, w => Q e a w
theorem noPanic_le {Q : Exit → Act → World → Prop} : ∀ (e : Exit) (a : Act) (w : World), noPanic Q e a w → Q e a w
  | .panic _, _, _, h => h.elim
  | .normal, _, _, h => h
  | .ret, _, _, h => h
  | .exit _, _, _, h => h
  | .goto _, _, _, h => h
  | .outgrown, _, _, h => h
theorem noPanic_normal {Q : Exit → Act → World → Prop} {a : Act} {w : World} (h : Q .normal a w) : noPanic Q .normal a w := h
theorem wpIn_noPanic {F : Fence} {n : Nat} {c : Code} {Q : Exit → Act → World → Prop} {a : Act} {w : World} (h : c.wpIn F n Try.prog (noPanic Q) a w) : c.wpIn F n Try.prog Q a w := wpIn_mono h noPanic_le
theorem plcs_take (l : List Tm) (p : List Int) (i k : Nat) : Tm.plcs (l.take k) p i <+: Tm.plcs l p i := by
  induction l generalizing i k with
  | nil => rw [List.take_nil]; exact List.prefix_rfl
  | cons a l ih =>
    cases k with
    | zero => rw [List.take_zero, Tm.plcs]; exact List.nil_prefix
    | succ k => rw [List.take_succ_cons, Tm.plcs, Tm.plcs]; exact (List.prefix_append_right_inj _).2 (ih _ _)
def PlS (n₀ : Nat) (w0 : World) (t : Tm) (p : List Int) (ys : List (PW n₀ w0)) (W : World) : Prop := ys.map PW.pt = t.plc p ∧ ∀ y ∈ ys, y.ok W
def PlSp (n₀ : Nat) (w0 : World) (t : Tm) (p : List Int) (ys : List (PW n₀ w0)) (W : World) : Prop := ys.map PW.pt <+: t.plc p ∧ ∀ y ∈ ys, y.ok W

set_option maxRecDepth 100000 in
set_option maxHeartbeats 4000000 in
theorem places1_seq (n₀ : Nat) (w0 : World) (t : Tm) : ∀ (n : Nat) (x0 : PW n₀ w0) (Bp Bt : Nat) (w : World), x0.1.2.1 = t → n₀ ≤ w.heap.size → Below n₀ w0 w →
    Blk w Bp 39 #[.slice x0.1.1.2.1 x0.1.1.1.length x0.1.1.2.2] → Blk w Bt 25 #[.int .i64 t.k, .int .i64 t.n, .string t.s, .slice x0.1.2.2.1 t.l.length x0.1.2.2.2] → x0.ok w → x0.1.1.1.length + t.size ≤ 1000000 →
    SeqW Fence.wide n 137 #[.pointer (some ⟨Bp, 0, none⟩), .pointer (some ⟨Bt, 0, none⟩)] (PW.encs (n₀ := n₀) (w0 := w0)) n₀ (PlS n₀ w0 t x0.1.1.1) (PlSp n₀ w0 t x0.1.1.1) t.size w := by
  induction t using Tm.ind with
  | h t ih =>
    intro n x0 Bp Bt w hx0 hn0 hb0 hBp hBt hok0 hsz l J Jx W hW hJ hJx hY h0
    obtain ⟨⟨⟨ps, Ap, cp⟩, t', A, c⟩, ho, hs, hc⟩ := x0
    obtain rfl : t' = t := hx0
    have Ih := Lib.hid ih; clear ih
    have hlc := hc.len.1
    have hlm := hc.len.2.1
    simp only at ho hs hc hBp hBt hok0 hsz ⊢
    have hnW : n₀ ≤ W.heap.size := Nat.le_trans hn0 hW.size
    obtain ⟨W0, hW0⟩ : ∃ W0, W0 = W.alloc (.cells #[.func (.yield l) #[] #[]] 155) := ⟨_, rfl⟩
    have hbW : Below W.heap.size W W0 := by rw [hW0]; exact (Below.refl _ _).alloc (Nat.le_refl _) _
    have hk0 : KpP n₀ W W0 := KpP.of_below hnW hbW
    have hYb : Blk W0 W.heap.size 155 #[.func (.yield l) #[] #[]] := by rw [hW0]; exact Blk.new _ _ _
    have hJ1 : J [] W0 := ownFrom_below hJ h0 hbW
    have hBp0 := (hBp.below hW hBp.lt).below hbW (Nat.lt_of_lt_of_le hBp.lt hW.size)
    have hBt0 := (hBt.below hW hBt.lt).below hbW (Nat.lt_of_lt_of_le hBt.lt hW.size)
    have hb00 : Below n₀ w0 W0 := hb0.trans ((hW.mono hn0).trans (hbW.mono hnW))
    have hok1 : PathOk n₀ W0 Ap cp ps := (hok0.below hW).below hbW
    have hszW : W0.heap.size = W.heap.size + 1 := by rw [hW0]; simp
    have hpl := hok0.len
    obtain ⟨xr, hxr⟩ : ∃ xr : PW n₀ w0, xr.1 = ((ps, Ap, cp), t', A, c) := ⟨⟨((ps, Ap, cp), t', A, c), ho, hs, hc⟩, rfl⟩
    have hyy := yieldAt_anyDepth (F := Fence.wide) rfl (n - 1) (hY [] xr W0 hJ1 t'.size_pos)
    have HY := Lib.hid (fun (m : Nat) pre x W1 (h1 : J pre W1) (h2 : pre.length < t'.size) => yieldAt_anyDepth (F := Fence.wide) rfl m (hY pre x W1 h1 h2)); clear hY
    have hBpw := hBp.below hW hBp.lt
    have hBtw := hBt.below hW hBt.lt
    obtain ⟨⟨a0, a1, a2, a3⟩, -⟩ := hBtw.four
    have p0 := (Blk.one hBpw).1
    have hBpl := hBpw.lt
    have hBtl := hBtw.lt
    clear hBpw hBtw
    have HK0 := Lib.hid hk0; clear hk0
    have HYb := Lib.hid hYb; clear hYb
    have HBp := Lib.hid hBp0; clear hBp0 hBp
    have HBt := Lib.hid hBt0; clear hBt0 hBt
    have HB := Lib.hid hb00; clear hb00
    have Hok := Lib.hid hok1; clear hok1 hok0
    have HW := Lib.hid hW0; clear hW0
    have HszW := Lib.hid hszW; clear hszW
    have Hxr := Lib.hid hxr; clear hxr
    have HC := Lib.hid hc
    have Hsz := Lib.hid hsz; clear hsz
    obtain ⟨fn, tmps, assign, body, hy, hR⟩ := hyy
    simp only [PW.encs, Hxr.out] at hy
    refine callsIn_of_wp_marks Try.func137 rfl trivial ?_ rfl
    simp only [Try.ntmps137, List.size_toArray, List.length_cons, List.length_nil, Nat.reduceAdd, Nat.reduceSub, Array.replicate_succ, Array.replicate_zero, List.push_toArray, List.append_toArray, List.nil_append, List.cons_append]
    gi_wp2_with fail
    rw [← HW.out]
    rw [hy]
    gi_wp2_with fail
    refine ⟨(fun h => by simp [Fence.wide] at h), hR.mono ?_⟩
    clear hR hy
    have hxt : xr.pt = (ps, t') := by unfold PW.pt; rw [Hxr.out]
    have hxo : ∀ W', KpP n₀ W0 W' → xr.ok W' := fun W' h => by unfold PW.ok; rw [Hxr.out]; exact Hok.out.kp h
    have Hxt := Lib.hid hxt; clear hxt
    have Hxo := Lib.hid hxo; clear hxo
    rintro e W1 (⟨rfl, hJ2, hk1, hf1⟩ | ⟨rfl, hJ2, hk1, hf1⟩)
    case inr =>
      have Hj := Lib.hid hJ2; clear hJ2
      have Hk1 := Lib.hid hk1; clear hk1
      gi_wp2
      refine leaves_marks (N := W.heap.size) (fun W' => PlSp n₀ w0 t' ps [xr] W' ∧ Jx [xr] W') ?_ ?_ [] W1 trivial ⟨⟨by rw [List.map_singleton, Hxt.out, t'.plc_eq]; exact ⟨_, rfl⟩, fun y hy => by rw [List.mem_singleton.1 hy]; exact Hxo.out _ Hk1.out⟩, Hj.out⟩
      · rintro W5 D5 ⟨h1, h2⟩ hD5 hk5
        exact ⟨⟨h1.1, fun z hz => (h1.2 z hz).kp (KpP.putObj _ _ _ (.deferred none) (by omega) hk5 rfl)⟩, hJx.putObj _ h2 hD5 hk5 rfl⟩
      · intro W' h
        exact ⟨_, results_none rfl _ _ _, ⟨_, rfl⟩, .inr ⟨_, h.1, h.2⟩⟩
    have HYb1 := Lib.hid (hk1.2.2.1 _ _ HYb.out)
    have HBp1 := Lib.hid (hk1.2.2.2.2 _ _ HBp.out)
    have HBt1 := Lib.hid (hk1.2.1 _ _ HBt.out)
    have HK1 := Lib.hid (HK0.out.trans hk1)
    have HKx := Lib.hid hk1; clear hk1
    have HB1 := Lib.hid (HB.out.trans HKx.out.1)
    have Hj2 := Lib.hid hJ2; clear hJ2
    have hW1 : W.heap.size + 1 ≤ W1.heap.size := by have := HszW.out; have := hf1.size; omega
    clear hf1 a0 a1 a2 a3 p0
    obtain ⟨⟨a0, a1, a2, a3⟩, -⟩ := HBt1.out.four
    gi_wp2
    refine wpIn_loop (fun a' Wr => ∃ (k : Nat) (u4 u5 u17 u18 u19 u20 u21 u22 u23 u24 u25 u33 : Value) (ds : List Deferred) (ys : List (PW n₀ w0)), k ≤ t'.l.length ∧ Hid (ys.map PW.pt = Tm.plcs (t'.l.take k) ps 0) ∧ Hid (J (xr :: ys) Wr) ∧ Hid (KpP n₀ W1 Wr) ∧ Hid (∀ y ∈ ys, y.ok Wr) ∧ Hid (Marks W.heap.size Wr ds) ∧ Hid (W1.heap.size ≤ Wr.heap.size) ∧
      a' = { tmps := #[.func (.yield l) #[] #[], .pointer (some ⟨Bp, 0, none⟩), .pointer (some ⟨Bt, 0, none⟩), .pointer (some ⟨W.heap.size, 0, none⟩), u4, u5, undef, undef, .func (.yield l) #[] #[], .slice Ap ps.length cp, .agg #[.int .i64 t'.k, .int .i64 t'.n, .string t'.s, .slice A t'.l.length c], .bool true, .bool false, .pointer (some ⟨Bt, 3, none⟩), .slice A t'.l.length c, .int .i64 t'.l.length, .int .i64 k, u17, u18, u19, u20, u21, u22, u23, u24, u25, undef, undef, undef, undef, undef, undef, undef, u33], defers := ds })
      (fun a' _ => t'.l.length - (intOf (a'.tmps.getD 16 undef)).toNat) ?start ?round
    case start => exact ⟨0, undef, undef, undef, undef, undef, undef, undef, undef, undef, undef, undef, undef, [], [], Nat.zero_le _, Lib.hid (by simp [Tm.plcs]), Hj2, Lib.hid (KpP.refl _ _), Lib.hid (fun y hy => by simp at hy), Lib.hid trivial, Lib.hid (Nat.le_refl _), rfl⟩
    case round =>
      rintro _ wr ⟨k, u4, u5, u17, u18, u19, u20, u21, u22, u23, u24, u25, u33, ds, ys, hk, Hys, Hjr, Hkr, Hyo, HM, Hsr, rfl⟩
      have HBp2 := Lib.hid (Hkr.out.2.2.2.2 _ _ HBp1.out)
      have HYb2 := Lib.hid (Hkr.out.2.2.1 _ _ HYb1.out)
      by_cases hlt : k < t'.l.length
      · obtain ⟨x, hx⟩ : ∃ x, t'.l[k]? = some x := ⟨_, List.getElem?_eq_getElem hlt⟩
        obtain ⟨g, off, Ai, ci, rfl, hPg, ⟨c0, c1, c2, c3⟩, hxs, hxc⟩ := HC.out.at_ hx
        have hBr : Below n₀ w0 wr := HB1.out.trans Hkr.out.1
        have e0 := (hBr.cell (p := ⟨g, off + k * 4, none⟩) hPg).trans c0
        have e1 := (hBr.cell (p := ⟨g, off + k * 4 + 1, none⟩) hPg).trans c1
        have e2 := (hBr.cell (p := ⟨g, off + k * 4 + 2, none⟩) hPg).trans c2
        have e3 := (hBr.cell (p := ⟨g, off + k * 4 + 3, none⟩) hPg).trans c3
        clear c0 c1 c2 c3
        have HBr := Lib.hid hBr; clear hBr
        have hxm := List.mem_of_getElem? hx
        have Hts := Lib.hid (take_snoc hx)
        have hxo := okB_mem ho hxm
        have hnr : n₀ ≤ wr.heap.size := by have := Hsr.out; omega
        have hpk : PathOk n₀ wr Ap cp ps := (Hok.out.kp HKx.out).kp Hkr.out
        have Hpk := Lib.hid hpk; clear hpk
        have Hxz := Lib.hid (show ps.length + 1 + x.size ≤ 1000000 from by have := Tm.size_child hxm; have := Hsz.out; omega)
        have Hjoin := Lib.hid (fun W' (h : PathOk n₀ W' Ap cp ps) => join_calls n₀ ps k Ap cp W' h (by have := Hsz.out; omega))
        have p0 := (Blk.one HBp2.out).1
        have hBpl2 := HBp2.out.lt
        have Hxc := Lib.hid hxc; clear hxc hx
        have hPx : PathOk n₀ (wr.alloc (.cells #[.int .i64 x.k, .int .i64 x.n, .string x.s, .slice Ai x.l.length ci] 25)) Ap cp ps := Hpk.out.below ((Below.refl _ _).alloc (Nat.le_refl _) _)
        have HPx := Lib.hid hPx; clear hPx
        gi_wp2_with fail
        have hjw := Hjoin.out (wr.alloc (.cells #[.int .i64 x.k, .int .i64 x.n, .string x.s, .slice Ai x.l.length ci] 25)).drew (HPx.out.keep (fun _ _ h => h))
        have hjw2 := callsIn_wide (n := n - 1).2 hjw
        have Hjw := Lib.hid hjw2; clear hjw hjw2
        have f138 : Fence.wide.fn 138 := trivial
        have f107 : Fence.wide.fn 107 := trivial
        have hdep : Fence.wide.depth.isSome = true → 1 ≤ n := fun h => by simp [Fence.wide] at h
        refine wpIn_noPanic ?_
        gi_region_with (first
          | ((try refine ⟨f138, hdep, ?_⟩); (try refine ⟨hdep, ?_⟩); gi_at_call 138; refine Hjw.out.mono ?_; rintro e w3 ⟨A3, c3, rfl, hp3, hb3⟩; have hbx := (Blk.new wr 25 #[.int .i64 x.k, .int .i64 x.n, .string x.s, .slice Ai x.l.length ci]).drew.below hb3 (by simp); obtain ⟨⟨s0, s1, s2, s3⟩, -⟩ := hbx.four; have hsl := hb3.size; have Hp3 := Lib.hid hp3; have Hb3 := Lib.hid hb3; clear hp3 hb3 hbx)
          | ((try refine ⟨f107, hdep, ?_⟩); (try refine ⟨hdep, ?_⟩); gi_at_call 107; refine (callsIn_wide.2 (places_calls _ _ _ _ _ _ _ _ _ _)).mono ?_; rintro e w4 ⟨rfl, rfl⟩))
        all_goals
          refine noPanic_normal ?_
          gi_wp2_with fail
          obtain ⟨Wz, hWz⟩ : ∃ Wz, Wz = (w3.alloc (.cells #[.int .i64 x.k, .int .i64 x.n, .string x.s, .slice Ai x.l.length ci] 25)).alloc (.cells #[.slice A3 (ps.length + 1) c3] 39) := ⟨_, rfl⟩
          have hs3 : wr.heap.size + 1 ≤ w3.heap.size := by have := Hb3.out.size; simpa using this
          have hb3z : Below w3.heap.size w3 Wz := by rw [hWz]; exact ((Below.refl _ _).alloc (Nat.le_refl _) _).alloc (by simp) _
          have hbz : Below wr.heap.size wr Wz := by
            have h1 : Below wr.heap.size wr (wr.alloc (.cells #[.int .i64 x.k, .int .i64 x.n, .string x.s, .slice Ai x.l.length ci] 25)).drew := ((Below.refl _ _).alloc (Nat.le_refl _) _).drew
            exact h1.trans ((Hb3.out.mono (by simp)).trans (hb3z.mono (by omega)))
          have hbt : Blk Wz w3.heap.size 25 #[.int .i64 x.k, .int .i64 x.n, .string x.s, .slice Ai x.l.length ci] := by rw [hWz]; exact (Blk.new _ _ _).alloc _
          have hbp : Blk Wz (w3.heap.size + 1) 39 #[.slice A3 (ps.length + 1) c3] := by
            rw [hWz]
            have := Blk.new (w3.alloc (.cells #[.int .i64 x.k, .int .i64 x.n, .string x.s, .slice Ai x.l.length ci] 25)) 39 #[.slice A3 (ps.length + 1) c3]
            rwa [World.size_alloc] at this
          have hpz : PathOk n₀ Wz A3 c3 (ps ++ [(k : Int)]) := (Hp3.out.mono (by simp; omega)).below hb3z
          have hkz : KpP n₀ wr Wz := KpP.of_below hnr hbz
          have hsz4 : Wz.heap.size = w3.heap.size + 2 := by rw [hWz]; simp
          obtain ⟨xe, hxe⟩ : ∃ xe : PW n₀ w0, xe.1 = ((ps ++ [(k : Int)], A3, c3), x, Ai, ci) := ⟨⟨((ps ++ [(k : Int)], A3, c3), x, Ai, ci), hxo, hxs, Hxc.out⟩, rfl⟩
          have hseq := Ih.out x hxm (n - 1) xe (w3.heap.size + 1) w3.heap.size Wz (by rw [hxe]) (by omega) (HBr.out.trans hkz.1) (by rw [hxe]; simpa using hbp) (by rw [hxe]; exact hbt) (by unfold PW.ok; rw [hxe]; exact hpz) (by rw [hxe]; have := Hxz.out; simp; omega)
          have hpt : xe.1.1.1 = ps ++ [(k : Int)] := by rw [hxe]
          rw [hpt] at hseq
          have hJz : J (xr :: ys ++ []) Wz := by rw [List.append_nil]; exact ownFrom_below hJ Hjr.out hbz
          have hMz : Marks W.heap.size Wz ds := HM.out.keep fun D _ _ h => (hbz.block D (Array.getElem?_eq_some_iff.1 h).1).trans h
          have hml : ∀ d ∈ ds, ∃ D, d.target = .collected D ∧ D < Wz.heap.size := hMz.lt
          have hnz : n₀ ≤ Wz.heap.size := by omega
          have hWz2 : W.heap.size ≤ Wz.heap.size := by have := Hsr.out; omega
          have own : ∀ {X Y : World} {row : Option Nat}, Wz.heap.size ≤ X.heap.size → X.grownBy Y row → (∀ r, row = some r → Wz.heap.size ≤ r ∧ ∃ o : Obj, X.heap[r]? = some o ∧ o.isCells = false) → KpP n₀ X Y :=
            fun hX hg hr => kpP_grown (by omega) hg (fun r e => ⟨by have := (hr r e).1; omega, (hr r e).2⟩)
          have hkz1 : KpP n₀ W1 Wz := Hkr.out.trans hkz
          have hyz : ∀ y ∈ ys, y.ok Wz := fun y hy => (Hyo.out y hy).kp hkz
          rw [← hWz]
          clear hWz hbt hbp hpz hbz hb3z hxe
          refine wpIn_rangeW rfl hdep (gf := 137) (lb := #[.pointer (some ⟨w3.heap.size + 1, 0, none⟩), .pointer (some ⟨w3.heap.size, 0, none⟩)]) rfl trivial (enters_of Try.func137 (by kernel_rfl) rfl) (n₀ := n₀) hnz hseq
            (fun s X Y row hs hg hr => ⟨hs.1, fun y hy => (hs.2 y hy).keep (fun g cs hb => (hg.block g hb.lt (fun e => by obtain ⟨-, o, ho, hc⟩ := hr g e.symm; rw [show X.heap[g]? = _ from hb] at ho; injection ho with ho; subst ho; simp [Obj.isCells] at hc)).trans hb)⟩)
            (fun s X Y row hs hg hr => ⟨hs.1, fun y hy => (hs.2 y hy).keep (fun g cs hb => (hg.block g hb.lt (fun e => by obtain ⟨-, o, ho, hc⟩ := hr g e.symm; rw [show X.heap[g]? = _ from hb] at ho; injection ho with ho; subst ho; simp [Obj.isCells] at hc)).trans hb)⟩)
            (Below.refl _ _) (fun _ => rfl)
            (fun pre W' => J (xr :: ys ++ pre) W' ∧ KpP n₀ W1 W' ∧ (∀ y ∈ ys, y.ok W') ∧ Marks W.heap.size W' ds ∧ Wz.heap.size ≤ W'.heap.size)
            (fun c pre W' => c = .ret ∧ Jx (xr :: ys ++ pre) W' ∧ KpP n₀ W1 W' ∧ (∀ y ∈ ys, y.ok W') ∧ Marks W.heap.size W' ds ∧ Wz.heap.size ≤ W'.heap.size)
            (fun s X Y row hs hg hr => ⟨hJ _ X Y row hs.1 hg (fun r e => ⟨by have := (hr r e).1; omega, (hr r e).2⟩), hs.2.1.trans (own hs.2.2.2.2 hg hr), fun y hy => (hs.2.2.1 y hy).kp (own hs.2.2.2.2 hg hr), marks_own hml () X Y row hs.2.2.2.1 hg hr, Nat.le_trans hs.2.2.2.2 hg.size⟩)
            (fun c s X Y row hs hg hr => ⟨hs.1, hJx _ X Y row hs.2.1 hg (fun r e => ⟨by have := (hr r e).1; omega, (hr r e).2⟩), hs.2.2.1.trans (own hs.2.2.2.2.2 hg hr), fun y hy => (hs.2.2.2.1 y hy).kp (own hs.2.2.2.2.2 hg hr), marks_own hml () X Y row hs.2.2.2.2.1 hg hr, Nat.le_trans hs.2.2.2.2.2 hg.size⟩)
            ⟨hJz, hkz1, hyz, hMz, Nat.le_refl _⟩
            (fun y a' W' => ∃ Bx, Wz.heap.size ≤ Bx ∧ Blk W' Bx 25 #[.int .i64 y.1.2.1.k, .int .i64 y.1.2.1.n, .string y.1.2.1.s, .slice y.1.2.2.1 y.1.2.1.l.length y.1.2.2.2] ∧ a' = { tmps := #[.func (.yield l) #[] #[], .pointer (some ⟨Bp, 0, none⟩), .pointer (some ⟨Bt, 0, none⟩), .pointer (some ⟨W.heap.size, 0, none⟩), .int .i64 k, .pointer (some ⟨wr.heap.size, 0, none⟩), .slice y.1.1.2.1 y.1.1.1.length y.1.1.2.2, .pointer (some ⟨Bx, 0, none⟩), .func (.yield l) #[] #[], .slice Ap ps.length cp, .agg #[.int .i64 t'.k, .int .i64 t'.n, .string t'.s, .slice (some ⟨g, off, none⟩) t'.l.length c], .bool true, .bool false, .pointer (some ⟨Bt, 3, none⟩), .slice (some ⟨g, off, none⟩) t'.l.length c, .int .i64 t'.l.length, .int .i64 k, .bool true, .int .i64 k, .pointer (some ⟨g, off + k * 4, none⟩), .agg #[.int .i64 x.k, .int .i64 x.n, .string x.s, .slice Ai x.l.length ci], .agg #[.int .i64 x.k, .int .i64 x.n, .string x.s, .slice Ai x.l.length ci], .slice Ap ps.length cp, .int .i64 k, .slice A3 (ps.length + 1) c3, .func (.func 137) #[] #[.pointer (some ⟨w3.heap.size + 1, 0, none⟩), .pointer (some ⟨w3.heap.size, 0, none⟩)], .slice y.1.1.2.1 y.1.1.1.length y.1.1.2.2, .agg #[.int .i64 y.1.2.1.k, .int .i64 y.1.2.1.n, .string y.1.2.1.s, .slice y.1.2.2.1 y.1.2.1.l.length y.1.2.2.2], undef, undef, undef, undef, undef, u33], defers := [] })
            (fun y a' _ X Y row hs hg hr => by
              obtain ⟨Bx, h1, h2, h3⟩ := hs
              exact ⟨Bx, h1, h2.grown hg (fun e => by
                obtain ⟨-, o, ho, hc⟩ := hr _ e.symm
                rw [show X.heap[Bx]? = some _ from h2] at ho
                injection ho with ho; subst ho; simp [Obj.isCells] at hc), h3⟩)
            ?assign ?body ?done ?stop
          case assign =>
            rintro l2 pre y W' K ⟨hj, hk', hyo', hM', hS'⟩ hK
            simp only [PW.encs]
            gi_wp2
            have hba : Below W'.heap.size W' (W'.alloc (.cells #[.int .i64 y.1.2.1.k, .int .i64 y.1.2.1.n, .string y.1.2.1.s, .slice y.1.2.2.1 y.1.2.1.l.length y.1.2.2.2] 25)) := (Below.refl _ _).alloc (Nat.le_refl _) _
            have hka : KpP n₀ W' (W'.alloc (.cells #[.int .i64 y.1.2.1.k, .int .i64 y.1.2.1.n, .string y.1.2.1.s, .slice y.1.2.2.1 y.1.2.1.l.length y.1.2.2.2] 25)) := KpP.of_below (by omega) hba
            exact hK _ _ (keepsFrom_below hba) hka ⟨ownFrom_below hJ hj hba, hk'.trans hka, fun z hz => (hyo' z hz).kp hka, hM'.keep fun D _ _ h => (hba.block D (Array.getElem?_eq_some_iff.1 h).1).trans h, by simp; omega⟩ ⟨W'.heap.size, hS', Blk.new _ _ _, rfl⟩
          case body =>
            rintro l2 pre y a' W' hl ⟨r, hr⟩ ⟨hj, hk', hyo', hM', hS'⟩ ⟨Bx, hBx, hbx, rfl⟩ hlen
            have hysl : ys.length = Tm.sizes (t'.l.take k) := by
              have h1 := congrArg List.length Hys.out
              rw [List.length_map, (Tm.plc_len_le _).2 _ _ _ (Nat.le_refl _)] at h1
              exact h1
            have hlen2 : (xr :: ys ++ pre).length < t'.size := by
              have h3 := sizes_take_le (k + 1) t'.l
              rw [Hts.out, sizes_append] at h3
              simp only [Tm.sizes, Nat.add_zero] at h3
              rw [t'.size_eq]
              simp only [List.length_append, List.length_cons]
              omega
            obtain ⟨⟨q0, q1, q2, q3⟩, -⟩ := hbx.four
            have hyb2 := (Blk.one (hk'.2.2.1 _ _ HYb1.out)).1
            have hWl : W.heap.size < W'.heap.size := by have := Hsr.out; omega
            have hbl := hbx.lt
            obtain ⟨fn2, tmps2, assign2, body2, hy2, hR2⟩ := HY.out (n - 1 - 1 - 1) (xr :: ys ++ pre) y W' hj hlen2
            simp only [PW.encs] at hy2
            have Hj := Lib.hid hj; clear hj
            have Hk' := Lib.hid hk'; clear hk'
            have Hyo' := Lib.hid hyo'; clear hyo'
            have HM' := Lib.hid hM'; clear hM'
            gi_wp2_with fail
            refine ⟨(fun h => by simp [Fence.wide, Fence.inRound] at h), (show RoundIn (Fence.wide.inRound l2) (n - 1 - 1 - 1) Try.prog l fn2 tmps2 assign2 body2 W' _ from hR2).mono ?_⟩
            clear hR2 hy2
            rintro e W4 (⟨rfl, hj4, hk4, hf4⟩ | ⟨rfl, hj4, hk4, hf4⟩)
            · gi_wp2
              exact ⟨keepsFrom_mono hf4 hWz2, hk4, by rw [← List.append_assoc]; exact hj4, Hk'.out.trans hk4, fun z hz => (Hyo'.out z hz).kp hk4, HM'.out.keep fun D hD _ h => hf4.same D _ hD h rfl, Nat.le_trans hS' hf4.size⟩
            · gi_wp2
              exact ⟨keepsFrom_mono hf4 hWz2, hk4, rfl, by rw [← List.append_assoc]; exact hj4, Hk'.out.trans hk4, fun z hz => (Hyo'.out z hz).kp hk4, HM'.out.keep fun D hD _ h => hf4.same D _ hD h rfl, Nat.le_trans hS' hf4.size⟩
          case done =>
            rintro D zs W' hD ⟨hzs, hzo⟩ ⟨hj, hk', hyo', hM', hS'⟩ hDk
            have hnx : (ys ++ zs).map PW.pt = Tm.plcs (t'.l.take (k + 1)) ps 0 := by
              rw [List.map_append, Hys.out, hzs, Hts.out, Tm.plcs_snoc, List.length_take, Nat.zero_add, Nat.min_eq_left (by omega)]
            have hM3 : Marks W.heap.size W' ({ target := .collected D, args := #[] } :: ds) := ⟨⟨D, rfl, by omega, hDk, fun e he h => by
              obtain ⟨E, h1, h2⟩ := hml e he
              rw [h] at h1; injection h1 with h1; omega⟩, hM'⟩
            have HM3 := Lib.hid hM3; clear hM3
            have Hnx := Lib.hid hnx; clear hnx
            have Hj := Lib.hid (show J (xr :: (ys ++ zs)) W' from hj); clear hj
            have Hk' := Lib.hid hk'; clear hk'
            have Hyo' := Lib.hid (show ∀ z ∈ ys ++ zs, z.ok W' from fun z hz => by
              rcases List.mem_append.1 hz with h | h
              · exact hyo' z h
              · exact hzo z h); clear hyo' hzo
            have Hs' := Lib.hid (show W1.heap.size ≤ W'.heap.size from by have := Hsr.out; omega)
            gi_wp2
            refine ⟨⟨k + 1, _, _, _, _, _, _, _, _, _, _, _, _, _, ys ++ zs, by omega, Hnx, Hj, Hk', Hyo', HM3, Hs', rfl⟩, ?_⟩
            simp [intOf]; omega
          case stop =>
            rintro D c2 pre W' hD ⟨hpre, hpo⟩ ⟨rfl, hj, hk', hyo', hM', hS'⟩ hDk
            have hM3 : Marks W.heap.size W' ({ target := .collected D, args := #[] } :: ds) := ⟨⟨D, rfl, by omega, hDk, fun e he h => by
              obtain ⟨E, h1, h2⟩ := hml e he
              rw [h] at h1; injection h1 with h1; omega⟩, hM'⟩
            have hsp : PlSp n₀ w0 t' ps (xr :: ys ++ pre) W' := by
              refine ⟨?_, fun z hz => ?_⟩
              · rw [List.map_append, List.map_cons, Hxt.out, Hys.out, t'.plc_eq]
                refine List.prefix_cons_inj _ |>.2 ?_
                have h1 := Tm.plcs_snoc (t'.l.take k) x ps 0
                rw [← Hts.out, List.length_take, Nat.zero_add, Nat.min_eq_left (by omega)] at h1
                refine ((List.prefix_append_right_inj _).2 hpre).trans ?_
                rw [← h1]
                exact plcs_take _ _ _ _
              · rcases List.mem_append.1 hz with h | h
                · rcases List.mem_cons.1 h with rfl | h
                  · exact Hxo.out _ (HKx.out.trans hk')
                  · exact hyo' z h
                · exact hpo z h
            have Hsp := Lib.hid hsp; clear hsp
            gi_wp2
            refine leaves_marks (N := W.heap.size) (fun W' => PlSp n₀ w0 t' ps (xr :: ys ++ pre) W' ∧ Jx (xr :: ys ++ pre) W') ?_ ?_ _ W' hM3 ⟨Hsp.out, hj⟩
            · rintro W5 D5 ⟨h1, h2⟩ hD5 hk5
              exact ⟨⟨h1.1, fun z hz => (h1.2 z hz).kp (KpP.putObj _ _ _ (.deferred none) (by omega) hk5 rfl)⟩, hJx.putObj _ h2 hD5 hk5 rfl⟩
            · rintro W5 ⟨h1, h2⟩
              exact ⟨_, results_none rfl _ _ _, ⟨_, rfl⟩, .inr ⟨_, h1, h2⟩⟩
      · have hke : k = t'.l.length := by omega
        subst hke
        have hsF : PlS n₀ w0 t' ps (xr :: ys) wr := by
          refine ⟨?_, fun z hz => ?_⟩
          · rw [List.map_cons, Hxt.out, Hys.out, t'.plc_eq, List.take_length]
          · rcases List.mem_cons.1 hz with rfl | h
            · exact Hxo.out _ (HKx.out.trans Hkr.out)
            · exact Hyo.out z h
        have HsF := Lib.hid hsF; clear hsF
        gi_wp2
        refine leaves_marks (N := W.heap.size) (fun W' => PlS n₀ w0 t' ps (xr :: ys) W' ∧ J (xr :: ys) W') ?_ ?_ ds wr HM.out ⟨HsF.out, Hjr.out⟩
        · rintro W5 D5 ⟨h1, h2⟩ hD5 hk5
          exact ⟨⟨h1.1, fun z hz => (h1.2 z hz).kp (KpP.putObj _ _ _ (.deferred none) (by omega) hk5 rfl)⟩, hJ.putObj _ h2 hD5 hk5 rfl⟩
        · rintro W5 ⟨h1, h2⟩
          exact ⟨_, results_none rfl _ _ _, ⟨_, rfl⟩, .inl ⟨_, h1, h2⟩⟩
end Go.Proofs.Ytfhgknmkpegpbaa

set_option linter.unusedVariables false
set_option linter.unusedSimpArgs false
namespace Go.Proofs.Ytfhgknmkpegpbaa
open Go.RowKit

theorem MapN.below {w w' : World} {b n B : Nat} {m : Int → Int} (h : MapN w b n m) (hb : Below B w w') (hB : w.heap.size ≤ B) : MapN w' b n m :=
  h.kept (row := none) ⟨hb.os, hb.tape, hb.output, hb.size, fun k hk _ => hb.block k (Nat.lt_of_lt_of_le hk hB)⟩ (by simp)
theorem MapN.but {w w' : World} {b n g : Nat} {m : Int → Int} (h : MapN w b n m) (hb : But g w w') (hne : b ≠ g) : MapN w' b n m :=
  h.kept (row := some g) ⟨hb.os, hb.tape, hb.output, hb.size, fun k hk he => hb.block k hk (fun e => he (by rw [e]))⟩ (by simpa using hne)
/-- What Normal gives: the trees, the numbers that there were, an error. -/
def RetNo (w : World) (ts : List Tm) (xs : List Int) (er : Int) (e : Ending) (w' : World) : Prop :=
  ∃ A c v, e = .returned (.tuple #[.slice A ts.length c, v, .int .i64 er]) ∧ TmC (w.heap.size ≤ ·) w' A c ts ∧ w'.ownsRow w.heap.size 3 1 v xs.length (xs.map (Value.int .i64)) ∧ (v = .slice none 0 0 ↔ xs = []) ∧ Below w.heap.size w w'
def normR (l : List Tm) : List Tm := l.map (normT (nowOf (varsL l) (varsL l).length))

theorem varsL_nodup (l : List Tm) : (varsL l).Nodup := varsFrom_nodup List.nodup_nil
theorem nodup_get {xs : List Int} (h : xs.Nodup) {k : Nat} {x : Int} (hx : xs[k]? = some x) : x ∉ xs.take k := by
  intro hm
  have h1 := List.take_append_drop k xs
  have h2 : (xs.take k ++ xs.drop k).Nodup := by rw [h1]; exact h
  rw [List.nodup_append] at h2
  have h3 : x ∈ xs.drop k := List.mem_of_getElem? (i := 0) (by rw [List.getElem?_drop, Nat.add_zero]; exact hx)
  exact h2.2.2 x hm x h3 rfl
theorem okBs_var {l : List Tm} (h : Tm.okBs l = true) {x : Int} (hx : x ∈ varsL l) : 0 ≤ x ∧ x < 100000 := by
  rcases varsFrom_mem hx with h1 | ⟨y, hy, hk, rfl⟩
  · simp at h1
  · have : ∀ (l : List Tm), Tm.okBs l = true → ∀ y ∈ Tm.pres l, y.k = 1 → 0 ≤ y.n ∧ y.n < 100000 := fun l => by
      induction l with
      | nil => intro _ y hy; simp [Tm.pres] at hy
      | cons a l ih =>
        intro h y hy hk
        rw [Tm.okBs, Bool.and_eq_true] at h
        rw [Tm.pres] at hy
        rcases List.mem_append.1 hy with hy | hy
        · exact var_bd (okB_pre a h.1 y hy) hk
        · exact ih h.2 y hy hk
    exact this l h y hy hk

set_option maxRecDepth 100000 in
set_option maxHeartbeats 4000000 in
theorem normal_calls (l : List Tm) (P : Nat → Prop) (A : Option Addr) (c : Nat) (w : World) (hc : TmC P w A c l) :
    Calls Try.prog 29 #[.slice A l.length c] w (RetNo w (if allB l = true then normR l else []) (if allB l = true then varsL l else []) (errT (allB l))) := by
  have hcall := varsTop_calls l P A c w hc
  obtain ⟨i0, hi0⟩ := info25
  have Hi := Lib.hid hi0; clear hi0
  have hmm := @run_makeMap Try.prog
  have hlc := hc.len.1
  have hlm := hc.len.2.1
  obtain ⟨b, hb⟩ : ∃ b, b = allB l := ⟨_, rfl⟩
  rw [← hb] at hcall ⊢
  obtain ⟨xs, hxs⟩ : ∃ xs, xs = (if b = true then varsL l else []) := ⟨_, rfl⟩
  obtain ⟨ts, hts⟩ : ∃ ts, ts = (if b = true then normR l else []) := ⟨_, rfl⟩
  rw [← hxs] at hcall ⊢
  rw [← hts]
  have Hxs := Lib.hid hxs; clear hxs
  have Hts := Lib.hid hts; clear hts
  have Hb := Lib.hid hb; clear hb
  have Hcall := Lib.hid hcall; clear hcall
  have Hc := Lib.hid hc.inside; clear hc
  go_enter Try.func29, Try.ntmps29
  go_wp2_with fail
  refine Hcall.out.mono ?_
  rintro e w1 ⟨v, rfl, hrow, hnil, hb1⟩
  have Hc1 := Lib.hid (Hc.out.stay hb1 (Nat.le_refl _))
  have HB1 := Lib.hid hb1; clear hb1
  cases b
  · have he : (errT false != 0) = true := rfl
    have hx : xs = [] := by have := Hxs.out; simpa using this
    have ht : ts = [] := by have := Hts.out; simpa using this
    subst hx ht
    clear hrow hnil
    go_wp2
    exact bodyPost_ret (v := .tuple #[.slice none 0 0, .slice none 0 0, .int .i64 (errT false)]) (by simp [results, Try.results29, go_sem]) rfl (R := RetNo w [] [] _) ⟨none, 0, _, rfl, TmC.nil _ _ (by omega) (fun _ => rfl), World.ownsRow_nil _ _ _ _, by simp, HB1.out⟩
  have he : (errT true != 0) = false := rfl
  have hall := allB_iff.1 Hb.out.symm
  have hx : xs = varsL l := by have := Hxs.out; simpa using this
  have ht : ts = normR l := by have := Hts.out; simpa using this
  have hxl : xs.length ≤ 1000000 := by
    have h1 := varsFrom_len [] (Tm.pres l)
    rw [Tm.pres_len] at h1
    have h3 : xs.length = (varsFrom [] (Tm.pres l)).length := by rw [hx]; rfl
    simp at h1
    omega
  have Hvr := Lib.hid (show ∀ x ∈ xs, 0 ≤ x ∧ x < 100000 from fun x hxm => okBs_var hall.1 (by rw [← hx]; exact hxm))
  have Hnd := Lib.hid (show xs.Nodup from by rw [hx]; exact varsL_nodup l)
  have Hx := Lib.hid hx; clear hx
  have Ht := Lib.hid ht; clear ht
  have Hall := Lib.hid hall; clear hall
  obtain ⟨As, cs, rfl⟩ := own_slice hrow
  have hrd := own_rd hrow
  have Hrd := Lib.hid (show Rd w1 As (xs.flatMap encI) from by rw [flatMap_encI]; exact hrd)
  have Hrow := Lib.hid hrow
  have Hnil := Lib.hid hnil
  clear hrow hnil hrd
  obtain ⟨W2, hW2⟩ : ∃ W2, W2 = (w1.alloc (.map #[] 0)).alloc (.cells #[.map (some w1.heap.size)] 98) := ⟨_, rfl⟩
  have hB2 : Below w1.heap.size w1 W2 := by rw [hW2]; exact ((Below.refl _ _).alloc (Nat.le_refl _) _).alloc (by simp) _
  have hM2 : MapN W2 w1.heap.size 0 (nowOf xs 0) := by rw [hW2, nowOf_zero]; exact (MapN.made w1).kept (World.grownBy_alloc _ _ none) (by simp)
  have hK2 : Blk W2 (w1.heap.size + 1) 98 #[.map (some w1.heap.size)] := by
    rw [hW2]
    have := Blk.new (w1.alloc (.map #[] 0)) 98 #[.map (some w1.heap.size)]
    rwa [World.size_alloc] at this
  have HB2 := Lib.hid hB2; clear hB2
  have HM2 := Lib.hid hM2; clear hM2
  have HK2 := Lib.hid hK2; clear hK2
  have HW2 := Lib.hid hW2; clear hW2
  go_wp2_with fail
  rw [← HW2.out]
  go_wp2
  obtain ⟨G, hG⟩ : ∃ G, G = w1.heap.size := ⟨_, rfl⟩
  rw [← hG] at HM2 HK2 HB2 ⊢
  have HG := Lib.hid hG; clear hG
  go_loopw [26] (fun i wr => ∃ k : Nat, k ≤ xs.length ∧ i = .int .i64 k ∧ Hid (MapN wr G k (nowOf xs k)) ∧ Hid (Blk wr (G + 1) 98 #[.map (some G)]) ∧ Hid (Below G w1 wr)) (fun i _ => xs.length - (intOf i).toNat)
  case atStart => exact ⟨0, Nat.zero_le _, rfl, HM2, HK2, HB2⟩
  case round =>
    obtain ⟨k, hk, rfl, HM, HK, HB⟩ := hrel
    by_cases hlt : k < xs.length
    · obtain ⟨x, hx⟩ : ∃ x, xs[k]? = some x := ⟨_, List.getElem?_eq_getElem hlt⟩
      obtain ⟨g, off, rfl, c0⟩ := Hrd.out.atI hx
      have hgl := World.block_lt_of_cell? w1 _ c0
      have e0 := (HB.out.cell (p := ⟨g, off + k, none⟩) (by rw [HG.out]; exact hgl)).trans c0
      have hxb := Hvr.out x (List.mem_of_getElem? hx)
      have hwf := int_wf hxb.1 hxb.2
      have hwk : (Lit.int .i64 (k : Int)).wf = true := by
        unfold Lit.wf
        simp [IntKind.min, IntKind.max, IntKind.bits, IntKind.signed]
        omega
      have Hsu := Lib.hid (nowOf_succ hx (nodup_get Hnd.out hx))
      obtain ⟨D, hown, hDm, hat⟩ := HM.out
      obtain ⟨k0, -⟩ := Blk.one HK.out
      have hlt1 := HK.out.lt
      clear c0 hgl hxb hx
      go_wp2_with (at_mapUpdate; refine wpList_mapUpdate_own _ rfl _ _ _ 98 rfl 3 3 (Maps.int_keyed Try.underlying3) Try.underlying98 _ G k _ rfl hown (by simp [maxLen]; omega) _ _ _ rfl rfl (Maps.keyOf_int_mk Try.underlying3 hwf) _ [] (plainElem_int Try.underlying3 hwk) ?_; intro w3 hown3 hg3)
      have HM3 := Lib.hid (show MapN w3 G (k + 1) (nowOf xs (k + 1)) from by rw [Hsu.out]; exact MapN.put hown3 hDm hat)
      have HK3 := Lib.hid (HK.out.grown hg3 (by simp))
      have HB3 := Lib.hid (HB.out.grown hg3 (by omega) (fun r hr => by injection hr with hr; omega))
      clear hown3 hg3 hown hDm hat
      go_wp2
      go_roundw
      case rel => exact ⟨k + 1, by omega, by go_num, HM3, HK3, HB3⟩
      case measure => simp [intOf]; omega
    · have hke : k = xs.length := by omega
      subst hke
      have HB1' := Lib.hid (HB1.out.trans (HB.out.mono (by rw [HG.out]; exact HB1.out.size)))
      have Hc2 := Lib.hid (Hc1.out.stay HB.out (by rw [HG.out]; exact Nat.le_refl _))
      have hsz0 : w.heap.size ≤ wr.heap.size := HB1'.out.size
      have Hval := Lib.hid (show nowOf xs xs.length = nowOf (varsL l) (varsL l).length from by rw [Hx.out])
      obtain ⟨val, hval⟩ : ∃ val, val = nowOf xs xs.length := ⟨_, rfl⟩
      rw [← hval] at HM
      have Hv := Lib.hid hval; clear hval
      obtain ⟨N0, hN0⟩ : ∃ N0, N0 = wr.heap.size := ⟨_, rfl⟩
      obtain ⟨WB, hWB⟩ : ∃ WB, WB = wr := ⟨_, rfl⟩
      rw [← hWB] at HM HK HB HB1' Hc2 hsz0 hN0 ⊢
      clear hWB
      have hgn : G + 1 < N0 := by rw [hN0]; exact HK.out.lt
      have hwn : w.heap.size ≤ N0 := by rw [hN0]; exact hsz0
      have HN0 := Lib.hid hN0; clear hN0 hsz0
      go_wp2
      go_loopw [10, 37] (fun v10 i wr => ∃ k : Nat, k ≤ l.length ∧ i = .int .i64 k ∧ Hid (RowT N0 (N0 ≤ ·) wr v10 ((l.take k).map (normT val))) ∧ Hid (Below N0 WB wr)) (fun _ i _ => l.length - (intOf i).toNat)
      case atStart => exact ⟨0, Nat.zero_le _, rfl, Lib.hid (RowT.nil _ _ _), Lib.hid (by rw [HN0.out]; exact Below.refl _ _)⟩
      case round =>
        obtain ⟨k, hk, rfl, Hrw, HB5⟩ := hrel
        by_cases hlt : k < l.length
        · obtain ⟨x, hx⟩ : ∃ x, l[k]? = some x := ⟨_, List.getElem?_eq_getElem hlt⟩
          have hcr := Hc2.out.stay HB5.out (by rw [HN0.out]; exact Nat.le_refl _)
          obtain ⟨g, off, Ai, ci, rfl, hPg, ⟨e0, e1, e2, e3⟩, hxs, hxc⟩ := hcr.at_ hx
          have hxm := List.mem_of_getElem? hx
          have Htk := Lib.hid (take_snoc hx)
          have hxz : x.size ≤ 1000000 := by have := Tm.size_mem hxm; have := Hall.out.2.1; omega
          have hvar : ∀ y ∈ x.pre, y.k = 1 → 0 ≤ y.n ∧ y.n < 100000 := fun y hy hk => var_bd (okB_pre x (Tm.okBs_mem Hall.out.1 hxm) y hy) hk
          have hbb : Below wr.heap.size wr (wr.alloc (.cells #[.int .i64 x.k, .int .i64 x.n, .string x.s, .slice Ai x.l.length ci] 25)) := (Below.refl _ _).alloc (Nat.le_refl _) _
          have hNr : N0 ≤ wr.heap.size := by rw [HN0.out]; exact HB5.out.size
          have hEr : Blk wr (G + 1) 98 #[.map (some G)] ∧ MapN wr G xs.length val := ⟨HK.out.below HB5.out (by omega), HM.out.below HB5.out (by rw [HN0.out]; exact Nat.le_refl _)⟩
          have hcall := replaced_calls 86 (G + 1) (nowF val) (fun _ => False) (fun W => Blk W (G + 1) 98 #[.map (some G)] ∧ MapN W G xs.length val) (wr.alloc (.cells #[.int .i64 x.k, .int .i64 x.n, .string x.s, .slice Ai x.l.length ci] 25))
            (fun b W W' h1 h2 h3 => ⟨h2.1.but h3 (by simp at h1; omega), h2.2.but h3 (by simp at h1; omega)⟩) (fun g hg => hg.elim) (fun _ _ => rfl) (fun n x hx => by unfold nowF at hx; injection hx with hx; rw [← hx]; show (1 : Nat) + 0 ≤ _; omega)
            (fun W n h1 h2 h3 => normal1_calls _ (G + 1) G xs.length val W n h1.1 h1.2 h2 h3) x P _ ⟨Ai, ci, rfl, hxs, (hxc.stay hbb (Nat.le_refl _)).mono (fun g h => h.1)⟩ ⟨hEr.1.below hbb (by omega), hEr.2.below hbb (Nat.le_refl _)⟩ hxz hvar
          have Hcall2 := Lib.hid hcall; clear hcall hxc hx hvar hEr hcr
          have HBB := Lib.hid hbb; clear hbb
          go_wp2_with fail
          refine Hcall2.out.mono ?_
          rintro e w4 ⟨A2, c2, rfl, hs2, hx2, hb2⟩
          generalize hz : (if (repT (nowF val) x).isSome = true then (0 : Int) else 2) = er2
          clear hz
          obtain ⟨y, hy⟩ : ∃ y, y = normT val x := ⟨_, rfl⟩
          have hyy : (repT (nowF val) x).getD Tm.zero = y := by rw [hy]; rfl
          rw [hyy] at hs2 hx2 ⊢
          have Hy := Lib.hid hy; clear hy hyy
          have hbr : Below wr.heap.size wr w4 := HBB.out.trans (hb2.mono HBB.out.size)
          obtain ⟨W5, hW5⟩ : ∃ W5, W5 = w4.alloc (.cells #[.int .i64 y.k, .int .i64 y.n, .string y.s, .slice A2 y.l.length c2] 25) := ⟨_, rfl⟩
          have hB5 : Below wr.heap.size wr W5 := by rw [hW5]; exact hbr.alloc hbr.size _
          have hY5 : Blk W5 w4.heap.size 25 #[.int .i64 y.k, .int .i64 y.n, .string y.s, .slice A2 y.l.length c2] := by rw [hW5]; exact Blk.new _ _ _
          have hx5 := hx2.stay (show Below w4.heap.size w4 W5 from by rw [hW5]; exact (Below.refl _ _).alloc (Nat.le_refl _) _) (Nat.le_refl _)
          obtain ⟨⟨y0, y1, y2, y3⟩, -⟩ := hY5.four
          have hbr2 : Below wr.heap.size wr (W5.alloc (.cells #[.int .i64 y.k, .int .i64 y.n, .string y.s, .slice A2 y.l.length c2] 25)) := hB5.alloc hB5.size _
          have hrw2 := Hrw.out.below hbr2 (Nat.le_refl _)
          have hx3 := hx5.stay ((Below.refl _ _).alloc (Nat.le_refl _) (.cells #[.int .i64 y.k, .int .i64 y.n, .string y.s, .slice A2 y.l.length c2] 25)) (Nat.le_refl _)
          have hob : ∀ g, wr.heap.size + 1 ≤ g → N0 ≤ g ∧ some g ≠ u10.ownBlock := fun g hg => by
            refine ⟨by omega, fun e => ?_⟩
            obtain ⟨es, h1, h2, h3⟩ := Hrw.out
            have := (h2.lt g e.symm).2
            omega
          obtain ⟨es, hes, hrow, hch⟩ := hrw2
          have hel : es.length = k := by rw [← List.length_map (f := fun e : EV => e.1), ← hes, List.length_map, List.length_take]; omega
          have Hx3 := Lib.hid hx3; clear hx3 hx2 hx5
          have Hob := Lib.hid hob; clear hob
          have Hch := Lib.hid hch
          have Hrow2 := Lib.hid hrow
          have HB6 := Lib.hid (HB5.out.trans (hbr2.mono (by rw [HN0.out] at hNr ⊢; exact HB5.out.size))); clear hbr2 hbr hb2
          have Hes := Lib.hid hes
          have Hel := Lib.hid hel
          have HY5 := Lib.hid hY5
          have HB7 := Lib.hid hB5
          clear hrow hch hes hel hY5 hB5
          subst hW5
          have hnb := Blk.new (w4.alloc (.cells #[.int .i64 y.k, .int .i64 y.n, .string y.s, .slice A2 y.l.length c2] 25)) 25 #[.int .i64 y.k, .int .i64 y.n, .string y.s, .slice A2 y.l.length c2]
          rw [World.size_alloc] at hnb
          have Hnb := Lib.hid hnb; clear hnb
          go_wp2_with (at_builtin; refine wpList_append_own_at _ rfl (.tmp 47) (.tmp 49) 22 rfl N0 25 i0 _ 4 56 Try.underlying22 Hi.out.1 Hi.out.2.1 Hi.out.2.2.1 Hi.out.2.2.2 rfl (by decide) u10 es.length (es.flatMap encE) rfl Hrow2.out ⟨w4.heap.size + 1, 0, none⟩ 1 1 [.int .i64 y.k, .int .i64 y.n, .string y.s, .slice A2 y.l.length c2] rfl rfl ?c1 ?c2 ?c3 ?c4 ?c5 ?_)
          case c1 =>
            intro j u hu
            rw [add_lit0, Hnb.out.cell j]
            simpa using hu
          case c2 => simp [Value.oneCell']
          case c3 => rw [Hel.out]; simp only [maxLen]; omega
          case c4 => have := len_le_sizes l; have := Hall.out.2.1; rw [Hel.out]; omega
          case c5 => have := HB7.out.size; simp at this ⊢; omega
          intro v' w6 hown hg _ hbk
          have hnew : RowT N0 (N0 ≤ ·) w6 v' ((l.take (k + 1)).map (normT val)) := by
            rw [Htk.out, List.map_append, List.map_singleton, ← Hy.out]
            exact RowT.push es Hes.out Hch.out hs2 Hx3.out (fun g hg' => Hob.out g (by simpa using hg')) hown hg (by simpa using hbk)
          have HB8 := Lib.hid (HB6.out.grown hg (by have := HB7.out.size; simp at this ⊢; omega) (fun k hk => (Hrow2.out.lt k hk).1))
          have Hnew := Lib.hid hnew
          obtain ⟨A', c', rfl⟩ := own_slice hown
          clear hown hg hbk hnew
          go_wp2
          go_roundw
          case rel => exact ⟨k + 1, by omega, by go_num, Hnew, HB8⟩
          case measure => simp [intOf]; omega
        · have hke : k = l.length := by omega
          subst hke
          obtain ⟨A2, c2, rfl, h2⟩ := Hrw.out.toC
          rw [List.take_length] at h2 ⊢
          have hob : ∀ g, (N0 ≤ g ∨ some g = (Value.slice A2 (l.map (normT val)).length c2).ownBlock) → w.heap.size ≤ g := fun g hg => by
            rcases hg with h | h
            · omega
            · obtain ⟨es, h3, h4, h5⟩ := Hrw.out
              rw [List.take_length] at h4
              have := (h4.lt g h.symm).1
              omega
          have H2 := Lib.hid (h2.mono hob); clear h2 hob
          have HBF := Lib.hid (HB1'.out.trans (HB5.out.mono hwn))
          have hts : ts = l.map (normT val) := by rw [Ht.out, Hv.out, Hval.out]; rfl
          have HrowF := Lib.hid (own_below Hrow.out (HB.out.trans (HB5.out.mono (by omega))) (by rw [HG.out]; exact Nat.le_refl _))
          go_wp2
          exact bodyPost_ret (v := .tuple #[.slice A2 (l.map (normT val)).length c2, .slice As xs.length cs, .int .i64 0]) (by simp [results, Try.results29, go_sem]) rfl (R := RetNo w ts xs _) ⟨A2, c2, _, by rw [hts]; rfl, by rw [hts]; exact H2.out, HrowF.out, Hnil.out, HBF.out⟩
end Go.Proofs.Ytfhgknmkpegpbaa

set_option linter.unusedVariables false
set_option linter.unusedSimpArgs false
namespace Go.Proofs.Ytfhgknmkpegpbaa
open Go.RowKit Go.Shelf
attribute [local go_sem] Oper.semAt_some

theorem info39 : ∃ i0 : TypeInfo, Try.prog.info? 39 = some i0 ∧ i0.zero = some (.slice none 0 0) ∧ i0.size = 1 ∧ i0.bytes = 24 := info_parts (by kernel_rfl)
/-- An append to a slice of slices of its own: a block of one cell stays. -/
theorem run_append39 (base : Nat) (w : World) (ty : TypeId) (v : Value) (k : Nat) (xs : List Value) (u : Value) (hown : w.ownsRow base 39 1 v k xs) (hk : k = 0 → v = .slice none 0 0) (ad : Addr) (hc : w.cell? ad = some u) (hu : u.oneCell' = true) (b1 : k + 1 ≤ 1000001) (hb : base ≤ w.heap.size) :
    ∃ v' w', (Builtin.append_ #[76, 76] ty #[v, .slice (some ad) 1 1]).run Try.prog w = .ok v' w' ∧ w'.ownsRow base 39 1 v' (k + 1) (xs ++ [u]) ∧ w.grownBy w' v.ownBlock ∧ ∀ g x, Blk w g 39 #[x] → Blk w' g 39 #[x] := by
  obtain ⟨i0, h1, h2, h3, h4⟩ := info39
  have hn : ∀ j u', [u][j]? = some u' → w.cell? (ad.add j) = some u' := fun j u' h => by
    match j, h with
    | 0, h => simp at h; subst h; simpa [Addr.add] using hc
  have hone : ∀ u' ∈ [u], u'.oneCell' = true := fun u' h => by rw [List.mem_singleton.1 h]; exact hu
  rcases hown.2 with ⟨hv, h0⟩ | ⟨g, cap, cur, hv, hbg, hg, hnc, hcm, hcs, htake⟩
  · obtain ⟨v', w', hr, r1, r2, -⟩ := run_append_own (P := Try.prog) w base 76 ty 39 i0 _ 1 24 Try.underlying76 h1 h2 h3 h4 rfl (by decide) v k xs hown ad 1 1 [u] rfl hn hone (by simp only [maxLen]; omega) (by omega) hb
    refine ⟨v', w', hr, r1, r2, fun g x hbk => hbk.grown r2 ?_⟩
    rw [hv]; simp [Value.ownBlock]
  · have hk0 : k ≠ 0 := fun e => by rw [hk e] at hv; cases hv
    subst hv
    by_cases hroom : k + 1 ≤ cap
    · obtain ⟨w', hr, r1, r2⟩ := run_append_fits (P := Try.prog) w base 76 ty 39 i0 1 Try.underlying76 h1 h3 g k cap xs hown ad 1 1 [u] rfl hn hone hroom
      refine ⟨_, w', hr, r1, r2, fun g' x hbk => hbk.grown r2 (fun e => ?_)⟩
      injection e with e
      subst e
      rw [show w.heap[g']? = _ from hbk] at hg
      injection hg with hg
      injection hg with hg
      rw [← hg] at hcs
      simp at hcs
      omega
    · have holds : ∀ j u', xs[j]? = some u' → w.cell? ((⟨g, 0, none⟩ : Addr).add j) = some u' := fun j u' h => hown.cells (g := g) rfl j u' h
      obtain ⟨v', w', hr, r1, r2⟩ := run_append_arg_grows (P := Try.prog) w 76 ty 39 i0 _ 1 24 Try.underlying76 h1 h2 h3 h4 rfl (by decide) ⟨g, 0, none⟩ k cap xs hown.1 holds ad 1 1 [u] rfl hn (by omega) (by simp only [maxLen]; omega) (by omega)
      exact ⟨v', w', hr, own_lower r1 hb, ⟨r2.os, r2.tape, r2.output, r2.size, fun j hj _ => r2.block j hj (by simp)⟩, fun g' x hbk => hbk.grown r2 (by simp)⟩
theorem wpListIn_append39 {F : Fence} {n : Nat} (w : World) {ops : Array Oper} {rest : List Oper} {o : Oper} {a : Act} {Q : Exit → Act → World → Prop} (hgd : o.guard = none) (s x : Operand)
    (ho : o.op = .call { callee := .builtin .append, args := #[s, x], argTypes := #[76, 76] }) (base : Nat) (v : Value) (k : Nat) (xs : List Value) (u : Value) (hs : a.eval s = v) (hown : w.ownsRow base 39 1 v k xs) (hk : k = 0 → v = .slice none 0 0) (ad : Addr)
    (hx : a.eval x = .slice (some ad) 1 1) (hc : w.cell? ad = some u) (hu : u.oneCell' = true) (b1 : k + 1 ≤ 1000001) (hb : base ≤ w.heap.size)
    (h : ∀ v' w', w'.ownsRow base 39 1 v' (k + 1) (xs ++ [u]) → w.grownBy w' v.ownBlock → (∀ g x, Blk w g 39 #[x] → Blk w' g 39 #[x]) → wpListIn F n Try.prog ops Q rest (a.put o.dst v') w') :
    wpListIn F n Try.prog ops Q (o :: rest) a w := by
  refine wpListIn_plain hgd fun K hK => ?_
  obtain ⟨v', w', hr, h2, h3, h4⟩ := run_append39 base w o.type v k xs u hown hk ad hc hu b1 hb
  unfold Oper.wpIn
  refine ⟨by simp [Oper.about, ho, resolve, Target.leads, Sem.run_pure], ?_⟩
  rw [Oper.semAt_plain F _ _ (by rw [ho]; intro c hc'; cases hc')]
  simp [execOp, ho, resolve, invoke, builtin, hs, hx, hr, Result.andThen]
  exact hK _ _ (h v' w' h2 h3 h4)
def PW.sv {n₀ : Nat} {w0 : World} (x : PW n₀ w0) : Value := .slice x.1.1.2.1 x.1.1.1.length x.1.1.2.2
/-- What Paths gives. -/
def RetPs (w : World) (ls : List (List Int)) (er : Int) (e : Ending) (w' : World) : Prop :=
  ∃ A c, e = .returned (.tuple #[.slice A ls.length c, .int .i64 er]) ∧ SlC (w.heap.size ≤ ·) w' A c ls ∧ Below w.heap.size w w'
theorem slC_of {n₀ N c n : Nat} {w0 W : World} {A : Option Addr} {ys : List (PW n₀ w0)} (h : W.ownsRow N 39 1 (.slice A n c) n (ys.map PW.sv)) (hn : n = ys.length) (hnN : n₀ ≤ N) (hok : ∀ y ∈ ys, y.ok W) : SlC (n₀ ≤ ·) W A c (ys.map (fun y => y.1.1.1)) := by
  subst hn
  refine ⟨ys.map (fun y => y.1.1), by rw [List.map_map]; rfl, ?_, ?_, ?_, ?_, ?_, fun e he => ?_⟩
  · rw [List.length_map]
    rcases h.2 with ⟨hv, h0⟩ | ⟨g, cap, cur, hv, hg, hb, h1, h2, h3, h4⟩
    · injection hv; omega
    · injection hv; omega
  · rcases h.2 with ⟨hv, h0⟩ | ⟨g, cap, cur, hv, hg, hb, h1, h2, h3, h4⟩
    · injection hv; omega
    · injection hv with _ _ hv; subst hv; simpa [maxLen] using h2
  · intro e
    rcases h.2 with ⟨hv, h0⟩ | ⟨g, cap, cur, hv, hg, hb, h1, h2, h3, h4⟩
    · injection hv
    · injection hv with hv; rw [e] at hv; cases hv
  · intro hne
    rcases h.2 with ⟨hv, h0⟩ | ⟨g, cap, cur, hv, hg, hb, h1, h2, h3, h4⟩
    · exact absurd (by rw [List.length_eq_zero_iff.1 h0]; rfl) hne
    · injection hv with hv
      exact ⟨g, 0, hv, by omega⟩
  · have h5 := own_rd h
    have h6 : (ys.map (fun y => y.1.1)).flatMap encS = ys.map PW.sv := by
      clear h h5 hok
      induction ys with
      | nil => rfl
      | cons y ys ih => rw [List.map_cons, List.flatMap_cons, ih]; rfl
    rw [h6]; exact h5
  · obtain ⟨y, hy, rfl⟩ := List.mem_map.1 he
    have h7 := hok y hy
    have h8 := h7.len
    refine ⟨h8.1, h8.2.1, fun hne => ?_, ?_⟩
    · rcases h7 with ⟨h1, _⟩ | ⟨h1, h2, h3, g, cs, h4, h5, _⟩
      · exact absurd h1 hne
      · exact ⟨g, 0, h4, h5⟩
    · rcases h7 with ⟨h1, _⟩ | ⟨h1, h2, h3, g, cs, h4, h5, h6, h9⟩
      · rw [h1]; exact rd_nil _ _
      · intro _
        refine ⟨g, 0, h4, fun j v hj => ?_⟩
        rw [flatMap_encI, List.getElem?_map] at hj
        cases hx : y.1.1.1[j]? with
        | none => rw [hx] at hj; cases hj
        | some u =>
          rw [hx] at hj
          rw [Nat.zero_add, h6.cell j, h9 j u hx]
          exact hj

theorem slC_put {P : Nat → Prop} {W : World} {A : Option Addr} {c D : Nat} {ls : List (List Int)} (h : SlC P W A c ls) (hD : W.heap[D]? = some (.deferred (some []))) : SlC P (W.putObj D (.deferred none)) A c ls := by
  have key : ∀ (p : Addr) v, W.cell? p = some v → (W.putObj D (.deferred none)).cell? p = some v := fun p v hv => by
    rw [World.cell?_of_block (World.putObj_heap_other (fun e => ?_))]
    · exact hv
    · rw [← e] at hD
      simp [World.cell?, hD] at hv
  have rd : ∀ {B : Option Addr} {xs : List Value}, Rd W B xs → Rd (W.putObj D (.deferred none)) B xs := fun hr hne => by
    obtain ⟨g, off, h1, h2⟩ := hr hne
    exact ⟨g, off, h1, fun j v hj => key _ _ (h2 j v hj)⟩
  obtain ⟨es, h1, h2, h3, h4, h5, h6, h7⟩ := h
  exact ⟨es, h1, h2, h3, h4, h5, rd h6, fun e he => ⟨(h7 e he).1, (h7 e he).2.1, (h7 e he).2.2.1, rd (h7 e he).2.2.2⟩⟩

set_option maxRecDepth 100000 in
set_option maxHeartbeats 4000000 in
theorem pathsTop_calls (t : Tm) (P : Nat → Prop) (w : World) (v : Value) (hv : TmV P w v t) : Calls Try.prog 63 #[v] w (RetPs w (if isB t = true then (t.plc []).map Prod.fst else []) (errT (isB t))) := by
  refine (callsIn_wide (n := 5)).1 ?_
  obtain ⟨A, c, rfl, hs, hc⟩ := hv
  obtain ⟨b, hb⟩ : ∃ b, b = isB t := ⟨_, rfl⟩
  have hB0 : Below w.heap.size w (w.alloc (.cells #[.int .i64 t.k, .int .i64 t.n, .string t.s, .slice A t.l.length c] 25)) := (Below.refl _ _).alloc (Nat.le_refl _) _
  have hX0 : Blk (w.alloc (.cells #[.int .i64 t.k, .int .i64 t.n, .string t.s, .slice A t.l.length c] 25)) w.heap.size 25 #[.int .i64 t.k, .int .i64 t.n, .string t.s, .slice A t.l.length c] := Blk.new _ _ _
  have hc0 : TmC (· < w.heap.size) w A c t.l := hc.inside.mono (fun g h => h.2)
  have hcall := (callsIn_wide (n := 4)).2 (check_calls t _ _ _ ⟨A, c, rfl, hs, hc0.stay hB0 (Nat.le_refl _)⟩)
  rw [← hb] at hcall ⊢
  obtain ⟨ls, hls⟩ : ∃ ls, ls = if b = true then (t.plc []).map Prod.fst else [] := ⟨_, rfl⟩
  rw [← hls]
  have Hls := Lib.hid hls; clear hls
  have Hcall := Lib.hid hcall; clear hcall
  have Hb := Lib.hid hb; clear hb
  have HX0 := Lib.hid hX0; clear hX0
  have HB0 := Lib.hid hB0; clear hB0
  have Hc0 := Lib.hid hc0; clear hc0 hc
  refine callsIn_of_wp_marks Try.func63 rfl trivial ?_ rfl
  simp only [Try.ntmps63, List.size_toArray, List.length_cons, List.length_nil, Nat.reduceAdd, Nat.reduceSub, Array.replicate_succ, Array.replicate_zero, List.push_toArray, List.append_toArray, List.nil_append, List.cons_append]
  gi_wp2_with fail
  refine ⟨trivial, ?_⟩
  refine Hcall.out.mono ?_
  rintro e w1 ⟨rfl, hb1⟩
  have HB1 := Lib.hid (HB0.out.trans (hb1.mono HB0.out.size))
  have hX1 := HX0.out.below hb1 HX0.out.lt
  have hl1 := hX1.lt
  obtain ⟨⟨a0, a1, a2, a3⟩, -⟩ := hX1.four
  have HX1 := Lib.hid hX1; clear hX1 hb1
  cases b
  · have he : (errT false != 0) = true := rfl
    have hl : ls = [] := by have := Hls.out; simpa using this
    subst hl
    gi_wp2
    refine leaves_marks (N := w.heap.size) (fun W' => Below w.heap.size w W') ?_ ?_ [] w1 trivial HB1.out
    · rintro W5 D5 h1 hD5 hk5
      exact h1.trans (Below.putObj_ (Nat.le_refl _) _ _ (.deferred none) _ hD5)
    · rintro W5 h1
      exact ⟨.tuple #[.slice none 0 0, .int .i64 (errT false)], by simp [results, Try.results63, go_sem], none, 0, rfl, ⟨[], rfl, by simp, by omega, fun _ => rfl, fun h => absurd rfl h, rd_nil _ _, fun e he => by simp at he⟩, h1⟩
  have he : (errT true != 0) = false := rfl
  have hl : ls = (t.plc []).map Prod.fst := by have := Hls.out; simpa using this
  have Hl := Lib.hid hl; clear hl Hls
  gi_wp2_with fail
  refine ⟨trivial, ?_⟩
  refine ((callsIn_wide (n := 4)).2 (places_calls _ _ _ _ _ _ _ _ _ _)).mono ?_
  rintro e w2 ⟨rfl, rfl⟩
  gi_wp2_with fail
  obtain ⟨Wz, hWz⟩ : ∃ Wz, Wz = ((w1.alloc (.cells #[.slice none 0 0] 76)).alloc (.cells #[.int .i64 t.k, .int .i64 t.n, .string t.s, .slice A t.l.length c] 25)).alloc (.cells #[.slice none 0 0] 39) := ⟨_, rfl⟩
  rw [← hWz]
  have hsw1 : w.heap.size < w1.heap.size := HX1.out.lt
  have hb2 : Below w1.heap.size w1 Wz := by rw [hWz]; exact (((Below.refl _ _).alloc (Nat.le_refl _) _).alloc (by simp) _).alloc (by simp; omega) _
  have hob : Boxed Wz w1.heap.size 76 (.slice none 0 0) := by rw [hWz]; exact ((Boxed.new w1 76 (.slice none 0 0)).alloc _).alloc _
  have hbt : Blk Wz (w1.heap.size + 1) 25 #[.int .i64 t.k, .int .i64 t.n, .string t.s, .slice A t.l.length c] := by
    rw [hWz]
    have := Blk.new (w1.alloc (.cells #[.slice none 0 0] 76)) 25 #[.int .i64 t.k, .int .i64 t.n, .string t.s, .slice A t.l.length c]
    rw [World.size_alloc] at this
    exact this.alloc _
  have hbp : Blk Wz (w1.heap.size + 1 + 1) 39 #[.slice none 0 0] := by
    rw [hWz]
    have := Blk.new ((w1.alloc (.cells #[.slice none 0 0] 76)).alloc (.cells #[.int .i64 t.k, .int .i64 t.n, .string t.s, .slice A t.l.length c] 25)) 39 #[.slice none 0 0]
    rwa [World.size_alloc, World.size_alloc] at this
  have hszz : Wz.heap.size = w1.heap.size + 3 := by rw [hWz]; simp
  have hot := isB_iff.1 Hb.out.symm
  obtain ⟨xe, hxe⟩ : ∃ xe : PW w.heap.size w, xe.1 = (([], none, 0), t, A, c) := ⟨⟨(([], none, 0), t, A, c), hot.1, hs, Hc0.out⟩, rfl⟩
  have hBz : Below w.heap.size w Wz := HB1.out.trans (hb2.mono (by omega))
  have hseq := places1_seq w.heap.size w t (5 - 1) xe (w1.heap.size + 1 + 1) (w1.heap.size + 1) Wz (by rw [hxe]) (by omega) hBz (by rw [hxe]; exact hbp) (by rw [hxe]; exact hbt) (by unfold PW.ok; rw [hxe]; exact PathOk.nil _ _) (by rw [hxe]; have := hot.2.1; simp; omega)
  have hpt : xe.1.1.1 = [] := by rw [hxe]
  rw [hpt] at hseq
  clear hWz hbt hbp hxe hb2
  have hts : t.size ≤ 4000 := hot.2.1
  clear a0 a1 a2 a3 hot
  refine wpIn_rangeW rfl (fun _ => by decide) (gf := 137) (lb := #[.pointer (some ⟨w1.heap.size + 1 + 1, 0, none⟩), .pointer (some ⟨w1.heap.size + 1, 0, none⟩)]) rfl trivial (enters_of Try.func137 (by kernel_rfl) rfl) (n₀ := w.heap.size) (by omega) hseq
    (fun s X Y row hs hg hr => ⟨hs.1, fun y hy => (hs.2 y hy).keep (fun g cs hb => (hg.block g hb.lt (fun e => by obtain ⟨-, o, ho, hc⟩ := hr g e.symm; rw [show X.heap[g]? = _ from hb] at ho; injection ho with ho; subst ho; simp [Obj.isCells] at hc)).trans hb)⟩)
    (fun s X Y row hs hg hr => ⟨hs.1, fun y hy => (hs.2 y hy).keep (fun g cs hb => (hg.block g hb.lt (fun e => by obtain ⟨-, o, ho, hc⟩ := hr g e.symm; rw [show X.heap[g]? = _ from hb] at ho; injection ho with ho; subst ho; simp [Obj.isCells] at hc)).trans hb)⟩)
    (Below.refl _ _) (fun _ => rfl)
    (fun pre W' => (∃ v, Boxed W' w1.heap.size 76 v ∧ W'.ownsRow w1.heap.size 39 1 v pre.length (pre.map PW.sv) ∧ (v = .slice none 0 0 ↔ pre = [])) ∧ Below w.heap.size w W' ∧ Wz.heap.size ≤ W'.heap.size)
    (fun _ _ _ => False)
    (fun s X Y row hs hg hr => ⟨holdsRow_own w1.heap.size w1.heap.size 76 39 1 (fun (pre : List (PW w.heap.size w)) => pre.length) (fun pre => pre.map PW.sv) (fun pre v => (v = .slice none 0 0 ↔ pre = [])) s X Y row hs.1 hg (fun r e => (hr r e).2), ⟨(hs.2.1.grown hg (Nat.le_trans hs.2.1.size (Nat.le_refl _)) (fun r e => by have := (hr r e).1; omega)), Nat.le_trans hs.2.2 hg.size⟩⟩)
    (fun _ _ _ _ _ hs _ _ => hs) ⟨⟨_, hob, World.ownsRow_nil _ _ _ _, by simp⟩, hBz, Nat.le_refl _⟩
    (fun y a' W' => a' = { tmps := #[.agg #[.int .i64 t.k, .int .i64 t.n, .string t.s, .slice A t.l.length c], .pointer (some ⟨w.heap.size, 0, none⟩), .slice none 0 0, .int .i64 0, .int .i64 (errT true), .pointer (some ⟨w1.heap.size, 0, none⟩), .slice y.1.1.2.1 y.1.1.1.length y.1.1.2.2, .agg #[.int .i64 t.k, .int .i64 t.n, .string t.s, .slice A t.l.length c], .int .i64 (errT true), .int .i64 (errT true), .bool false, undef, .agg #[.int .i64 t.k, .int .i64 t.n, .string t.s, .slice A t.l.length c], .func (.func 137) #[] #[.pointer (some ⟨w1.heap.size + 1 + 1, 0, none⟩), .pointer (some ⟨w1.heap.size + 1, 0, none⟩)], .slice y.1.1.2.1 y.1.1.1.length y.1.1.2.2, .agg #[.int .i64 y.1.2.1.k, .int .i64 y.1.2.1.n, .string y.1.2.1.s, .slice y.1.2.2.1 y.1.2.1.l.length y.1.2.2.2], undef, undef, undef, undef, undef], defers := [] })
    (fun _ _ _ _ _ _ hs _ _ => hs)
    ?assign ?body ?done ?stop
  case assign =>
    rintro l2 pre y W' K hi hK
    simp only [PW.encs]
    gi_wp2
    exact hK _ _ (KeepsFrom.refl _ _) (KpP.refl _ _) hi rfl
  case body =>
    rintro l2 pre y a' W' hl ⟨r, hr⟩ ⟨⟨v, hv, hrow, hnil⟩, hB, hS⟩ rfl hlen
    have cv := hv.cell
    have hB2 := hB.size
    have hvl := hv.lt
    have hvf := hv.frozen
    have hl4 : pre.length ≤ 4000 := by omega
    have Hrow := Lib.hid hrow; clear hrow
    have Hv := Lib.hid hv; clear hv
    have HB := Lib.hid hB; clear hB
    have Hnil := Lib.hid hnil; clear hnil
    gi_wp2_with (gi_at_builtin; refine wpListIn_append39 _ rfl _ _ rfl w1.heap.size v pre.length (pre.map PW.sv) (.slice y.1.1.2.1 y.1.1.1.length y.1.1.2.2) rfl (Hrow.out.alloc _) (fun h => Hnil.out.2 (List.length_eq_zero_iff.1 h)) ⟨W'.heap.size, 0, none⟩ rfl (by simp) (by rfl) (by omega) (by simp; omega) ?_; intro v' w2 hown' hgrow hkp; obtain ⟨g', cap', rfl⟩ := ownsRow_succ hown'; obtain ⟨hv2, hv3, hr3, hk3, hb3⟩ := Hv.out.appended (by decide) Hrow.out (by omega) (Nat.le_refl _) hown' hgrow; have hc2 := hv2.cell; have hf2 := hv2.frozen)
    have keep : ∀ g T cs, T ≠ 39 → T ≠ 76 → Blk W' g T cs → Blk (w2.setCell ⟨w1.heap.size, 0, none⟩ (.slice (some ⟨g', 0, none⟩) (pre.length + 1) cap')) g T cs := fun g T cs h39 h76 hb => by
      have h1 := (hb.alloc (.cells #[.slice y.1.1.2.1 y.1.1.1.length y.1.1.2.2] 39)).grown hgrow (fun e => own_blk_ne Hrow.out hb (Ne.symm h39) e.symm)
      exact h1.far (p := ⟨w1.heap.size, 0, none⟩) (fun e => Blk.ne_ h1 (show Blk w2 w1.heap.size 76 #[v] from hv2) h76 e) _
    refine ⟨hk3.from _, ⟨hb3.mono (by omega), fun g cs hb => keep g 25 cs (by decide) (by decide) hb, fun g cs hb => keep g 155 cs (by decide) (by decide) hb, fun g cs hb => keep g 3 cs (by decide) (by decide) hb, fun g x hb => ?_⟩, ⟨_, hv3, by simpa [PW.sv] using hr3, by simp⟩, HB.out.trans (hb3.mono (by omega)), Nat.le_trans hS hb3.size⟩
    have h1 := hkp g x (hb.alloc _)
    exact h1.far (p := ⟨w1.heap.size, 0, none⟩) (fun e => Blk.ne_ h1 (show Blk w2 w1.heap.size 76 #[v] from hv2) (by decide) e) _
  case done =>
    rintro D ys W' hD ⟨hys, hyo⟩ ⟨⟨v, hv, hrow, hnil⟩, hB, hS⟩ hDk
    have cv := hv.cell
    obtain ⟨A2, c2, rfl⟩ := own_slice hrow
    have hll : ls = ys.map (fun y => y.1.1.1) := by rw [Hl.out, ← hys, List.map_map]; rfl
    have hfin := slC_of hrow rfl (by omega) hyo
    have hM : Marks w.heap.size W' [{ target := .collected D, args := #[] }] := ⟨⟨D, rfl, by omega, hDk, fun e he => by simp at he⟩, trivial⟩
    have Hfin := Lib.hid hfin; clear hfin
    have Hll := Lib.hid hll; clear hll
    have HB := Lib.hid hB; clear hB
    have HM := Lib.hid hM; clear hM
    have Hnl := Lib.hid (show ys.length = ls.length from by rw [Hll.out, List.length_map])
    have hgr : W'.heap[D]? = some (.deferred (some [])) := hDk
    have Hmk := Lib.hid (HM.out)
    gi_wp2
    refine leaves_marks (N := Wz.heap.size) (fun W5 => SlC (w.heap.size ≤ ·) W5 A2 c2 (ys.map (fun y => y.1.1.1)) ∧ Below w.heap.size w W5 ∧ Wz.heap.size ≤ W5.heap.size) ?_ ?_ _ W' ⟨⟨D, rfl, hD, hgr, fun e he => by simp at he⟩, trivial⟩ ⟨Hfin.out, HB.out, hS⟩
    · rintro W5 D5 ⟨h1, h2, h3⟩ hD5 hk5
      exact ⟨slC_put h1 hk5, h2.trans (Below.putObj_ (Nat.le_refl _) _ _ (.deferred none) _ (by omega)), by simpa using h3⟩
    · rintro W5 ⟨h1, h2, h3⟩
      exact ⟨.tuple #[.slice A2 ys.length c2, .int .i64 0], by simp [results, Try.results63, go_sem], A2, c2, by rw [← Hnl.out]; rfl, by rw [Hll.out]; exact h1, h2⟩
  case stop =>
    rintro D c2 pre W' _ _ h _
    exact h.elim
end Go.Proofs.Ytfhgknmkpegpbaa

set_option linter.unusedVariables false
set_option linter.unusedSimpArgs false
namespace Go.Proofs.Ytfhgknmkpegpbaa
open Go.RowKit

abbrev sa : ByteArray := ⟨#[97]⟩
abbrev sb : ByteArray := ⟨#[98]⟩
abbrev sc : ByteArray := ⟨#[99]⟩
abbrev sf : ByteArray := ⟨#[102]⟩
abbrev sg : ByteArray := ⟨#[103]⟩
abbrev sd : ByteArray := ⟨#[46]⟩
abbrev se : ByteArray := ⟨#[91, 93]⟩
theorem va_ok {n : Int} (h0 : 0 ≤ n) (h1 : n < 100000) : (Tm.va n).okB = true := by
  rw [Tm.okB_eq]
  have : nodeB (Tm.va n) = true := by
    unfold nodeB
    rw [if_pos (show (Tm.va n).k = 1 from rfl)]
    have h2 : bareB (Tm.va n) true false false = true := by
      unfold bareB
      show ((true && (false || decide ((⟨#[]⟩ : ByteArray).toList = []))) && true) = true
      rw [show (⟨#[]⟩ : ByteArray).toList = [] from empty_toList]; rfl
    rw [h2]
    show ((true && decide (0 ≤ n)) && decide (n < 100000)) = true
    simp [h0, h1]
  rw [this]; rfl
theorem at_ok {s : ByteArray} (h : nameB s = true) : (Tm.at' s).okB = true := by
  rw [Tm.okB_eq]
  have : nodeB (Tm.at' s) = true := by
    unfold nodeB
    rw [if_neg (by show (3 : Int) ≠ 1; decide), if_neg (by show (3 : Int) ≠ 2; decide), if_pos (show (Tm.at' s).k = 3 from rfl)]
    show (bareB (Tm.at' s) false true false && nameB s) = true
    rw [h]; rfl
  rw [this]; rfl
theorem fn_ok {s : ByteArray} {l : List Tm} (h : nameB s = true) (h1 : 1 ≤ l.length) (h2 : l.length ≤ 16) (hl : Tm.okBs l = true) : (Tm.fn s l).okB = true := by
  rw [Tm.okB_eq]
  have : nodeB (Tm.fn s l) = true := by
    unfold nodeB
    rw [if_neg (by show (5 : Int) ≠ 1; decide), if_neg (by show (5 : Int) ≠ 2; decide), if_neg (by show (5 : Int) ≠ 3; decide), if_neg (by show (5 : Int) ≠ 4; decide), if_pos (show (Tm.fn s l).k = 5 from rfl)]
    show (((bareB (Tm.fn s l) false true true && nameB s) && decide (1 ≤ l.length)) && decide (l.length ≤ 16)) = true
    rw [h, decide_eq_true h1, decide_eq_true h2]; rfl
  rw [this]
  show (true && Tm.okBs l) = true
  rw [hl]; rfl
theorem nm_a : nameB sa = true := by decide
theorem nm_b : nameB sb = true := by decide
theorem nm_c : nameB sc = true := by decide
theorem nm_f : nameB sf = true := by decide
theorem nm_g : nameB sg = true := by decide
theorem nm_d : nameB sd = true := by decide
theorem nm_e : nameB se = true := by decide
theorem va_k (n : Int) : (Tm.va n).k = 1 := rfl
theorem va_n (n : Int) : (Tm.va n).n = n := rfl
theorem va_l (n : Int) : (Tm.va n).l = [] := rfl
theorem va_s (n : Int) : (Tm.va n).s = ⟨#[]⟩ := rfl
theorem at_k (s : ByteArray) : (Tm.at' s).k = 3 := rfl
theorem at_n (s : ByteArray) : (Tm.at' s).n = 0 := rfl
theorem at_l (s : ByteArray) : (Tm.at' s).l = [] := rfl
theorem at_s (s : ByteArray) : (Tm.at' s).s = s := rfl
theorem fn_k (s : ByteArray) (l : List Tm) : (Tm.fn s l).k = 5 := rfl
theorem fn_n (s : ByteArray) (l : List Tm) : (Tm.fn s l).n = 0 := rfl
theorem fn_l (s : ByteArray) (l : List Tm) : (Tm.fn s l).l = l := rfl
theorem fn_s (s : ByteArray) (l : List Tm) : (Tm.fn s l).s = s := rfl
theorem mk_fn (s : ByteArray) (l : List Tm) : Tm.mk 5 0 s l = Tm.fn s l := rfl
theorem mk_at (s : ByteArray) : Tm.mk 3 0 s [] = Tm.at' s := rfl
theorem mk_va (n : Int) : Tm.mk 1 n ⟨#[]⟩ [] = Tm.va n := rfl
def sX : Tm := Tm.fn sf [Tm.va 0, Tm.fn sd [Tm.at' sa, Tm.at' se]]
theorem sX_ok : isB sX = true := isB_iff.2 ⟨fn_ok nm_f (by decide) (by decide) (by rw [Tm.okBs, va_ok (by decide) (by decide), Tm.okBs, fn_ok nm_d (by decide) (by decide) (by rw [Tm.okBs, at_ok nm_a, Tm.okBs, at_ok nm_e]; rfl)]; rfl), by decide, by decide⟩
theorem sX_size : sX.size = 5 := by rfl
theorem sX_depth : sX.depth = 3 := by rfl
theorem s_cmp : (if allIs [Tm.fn sg [Tm.at' sa], Tm.fn sf [Tm.at' sa, Tm.at' sb]] = true then Tm.ord (Tm.fn sg [Tm.at' sa]) (Tm.fn sf [Tm.at' sa, Tm.at' sb]) else 0) = -1 ∧ errT (allIs [Tm.fn sg [Tm.at' sa], Tm.fn sf [Tm.at' sa, Tm.at' sb]]) = 0 := by
  have h : allIs [Tm.fn sg [Tm.at' sa], Tm.fn sf [Tm.at' sa, Tm.at' sb]] = true := by
    simp only [allIs, List.all_cons, List.all_nil, Bool.and_true, Bool.and_eq_true]
    exact ⟨isB_iff.2 ⟨fn_ok nm_g (by decide) (by decide) (by rw [Tm.okBs, at_ok nm_a]; rfl), by decide, by decide⟩, isB_iff.2 ⟨fn_ok nm_f (by decide) (by decide) (by rw [Tm.okBs, at_ok nm_a, Tm.okBs, at_ok nm_b]; rfl), by decide, by decide⟩⟩
  rw [h]
  refine ⟨?_, rfl⟩
  rw [if_pos rfl, Tm.ord_eq]
  rw [if_pos (by rfl)]
  decide
theorem s_paths : (sX.plc []).map Prod.fst = [[], [0], [1], [1, 0], [1, 1]] := by rfl
theorem fb_va (n : Int) : freeB (Tm.va n) = false := by unfold freeB; rw [if_neg (fun h => absurd h.1 (by show (1 : Int) ≠ 0; decide))]
theorem fb_at (s : ByteArray) : freeB (Tm.at' s) = false := by unfold freeB; rw [if_neg (fun h => absurd h.1 (by show (3 : Int) ≠ 0; decide))]
theorem fb_fn (s : ByteArray) (l : List Tm) : freeB (Tm.fn s l) = false := by unfold freeB; rw [if_neg (fun h => absurd h.1 (by show (5 : Int) ≠ 0; decide))]
theorem fb_zero : freeB Tm.zero = true := freeB_iff.2 rfl
theorem rep_va {F : Int → Option Tm} {n : Int} {x : Tm} (L : Int) (h : F n = some x) : (Tm.va n).rep F L = (x, L - x.size) := Tm.rep_hit F (Tm.va n) L rfl h
theorem rep_at {F : Int → Option Tm} (s : ByteArray) (L : Int) : (Tm.at' s).rep F L = (Tm.at' s, L - 1) := by
  rw [Tm.rep_def F (Tm.at' s) L (fun x h => absurd h (by show (3 : Int) ≠ 1; decide)), at_l, Tm.reps_nil]; rfl
theorem rep_fn {F : Int → Option Tm} (s : ByteArray) (l : List Tm) (L : Int) : (Tm.fn s l).rep F L = (Tm.fn s (Tm.reps F l (L - 1)).1, (Tm.reps F l (L - 1)).2) := by
  rw [Tm.rep_def F (Tm.fn s l) L (fun x h => absurd h (by show (5 : Int) ≠ 1; decide))]; rfl
theorem one_ok {x : Tm} (h : x.okB = true) : Tm.okBs [x] = true := by rw [Tm.okBs, h]; rfl
theorem two_ok {x y : Tm} (h : x.okB = true) (h2 : y.okB = true) : Tm.okBs [x, y] = true := by rw [Tm.okBs, h, Tm.okBs, h2]; rfl
theorem three_ok {x y z : Tm} (h : x.okB = true) (h2 : y.okB = true) (h3 : z.okB = true) : Tm.okBs [x, y, z] = true := by rw [Tm.okBs, h, two_ok h2 h3]; rfl
def sP : Tm := Tm.fn sf [Tm.va 0, Tm.va 1]
def sQ : List Tm := [Tm.fn sg [Tm.va 1], Tm.at' sa]
def sR : Tm := Tm.fn sf [Tm.fn sg [Tm.va 1], Tm.at' sa]
theorem va0 : (Tm.va 0).okB = true := va_ok (by decide) (by decide)
theorem va1 : (Tm.va 1).okB = true := va_ok (by decide) (by decide)
theorem va2 : (Tm.va 2).okB = true := va_ok (by decide) (by decide)
theorem sP_ok : isB sP = true := isB_iff.2 ⟨fn_ok nm_f (by decide) (by decide) (two_ok va0 va1), by decide, by decide⟩
theorem sR_ok : isB sR = true := isB_iff.2 ⟨fn_ok nm_f (by decide) (by decide) (two_ok (fn_ok nm_g (by decide) (by decide) (one_ok va1)) (at_ok nm_a)), by decide, by decide⟩
theorem sQ_sub : subB sQ = true := by
  have h1 : isB (Tm.fn sg [Tm.va 1]) = true := isB_iff.2 ⟨fn_ok nm_g (by decide) (by decide) (one_ok va1), by decide, by decide⟩
  have h2 : isB (Tm.at' sa) = true := isB_iff.2 ⟨at_ok nm_a, by decide, by decide⟩
  unfold subB sQ
  simp only [List.any_cons, List.any_nil, badB, h1, h2, fb_fn, fb_at]
  rfl
theorem pick0 : pickF sQ 0 = some (Tm.fn sg [Tm.va 1]) := by
  show (if freeB (Tm.fn sg [Tm.va 1]) = true then none else some _) = _
  rw [fb_fn]; rfl
theorem pick1 : pickF sQ 1 = some (Tm.at' sa) := by
  show (if freeB (Tm.at' sa) = true then none else some _) = _
  rw [fb_at]; rfl
theorem s_subst : substR sP sQ = some sR ∧ substE sP sQ = 2 := by
  have hr : sP.rep (pickF sQ) 4000 = (sR, 3996) := by
    unfold sP sR
    rw [rep_fn, Tm.reps_cons, if_neg (by decide), rep_va _ pick0]
    simp only
    rw [Tm.reps_cons, if_neg (by decide), rep_va _ pick1]
    simp only
    rw [Tm.reps_nil]
    rfl
  unfold substR substE
  rw [sP_ok, sQ_sub, if_pos ⟨rfl, rfl⟩]
  refine ⟨?_, rfl⟩
  unfold repT
  rw [hr, if_neg (by decide), sR_ok]; rfl
def sM : Tm := Tm.fn sf [Tm.va 0, Tm.va 0]
def sM1 : Tm := Tm.fn sf [Tm.at' sa, Tm.at' sa]
def sM2 : Tm := Tm.fn sf [Tm.at' sa, Tm.at' sb]
theorem sM_all : allIs [sM, sM1] = true ∧ allIs [sM, sM2] = true := by
  have h0 : isB sM = true := isB_iff.2 ⟨fn_ok nm_f (by decide) (by decide) (two_ok va0 va0), by decide, by decide⟩
  have h1 : isB sM1 = true := isB_iff.2 ⟨fn_ok nm_f (by decide) (by decide) (two_ok (at_ok nm_a) (at_ok nm_a)), by decide, by decide⟩
  have h2 : isB sM2 = true := isB_iff.2 ⟨fn_ok nm_f (by decide) (by decide) (two_ok (at_ok nm_a) (at_ok nm_b)), by decide, by decide⟩
  simp [allIs, h0, h1, h2]
theorem sM_vars : varsL [sM] = [0] := by rfl
theorem mat_va (n : Int) (u : Tm) (sub : List Tm) {x : Tm} (h : sub[n.toNat]? = some x) : (Tm.va n).mat u sub = if freeB x = true then (sub.set n.toNat u, true) else (sub, sameB x u) := by
  rw [Tm.mat_eq, if_pos (show (Tm.va n).k = 1 from rfl), va_n, h]
theorem mat_fn (s : ByteArray) (l : List Tm) (u : Tm) (sub : List Tm) : (Tm.fn s l).mat u sub = if 5 = u.k ∧ 0 = u.n ∧ s.toList = u.s.toList ∧ l.length = u.l.length then Tm.mats l u.l sub else (sub, false) := by
  rw [Tm.mat_eq, if_neg (by show (5 : Int) ≠ 1; decide)]; rfl
theorem s_match1 : matchR sM sM1 = some [Tm.at' sa] := by
  have h : sM.mat sM1 [Tm.zero] = ([Tm.at' sa], true) := by
    unfold sM sM1
    rw [mat_fn, if_pos ⟨rfl, rfl, rfl, rfl⟩, fn_l, Tm.mats_cons, mat_va 0 _ _ (x := Tm.zero) rfl, fb_zero]
    rw [if_pos (show (if true = true then (([Tm.zero] : List Tm).set (Int.toNat 0) (Tm.at' sa), true) else ([Tm.zero], sameB Tm.zero (Tm.at' sa))).2 = true from rfl)]
    show Tm.mats [Tm.va 0] [Tm.at' sa] [Tm.at' sa] = _
    rw [Tm.mats_cons, mat_va 0 _ _ (x := Tm.at' sa) rfl, fb_at]
    rw [if_pos (show (if false = true then (([Tm.at' sa] : List Tm).set (Int.toNat 0) (Tm.at' sa), true) else ([Tm.at' sa], sameB (Tm.at' sa) (Tm.at' sa))).2 = true from sameB_refl _)]
    rw [Tm.mats_nil]; rfl
  unfold matchR
  rw [sM_vars]
  show (if (sM.mat sM1 [Tm.zero]).2 = true then some (sM.mat sM1 [Tm.zero]).1 else none) = _
  rw [h]; rfl
theorem s_match2 : matchR sM sM2 = none := by
  have h : (sM.mat sM2 [Tm.zero]).2 = false := by
    unfold sM sM2
    rw [mat_fn, if_pos ⟨rfl, rfl, rfl, rfl⟩, fn_l, Tm.mats_cons, mat_va 0 _ _ (x := Tm.zero) rfl, fb_zero]
    rw [if_pos (show (if true = true then (([Tm.zero] : List Tm).set (Int.toNat 0) (Tm.at' sa), true) else ([Tm.zero], sameB Tm.zero (Tm.at' sa))).2 = true from rfl)]
    show (Tm.mats [Tm.va 0] [Tm.at' sb] [Tm.at' sa]).2 = _
    have hne : sameB (Tm.at' sa) (Tm.at' sb) = false := sameB_false.2 (fun e => by
      have h1 := congrArg (fun t => t.s.data) e
      exact absurd h1 (by decide))
    rw [Tm.mats_cons, mat_va 0 _ _ (x := Tm.at' sa) rfl, fb_at]
    rw [if_neg (show ¬ (if false = true then (([Tm.at' sa] : List Tm).set (Int.toNat 0) (Tm.at' sb), true) else ([Tm.at' sa], sameB (Tm.at' sa) (Tm.at' sb))).2 = true from by show ¬ sameB (Tm.at' sa) (Tm.at' sb) = true; rw [hne]; decide)]
  unfold matchR
  rw [sM_vars]
  show (if (sM.mat sM2 [Tm.zero]).2 = true then some (sM.mat sM2 [Tm.zero]).1 else none) = _
  rw [h]; rfl
theorem s_check0 : isB Tm.zero = false := by
  rw [← Bool.not_eq_true]
  intro h
  have h1 := (node_fit (okB_node (isB_iff.1 h).1)).1.1
  exact absurd h1 (by show ¬ (1 : Int) ≤ 0; decide)
theorem s_ne {a b : ByteArray} (h : a.data ≠ b.data) : a.toList ≠ b.toList := fun e => h (by rw [bytes_ext e])
theorem gen_leaf {t u : Tm} (p : List (Tm × Tm)) (h : t.s.data ≠ u.s.data) : t.gen u p = (Tm.va (pidx p (t, u)), padd p (t, u)) := by
  rw [Tm.gen_eq, if_neg (fun e => s_ne h e.2.2.2.1)]
theorem gen_fn (s : ByteArray) (l l' : List Tm) (p : List (Tm × Tm)) (hl : l.length = l'.length) : (Tm.fn s l).gen (Tm.fn s l') p = (Tm.fn s (Tm.gens l l' p).1, (Tm.gens l l' p).2) := by
  rw [Tm.gen_eq, if_pos ⟨rfl, by show (5 : Int) ≠ 1; decide, rfl, rfl, hl⟩]; rfl
theorem at_ne {a b : ByteArray} (h : a.data ≠ b.data) : Tm.at' a ≠ Tm.at' b := fun e => h (congrArg (fun t => t.s.data) e)
def sG1 : Tm := Tm.fn sf [Tm.at' sa, Tm.fn sg [Tm.at' sa], Tm.at' sa]
def sG2 : Tm := Tm.fn sf [Tm.at' sb, Tm.fn sg [Tm.at' sb], Tm.at' sc]
def sG : Tm := Tm.fn sf [Tm.va 0, Tm.fn sg [Tm.va 0], Tm.va 1]
theorem sG_all : allIs [sG1, sG2] = true := by
  have h1 : isB sG1 = true := isB_iff.2 ⟨fn_ok nm_f (by decide) (by decide) (three_ok (at_ok nm_a) (fn_ok nm_g (by decide) (by decide) (one_ok (at_ok nm_a))) (at_ok nm_a)), by decide, by decide⟩
  have h2 : isB sG2 = true := isB_iff.2 ⟨fn_ok nm_f (by decide) (by decide) (three_ok (at_ok nm_b) (fn_ok nm_g (by decide) (by decide) (one_ok (at_ok nm_b))) (at_ok nm_c)), by decide, by decide⟩
  simp [allIs, h1, h2]
theorem s_gen : genR sG1 sG2 = sG := by
  have p1 : pidx [] (Tm.at' sa, Tm.at' sb) = 0 := pidx_not (by simp)
  have d1 : padd [] (Tm.at' sa, Tm.at' sb) = [(Tm.at' sa, Tm.at' sb)] := by unfold padd; rw [if_neg (by simp)]; rfl
  have p2 : pidx [(Tm.at' sa, Tm.at' sb)] (Tm.at' sa, Tm.at' sb) = 0 := by have := pidx_lt (p := [(Tm.at' sa, Tm.at' sb)]) (q := (Tm.at' sa, Tm.at' sb)) (by simp); simp at this; exact this
  have d2 : padd [(Tm.at' sa, Tm.at' sb)] (Tm.at' sa, Tm.at' sb) = [(Tm.at' sa, Tm.at' sb)] := by unfold padd; rw [if_pos (by simp)]
  have hn : (Tm.at' sa, Tm.at' sc) ∉ [(Tm.at' sa, Tm.at' sb)] := by
    intro h
    rw [List.mem_singleton] at h
    exact at_ne (a := sc) (b := sb) (by decide) (congrArg Prod.snd h)
  have p3 : pidx [(Tm.at' sa, Tm.at' sb)] (Tm.at' sa, Tm.at' sc) = 1 := pidx_not hn
  have g1 : ∀ p, Tm.gen (Tm.at' sa) (Tm.at' sb) p = _ := fun p => gen_leaf p (by show sa.data ≠ sb.data; decide)
  have g2 : ∀ p, Tm.gen (Tm.at' sa) (Tm.at' sc) p = _ := fun p => gen_leaf p (by show sa.data ≠ sc.data; decide)
  unfold genR sG1 sG2 sG
  rw [gen_fn sf [Tm.at' sa, Tm.fn sg [Tm.at' sa], Tm.at' sa] [Tm.at' sb, Tm.fn sg [Tm.at' sb], Tm.at' sc] [] rfl]
  simp only
  rw [Tm.gens_cons, g1, p1, d1]
  simp only
  rw [Tm.gens_cons, gen_fn sg [Tm.at' sa] [Tm.at' sb] _ rfl, Tm.gens_cons, g1, p2, d2]
  simp only
  rw [Tm.gens_nil]
  simp only
  rw [Tm.gens_cons, g2, p3]
  simp only
  rw [Tm.gens_nil]
  rfl
def sN : List Tm := [Tm.fn sf [Tm.va 2, Tm.va 0], Tm.va 2]
def sN' : List Tm := [Tm.fn sf [Tm.va 0, Tm.va 1], Tm.va 0]
theorem sN_all : allB sN = true := allB_iff.2 ⟨two_ok (fn_ok nm_f (by decide) (by decide) (two_ok va2 va0)) va2, by decide, by decide⟩
theorem sN_vars : varsL sN = [2, 0] := by rfl
theorem s_norm : normR sN = sN' := by
  have v2 : nowOf [2, 0] 2 2 = 0 := by decide
  have v0 : nowOf [2, 0] 2 0 = 1 := by decide
  have f2 : nowF (nowOf [2, 0] 2) 2 = some (Tm.va 0) := by unfold nowF; rw [v2]
  have f0 : nowF (nowOf [2, 0] 2) 0 = some (Tm.va 1) := by unfold nowF; rw [v0]
  have h1 : (Tm.fn sf [Tm.va 2, Tm.va 0]).rep (nowF (nowOf [2, 0] 2)) 4000 = (Tm.fn sf [Tm.va 0, Tm.va 1], 3997) := by
    rw [rep_fn, Tm.reps_cons, if_neg (by decide), rep_va _ f2]
    simp only
    rw [Tm.reps_cons, if_neg (by decide), rep_va _ f0]
    simp only
    rw [Tm.reps_nil]
    rfl
  have h2 : (Tm.va 2).rep (nowF (nowOf [2, 0] 2)) 4000 = (Tm.va 0, 3999) := by rw [rep_va _ f2]; rfl
  have i1 : isB (Tm.fn sf [Tm.va 0, Tm.va 1]) = true := sP_ok
  have i2 : isB (Tm.va 0) = true := isB_iff.2 ⟨va0, by decide, by decide⟩
  unfold normR
  rw [sN_vars]
  show [normT (nowOf [2, 0] 2) (Tm.fn sf [Tm.va 2, Tm.va 0]), normT (nowOf [2, 0] 2) (Tm.va 2)] = _
  have n1 : repT (nowF (nowOf [2, 0] 2)) (Tm.fn sf [Tm.va 2, Tm.va 0]) = some (Tm.fn sf [Tm.va 0, Tm.va 1]) := by
    unfold repT
    rw [h1]
    show (if (3997 : Int) < 0 then none else if isB (Tm.fn sf [Tm.va 0, Tm.va 1]) = true then some (Tm.fn sf [Tm.va 0, Tm.va 1]) else none) = _
    rw [i1]; rfl
  have n2 : repT (nowF (nowOf [2, 0] 2)) (Tm.va 2) = some (Tm.va 0) := by
    unfold repT
    rw [h2]
    show (if (3999 : Int) < 0 then none else if isB (Tm.va 0) = true then some (Tm.va 0) else none) = _
    rw [i2]; rfl
  unfold normT
  rw [n1, n2]
  rfl
end Go.Proofs.Ytfhgknmkpegpbaa

/- How the arguments of the statements about layer 1 are read: trees, lists of trees, lists of numbers. -/
set_option linter.unusedVariables false
set_option linter.unusedSimpArgs false
namespace Go.Proofs.Ytfhgknmkpegpbaa
open Go.ChangeShapes Go.WideShapes Go.Deep Go.RowKit Go.Joins Go.ChangeAt

section
variable {H : Type} {enc : TypeId × Value → H} {w : World}
theorem addr_spot {a : Addr} {v : Value} (h : w.cell? a = some v) : a = ⟨a.block, a.off, none⟩ := by
  obtain ⟨b, o, s⟩ := a
  cases s with
  | none => rfl
  | some s =>
    unfold World.cell? at h
    cases hh : w.heap[b]? with
    | none => rw [hh] at h; cases h
    | some o => cases o <;> rw [hh] at h <;> simp at h
theorem add_spot {a : Addr} (n : Nat) (h : a = ⟨a.block, a.off, none⟩) : a.add n = ⟨a.block, a.off + n, none⟩ := by
  unfold Addr.add
  split
  · rename_i h0; subst h0; exact h
  · rfl
theorem rd_of {T : Type} (encT : T → List Value) (R : T → Prop) (k : Nat) (hk : ∀ x, (encT x).length = k) (h0 : 0 < k) {a : Addr} {len : Nat} (hlen : len ≠ 0)
    (H : ∀ i, i < len → ∃ x : T, R x ∧ ∀ j u, (encT x)[j]? = some u → w.cell? (a.add (i * k + j)) = some u) : ∃ xs : List T, xs.length = len ∧ (∀ x ∈ xs, R x) ∧ a = ⟨a.block, a.off, none⟩ ∧ Rd w (some a) (xs.flatMap encT) := by
  classical
  obtain ⟨x0, hr0, hx0⟩ := H 0 (by omega)
  let f : Nat → T := fun i => if h : i < len then Classical.choose (H i h) else x0
  have hf : ∀ i, i < len → R (f i) ∧ ∀ j u, (encT (f i))[j]? = some u → w.cell? (a.add (i * k + j)) = some u := by
    intro i hi
    have : f i = Classical.choose (H i hi) := dif_pos hi
    rw [this]
    exact Classical.choose_spec (H i hi)
  have hsp : a = ⟨a.block, a.off, none⟩ := by
    have h1 : ∃ u, (encT x0)[0]? = some u := ⟨_, List.getElem?_eq_getElem (by rw [hk]; exact h0)⟩
    obtain ⟨u, hu⟩ := h1
    have := hx0 0 u hu
    rw [show 0 * k + 0 = 0 by omega] at this
    exact addr_spot (a := a) (by simpa [Addr.add] using this)
  have hll : ((List.range len).map f).length = len := by simp
  refine ⟨(List.range len).map f, hll, fun x hx => ?_, hsp, fun _ => ⟨a.block, a.off, congrArg some hsp, fun j v hj => ?_⟩⟩
  · obtain ⟨i, hi, rfl⟩ := List.mem_map.1 hx
    exact (hf i (List.mem_range.1 hi)).1
  have hjl : j < (((List.range len).map f).flatMap encT).length := (List.getElem?_eq_some_iff.1 hj).1
  rw [flatMap_len encT k hk, hll] at hjl
  have hi : j / k < len := Nat.div_lt_of_lt_mul (by rw [Nat.mul_comm]; exact hjl)
  have hjm : j % k < k := Nat.mod_lt _ h0
  have hdm : j / k * k + j % k = j := by rw [Nat.mul_comm]; exact Nat.div_add_mod j k
  have hget : ((List.range len).map f)[j / k]? = some (f (j / k)) := by simp [hi]
  have h2 := flatMap_get encT k hk _ _ (j % k) _ hget hjm
  rw [hdm, hj] at h2
  have := (hf _ hi).2 (j % k) v h2.symm
  rw [hdm, add_spot _ hsp] at this
  exact this
set_option maxRecDepth 100000 in
theorem trod_terms (n : Nat) : ∀ (fuel : Nat) (cs : List Value) (x : DataW H × List MemPlace), fuel ≤ n → DataW.trod enc Try.prog w 0 (fun _ => true) true fuel 22 cs = some x → ∃ A c l, cs = [.slice A l.length c] ∧ TmC (fun _ => True) w A c l := by
  induction n with
  | zero => intro fuel cs x hf h; have : fuel = 0 := by omega
            subst this; simp [DataW.trod] at h
  | succ n ih =>
    intro fuel cs x hf h
    have hC : Try.prog.cellsOf 25 = 4 := by kernel_rfl
    rcases DataW.trod_slice Try.underlying22 h with h0 | ⟨a, len, cap, elems, rest, m, rfl, rfl, hx, hb, hl, hm, hlen, hel, -, -⟩
    · exact ⟨none, 0, [], h0.1, TmC.nil _ _ (by omega) (fun _ => rfl)⟩
    · rw [hC] at hel
      have hcap : cap ≤ 9223372036854775807 := by simpa [maxLen] using hm
      by_cases hz : len = 0
      · subst hz
        exact ⟨some a, cap, [], rfl, TmC.nil _ _ hcap (fun e => by cases e)⟩
      obtain ⟨es, hes, hR, hsp, hrd⟩ := rd_of (w := w) encE (fun e : EV => e.1.s.size ≤ 9223372036854775807 ∧ TmC (fun _ => True) w e.2.1 e.2.2 e.1.l) 4 (fun _ => rfl) (by omega) (a := a) hz (fun i hi => by
        have h1 := hel i hi
        have h2 : ∃ y, elems[i]? = some y := ⟨_, List.getElem?_eq_getElem (by omega)⟩
        obtain ⟨y, hy⟩ := h2
        rw [hy] at h1
        cases hc : w.cells? 0 (a.add (i * 4)) 4 with
        | none => rw [hc] at h1; cases h1
        | some cs' =>
          rw [hc] at h1
          have h1' : DataW.trod enc Try.prog w 0 (fun _ => true) true m 25 cs' = some y := h1
          obtain ⟨-, hcl, hcell⟩ := World.cells?_some hc
          obtain ⟨xs, m', rfl, hxy, hcsl, hxl, hfld⟩ := DataW.trod_struct Try.underlying25 h1'
          match cs', hcl with
          | [v0, v1, v2, v3], _ =>
            have hf0 : DataW.trod enc Try.prog w 0 (fun _ => true) true m' 3 (([v0, v1, v2, v3].drop 0).take (Try.prog.cellsOf 3)) = xs[0]? := hfld 0 _ rfl
            have hf1 : DataW.trod enc Try.prog w 0 (fun _ => true) true m' 3 (([v0, v1, v2, v3].drop 1).take (Try.prog.cellsOf 3)) = xs[1]? := hfld 1 _ rfl
            have hf2 : DataW.trod enc Try.prog w 0 (fun _ => true) true m' 9 (([v0, v1, v2, v3].drop 2).take (Try.prog.cellsOf 9)) = xs[2]? := hfld 2 _ rfl
            have hf3 : DataW.trod enc Try.prog w 0 (fun _ => true) true m' 22 (([v0, v1, v2, v3].drop 3).take (Try.prog.cellsOf 22)) = xs[3]? := hfld 3 _ rfl
            have c1 : Try.prog.cellsOf 3 = 1 := by kernel_rfl
            have c9 : Try.prog.cellsOf 9 = 1 := by kernel_rfl
            have c22 : Try.prog.cellsOf 22 = 1 := by kernel_rfl
            rw [c1] at hf0 hf1
            rw [c9] at hf2
            rw [c22] at hf3
            have hxs : xs.length = 4 := hxl
            match xs, hxs with
            | [y0, y1, y2, y3], _ =>
              obtain ⟨z0, q0, _, _⟩ := DataW.trod_int (x := y0) Try.underlying3 hf0
              obtain ⟨z1, q1, _, _⟩ := DataW.trod_int (x := y1) Try.underlying3 hf1
              obtain ⟨s, q2, _, hss⟩ := DataW.trod_string (x := y2) Try.underlying9 hf2
              obtain ⟨A', c', l', q3, hT⟩ := ih m' _ y3 (by omega) hf3
              simp only [List.drop_zero, List.drop_succ_cons, List.take_succ_cons, List.take_zero, List.cons.injEq, and_true] at q0 q1 q2 q3
              subst q0 q1 q2 q3
              have hs9 : s.size ≤ 9223372036854775807 := by simpa [maxLen] using hss
              refine ⟨(.mk z0 z1 s l', A', c'), ⟨hs9, hT⟩, fun j u hu => ?_⟩
              have hj : j < 4 := (List.getElem?_eq_some_iff.1 hu).1
              rw [← Go.Deep.add_add, hcell j hj]
              exact hu)
      refine ⟨some a, cap, es.map (fun e => e.1), by rw [List.length_map, hes], .mk es rfl (by rw [List.length_map, hes]; exact hl) hcap (fun e => by cases e) (fun _ => ⟨a.block, a.off, congrArg some hsp, trivial⟩) hrd (fun e he => (hR e he).1) (fun e he => (hR e he).2)⟩
end
set_option maxRecDepth 100000 in
theorem view_terms {H : Type} {enc : TypeId × Value → H} {w : World} {v : Value} {d : DataW H} {p : List MemPlace} {r : Reach} {b0 : Nat} (hv : Value.okWide Try.prog w r b0 22 v) (h : DataW.Trod enc Try.prog w 0 (fun _ => true) true 22 v d p) :
    ∃ A c l, v = .slice A l.length c ∧ TmC (fun _ => True) w A c l := by
  obtain ⟨a, n, c, rfl⟩ := okWide_slice Try.underlying22 hv
  obtain ⟨fuel, hf⟩ := h
  obtain ⟨A, c', l, hcs, hT⟩ := trod_terms fuel fuel _ _ (Nat.le_refl _) hf
  simp [Value.cells] at hcs
  obtain ⟨rfl, rfl, rfl⟩ := hcs
  exact ⟨_, _, l, rfl, hT⟩
set_option maxRecDepth 100000 in
theorem view_term {H : Type} {enc : TypeId × Value → H} {w : World} {v : Value} {d : DataW H} {p : List MemPlace} {r : Reach} {b0 : Nat} (hv : Value.okWide Try.prog w r b0 25 v) (h : DataW.Trod enc Try.prog w 0 (fun _ => true) true 25 v d p) :
    ∃ t, TmV (fun _ => True) w v t := by
  obtain ⟨cs, rfl, hsz⟩ := okWide_struct Try.underlying25 hv
  obtain ⟨l⟩ := cs
  have hC : Try.prog.cellsOf 25 = 4 := by kernel_rfl
  match l, hsz.trans hC with
  | [v0, v1, v2, v3], _ =>
    obtain ⟨fuel, hf⟩ := h
    obtain ⟨xs, m', rfl, hxy, hcsl, hxl, hfld⟩ := DataW.trod_struct Try.underlying25 hf
    have hxs : xs.length = 4 := hxl
    match xs, hxs with
    | [y0, y1, y2, y3], _ =>
      have hf0 : DataW.trod enc Try.prog w 0 (fun _ => true) true m' 3 (([v0, v1, v2, v3].drop 0).take (Try.prog.cellsOf 3)) = some y0 := hfld 0 _ rfl
      have hf1 : DataW.trod enc Try.prog w 0 (fun _ => true) true m' 3 (([v0, v1, v2, v3].drop 1).take (Try.prog.cellsOf 3)) = some y1 := hfld 1 _ rfl
      have hf2 : DataW.trod enc Try.prog w 0 (fun _ => true) true m' 9 (([v0, v1, v2, v3].drop 2).take (Try.prog.cellsOf 9)) = some y2 := hfld 2 _ rfl
      have hf3 : DataW.trod enc Try.prog w 0 (fun _ => true) true m' 22 (([v0, v1, v2, v3].drop 3).take (Try.prog.cellsOf 22)) = some y3 := hfld 3 _ rfl
      rw [show Try.prog.cellsOf 3 = 1 from by kernel_rfl] at hf0 hf1
      rw [show Try.prog.cellsOf 9 = 1 from by kernel_rfl] at hf2
      rw [show Try.prog.cellsOf 22 = 1 from by kernel_rfl] at hf3
      obtain ⟨z0, q0, _, _⟩ := DataW.trod_int Try.underlying3 hf0
      obtain ⟨z1, q1, _, _⟩ := DataW.trod_int Try.underlying3 hf1
      obtain ⟨s, q2, _, hss⟩ := DataW.trod_string Try.underlying9 hf2
      obtain ⟨A', c', l', q3, hT⟩ := trod_terms m' m' _ _ (Nat.le_refl _) hf3
      simp only [List.drop_zero, List.drop_succ_cons, List.take_succ_cons, List.take_zero, List.cons.injEq, and_true] at q0 q1 q2 q3
      subst q0 q1 q2 q3
      have hs9 : s.size ≤ 9223372036854775807 := by simpa [maxLen] using hss
      exact ⟨.mk z0 z1 s l', A', c', rfl, hs9, hT⟩
end Go.Proofs.Ytfhgknmkpegpbaa
