/- Part 3 of the base: the walks and plain facts that the statement rests on. -/
import Derived.Maps.AppendAt
import Derived.Test.YtfhgknmkpegpbaaM2
import Derived.RangeFuncNested
import Derived.RangeFuncBound
import Derived.RangeFuncCalls
import Derived.RangeFuncLeaves
import Derived.Shelf.Abstract
import Derived.Shelf.RegionOpen
import Derived.WalkKit
import Derived.OwnWalkIn
import Derived.TacticsInMore
import Derived.LoopNIn
import Derived.LoopIn
import Derived.Maps.OwnIn

set_option linter.unusedVariables false
set_option linter.unusedSimpArgs false
namespace Go.Proofs.Ytfhgknmkpegpbaa
open Go.RowKit
def RowT (N : Nat) (P : Nat → Prop) (w : World) (v : Value) (l : List Tm) : Prop :=
 ∃ es : List EV, l = es.map (fun e => e.1) ∧ w.ownsRow N 25 4 v es.length (es.flatMap encE) ∧ ∀ e ∈ es, e.1.s.size ≤ 9223372036854775807 ∧ TmC (fun g => P g ∧ some g ≠ v.ownBlock ∧ g < w.heap.size) w e.2.1 e.2.2 e.1.l
theorem encE_len (x : EV) : (encE x).length = 4 := rfl
theorem RowT.nil (N : Nat) (P : Nat → Prop) (w : World) : RowT N P w (.slice none 0 0) [] := ⟨[], rfl, World.ownsRow_nil _ _ _ _, fun e h => by simp at h⟩
theorem RowT.below {N : Nat} {P : Nat → Prop} {w w' : World} {v : Value} {l : List Tm} {B : Nat} (h : RowT N P w v l) (hb : Below B w w') (hB : w.heap.size ≤ B) : RowT N P w' v l := by
 obtain ⟨es, h1, h2, h3⟩ := h
 exact ⟨es, h1, own_below h2 hb hB, fun e he => ⟨(h3 e he).1, ((h3 e he).2.stay hb hB).mono fun g hg => ⟨hg.1, hg.2.1, Nat.lt_of_lt_of_le hg.2.2 hb.size⟩⟩⟩
theorem own_at {w : World} {N n c : Nat} {A : Option Addr} {es : List EV} (h : w.ownsRow N 25 4 (.slice A n c) es.length (es.flatMap encE)) (hne : es ≠ []) : ∃ g, A = some ⟨g, 0, none⟩ ∧ N ≤ g ∧ (Value.slice A n c).ownBlock = some g := by
 rcases h.2 with ⟨hv, hn⟩ | ⟨g, cap, cur, hv, hg, _⟩
 ·exact absurd (List.length_eq_zero_iff.1 hn) hne
 ·injection hv with h1 _ _
  subst h1
  exact ⟨g, rfl, hg, by simp [Value.ownBlock]⟩
theorem RowT.toC {N : Nat} {P : Nat → Prop} {w : World} {v : Value} {l : List Tm} (h : RowT N P w v l) : ∃ A c, v = .slice A l.length c ∧ TmC (fun g => P g ∨ some g = v.ownBlock) w A c l := by
 obtain ⟨es, rfl, h2, h3⟩ := h
 obtain ⟨A, c, rfl⟩ := own_slice h2
 rw [List.length_map]
 refine ⟨A, c, rfl, ?_⟩
 have hl := own_len encE_len (by omega) h2
 refine .mk es rfl (by rw [List.length_map]; exact hl.1) ?_ hl.2 (fun hne => ?_) (own_rd h2) (fun e he => (h3 e he).1) (fun e he => (h3 e he).2.mono fun g hg => Or.inl hg.1)
 ·rcases h2.2 with ⟨hv, _⟩ | ⟨g, cap, cur, hv, _, _, _, hcm, _⟩
  ·injection hv with _ _ hv; omega
  ·injection hv with _ _ hv; subst hv; simpa [maxLen] using hcm
 ·obtain ⟨g, h4, _, h5⟩ := own_at h2 (by intro e; rw [e] at hne; exact hne rfl)
  exact ⟨g, 0, h4, Or.inr h5.symm⟩
theorem RowT.push {N : Nat} {P P' : Nat → Prop} {w w1 : World} {v v' : Value} {l : List Tm} {t : Tm} {A : Option Addr} {c : Nat} (es : List EV) (hl : l = es.map (fun e => e.1)) (h3 : ∀ e ∈ es, e.1.s.size ≤ 9223372036854775807 ∧ TmC (fun g => P g ∧ some g ≠ v.ownBlock ∧ g < w.heap.size) w e.2.1 e.2.2 e.1.l) (hs : t.s.size ≤ 9223372036854775807) (ht : TmC P' w A c t.l)
  (hP : ∀ g, P' g → P g ∧ some g ≠ v.ownBlock) (h1 : w1.ownsRow N 25 4 v' (es.length + 1) (es.flatMap encE ++ [.int .i64 t.k, .int .i64 t.n, .string t.s, .slice A t.l.length c])) (hg : w.grownBy w1 v.ownBlock)
  (hv : v'.ownBlock = v.ownBlock ∨ v'.ownBlock = some w.heap.size) : RowT N P w1 v' (l ++ [t]) := by
 subst hl
 refine ⟨es ++ [(t, A, c)], by simp, by simpa [encE] using h1, fun e he => ?_⟩
 have hq : ∀ g, (P g ∧ some g ≠ v.ownBlock ∧ g < w.heap.size) → P g ∧ some g ≠ v'.ownBlock ∧ g < w1.heap.size := fun g hg' => by
  refine ⟨hg'.1, ?_, Nat.lt_of_lt_of_le hg'.2.2 hg.size⟩
  rcases hv with e | e
  ·rw [e]; exact hg'.2.1
  ·rw [e]; intro e2; injection e2 with e2; omega
 rcases List.mem_append.1 he with h4 | h4
 ·exact ⟨(h3 e h4).1, ((h3 e h4).2.grown hg (fun g hg' e => hg'.2.1 e.symm)).mono hq⟩
 ·obtain rfl : e = (t, A, c) := by simpa using h4
  have h5 : TmC (fun g => P g ∧ some g ≠ v.ownBlock ∧ g < w.heap.size) w A c t.l := ht.inside.mono (fun g hg' => ⟨(hP g hg'.1).1, (hP g hg'.1).2, hg'.2⟩)
  exact ⟨hs, (h5.grown hg (fun g hg' e => hg'.2.1 e.symm)).mono hq⟩
theorem len_le_sizes (l : List Tm) : l.length ≤ Tm.sizes l := by
 induction l with
 | nil => simp [Tm.sizes]
 | cons x l ih => rw [List.length_cons, Tm.sizes]; have := x.size_pos; omega
def RetM (w : World) (t : Tm) (e : Ending) (w' : World) : Prop :=
 ∃ A c, e = .returned (.agg #[.int .i64 t.k, .int .i64 t.n, .string t.s, .slice A t.l.length c]) ∧ t.s.size ≤ 9223372036854775807 ∧ TmC (w.heap.size ≤ ·) w' A c t.l ∧ Below w.heap.size w w'
theorem info25 : ∃ i0 : TypeInfo, Try.prog.info? 25 = some i0 ∧ i0.zero = some (.agg #[.int .i64 0, .int .i64 0, .string ⟨#[]⟩, .slice none 0 0]) ∧ i0.size = 4 ∧ i0.bytes = 56 := info_parts (by kernel_rfl)
set_option maxRecDepth 100000 in
set_option maxHeartbeats 4000000 in
theorem copied_calls (t : Tm) : ∀ (P : Nat → Prop) (w : World) (v : Value), TmV P w v t → t.size ≤ 1000000 → Calls Try.prog 90 #[v] w (RetM w t) := by
 induction t using Tm.ind with
 | h t ih =>
  intro P w v hv hsz
  obtain ⟨A, c, rfl, hs, hc⟩ := hv
  obtain ⟨i0, hi0⟩ := info25
  have Hi := Lib.hid hi0; clear hi0
  have Ih := Lib.hid ih; clear ih
  obtain ⟨W0, hW0⟩ : ∃ W0, W0 = (w.alloc (.cells #[.int .i64 t.k, .int .i64 t.n, .string t.s, .slice A t.l.length c] 25)).alloc (.cells #[.int .i64 0, .int .i64 0, .string ⟨#[]⟩, .slice none 0 0] 25) := ⟨_, rfl⟩
  have hB0 : Below w.heap.size w W0 := by rw [hW0]; exact ((Below.refl _ _).alloc (Nat.le_refl _) _).alloc (by simp) _
  have hX0 : Blk W0 w.heap.size 25 #[.int .i64 t.k, .int .i64 t.n, .string t.s, .slice A t.l.length c] := by rw [hW0]; exact (Blk.new w 25 _).alloc _
  have hY0 : Blk W0 (w.heap.size + 1) 25 #[.int .i64 0, .int .i64 0, .string ⟨#[]⟩, .slice none 0 0] := by
   rw [hW0]
   have := Blk.new (w.alloc (.cells #[.int .i64 t.k, .int .i64 t.n, .string t.s, .slice A t.l.length c] 25)) 25 #[.int .i64 0, .int .i64 0, .string ⟨#[]⟩, .slice none 0 0]
   rwa [World.size_alloc] at this
  have ly0 := hY0.lt
  have hlc := hc.len.1
  have hlm := hc.len.2.1
  have hll : t.l.length ≤ 1000000 := by
   have h1 := t.size_eq
   have h2 := len_le_sizes t.l
   omega
  have Hc := Lib.hid (hc.stay hB0 (Nat.le_refl _)); clear hc
  have HX0 := Lib.hid hX0; clear hX0
  have HY0 := Lib.hid hY0; clear hY0
  have HB0 := Lib.hid hB0; clear hB0
  have HW := Lib.hid hW0; clear hW0
  obtain ⟨⟨a0, a1, a2, a3⟩, -⟩ := HX0.out.four
  go_enter Try.func90, Try.ntmps90
  go_wp2_with fail
  rw [← HW.out]
  go_wp2
  have hsz0 : w.heap.size + 1 + 1 ≤ W0.heap.size := by omega
  go_loopw [3, 9] (fun v3 i wr => ∃ k : Nat, k ≤ t.l.length ∧ i = .int .i64 k ∧ RowT W0.heap.size (W0.heap.size ≤ ·) wr v3 (t.l.take k) ∧ Below W0.heap.size W0 wr) (fun _ i _ => t.l.length - (intOf i).toNat)
  case atStart => exact ⟨0, Nat.zero_le _, rfl, RowT.nil _ _ _, Below.refl _ _⟩
  case round =>
   obtain ⟨k, hk, rfl, hrw, hB⟩ := hrel
   have HB := Lib.hid hB; clear hB
   by_cases hlt : k < t.l.length
   ·obtain ⟨x, hx⟩ : ∃ x, t.l[k]? = some x := ⟨_, List.getElem?_eq_getElem hlt⟩
    obtain ⟨g, off, Ai, ci, rfl, hPg, ⟨e0, e1, e2, e3⟩, hxs, hxc⟩ := (Hc.out.stay HB.out (Nat.le_refl _)).at_ hx
    have hxm := List.mem_of_getElem? hx
    have Hts := Lib.hid (take_snoc hx)
    have hxz : x.size ≤ 1000000 := by have := Tm.size_child hxm; omega
    have hbb : Below wr.heap.size wr (wr.alloc (.cells #[.int .i64 x.k, .int .i64 x.n, .string x.s, .slice Ai x.l.length ci] 25)) := (Below.refl _ _).alloc (Nat.le_refl _) _
    have hcall := Ih.out x hxm P _ _ ⟨Ai, ci, rfl, hxs, hxc.stay hbb (Nat.le_refl _)⟩ hxz
    have Hcall := Lib.hid hcall; clear hcall hxc hx
    have HBB := Lib.hid hbb; clear hbb
    have Hrw := Lib.hid hrw; clear hrw
    go_wp2_with fail
    refine Hcall.out.mono ?_
    rintro e w2 ⟨A2, c2, rfl, -, hx2, hb2⟩
    have hbr : Below wr.heap.size wr w2 := HBB.out.trans (hb2.mono HBB.out.size)
    have hbr2 : Below wr.heap.size wr (w2.alloc (.cells #[.int .i64 x.k, .int .i64 x.n, .string x.s, .slice A2 x.l.length c2] 25)) := hbr.alloc hbr.size _
    have hrw2 := Hrw.out.below hbr2 (Nat.le_refl _)
    have hx3 := hx2.stay ((Below.refl _ _).alloc (Nat.le_refl _) (.cells #[.int .i64 x.k, .int .i64 x.n, .string x.s, .slice A2 x.l.length c2] 25)) (Nat.le_refl _)
    have hob : ∀ g, wr.heap.size + 1 ≤ g → W0.heap.size ≤ g ∧ some g ≠ u3.ownBlock := fun g hg => by
     refine ⟨by have := HB.out.size; omega, fun e => ?_⟩
     obtain ⟨es, h1, h2, h3⟩ := Hrw.out
     have := (h2.lt g e.symm).2
     omega
    obtain ⟨es, hes, hrow, hch⟩ := hrw2
    have hel : es.length = k := by rw [← List.length_map (f := fun e : EV => e.1), ← hes, List.length_take]; omega
    have Hx3 := Lib.hid hx3; clear hx3 hx2
    have Hob := Lib.hid hob; clear hob
    have Hch := Lib.hid hch
    have Hrow := Lib.hid hrow
    have HB2 := Lib.hid (HB.out.trans (hbr2.mono HB.out.size)); clear hbr2 hbr hb2
    have Hes := Lib.hid hes
    have Hel := Lib.hid hel
    clear hrow hch hes hel
    go_wp2_with (at_builtin; refine wpList_append_own_at _ rfl (.tmp 13) (.tmp 16) 22 rfl W0.heap.size 25 i0 _ 4 56 Try.underlying22 Hi.out.1 Hi.out.2.1 Hi.out.2.2.1 Hi.out.2.2.2 rfl (by decide) u3 es.length (es.flatMap encE) rfl Hrow.out ⟨w2.heap.size, 0, none⟩ 1 1 [.int .i64 x.k, .int .i64 x.n, .string x.s, .slice A2 x.l.length c2] rfl rfl ?c1 ?c2 ?c3 ?c4 ?c5 ?_)
    case c1 =>
     intro j u hu
     rw [add_lit0, (Blk.new w2 25 _).cell j]
     simpa using hu
    case c2 => simp [Value.oneCell']
    case c3 => rw [Hel.out]; simp only [maxLen]; omega
    case c4 => rw [Hel.out]; omega
    case c5 => have := HB2.out.size; simpa using this
    intro v' w4 hown hg _ hbk
    have hnew : RowT W0.heap.size (W0.heap.size ≤ ·) w4 v' (t.l.take (k + 1)) := by
     rw [Hts.out]
     exact RowT.push es Hes.out Hch.out hxs Hx3.out (fun g hg' => Hob.out g (by simpa using hg')) hown hg (by simpa using hbk)
    have HB4 := Lib.hid (HB2.out.grown hg HB2.out.size (fun k hk => (Hrow.out.lt k hk).1))
    have Hnew := Lib.hid hnew
    obtain ⟨A', c', rfl⟩ := own_slice hown
    clear hown hg hbk hnew
    go_wp2
    go_roundw
    case rel => exact ⟨k + 1, by omega, by go_num, Hnew.out, HB4.out⟩
    case measure => simp [intOf]; omega
   ·have hke : k = t.l.length := by omega
    subst hke
    rw [List.take_length] at hrw
    obtain ⟨A2, c2, rfl, h2⟩ := hrw.toC
    have hob : ∀ g, (W0.heap.size ≤ g ∨ some g = (Value.slice A2 t.l.length c2).ownBlock) → W0.heap.size ≤ g := fun g hg => by
     rcases hg with h | h
     ·exact h
     ·obtain ⟨es, h3, h4, h5⟩ := hrw
      exact (h4.lt g h.symm).1
    have H2 := Lib.hid (h2.mono hob); clear h2 hob hrw
    have hX := HX0.out.below HB.out HX0.out.lt
    have hY := HY0.out.below HB.out ly0
    obtain ⟨⟨b0, b1, b2, b3⟩, ⟨f0, f1, f2, f3⟩⟩ := hX.four
    obtain ⟨⟨d0, d1, d2, d3⟩, ⟨g0, g1, g2, g3⟩⟩ := hY.four
    have HX := Lib.hid hX; clear hX
    have HY := Lib.hid hY; clear hY
    go_wp2
    have hF := (((((HY.out.far (p := ⟨w.heap.size, 3, none⟩) (by simp) (.slice A2 t.l.length c2)).set_ 0 (.int .i64 t.k)).set_ 1 (.int .i64 t.n)).set_ 2 (.string t.s)).set_ 3 (.slice A2 t.l.length c2))
    have hT := ((((H2.out.setCell ⟨w.heap.size, 3, none⟩ (.slice A2 t.l.length c2) (fun g h e => by simp at e; omega)).setCell ⟨w.heap.size + 1, 0, none⟩ (.int .i64 t.k) (fun g h e => by simp at e; omega)).setCell ⟨w.heap.size + 1, 1, none⟩ (.int .i64 t.n) (fun g h e => by simp at e; omega)).setCell ⟨w.heap.size + 1, 2, none⟩ (.string t.s) (fun g h e => by simp at e; omega)).setCell ⟨w.heap.size + 1, 3, none⟩ (.slice A2 t.l.length c2) (fun g h e => by simp at e; omega)
    have hBF := (((((HB0.out.trans (HB.out.mono HB0.out.size)).setCell (p := ⟨w.heap.size, 3, none⟩) (Nat.le_refl _) (.slice A2 t.l.length c2)).setCell (p := ⟨w.heap.size + 1, 0, none⟩) (by simp) (.int .i64 t.k)).setCell (p := ⟨w.heap.size + 1, 1, none⟩) (by simp) (.int .i64 t.n)).setCell (p := ⟨w.heap.size + 1, 2, none⟩) (by simp) (.string t.s)).setCell (p := ⟨w.heap.size + 1, 3, none⟩) (by simp) (.slice A2 t.l.length c2)
    obtain ⟨⟨q0, q1, q2, q3⟩, -⟩ := hF.four
    refine bodyPost_ret (v := .agg #[.int .i64 t.k, .int .i64 t.n, .string t.s, .slice A2 t.l.length c2]) ?_ rfl (R := RetM w t) ⟨A2, c2, rfl, hs, hT.mono (fun g h => by omega), hBF⟩
    generalize (World.setCell _ ⟨w.heap.size + 1, 3, none⟩ _) = WF at q0 q1 q2 q3 ⊢
    clear hF hT hBF
    simp [results, Try.results90, go_sem, q0, q1, q2, q3]
end Go.Proofs.Ytfhgknmkpegpbaa
set_option linter.unusedVariables false
set_option linter.unusedSimpArgs false
namespace Go.Proofs.Ytfhgknmkpegpbaa
open Go.RowKit Go.Shelf
attribute [local go_sem] Oper.semAt_some
theorem room_of_none {F : Fence} (hd : F.depth = none) (k : Nat) : F.room k := fun d h => by rw [hd] at h; cases h
theorem roundIn_anyDepth {F : Fence} (hd : F.depth = none) {m m' : Nat} {P : Program} {l : Nat} {f : FuncId} {tmps : Array Value} {assign body : Code} {w : World} {R : Ending → World → Prop}
  (h : RoundIn F m P l f tmps assign body w R) : RoundIn F m' P l f tmps assign body w R := ⟨h.1, fun c cs _ => h.2 c cs (room_of_none hd _)⟩
theorem yieldAt_anyDepth {F : Fence} (hd : F.depth = none) {m : Nat} (m' : Nat) {P : Program} {l : Nat} {args : Array Value} {W : World} {R : Ending → World → Prop} (h : YieldAt F m P l args W R) : YieldAt F m' P l args W R := by
 obtain ⟨fn, tmps, assign, body, hy, hR⟩ := h
 exact ⟨fn, tmps, assign, body, hy, roundIn_anyDepth hd hR⟩
mutual
def Tm.pre : Tm → List Tm | .mk k n s l => Tm.mk k n s l :: Tm.pres l
def Tm.pres : List Tm → List Tm
 | [] => []
 | t :: ts => Tm.pre t ++ Tm.pres ts
end
theorem Tm.pre_eq (t : Tm) : t.pre = t :: Tm.pres t.l := by cases t; rw [Tm.pre]; rfl
theorem Tm.pres_append (a b : List Tm) : Tm.pres (a ++ b) = Tm.pres a ++ Tm.pres b := by
 induction a with
 | nil => rfl
 | cons x a ih => rw [List.cons_append, Tm.pres, Tm.pres, ih, List.append_assoc]
theorem Tm.pre_len_le (n : Nat) : (∀ t : Tm, t.size ≤ n → t.pre.length = t.size) ∧ (∀ l : List Tm, Tm.sizes l ≤ n → (Tm.pres l).length = Tm.sizes l) := by
 induction n with
 | zero =>
  refine ⟨fun t h => by have := t.size_pos; omega, fun l h => ?_⟩
  cases l with
  | nil => rfl
  | cons a l => rw [Tm.sizes] at h; have := a.size_pos; omega
 | succ n ih =>
  have h1 : ∀ t : Tm, t.size ≤ n + 1 → t.pre.length = t.size := fun t h => by
   rw [t.size_eq] at h ⊢
   rw [t.pre_eq, List.length_cons, ih.2 t.l (by omega)]; omega
  refine ⟨h1, fun l => ?_⟩
  induction l with
  | nil => intro _; rfl
  | cons a l ihl =>
   intro h
   rw [Tm.sizes] at h ⊢
   rw [Tm.pres, List.length_append, h1 a (by omega), ihl (by omega)]
theorem Tm.pres_len (l : List Tm) : (Tm.pres l).length = Tm.sizes l := (Tm.pre_len_le _).2 l (Nat.le_refl _)
theorem sizes_append (a b : List Tm) : Tm.sizes (a ++ b) = Tm.sizes a + Tm.sizes b := by
 induction a with
 | nil => simp [Tm.sizes]
 | cons x a ih => rw [List.cons_append, Tm.sizes, Tm.sizes, ih]; omega
theorem sizes_take_le (k : Nat) (l : List Tm) : Tm.sizes (l.take k) ≤ Tm.sizes l := by
 have h := congrArg Tm.sizes (List.take_append_drop k l)
 rw [sizes_append] at h; omega
theorem okB_mem {t x : Tm} (h : t.okB = true) (hx : x ∈ t.l) : x.okB = true := by
 rw [Tm.okB_eq, Bool.and_eq_true] at h
 exact Tm.okBs_mem h.2 hx
abbrev EW (n₀ : Nat) (w0 : World) := {x : EV // x.1.okB = true ∧ x.1.s.size ≤ 9223372036854775807 ∧ TmC (· < n₀) w0 x.2.1 x.2.2 x.1.l}
def EW.tm {n₀ : Nat} {w0 : World} (x : EW n₀ w0) : Tm := x.1.1
def EW.encs {n₀ : Nat} {w0 : World} (x : EW n₀ w0) : Array Value := #[.agg #[.int .i64 x.1.1.k, .int .i64 x.1.1.n, .string x.1.1.s, .slice x.1.2.1 x.1.1.l.length x.1.2.2]]
def KpT (n₀ : Nat) (W W' : World) : Prop := Below n₀ W W' ∧ ∀ g cs, Blk W g 25 cs → Blk W' g 25 cs
theorem KpT.refl (n₀ : Nat) (W : World) : KpT n₀ W W := ⟨Below.refl _ _, fun _ _ h => h⟩
theorem KpT.trans {n₀ : Nat} {A B C : World} (h : KpT n₀ A B) (k : KpT n₀ B C) : KpT n₀ A C := ⟨h.1.trans k.1, fun g cs hb => k.2 g cs (h.2 g cs hb)⟩
theorem KpT.alloc {n₀ : Nat} {W : World} (hn : n₀ ≤ W.heap.size) (o : Obj) : KpT n₀ W (W.alloc o) := ⟨(Below.refl _ _).alloc hn _, fun _ _ h => h.alloc _⟩
theorem Below.putObj_ {n₀ B : Nat} (hn : n₀ ≤ B) (W : World) (l : Nat) (o o' : Obj) (hl : B ≤ l) : Below n₀ W (W.putObj l o') :=
 ⟨rfl, rfl, rfl, by simp, fun k hk => World.putObj_heap_other (fun e => by omega)⟩
theorem kpT_b {n₀ : Nat} {B : Nat} (hn : n₀ ≤ B) (W : World) (l : Nat) (o o' : Obj) (hl : B ≤ l) (h : W.heap[l]? = some o) (hc : o.isCells = false) (hw : o.isWalk = false) : KpT n₀ W (W.putObj l o') := by
 refine ⟨Below.putObj_ hn W l o o' hl, fun g cs hb => ?_⟩
 have hne : g ≠ l := fun e => by
  subst e
  have h1 : W.heap[g]? = some (.cells cs 25 (0, 0)) := hb
  rw [h] at h1
  injection h1 with h1
  subst h1
  simp [Obj.isCells] at hc
 exact (World.putObj_heap_other (fun e => hne e)).trans hb
theorem abides_alloc {β : Type} {B : Nat} {J : β → World → Prop} (h : AbidesFrom B J) {s : β} {W : World} (o : Obj) (hs : J s W) : J s (W.alloc o) :=
 h s W _ none hs (World.grownBy_alloc W o none) (fun r e => by cases e)
set_option maxRecDepth 100000 in
set_option maxHeartbeats 4000000 in
theorem walk_tree (F : Fence) (hd : F.depth = none) (hF : F.fn 135) (hro : F.round = none) (l n₀ N B : Nat) (w0 : World) (J Jx : List (EW n₀ w0) → World → Prop) (hJ : AbidesFrom B J)
  (hY : ∀ m pre x W, J pre W → Below n₀ w0 W → pre.length < N → YieldAt F m Try.prog l (EW.encs x) W fun e W' =>
   (e = .returned (.bool true) ∧ J (pre ++ [x]) W' ∧ KpT n₀ W W') ∨ (e = .returned (.bool false) ∧ Jx (pre ++ [x]) W')) (t : Tm) :
  ∀ (n : Nat) (x0 : EW n₀ w0) (pre : List (EW n₀ w0)) (W : World), x0.1.1 = t → J pre W → Below n₀ w0 W → n₀ ≤ W.heap.size → pre.length + t.size ≤ N →
   CallsIn F n Try.prog 135 #[.agg #[.int .i64 t.k, .int .i64 t.n, .string t.s, .slice x0.1.2.1 t.l.length x0.1.2.2], .func (.yield l) #[] #[]] W fun e W' =>
    (e = .returned (.bool true) ∧ (∃ ys : List (EW n₀ w0), ys.map EW.tm = t.pre ∧ J (pre ++ ys) W') ∧ KpT n₀ W W') ∨ (e = .returned (.bool false) ∧ ∃ ys : List (EW n₀ w0), ys.map EW.tm <+: t.pre ∧ Jx (pre ++ ys) W') := by
 induction t using Tm.ind with
 | h t ih =>
  intro n x0 pre W hx0 hJ0 hb0 hn0 hN
  obtain ⟨⟨t', A, c⟩, ho, hs, hc⟩ := x0
  obtain rfl : t' = t := hx0
  have Ih := Lib.hid ih; clear ih
  have hdd : ∀ k : Nat, (F.depth.isSome = true → 1 ≤ k) := fun k h => by rw [hd] at h; cases h
  have hlc := hc.len.1
  have hlm := hc.len.2.1
  simp only at ho hs hc ⊢
  obtain ⟨W0, hW0⟩ : ∃ W0, W0 = W.alloc (.cells #[.int .i64 t'.k, .int .i64 t'.n, .string t'.s, .slice A t'.l.length c] 25) := ⟨_, rfl⟩
  have hk0 : KpT n₀ W W0 := by rw [hW0]; exact KpT.alloc hn0 _
  have hX0 : Blk W0 W.heap.size 25 #[.int .i64 t'.k, .int .i64 t'.n, .string t'.s, .slice A t'.l.length c] := by rw [hW0]; exact Blk.new _ _ _
  have hJ1 : J pre W0 := by rw [hW0]; exact abides_alloc hJ _ hJ0
  have hyy := hY (n - 1) pre ⟨(t', A, c), ho, hs, hc⟩ W0 hJ1 (hb0.trans hk0.1) (by have := t'.size_pos; omega)
  have hsz0 : n₀ ≤ W0.heap.size := Nat.le_trans hn0 hk0.1.size
  have HK0 := Lib.hid hk0; clear hk0
  obtain ⟨⟨a0, a1, a2, a3⟩, -⟩ := hX0.four
  have HX0 := Lib.hid hX0; clear hX0
  have HB := Lib.hid hb0; clear hb0
  have HW := Lib.hid hW0; clear hW0
  have HN := Lib.hid hN; clear hN
  have HY := Lib.hid hY; clear hY
  obtain ⟨fn, tmps, assign, body, hy, hR⟩ := hyy
  simp only [EW.encs] at hy
  refine callsIn_of_wp Try.func135 rfl hF ?_ hro
  simp only [Try.ntmps135, List.size_toArray, List.length_cons, List.length_nil, Nat.reduceAdd, Nat.reduceSub, Array.replicate_succ, Array.replicate_zero, List.push_toArray, List.append_toArray, List.nil_append, List.cons_append]
  gi_wp2_with fail
  rw [← HW.out]
  rw [hy]
  gi_wp2_with fail
  refine hR.mono ?_
  clear hR hy
  rintro e W1 (⟨rfl, hJ2, hk1⟩ | ⟨rfl, hJx⟩)
  case inr =>
   gi_wp2
   go_ret
   exact .inr ⟨rfl, [⟨(t', A, c), ho, hs, hc⟩], by rw [List.map_cons, List.map_nil, t'.pre_eq]; exact ⟨Tm.pres t'.l, rfl⟩, hJx⟩
  have hX1 := hk1.2 _ _ HX0.out
  obtain ⟨⟨b0, b1, b2, b3⟩, -⟩ := hX1.four
  have hB1 : Below n₀ w0 W1 := HB.out.trans (HK0.out.1.trans hk1.1)
  have HK1 := Lib.hid (HK0.out.trans hk1); clear hk1
  have hsz1 : n₀ ≤ W1.heap.size := Nat.le_trans hn0 HK1.out.1.size
  have HB1 := Lib.hid hB1; clear hB1
  have HX1 := Lib.hid hX1; clear hX1
  have HJ2 := Lib.hid hJ2; clear hJ2
  have HC := Lib.hid hc
  gi_wp2
  gi_loopw [14] (fun i wr => ∃ (k : Nat) (ys : List (EW n₀ w0)), k ≤ t'.l.length ∧ i = .int .i64 k ∧ ys.map EW.tm = Tm.pres (t'.l.take k) ∧ J (pre ++ [⟨(t', A, c), ho, hs, hc⟩] ++ ys) wr ∧ KpT n₀ W1 wr) (fun i _ => t'.l.length - (intOf i).toNat)
  case atStart => exact ⟨0, [], Nat.zero_le _, rfl, rfl, by rw [List.append_nil]; exact HJ2.out, KpT.refl _ _⟩
  case round =>
   obtain ⟨k, ys, hk, rfl, hys, hJ3, hk3⟩ := hrel
   have Hys := Lib.hid hys; clear hys
   have hBr : Below n₀ w0 wr := HB1.out.trans hk3.1
   have hszr : n₀ ≤ wr.heap.size := Nat.le_trans hsz1 hk3.1.size
   have HK3 := Lib.hid hk3; clear hk3
   by_cases hlt : k < t'.l.length
   ·obtain ⟨x, hx⟩ : ∃ x, t'.l[k]? = some x := ⟨_, List.getElem?_eq_getElem hlt⟩
    obtain ⟨g, off, Ai, ci, rfl, hPg, ⟨c0, c1, c2, c3⟩, hxs, hxc⟩ := HC.out.at_ hx
    have e0 := (hBr.cell (p := ⟨g, off + k * 4, none⟩) hPg).trans c0
    have e1 := (hBr.cell (p := ⟨g, off + k * 4 + 1, none⟩) hPg).trans c1
    have e2 := (hBr.cell (p := ⟨g, off + k * 4 + 2, none⟩) hPg).trans c2
    have e3 := (hBr.cell (p := ⟨g, off + k * 4 + 3, none⟩) hPg).trans c3
    clear c0 c1 c2 c3
    have hxm := List.mem_of_getElem? hx
    have Hts := Lib.hid (take_snoc hx)
    have hkr : KpT n₀ wr (wr.alloc (.cells #[.int .i64 x.k, .int .i64 x.n, .string x.s, .slice Ai x.l.length ci] 25)) := KpT.alloc hszr _
    have hsum : (pre ++ [(⟨(t', some ⟨g, off, none⟩, c), ho, hs, hc⟩ : EW n₀ w0)] ++ ys).length + x.size ≤ N := by
     have h1 := HN.out
     have h2 : ys.length = Tm.sizes (t'.l.take k) := by rw [← Tm.pres_len, ← Hys.out, List.length_map]
     have h3 : Tm.sizes (t'.l.take (k + 1)) ≤ Tm.sizes t'.l := sizes_take_le _ _
     rw [Hts.out, sizes_append] at h3
     rw [t'.size_eq] at h1
     simp only [Tm.sizes, Nat.add_zero] at h3
     simp only [List.length_append, List.length_cons, List.length_nil]
     omega
    obtain ⟨xe, hxe⟩ : ∃ xe : EW n₀ w0, xe.1 = (x, Ai, ci) := ⟨⟨(x, Ai, ci), okB_mem ho hxm, hxs, hxc⟩, rfl⟩
    have hcall := Ih.out x hxm (n - 1) xe (pre ++ [⟨(t', some ⟨g, off, none⟩, c), ho, hs, hc⟩] ++ ys) _ (by rw [hxe]) (abides_alloc hJ _ hJ3) (hBr.trans hkr.1) (Nat.le_trans hszr hkr.1.size) hsum
    have HJ3 := Lib.hid hJ3; clear hJ3 hsum hx hxc hxs hBr
    rw [hxe] at hcall
    clear hxe
    have HKr := Lib.hid (HK3.out.trans hkr); clear hkr
    simp only at hcall
    gi_wp2_with ((try refine ⟨hdd _, ?_⟩); gi_at_call 135; refine hcall.mono ?_; clear hcall; rintro e W3 (⟨rfl, ⟨zs, hzs, hJ4⟩, hk4⟩ | ⟨rfl, zs, hzs, hJx⟩))
    ·have HK4 := Lib.hid (HKr.out.trans hk4); clear hk4
     have HJ4 := Lib.hid hJ4; clear hJ4
     have Hzs := Lib.hid hzs; clear hzs
     gi_wp2
     go_roundw
     case rel => exact ⟨k + 1, ys ++ zs, by omega, by go_num, by rw [List.map_append, Hys.out, Hzs.out, Hts.out, Tm.pres_append]; simp [Tm.pres], by rw [← List.append_assoc]; exact HJ4.out, HK4.out⟩
     case measure => simp [intOf]; omega
    ·have Hzs := Lib.hid hzs; clear hzs
     gi_wp2
     go_ret
     refine .inr ⟨rfl, [⟨(t', some ⟨g, off, none⟩, c), ho, hs, hc⟩] ++ ys ++ zs, ?_, by simpa [List.append_assoc] using hJx⟩
     rw [List.map_append, List.map_append, Hys.out, t'.pre_eq]
     refine List.prefix_cons_inj _ |>.2 ?_
     refine (List.prefix_append_right_inj _ |>.2 Hzs.out).trans ?_
     have h1 := congrArg Tm.pres (List.take_append_drop (k + 1) t'.l)
     rw [Tm.pres_append, Hts.out, Tm.pres_append] at h1
     simp only [Tm.pres, List.append_nil] at h1
     exact ⟨_, h1⟩
   ·have hke : k = t'.l.length := by omega
    subst hke
    have Hj := Lib.hid hJ3; clear hJ3
    gi_wp2
    go_ret
    refine .inl ⟨rfl, ⟨[⟨(t', A, c), ho, hs, hc⟩] ++ ys, ?_, by rw [← List.append_assoc]; exact Hj.out⟩, HK1.out.trans HK3.out⟩
    rw [List.map_append, Hys.out, t'.pre_eq, List.take_length]; rfl
set_option maxRecDepth 100000 in
set_option maxHeartbeats 4000000 in
theorem nodes1_in (F : Fence) (hd : F.depth = none) (n : Nat) (h134 : F.fn 134) (h135 : F.fn 135) (hro : F.round = none) (l Bt n₀ : Nat) (w0 : World) (x0 : EW n₀ w0) (J Jx : List (EW n₀ w0) → World → Prop)
  (W : World) (hJ : AbidesFrom W.heap.size J)
  (hY : ∀ pre x W, J pre W → pre.length < x0.1.1.size → YieldAt F (n - 1) Try.prog l (EW.encs x) W fun e W' =>
   (e = .returned (.bool true) ∧ J (pre ++ [x]) W' ∧ KpT n₀ W W') ∨ (e = .returned (.bool false) ∧ Jx (pre ++ [x]) W'))
  (hBt : Blk W Bt 25 #[.int .i64 x0.1.1.k, .int .i64 x0.1.1.n, .string x0.1.1.s, .slice x0.1.2.1 x0.1.1.l.length x0.1.2.2]) (hb0 : Below n₀ w0 W) (hn0 : n₀ ≤ W.heap.size) (h0 : J [] W) :
  CallsIn F n Try.prog 134 #[.func (.yield l) #[] #[], .pointer (some ⟨Bt, 0, none⟩)] W fun e W' => (∃ v, e = .returned v) ∧
   ((∃ ys : List (EW n₀ w0), ys.map EW.tm = x0.1.1.pre ∧ J ys W') ∨ (∃ pre : List (EW n₀ w0), pre.map EW.tm <+: x0.1.1.pre ∧ Jx pre W')) := by
 have hdd : ∀ k : Nat, (F.depth.isSome = true → 1 ≤ k) := fun k h => by rw [hd] at h; cases h
 have hp := walk_tree F hd h135 hro l n₀ x0.1.1.size W.heap.size w0 J Jx hJ (fun m pre x W hj _ hl => yieldAt_anyDepth hd m (hY pre x W hj hl)) x0.1.1 (n - 1) x0 [] W rfl h0 hb0 hn0 (by simp)
 clear hY
 obtain ⟨⟨a0, a1, a2, a3⟩, -⟩ := hBt.four
 refine callsIn_of_wp Try.func134 rfl h134 ?_ hro
 simp only [Try.ntmps134, List.size_toArray, List.length_cons, List.length_nil, Nat.reduceAdd, Nat.reduceSub, Array.replicate_succ, Array.replicate_zero, List.push_toArray, List.append_toArray, List.nil_append, List.cons_append]
 gi_wp2_with ((try refine ⟨hdd _, ?_⟩); gi_at_call 135; refine hp.mono ?_; clear hp; rintro e W1 (⟨rfl, ⟨ys, hys, hJ1⟩, _⟩ | ⟨rfl, ys, hys, hx⟩))
 ·go_end0
  exact ⟨⟨_, rfl⟩, .inl ⟨_, hys, by simpa using hJ1⟩⟩
 ·go_end0
  exact ⟨⟨_, rfl⟩, .inr ⟨ys, hys, by simpa using hx⟩⟩
set_option maxHeartbeats 1000000 in
theorem nodes_in (F : Fence) (n : Nat) (h95 : F.fn 95) (hro : F.round = none) (k n' : Int) (s : ByteArray) (A : Option Addr) (len c : Nat) (w : World) :
  CallsIn F n Try.prog 95 #[.agg #[.int .i64 k, .int .i64 n', .string s, .slice A len c]] w fun e w' => e = .returned (.func (.func 134) #[] #[.pointer (some ⟨w.heap.size, 0, none⟩)]) ∧ w' = w.alloc (.cells #[.int .i64 k, .int .i64 n', .string s, .slice A len c] 25) := by
 refine callsIn_of_wp Try.func95 rfl h95 ?_ hro
 simp only [Try.ntmps95, List.size_toArray, List.length_cons, List.length_nil, Nat.reduceAdd, Nat.reduceSub, Array.replicate_succ, Array.replicate_zero, List.push_toArray, List.append_toArray, List.nil_append, List.cons_append]
 gi_wp2
 go_ret
 exact ⟨rfl, rfl⟩
theorem nodes_stops (F : Fence) (hd : F.depth = none) (n : Nat) (h134 : F.fn 134) (h135 : F.fn 135) (hro : F.round = none) (Bt n₀ : Nat) (w0 : World) (x0 : EW n₀ w0) (w : World) (hn₀ : n₀ ≤ w.heap.size) (hb0 : Below n₀ w0 w)
  (hBt : Blk w Bt 25 #[.int .i64 x0.1.1.k, .int .i64 x0.1.1.n, .string x0.1.1.s, .slice x0.1.2.1 x0.1.1.l.length x0.1.2.2]) :
  SeqStopsK F n Try.prog 134 #[.pointer (some ⟨Bt, 0, none⟩)] (EW.encs (n₀ := n₀) (w0 := w0)) (KpT n₀) (fun ys => ys.map EW.tm = x0.1.1.pre) (fun pre => pre.map EW.tm <+: x0.1.1.pre) x0.1.1.size w := fun l J Jx W hW hJ _ hY h0 =>
 nodes1_in F hd n h134 h135 hro l Bt n₀ w0 x0 J Jx W hJ hY (hBt.below hW hBt.lt) (hb0.trans (hW.mono hn₀)) (Nat.le_trans hn₀ hW.size) h0
end Go.Proofs.Ytfhgknmkpegpbaa
set_option linter.unusedVariables false
set_option linter.unusedSimpArgs false
namespace Go.Proofs.Ytfhgknmkpegpbaa
open Go.RowKit Go.Shelf
attribute [local go_sem] Oper.semAt_some
def MapB (W : World) (b n : Nat) (mem : Int → Bool) : Prop :=
 ∃ D : DataW Unit, W.ownsMap Try.prog 3 (plainElem Try.prog 4) b n D ∧ Maps.IsMap D ∧ ∀ x, D.atKey (.int .i64 x) (.lit (.bool false)) = .lit (.bool (mem x))
theorem MapB.made (w : World) : MapB (w.alloc (.map #[] 0)) w.heap.size 0 (fun _ => false) := ⟨_, World.ownsMap_made w _ _ _, Maps.isMap_empty, fun _ => rfl⟩
theorem MapB.kept {w w' : World} {b n : Nat} {m : Int → Bool} {row : Option Nat} (h : MapB w b n m) (hg : w.grownBy w' row) (hne : some b ≠ row) : MapB w' b n m := by
 obtain ⟨D, h1, h2⟩ := h; exact ⟨D, h1.kept hg hne, h2⟩
theorem plainElem_bool_inv {P : Program} {e : TypeId} (he : P.underlying e = some .bool) {v : Value} {b : Bool} {ps : List MemPlace} (h : plainElem (H := Unit) P e v = some (.lit (.bool b), ps)) : v = .bool b := by
 unfold plainElem at h
 rw [he] at h
 cases v <;> simp at h
 rw [h.1]
theorem MapB.lookup {w : World} {b n : Nat} {m : Int → Bool} (h : MapB w b n m) {x : Int} (hx : (Lit.int .i64 x).wf = true) :
  (Instr.lookup 62 (.map (some b)) (.int .i64 x) false).run Try.prog w = .ok (.bool (m x)) w := by
 obtain ⟨D, h1, -, h2⟩ := h
 obtain ⟨v, ps, hrun, hv⟩ := h1.lookup (Maps.int_keyed Try.underlying3) Try.underlying62 (Try.zeroValue4 _) (plainElem_bool Try.underlying4 false) (Maps.keyOf_int_mk Try.underlying3 hx)
 rw [h2] at hv
 rw [plainElem_bool_inv Try.underlying4 hv] at hrun
 exact hrun
theorem MapB.put {w : World} {b n : Nat} {D : DataW Unit} {m : Int → Bool} {x : Int} (h1 : w.ownsMap Try.prog 3 (plainElem Try.prog 4) b n (D.put (.int .i64 x) (.lit (.bool true)))) (hm : Maps.IsMap D)
  (h2 : ∀ x, D.atKey (.int .i64 x) (.lit (.bool false)) = .lit (.bool (m x))) : MapB w b n (fun y => m y || y == x) := by
 refine ⟨_, h1, ?_, fun y => ?_⟩
 ·obtain ⟨es, rfl⟩ := hm; exact ⟨_, rfl⟩
 ·by_cases h : y = x
  ·subst h
   rw [Maps.atKey_put_same hm (show WideAt.IsKeyLit (.int .i64 y) from trivial)]; simp
  ·rw [Maps.atKey_put_other (by simpa using h), h2]
   have : (y == x) = false := by simpa using h
   show _ = DataW.lit (Lit.bool (m y || y == x))
   rw [this, Bool.or_false]
def Marks (N : Nat) (W : World) : List Deferred → Prop
 | [] => True
 | d :: ds => (∃ D, d.target = .collected D ∧ N ≤ D ∧ W.heap[D]? = some (.deferred (some [])) ∧ ∀ e ∈ ds, e.target ≠ .collected D) ∧ Marks N W ds
theorem Marks.keep {N : Nat} {W W' : World} : ∀ {ds : List Deferred}, Marks N W ds → (∀ D, N ≤ D → (∃ d ∈ ds, d.target = .collected D) → W.heap[D]? = some (.deferred (some [])) → W'.heap[D]? = some (.deferred (some []))) → Marks N W' ds
 | [], _, _ => trivial
 | d :: ds, ⟨⟨D, h1, h2, h3, h4⟩, h5⟩, hk => ⟨⟨D, h1, h2, hk D h2 ⟨d, by simp, h1⟩ h3, h4⟩, h5.keep fun E hE he => hk E hE (by obtain ⟨e, h6, h7⟩ := he; exact ⟨e, by simp [h6], h7⟩)⟩
theorem Marks.lt {N : Nat} {W : World} : ∀ {ds : List Deferred}, Marks N W ds → ∀ d ∈ ds, ∃ D, d.target = .collected D ∧ D < W.heap.size
 | [], _, _, h => by simp at h
 | d :: ds, ⟨⟨D, h1, h2, h3, h4⟩, h5⟩, e, he => by
  rcases List.mem_cons.1 he with rfl | he
  ·exact ⟨D, h1, (Array.getElem?_eq_some_iff.1 h3).1⟩
  ·exact h5.lt e he
theorem leaves_marks {F : Fence} {n : Nat} {P : Program} {fn : Func} {tmps : Array Value} {R : Ending → World → Prop} {N : Nat} (G : World → Prop)
  (hG : ∀ W D, G W → N ≤ D → W.heap[D]? = some (.deferred (some [])) → G (W.putObj D (.deferred none)))
  (hR : ∀ W, G W → ∃ v, (results fn tmps).run P W = .ok v W ∧ R (.returned v) W) : ∀ (ds : List Deferred) (W : World), Marks N W ds → G W → LeavesInM F n P fn tmps R ds .returning W
 | [], W, _, hg => hR W hg
 | d :: ds, W, ⟨⟨D, h1, h2, h3, h4⟩, h5⟩, hg => by
  refine ⟨by simp, .inl ⟨D, _, h1, run_takeDeferred h3, ?_⟩⟩
  refine leaves_marks G hG hR ds _ (h5.keep fun E hE he h => ?_) (hG W D hg h2 h3)
  obtain ⟨e, h6, h7⟩ := he
  have hne : E ≠ D := fun e' => h4 e h6 (by rw [h7, e'])
  exact (World.putObj_heap_other hne).trans h
end Go.Proofs.Ytfhgknmkpegpbaa
set_option linter.unusedVariables false
set_option linter.unusedSimpArgs false
namespace Go.Proofs.Ytfhgknmkpegpbaa
open Go.RowKit Go.Shelf
attribute [local go_sem] Oper.semAt_some
def varsAcc (acc : List Int) (t : Tm) : List Int := if t.k = 1 ∧ t.n ∉ acc then acc ++ [t.n] else acc
def varsFrom (acc : List Int) (l : List Tm) : List Int := l.foldl varsAcc acc
def varsL (l : List Tm) : List Int := varsFrom [] (Tm.pres l)
theorem varsFrom_append (acc : List Int) (a b : List Tm) : varsFrom acc (a ++ b) = varsFrom (varsFrom acc a) b := by simp [varsFrom]
theorem varsFrom_len (acc : List Int) (l : List Tm) : (varsFrom acc l).length ≤ acc.length + l.length := by
 induction l generalizing acc with
 | nil => exact Nat.le_refl _
 | cons t l ih =>
  refine Nat.le_trans (ih _) ?_
  unfold varsAcc
  split <;> simp <;> omega
def RetV (w : World) (xs : List Int) (e : Ending) (w' : World) : Prop :=
 ∃ v, e = .returned v ∧ w'.ownsRow w.heap.size 3 1 v xs.length (xs.map (Value.int .i64)) ∧ (v = .slice none 0 0 ↔ xs = []) ∧ Below w.heap.size w w'
def VInv (w : World) (acc : List Int) (W : World) : Prop :=
 ((∃ v, Boxed W w.heap.size 39 v ∧ W.ownsRow w.heap.size 3 1 v acc.length (acc.map (Value.int .i64)) ∧ (v = .slice none 0 0 ↔ acc = [])) ∧ Boxed W (w.heap.size + 1 + 1) 62 (.map (some (w.heap.size + 1))) ∧
  MapB W (w.heap.size + 1) acc.length (fun x => decide (x ∈ acc))) ∧ Below w.heap.size w W
theorem marks_own {β : Type} {N B : Nat} {ds : List Deferred} (hlt : ∀ d ∈ ds, ∃ D, d.target = .collected D ∧ D < B) : OwnFrom B (fun (_ : β) W => Marks N W ds) := by
 intro _ X Y row hs hg hr
 refine hs.keep fun D hD hd h => ?_
 obtain ⟨d, hd1, hd2⟩ := hd
 obtain ⟨D', h1, h2⟩ := hlt d hd1
 rw [hd2] at h1
 injection h1 with h1
 subst h1
 exact (hg.block D (Array.getElem?_eq_some_iff.1 h).1 (fun e => by have := (hr D e.symm).1; omega)).trans h
theorem mapB_ne {w : World} {b n : Nat} {m : Int → Bool} (h : MapB w b n m) {o : Obj} {g : Nat} (hg : w.heap[g]? = some o) (ho : o.isCells = true) : b ≠ g := by
 intro e
 subst e
 obtain ⟨D, ⟨es, ck, hb, -⟩, -⟩ := h
 rw [hg] at hb
 injection hb with hb
 subst hb
 simp [Obj.isCells] at ho
theorem own_map_ne {w : World} {base e size k : Nat} {v : Value} {xs : List Value} (hr : w.ownsRow base e size v k xs) {b n : Nat} {m : Int → Bool} (h : MapB w b n m) : some b ≠ v.ownBlock := by
 rcases hr.2 with ⟨rfl, _⟩ | ⟨g, cap, cur, rfl, _, hg, _⟩
 ·simp [Value.ownBlock]
 ·intro e
  have : b = g := by simpa [Value.ownBlock] using e
  exact mapB_ne h hg rfl this
theorem vinv_own {β : Type} (w : World) {B : Nat} (hB : w.heap.size + 3 ≤ B) (f : β → List Int) : OwnFrom B (fun s W => VInv w (f s) W) := by
 rintro s X Y row ⟨⟨h1, h2, h3⟩, h4⟩ hg hr
 refine ⟨⟨holdsRow_own w.heap.size w.heap.size 39 3 1 (fun s => (f s).length) (fun s => (f s).map (Value.int .i64)) (fun s v => v = .slice none 0 0 ↔ f s = []) s X Y row h1 hg (fun r e => (hr r e).2), h2.kept hg (fun e => ?_), h3.kept hg (fun e => ?_)⟩, ?_⟩
 ·have := (hr _ e.symm).1; omega
 ·have := (hr _ e.symm).1; omega
 ·exact ownFrom_below (β := Unit) (Nat.le_refl _) (by omega) () X Y row h4 hg hr
theorem vars_step1 {w W w1 : World} {B : Nat} {acc : List Int} {v : Value} (hB : w.heap.size + 3 ≤ B) (h1 : Boxed W w.heap.size 39 v) (h2 : W.ownsRow w.heap.size 3 1 v acc.length (acc.map (Value.int .i64)))
  (h3 : Boxed W (w.heap.size + 1 + 1) 62 (.map (some (w.heap.size + 1)))) {n : Nat} {m : Int → Bool} (h4 : MapB W (w.heap.size + 1) n m) (h5 : Below w.heap.size w W) (hg : W.grownBy w1 (some (w.heap.size + 1))) :
  Boxed w1 w.heap.size 39 v ∧ w1.ownsRow w.heap.size 3 1 v acc.length (acc.map (Value.int .i64)) ∧ Boxed w1 (w.heap.size + 1 + 1) 62 (.map (some (w.heap.size + 1))) ∧ Below w.heap.size w w1 ∧ KpT w.heap.size W w1 ∧ KeepsFrom B W w1 ∧ (∀ g cs, Blk W g 25 cs → Blk w1 g 25 cs) := by
 have hk : ∀ g cs, Blk W g 25 cs → Blk w1 g 25 cs := fun g cs hb => hb.grown hg (fun e => mapB_ne h4 hb rfl (by simpa using e.symm))
 exact ⟨h1.kept hg (by simp), h2.kept hg (.inr (own_map_ne h2 h4).symm), h3.kept hg (by simp), h5.grown hg h5.size (fun k e => by cases e; omega), ⟨(Below.refl _ W).grown hg h5.size (fun k e => by cases e; omega), hk⟩, KeepsFrom.of_grownBy hg (fun j e => by cases e; omega), hk⟩
theorem vars_step2 {w w1 w2 : World} {acc : List Int} {v v' : Value} {tmp : Obj} (hv1 : Boxed w1 w.heap.size 39 v) (hrow1 : w1.ownsRow w.heap.size 3 1 v acc.length (acc.map (Value.int .i64)))
  (hmet1 : Boxed w1 (w.heap.size + 1 + 1) 62 (.map (some (w.heap.size + 1)))) {n : Int} (hM : MapB w1 (w.heap.size + 1) (acc.length + 1) (fun x => decide (x ∈ acc) || x == n)) (hg : (w1.alloc tmp).grownBy w2 v.ownBlock) (hv2 : Boxed w2 w.heap.size 39 v) :
  Boxed (w2.setCell ⟨w.heap.size, 0, none⟩ v') (w.heap.size + 1 + 1) 62 (.map (some (w.heap.size + 1))) ∧ MapB (w2.setCell ⟨w.heap.size, 0, none⟩ v') (w.heap.size + 1) (acc ++ [n]).length (fun x => decide (x ∈ acc ++ [n])) ∧
   ∀ g cs, Blk w1 g 25 cs → Blk (w2.setCell ⟨w.heap.size, 0, none⟩ v') g 25 cs := by
 refine ⟨?_, ?_, fun g cs hb => ?_⟩
 ·exact ((hmet1.alloc tmp).kept hg (hmet1.not_row (by decide) hrow1)).kept (grownBy_setCell' w2 w.heap.size v') (by simp; omega)
 ·have h1 := (hM.kept (World.grownBy_alloc w1 tmp none) (by simp)).kept hg (own_map_ne hrow1 hM)
  have h2 := h1.kept (grownBy_setCell' w2 w.heap.size v') (by simp)
  rw [List.length_append]
  have h3 : (fun x => decide (x ∈ acc ++ [n])) = (fun x => decide (x ∈ acc) || x == n) := by
   funext x
   rw [Bool.eq_iff_iff]
   simp
  rw [h3]
  exact h2
 ·have h1 := (hb.alloc tmp).grown hg (fun e => own_blk_ne hrow1 hb (by decide) e.symm)
  refine h1.far (p := ⟨w.heap.size, 0, none⟩) (fun e => ?_) v'
  have e' : g = w.heap.size := e
  exact Blk.ne_ h1 (show Blk w2 w.heap.size 39 #[v] from hv2) (by decide) e'
theorem var_wf {t : Tm} (h : t.okB = true) (hk : t.k = 1) : (Lit.int .i64 t.n).wf = true := by
 rw [Tm.okB_eq, Bool.and_eq_true] at h
 have h1 := h.1
 unfold nodeB at h1
 rw [if_pos hk] at h1
 simp only [Bool.and_eq_true, decide_eq_true_eq] at h1
 unfold Lit.wf
 simp [IntKind.min, IntKind.max, IntKind.bits, IntKind.signed]
 omega
set_option maxRecDepth 100000 in
set_option maxHeartbeats 4000000 in
theorem vars_calls (l : List Tm) (P : Nat → Prop) (A : Option Addr) (c : Nat) (w : World) (hc : TmC P w A c l) (hok : Tm.okBs l = true) (hsz : Tm.sizes l ≤ 1000000) :
  Calls Try.prog 88 #[.slice A l.length c] w (RetV w (varsL l)) := by
 refine (callsIn_wide (n := 5)).1 ?_
 have hmm := @run_makeMap Try.prog
 obtain ⟨i0, hi, hz0, hz1, hz2⟩ := info_parts (P := Try.prog) (e := 3) (z := .int .i64 0) (size := 1) (bytes := 8) (by kernel_rfl)
 have hlc := hc.len.1
 have hlm := hc.len.2.1
 have Hc := Lib.hid (hc.inside.mono (Q := (· < w.heap.size)) (fun g h => h.2)); clear hc
 have hV0 : VInv w [] (((w.alloc (.cells #[.slice none 0 0] 39)).alloc (.map #[] 0)).alloc (.cells #[.map (some (w.heap.size + 1))] 62)) := by
  refine ⟨⟨⟨_, ((Boxed.new w 39 (.slice none 0 0)).alloc _).alloc _, World.ownsRow_nil _ _ _ _, by simp⟩, ?_, ?_⟩, (((Below.refl _ w).alloc (Nat.le_refl _) _).alloc (by simp) _).alloc (by simp; omega) _⟩
  ·have := Boxed.new ((w.alloc (.cells #[.slice none 0 0] 39)).alloc (.map #[] 0)) 62 (.map (some (w.heap.size + 1)))
   simpa using this
  ·have := (MapB.made (w.alloc (.cells #[.slice none 0 0] 39))).kept (World.grownBy_alloc _ (.cells #[.map (some (w.heap.size + 1))] 62) none) (by simp)
   simpa using this
 have HV0 := Lib.hid hV0; clear hV0
 refine callsIn_of_wp_marks Try.func88 rfl trivial ?_ rfl
 simp only [Try.ntmps88, List.size_toArray, List.length_cons, List.length_nil, Nat.reduceAdd, Nat.reduceSub, Array.replicate_succ, Array.replicate_zero, List.push_toArray, List.append_toArray, List.nil_append, List.cons_append]
 gi_wp2
 refine wpIn_loop (fun a' W => ∃ (k : Nat) (u6 u12 u13 u14 u15 u16 u36 : Value) (ds : List Deferred), k ≤ l.length ∧ Hid (VInv w (varsFrom [] (Tm.pres (l.take k))) W) ∧ Hid (Marks (w.heap.size + 3) W ds) ∧
  a' = { tmps := #[.slice A l.length c, undef, .slice none 0 0, .pointer (some ⟨w.heap.size, 0, none⟩), .pointer (some ⟨w.heap.size + 1 + 1, 0, none⟩), undef, u6, undef, .map (some (w.heap.size + 1)), .slice A l.length c, .int .i64 l.length, .int .i64 k, u12, u13, u14, u15, u16, undef, undef, undef, undef, undef, undef, undef, undef, undef, undef, undef, undef, undef, undef, undef, undef, undef, undef, undef, u36, undef], defers := ds })
  (fun a' _ => l.length - (intOf (a'.tmps.getD 11 undef)).toNat) ?start ?round
 case start => exact ⟨0, undef, undef, undef, undef, undef, undef, undef, [], Nat.zero_le _, HV0, Lib.hid (show Marks _ _ [] from trivial), rfl⟩
 case round =>
  rintro _ wr ⟨k, u6, u12, u13, u14, u15, u16, u36, ds, hk, HV, HM, rfl⟩
  by_cases hlt : k < l.length
  ·obtain ⟨x, hx⟩ : ∃ x, l[k]? = some x := ⟨_, List.getElem?_eq_getElem hlt⟩
   obtain ⟨g, off, Ai, ci, rfl, hPg, ⟨c0, c1, c2, c3⟩, hxs, hxc⟩ := Hc.out.at_ hx
   have hBr := HV.out.2
   have e0 := (hBr.cell (p := ⟨g, off + k * 4, none⟩) hPg).trans c0
   have e1 := (hBr.cell (p := ⟨g, off + k * 4 + 1, none⟩) hPg).trans c1
   have e2 := (hBr.cell (p := ⟨g, off + k * 4 + 2, none⟩) hPg).trans c2
   have e3 := (hBr.cell (p := ⟨g, off + k * 4 + 3, none⟩) hPg).trans c3
   clear c0 c1 c2 c3 hBr
   have hxm := List.mem_of_getElem? hx
   have Hts := Lib.hid (take_snoc hx)
   obtain ⟨xe, hxe⟩ : ∃ xe : EW w.heap.size w, xe.1 = (x, Ai, ci) := ⟨⟨(x, Ai, ci), Tm.okBs_mem hok hxm, hxs, hxc⟩, rfl⟩
   clear hx hxc hxs
   gi_wp2_with (refine ⟨trivial, ?_⟩; gi_at_call 95; refine (nodes_in Fence.wide _ trivial rfl _ _ _ _ _ _ _).mono ?_; rintro e w' ⟨rfl, rfl⟩)
   obtain ⟨W2, hW2⟩ : ∃ W2, W2 = (wr.alloc (.cells #[.int .i64 x.k, .int .i64 x.n, .string x.s, .slice Ai x.l.length ci] 25)).alloc (.cells #[.int .i64 x.k, .int .i64 x.n, .string x.s, .slice Ai x.l.length ci] 25) := ⟨_, rfl⟩
   have hB2 : Below wr.heap.size wr W2 := by rw [hW2]; exact ((Below.refl _ _).alloc (Nat.le_refl _) _).alloc (by simp) _
   have hbox : Blk W2 (wr.heap.size + 1) 25 #[.int .i64 x.k, .int .i64 x.n, .string x.s, .slice Ai x.l.length ci] := by
    rw [hW2]
    have := Blk.new (wr.alloc (.cells #[.int .i64 x.k, .int .i64 x.n, .string x.s, .slice Ai x.l.length ci] 25)) 25 #[.int .i64 x.k, .int .i64 x.n, .string x.s, .slice Ai x.l.length ci]
    rwa [World.size_alloc] at this
   have hg2 : wr.grownBy W2 none := by
    rw [hW2]; exact (only_alloc (only_of_below (Below.refl _ _) none |> fun h => only_alloc h _) _)
   have hVr := HV.out
   have hsr : w.heap.size + 3 ≤ wr.heap.size := by
    have h1 := hVr.1.2.1.lt
    omega
   have hs2 : wr.heap.size + 2 = W2.heap.size := by rw [hW2]; simp
   have hV2 : VInv w (varsFrom [] (Tm.pres (l.take k))) W2 := vinv_own (β := Unit) w hsr (fun _ => varsFrom [] (Tm.pres (l.take k))) () _ _ none hVr hg2 (fun r e => by cases e)
   have hM2 : Marks (w.heap.size + 3) W2 ds := HM.out.keep fun D _ _ h => (hB2.block D (Array.getElem?_eq_some_iff.1 h).1).trans h
   have hml : ∀ d ∈ ds, ∃ D, d.target = .collected D ∧ D < W2.heap.size := hM2.lt
   rw [← hW2]
   clear hW2 hg2 hVr
   have hseq := nodes_stops Fence.wide rfl (5 - 1) trivial trivial rfl (wr.heap.size + 1) w.heap.size w xe W2 (by omega) hV2.2 (by rw [hxe]; exact hbox)
   rw [hxe] at hseq
   refine wpIn_rangeFunc_ownH rfl (by decide) (gf := 134) (lb := #[.pointer (some ⟨wr.heap.size + 1, 0, none⟩)]) rfl trivial (enters_of Try.func134 (by kernel_rfl) rfl) hseq KpT.trans (fun W l o o' h1 h2 h3 h4 => kpT_b (B := W2.heap.size) (by omega) W l o o' h1 h2 h3 h4) (Below.refl _ _) (fun _ => rfl)
    (fun ys W => VInv w (varsFrom (varsFrom [] (Tm.pres (l.take k))) (ys.map EW.tm)) W ∧ Marks (w.heap.size + 3) W ds ∧ W2.heap.size ≤ W.heap.size) (fun _ _ _ => False)
    (OwnFrom.and (vinv_own w (by omega) _) (OwnFrom.and (marks_own hml) (fun _ _ _ _ hs hg _ => Nat.le_trans hs hg.size))) (fun _ _ _ _ _ hs _ _ => hs) ⟨hV2, hM2, Nat.le_refl _⟩
    (fun y a' W => ∃ Bx, W2.heap.size ≤ Bx ∧ Blk W Bx 25 #[.int .i64 y.1.1.k, .int .i64 y.1.1.n, .string y.1.1.s, .slice y.1.2.1 y.1.1.l.length y.1.2.2] ∧ a' = { tmps := #[.slice (some ⟨g, off, none⟩) l.length c, undef, .slice none 0 0, .pointer (some ⟨w.heap.size, 0, none⟩), .pointer (some ⟨w.heap.size + 1 + 1, 0, none⟩), undef, .pointer (some ⟨wr.heap.size, 0, none⟩), .pointer (some ⟨Bx, 0, none⟩), .map (some (w.heap.size + 1)), .slice (some ⟨g, off, none⟩) l.length c, .int .i64 l.length, .int .i64 k, .bool true, .pointer (some ⟨g, off + k * 4, none⟩), .agg #[.int .i64 x.k, .int .i64 x.n, .string x.s, .slice Ai x.l.length ci], .agg #[.int .i64 x.k, .int .i64 x.n, .string x.s, .slice Ai x.l.length ci], .func (.func 134) #[] #[.pointer (some ⟨wr.heap.size + 1, 0, none⟩)], .agg #[.int .i64 y.1.1.k, .int .i64 y.1.1.n, .string y.1.1.s, .slice y.1.2.1 y.1.1.l.length y.1.2.2], undef, undef, undef, undef, undef, undef, undef, undef, undef, undef, undef, undef, undef, undef, undef, undef, undef, undef, u36, undef], defers := [] })
    (fun y a' _ X Y row hs hg hr => by
     obtain ⟨Bx, h1, h2, h3⟩ := hs
     exact ⟨Bx, h1, h2.grown hg (fun e => by
      obtain ⟨-, o, ho, hc⟩ := hr _ e.symm
      rw [show X.heap[Bx]? = _ from h2] at ho
      injection ho with ho; subst ho; simp [Obj.isCells] at hc), h3⟩)
    ?assign ?body ?done ?stop
   case assign =>
    rintro l2 pre y W K ⟨hV, hM, hS⟩ hK
    simp only [EW.encs]
    gi_wp2
    have hsW := hV.1.2.1.lt
    exact hK _ _ ((KeepsOthers.alloc _ _).from _) (KpT.alloc (by omega) _) ⟨vinv_own (B := W.heap.size) (β := Unit) w (by omega) (fun _ => _) () _ _ none hV (World.grownBy_alloc W _ none) (fun r e => by cases e), hM.keep fun D _ _ h => (Below.heap_alloc W _ D (Array.getElem?_eq_some_iff.1 h).1).trans h, Nat.le_trans hS (by simp)⟩ ⟨W.heap.size, hS, Blk.new _ _ _, rfl⟩
   case body =>
    rintro l2 pre y a' W hl ⟨r, hr⟩ ⟨hV, hM, hS⟩ ⟨Bx, hBx, hbx, rfl⟩ hlt
    obtain ⟨⟨⟨v, hv, hrow, hnil⟩, hmet, D, hown, hDm, hat⟩, hB⟩ := hV
    obtain ⟨⟨x0, x1, x2, x3⟩, -⟩ := hbx.four
    obtain ⟨acc, hacc⟩ : ∃ acc, acc = varsFrom (varsFrom [] (Tm.pres (l.take k))) (pre.map EW.tm) := ⟨_, rfl⟩
    have hstep : varsFrom (varsFrom [] (Tm.pres (l.take k))) ((pre ++ [y]).map EW.tm) = varsAcc acc y.1.1 := by
     rw [List.map_append, varsFrom_append, ← hacc]; rfl
    rw [← hacc] at hrow hnil hown hat
    have hfin : ∀ acc2 W', varsAcc acc y.1.1 = acc2 → VInv w acc2 W' → Marks (w.heap.size + 3) W' ds → W2.heap.size ≤ W'.heap.size →
      VInv w (varsFrom (varsFrom [] (Tm.pres (l.take k))) ((pre ++ [y]).map EW.tm)) W' ∧ Marks (w.heap.size + 3) W' ds ∧ W2.heap.size ≤ W'.heap.size := fun acc2 W' h1 h2 h3 h4 => ⟨by rw [hstep, h1]; exact h2, h3, h4⟩
    have hal : acc.length ≤ 1000000 := by
     have h1 := varsFrom_len (varsFrom [] (Tm.pres (l.take k))) (pre.map EW.tm)
     have h2 := varsFrom_len [] (Tm.pres (l.take k))
     rw [← hacc, List.length_map] at h1
     rw [Tm.pres_len] at h2
     have h3 := sizes_take_le (k + 1) l
     rw [Hts.out, sizes_append] at h3
     simp only [Tm.sizes, Nat.add_zero, List.length_nil, Nat.zero_add] at h2 h3
     have h5 : pre.length < x.size := hlt
     omega
    clear hstep hacc
    have cv := hv.cell
    have cm := hmet.cell
    by_cases hk1 : y.1.1.k = 1
    ·have hwf := var_wf y.2.1 hk1
     have hlook := MapB.lookup ⟨D, hown, hDm, hat⟩ hwf
     by_cases hmem : y.1.1.n ∈ acc
     ·rw [decide_eq_true hmem] at hlook
      have hs2 : varsAcc acc y.1.1 = acc := by unfold varsAcc; rw [if_neg (by simp [hmem])]
      rw [hk1] at x0
      gi_wp2
      exact ⟨KeepsFrom.refl _ _, KpT.refl _ _, hfin acc W hs2 ⟨⟨⟨v, hv, hrow, hnil⟩, hmet, D, hown, hDm, hat⟩, hB⟩ hM hS⟩
     ·rw [decide_eq_false hmem] at hlook
      have hs2 : varsAcc acc y.1.1 = acc ++ [y.1.1.n] := by unfold varsAcc; rw [if_pos ⟨hk1, hmem⟩]
      rw [hk1] at x0
      gi_wp2_with (first
       | (gi_at_mapUpdate; refine wpListIn_mapUpdate_own _ rfl _ _ _ 62 rfl 3 4 (Maps.int_keyed Try.underlying3) Try.underlying62 _ (w.heap.size + 1) acc.length _ rfl hown (by simp [maxLen]; omega) _ _ _ rfl rfl (Maps.keyOf_int_mk Try.underlying3 hwf) _ [] (plainElem_bool Try.underlying4 true) ?_; intro w1 hown1 hgrow1; obtain ⟨hv1, hrow1, hmet1, hB1, hkp1, hkf1, hbk1⟩ := vars_step1 (B := W2.heap.size) (by omega) hv hrow hmet ⟨D, hown, hDm, hat⟩ hB hgrow1; have hbx1 := hbk1 _ _ hbx; obtain ⟨⟨z0, z1, z2, z3⟩, -⟩ := hbx1.four; have cv1 := hv1.cell; have cm1 := hmet1.cell; have hM1 := MapB.put hown1 hDm hat)
       | (gi_at_builtin; refine wpListIn_append_own _ rfl _ _ 39 rfl w.heap.size 3 i0 (.int .i64 0) 1 8 Try.underlying39 hi hz0 hz1 hz2 rfl (by decide) _ _ _ rfl (hrow1.alloc _) ⟨w1.heap.size, 0, none⟩ 1 1 [.int .i64 y.1.1.n] rfl rfl (cell_one_new _ _ _) (by simp [Value.oneCell']) (by simp [maxLen]; omega) (by omega) (by have := hB1.size; simp; omega) ?_; intro v' w2 hown' hgrow _; obtain ⟨g', cap', rfl⟩ := ownsRow_succ hown'; obtain ⟨hv2, hv3, hr3, hk3, hb3⟩ := hv1.appended (by decide) hrow1 hB1.size (Nat.le_refl _) hown' hgrow; have hc2 := hv2.cell; have hf2 := hv2.frozen))
      obtain ⟨hmet3, hM3, hbk3⟩ := vars_step2 (v' := .slice (some ⟨g', 0, none⟩) (acc.length + 1) cap') hv1 hrow1 hmet1 hM1 hgrow hv2
      refine ⟨hkf1.trans (hk3.from _), hkp1.trans ⟨hb3, hbk3⟩, hfin _ _ hs2 ⟨⟨⟨_, hv3, by simpa using hr3, by simp⟩, hmet3, hM3⟩, hB1.trans hb3⟩ (hM.keep fun D hD _ h => ?_) (Nat.le_trans hS (Nat.le_trans hkp1.1.size hb3.size))⟩
      refine hk3.same D _ ((hgrow1.block D (Array.getElem?_eq_some_iff.1 h).1 (fun e => ?_)).trans h) rfl
      have : D = w.heap.size + 1 := by simpa using e
      omega
    ·have hs2 : varsAcc acc y.1.1 = acc := by unfold varsAcc; rw [if_neg (by simp [hk1])]
     have hkb : (y.1.1.k == 1) = false := by simpa using hk1
     gi_wp2
     exact ⟨KeepsFrom.refl _ _, KpT.refl _ _, hfin acc W hs2 ⟨⟨⟨v, hv, hrow, hnil⟩, hmet, D, hown, hDm, hat⟩, hB⟩ hM hS⟩
   case done =>
    rintro D ys W hD hys ⟨hV, hM, hS⟩ hK
    simp only at hys
    rw [hys] at hV
    have hnx : varsFrom (varsFrom [] (Tm.pres (l.take k))) x.pre = varsFrom [] (Tm.pres (l.take (k + 1))) := by rw [← varsFrom_append, Hts.out, Tm.pres_append]; simp [Tm.pres]
    rw [hnx] at hV
    have HV3 := Lib.hid hV
    have hM3 : Marks (w.heap.size + 3) W ({ target := .collected D, args := #[] } :: ds) := ⟨⟨D, rfl, by omega, hK, fun e he h => by
     obtain ⟨E, h1, h2⟩ := hml e he
     rw [h] at h1; injection h1 with h1; omega⟩, hM⟩
    have HM3 := Lib.hid hM3
    clear hV hM hM3 hnx hys
    gi_wp2
    refine ⟨⟨k + 1, by omega, HV3, by omega⟩, ?_⟩
    simp [intOf]; omega
   case stop =>
    rintro D c pre W _ _ h _
    exact h.elim
  ·have hke : k = l.length := by omega
   subst hke
   obtain ⟨⟨⟨v, hv, hrow, hnil⟩, hmet, hmap⟩, hB⟩ := HV.out
   have cv := hv.cell
   rw [List.take_length] at hrow hnil
   have Hr := Lib.hid hrow
   have Hn := Lib.hid hnil
   have HB := Lib.hid hB
   clear hv hrow hnil hmet hmap hB HV
   gi_wp2
   refine leaves_marks (N := w.heap.size + 3) (fun W => W.ownsRow w.heap.size 3 1 v (varsFrom [] (Tm.pres l)).length ((varsFrom [] (Tm.pres l)).map (Value.int .i64)) ∧ Below w.heap.size w W) ?_ ?_ ds wr HM.out ⟨Hr.out, HB.out⟩
   ·rintro W D ⟨h1, h2⟩ hD hk
    exact ⟨ownsRow_putObj h1 _ hk rfl, h2.trans (Below.putObj_ (B := w.heap.size) (Nat.le_refl _) W D (.deferred none) (.deferred none) (by omega))⟩
   ·rintro W ⟨h1, h2⟩
    exact ⟨_, results_tmp rfl _ _ _, v, rfl, h1, Hn.out, h2⟩
end Go.Proofs.Ytfhgknmkpegpbaa
set_option linter.unusedVariables false
set_option linter.unusedSimpArgs false
namespace Go.Proofs.Ytfhgknmkpegpbaa
open Go.RowKit
theorem empty_toList : Tm.zero.s.toList = [] := by
 show ByteArray.toList.loop _ 0 [] = []
 rw [ByteArray.toList.loop]
 rfl
def freeB (t : Tm) : Bool := if t.k = 0 ∧ t.n = 0 ∧ t.s.toList = [] ∧ t.l = [] then true else false
theorem freeB_iff {t : Tm} : freeB t = true ↔ t = Tm.zero := by
 unfold freeB
 constructor
 ·intro h
  split at h
  ·rename_i h1
   obtain ⟨h1, h2, h3, h4⟩ := h1
   refine Tm.ext h1 h2 (bytes_ext (by rw [h3]; exact empty_toList.symm)) h4
  ·cases h
 ·rintro rfl
  rw [if_pos ⟨rfl, rfl, empty_toList, rfl⟩]
set_option maxRecDepth 100000 in
set_option maxHeartbeats 4000000 in
theorem free_calls (t : Tm) (P : Nat → Prop) (w : World) (v : Value) (hv : TmV P w v t) : Calls Try.prog 98 #[v] w (RetB w (freeB t)) := by
 obtain ⟨A, c, rfl, hs, hc⟩ := hv
 have hlc := hc.len.1
 have hlm := hc.len.2.1
 have hB0 : Below w.heap.size w (w.alloc (.cells #[.int .i64 t.k, .int .i64 t.n, .string t.s, .slice A t.l.length c] 25)) := (Below.refl _ _).alloc (Nat.le_refl _) _
 have HB0 := Lib.hid hB0; clear hB0 hc
 by_cases h1 : t.k = 0
 case neg =>
  have Hr := Lib.hid (show freeB t = false from by unfold freeB; rw [if_neg (fun h => h1 h.1)])
  have d1 : (t.k == 0) = false := by simpa using h1
  go_enter Try.func98, Try.ntmps98
  go_wp2
  go_ret
  exact ⟨by rw [Hr.out]; rfl, HB0.out⟩
 have d1 : (t.k == 0) = true := by simpa using h1
 have H1 := Lib.hid h1; clear h1
 by_cases h2 : t.n = 0
 case neg =>
  have Hr := Lib.hid (show freeB t = false from by unfold freeB; rw [if_neg (fun h => h2 h.2.1)])
  have d2 : (t.n == 0) = false := by simpa using h2
  go_enter Try.func98, Try.ntmps98
  go_wp2
  go_ret
  exact ⟨by rw [Hr.out]; rfl, HB0.out⟩
 have d2 : (t.n == 0) = true := by simpa using h2
 have H2 := Lib.hid h2; clear h2
 by_cases h3 : t.s.toList = []
 case neg =>
  have Hr := Lib.hid (show freeB t = false from by unfold freeB; rw [if_neg (fun h => h3 h.2.2.1)])
  go_enter Try.func98, Try.ntmps98
  go_wp2
  go_ret
  exact ⟨by rw [Hr.out]; rfl, HB0.out⟩
 by_cases h4 : t.l = []
 case neg =>
  have Hr := Lib.hid (show freeB t = false from by unfold freeB; rw [if_neg (fun h => h4 h.2.2.2)])
  have h5 : t.l.length ≠ 0 := by intro e; exact h4 (List.length_eq_zero_iff.1 e)
  have d4 : ((t.l.length : Int) == 0) = false := by simpa using h4
  go_enter Try.func98, Try.ntmps98
  go_wp2
  go_ret
  exact ⟨by rw [Hr.out]; rfl, HB0.out⟩
 have Hr := Lib.hid (show freeB t = true from by unfold freeB; rw [if_pos ⟨H1.out, H2.out, h3, h4⟩])
 have d4 : ((t.l.length : Int) == 0) = true := by rw [h4]; rfl
 clear h4
 go_enter Try.func98, Try.ntmps98
 go_wp2
 go_ret
 exact ⟨by rw [Hr.out]; rfl, HB0.out⟩
def RetME (w : World) (r : Option Tm) (er : Int) (e : Ending) (w' : World) : Prop :=
 ∃ A c, e = .returned (.tuple #[.agg #[.int .i64 (r.getD Tm.zero).k, .int .i64 (r.getD Tm.zero).n, .string (r.getD Tm.zero).s, .slice A (r.getD Tm.zero).l.length c], .int .i64 (if r.isSome then 0 else er)]) ∧ (r.getD Tm.zero).s.size ≤ 9223372036854775807 ∧ TmC (w.heap.size ≤ ·) w' A c (r.getD Tm.zero).l ∧ Below w.heap.size w w'
set_option maxRecDepth 100000 in
set_option maxHeartbeats 4000000 in
theorem limited_calls (t : Tm) (P : Nat → Prop) (w : World) (v : Value) (hv : TmV P w v t) : Calls Try.prog 104 #[v] w (RetME w (if isB t = true then some t else none) 2) := by
 obtain ⟨A, c, rfl, hs, hc⟩ := hv
 obtain ⟨W0, hW0⟩ : ∃ W0, W0 = (w.alloc (.cells #[.int .i64 t.k, .int .i64 t.n, .string t.s, .slice A t.l.length c] 25)).alloc (.cells #[.int .i64 0, .int .i64 0, .string ⟨#[]⟩, .slice none 0 0] 25) := ⟨_, rfl⟩
 have hB0 : Below w.heap.size w W0 := by rw [hW0]; exact ((Below.refl _ _).alloc (Nat.le_refl _) _).alloc (by simp) _
 have hX0 : Blk W0 w.heap.size 25 #[.int .i64 t.k, .int .i64 t.n, .string t.s, .slice A t.l.length c] := by rw [hW0]; exact (Blk.new w 25 _).alloc _
 have hY0 : Blk W0 (w.heap.size + 1) 25 #[.int .i64 0, .int .i64 0, .string ⟨#[]⟩, .slice none 0 0] := by
  rw [hW0]
  have := Blk.new (w.alloc (.cells #[.int .i64 t.k, .int .i64 t.n, .string t.s, .slice A t.l.length c] 25)) 25 #[.int .i64 0, .int .i64 0, .string ⟨#[]⟩, .slice none 0 0]
  rwa [World.size_alloc] at this
 have ly0 := hY0.lt
 have hc0 := hc.stay hB0 (Nat.le_refl _)
 have hcall := check_calls t P W0 _ ⟨A, c, rfl, hs, hc0⟩
 obtain ⟨b, hb⟩ : ∃ b, b = isB t := ⟨_, rfl⟩
 rw [← hb] at hcall ⊢
 obtain ⟨r, hr⟩ : ∃ r, r = (if b = true then some t else none) := ⟨_, rfl⟩
 rw [← hr]
 have Hrr := Lib.hid hr; clear hr
 have Hcall := Lib.hid hcall; clear hcall
 have Hc := Lib.hid hc0; clear hc hc0
 have HX0 := Lib.hid hX0; clear hX0
 have HY0 := Lib.hid hY0; clear hY0
 have HB0 := Lib.hid hB0; clear hB0
 have HW := Lib.hid hW0; clear hW0
 have Hb := Lib.hid hb; clear hb
 go_enter Try.func104, Try.ntmps104
 go_wp2_with fail
 rw [← HW.out]
 go_wp2_with fail
 refine Hcall.out.mono ?_
 rintro e w1 ⟨rfl, hb1⟩
 have hX1 := HX0.out.below hb1 HX0.out.lt
 have hY1 := HY0.out.below hb1 ly0
 obtain ⟨⟨a0, a1, a2, a3⟩, -⟩ := hX1.four
 obtain ⟨⟨d0, d1, d2, d3⟩, ⟨g0, g1, g2, g3⟩⟩ := hY1.four
 have HX1 := Lib.hid hX1; clear hX1
 have HY1 := Lib.hid hY1; clear hY1
 have Hc1 := Lib.hid (Hc.out.stay hb1 (Nat.le_refl _))
 have HB1 := Lib.hid (HB0.out.trans (hb1.mono HB0.out.size)); clear hb1
 cases b
 ·have he : (errT false != 0) = true := rfl
  have hr := Hrr.out
  rw [if_neg (by simp)] at hr
  subst hr
  go_wp2
  have hF := ((((HY1.out.set_ 0 (.int .i64 0)).set_ 1 (.int .i64 0)).set_ 2 (.string ⟨#[]⟩)).set_ 3 (.slice none 0 0))
  have hBF := ((((HB1.out.setCell (p := ⟨w.heap.size + 1, 0, none⟩) (by simp) (.int .i64 0)).setCell (p := ⟨w.heap.size + 1, 1, none⟩) (by simp) (.int .i64 0)).setCell (p := ⟨w.heap.size + 1, 2, none⟩) (by simp) (.string ⟨#[]⟩)).setCell (p := ⟨w.heap.size + 1, 3, none⟩) (by simp) (.slice none 0 0))
  obtain ⟨⟨q0, q1, q2, q3⟩, -⟩ := hF.four
  refine bodyPost_ret (v := .tuple #[.agg #[.int .i64 0, .int .i64 0, .string ⟨#[]⟩, .slice none 0 0], .int .i64 2]) ?_ rfl (R := RetME w none 2) ⟨none, 0, rfl, by decide, TmC.nil _ _ (by omega) (fun _ => rfl), hBF⟩
  generalize (World.setCell _ ⟨w.heap.size + 1, 3, none⟩ _) = WF at q0 q1 q2 q3 ⊢
  clear hF hBF
  simp [results, Try.results104, go_sem, q0, q1, q2, q3]
 ·have he : (errT true != 0) = false := rfl
  have hr := Hrr.out
  rw [if_pos rfl] at hr
  subst hr
  have hsz : t.size ≤ 1000000 := by have := (isB_iff.1 Hb.out.symm).2.1; omega
  have hcall := copied_calls t P w1 _ ⟨A, c, rfl, hs, Hc1.out⟩ hsz
  have Hcall2 := Lib.hid hcall; clear hcall Hcall
  go_wp2_with fail
  refine Hcall2.out.mono ?_
  rintro e w2 ⟨A2, c2, rfl, -, hx2, hb2⟩
  have hY2 := HY1.out.below hb2 HY1.out.lt
  obtain ⟨⟨d0, d1, d2, d3⟩, ⟨g0, g1, g2, g3⟩⟩ := hY2.four
  have HY2 := Lib.hid hY2; clear hY2
  have H2 := Lib.hid hx2; clear hx2
  have HB2 := Lib.hid (HB1.out.trans (hb2.mono HB1.out.size)); clear hb2
  go_wp2
  have hsz1 := HB1.out.size
  have hlw1 : w.heap.size + 1 < w1.heap.size := HY1.out.lt
  have hF := ((((HY2.out.set_ 0 (.int .i64 t.k)).set_ 1 (.int .i64 t.n)).set_ 2 (.string t.s)).set_ 3 (.slice A2 t.l.length c2))
  have hBF := ((((HB2.out.setCell (p := ⟨w.heap.size + 1, 0, none⟩) (by simp) (.int .i64 t.k)).setCell (p := ⟨w.heap.size + 1, 1, none⟩) (by simp) (.int .i64 t.n)).setCell (p := ⟨w.heap.size + 1, 2, none⟩) (by simp) (.string t.s)).setCell (p := ⟨w.heap.size + 1, 3, none⟩) (by simp) (.slice A2 t.l.length c2))
  obtain ⟨⟨q0, q1, q2, q3⟩, -⟩ := hF.four
  have hT := ((((H2.out.setCell ⟨w.heap.size + 1, 0, none⟩ (.int .i64 t.k) (fun g h e => by simp at e; omega)).setCell ⟨w.heap.size + 1, 1, none⟩ (.int .i64 t.n) (fun g h e => by simp at e; omega)).setCell ⟨w.heap.size + 1, 2, none⟩ (.string t.s) (fun g h e => by simp at e; omega)).setCell ⟨w.heap.size + 1, 3, none⟩ (.slice A2 t.l.length c2) (fun g h e => by simp at e; omega))
  refine bodyPost_ret (v := .tuple #[.agg #[.int .i64 t.k, .int .i64 t.n, .string t.s, .slice A2 t.l.length c2], .int .i64 0]) ?_ rfl (R := RetME w (some t) 2) ⟨A2, c2, rfl, hs, hT.mono (fun g h => by omega), hBF⟩
  generalize (World.setCell _ ⟨w.heap.size + 1, 3, none⟩ _) = WF at q0 q1 q2 q3 ⊢
  clear hF hT hBF
  simp [results, Try.results104, go_sem, q0, q1, q2, q3]
end Go.Proofs.Ytfhgknmkpegpbaa
set_option linter.unusedVariables false
set_option linter.unusedSimpArgs false
namespace Go.Proofs.Ytfhgknmkpegpbaa
open Go.RowKit
mutual
def Tm.rep (F : Int → Option Tm) : Tm → Int → Tm × Int
 | .mk k n s l, L => if k = 1 then (match F n with
   | some x => (x, L - x.size)
   | none => (.mk k n s (Tm.reps F l (L - 1)).1, (Tm.reps F l (L - 1)).2)) else (.mk k n s (Tm.reps F l (L - 1)).1, (Tm.reps F l (L - 1)).2)
def Tm.reps (F : Int → Option Tm) : List Tm → Int → List Tm × Int
 | [], L => ([], L)
 | x :: xs, L => if L < 0 then ([], L) else ((Tm.rep F x L).1 :: (Tm.reps F xs (Tm.rep F x L).2).1, (Tm.reps F xs (Tm.rep F x L).2).2)
end
theorem Tm.rep_def (F : Int → Option Tm) (t : Tm) (L : Int) (h : ∀ x, t.k = 1 → F t.n ≠ some x) : t.rep F L = (.mk t.k t.n t.s (Tm.reps F t.l (L - 1)).1, (Tm.reps F t.l (L - 1)).2) := by
 cases t with
 | mk k n s l =>
  rw [Tm.rep]
  by_cases hk : k = 1
  ·rw [if_pos hk]
   cases hf : F n with
   | none => rfl
   | some x => exact absurd hf (h x hk)
  ·rw [if_neg hk]; rfl
theorem Tm.rep_hit (F : Int → Option Tm) (t : Tm) (L : Int) {x : Tm} (hk : t.k = 1) (h : F t.n = some x) : t.rep F L = (x, L - x.size) := by
 cases t with
 | mk k n s l =>
  have hk' : k = 1 := hk
  rw [Tm.rep, if_pos hk']
  have h' : F n = some x := h
  rw [h']
theorem Tm.reps_nil (F : Int → Option Tm) (L : Int) : Tm.reps F [] L = ([], L) := by rw [Tm.reps]
theorem Tm.reps_cons (F : Int → Option Tm) (x : Tm) (xs : List Tm) (L : Int) : Tm.reps F (x :: xs) L = if L < 0 then ([], L) else ((Tm.rep F x L).1 :: (Tm.reps F xs (Tm.rep F x L).2).1, (Tm.reps F xs (Tm.rep F x L).2).2) := by rw [Tm.reps]
theorem Tm.reps_neg (F : Int → Option Tm) (l : List Tm) {L : Int} (h : L < 0) : Tm.reps F l L = ([], L) := by
 cases l with
 | nil => rw [Tm.reps_nil]
 | cons x xs => rw [Tm.reps_cons, if_pos h]
theorem Tm.rep_bd (F : Int → Option Tm) (hF : ∀ n x, F n = some x → x.size ≤ 1000000) (n : Nat) : (∀ (t : Tm) (L : Int), t.size ≤ n → 0 ≤ L → -1000000 ≤ (t.rep F L).2 ∧ (t.rep F L).2 < L) ∧ (∀ (l : List Tm) (L : Int), Tm.sizes l ≤ n → -1000000 ≤ L → -1000000 ≤ (Tm.reps F l L).2 ∧ (Tm.reps F l L).2 ≤ L) := by
 induction n with
 | zero =>
  refine ⟨fun t _ h => by have := t.size_pos; omega, fun l L h hL => ?_⟩
  cases l with
  | nil => rw [Tm.reps_nil]; exact ⟨hL, Int.le_refl _⟩
  | cons a l => rw [Tm.sizes] at h; have := a.size_pos; omega
 | succ n ih =>
  have h1 : ∀ (t : Tm) (L : Int), t.size ≤ n + 1 → 0 ≤ L → -1000000 ≤ (t.rep F L).2 ∧ (t.rep F L).2 < L := fun t L h hL => by
   rw [t.size_eq] at h
   by_cases hx : ∃ x, t.k = 1 ∧ F t.n = some x
   ·obtain ⟨x, hk, hx⟩ := hx
    rw [Tm.rep_hit F t L hk hx]
    have h2 := hF _ _ hx
    have h3 := x.size_pos
    simp only
    omega
   ·rw [Tm.rep_def F t L (fun x hk h => hx ⟨x, hk, h⟩)]
    have := ih.2 t.l (L - 1) (by omega) (by omega)
    simp only
    omega
  refine ⟨h1, fun l => ?_⟩
  induction l with
  | nil => intro L _ hL; rw [Tm.reps_nil]; exact ⟨hL, Int.le_refl _⟩
  | cons a l ihl =>
   intro L h hL
   rw [Tm.sizes] at h
   rw [Tm.reps_cons]
   split
   ·exact ⟨hL, Int.le_refl _⟩
   ·have h2 := h1 a L (by omega) (by omega)
    have h3 := ihl (a.rep F L).2 (by omega) h2.1
    simp only
    omega
theorem pre_mem {t x y : Tm} (hx : x ∈ t.l) (hy : y ∈ x.pre) : y ∈ t.pre := by
 rw [t.pre_eq]
 refine List.mem_cons_of_mem _ ?_
 obtain ⟨k, hk⟩ := List.mem_iff_getElem?.1 hx
 have h1 := congrArg Tm.pres (List.take_append_drop (k + 1) t.l)
 rw [Tm.pres_append, take_snoc hk, Tm.pres_append] at h1
 rw [← h1]
 simp only [Tm.pres, List.append_nil, List.mem_append]
 exact Or.inl (Or.inr hy)
def RetP (Q : Nat → Prop) (w : World) (r : Option Tm) (e : Ending) (w' : World) : Prop :=
 ∃ A c, e = .returned (.tuple #[.agg #[.int .i64 (r.getD Tm.zero).k, .int .i64 (r.getD Tm.zero).n, .string (r.getD Tm.zero).s, .slice A (r.getD Tm.zero).l.length c], .bool r.isSome]) ∧ (r.getD Tm.zero).s.size ≤ 9223372036854775807 ∧ TmC Q w' A c (r.getD Tm.zero).l ∧ Below w.heap.size w w'
def RetR (Q : Nat → Prop) (b : Nat) (w : World) (r : Tm × Int) (e : Ending) (w' : World) : Prop :=
 ∃ A c, e = .returned (.agg #[.int .i64 r.1.k, .int .i64 r.1.n, .string r.1.s, .slice A r.1.l.length c]) ∧ r.1.s.size ≤ 9223372036854775807 ∧ TmC (fun g => Q g ∨ w.heap.size ≤ g) w' A c r.1.l ∧ Blk w' b 143 #[.int .i64 r.2] ∧ But b w w'
theorem But.grownBy {b : Nat} {w w' : World} (h : But b w w') : w.grownBy w' (some b) := ⟨h.os, h.tape, h.output, h.size, fun k hk hne => h.block k hk (fun e => hne (by rw [e]))⟩
theorem RowT.but {N : Nat} {P : Nat → Prop} {w w' : World} {v : Value} {l : List Tm} {b : Nat} {T : TypeId} {cs : Array Value} (h : RowT N P w v l) (hb : But b w w') (hB : Blk w b T cs) (hT : T ≠ 25) (hP : ∀ g, P g → g ≠ b) : RowT N P w' v l := by
 obtain ⟨es, h1, h2, h3⟩ := h
 exact ⟨es, h1, h2.kept hb.grownBy (.inr (own_blk_ne h2 hB (Ne.symm hT))), fun e he => ⟨(h3 e he).1, ((h3 e he).2.but hb (fun g hg => hP g hg.1)).mono fun g hg => ⟨hg.1, hg.2.1, Nat.lt_of_lt_of_le hg.2.2 hb.size⟩⟩⟩
set_option maxRecDepth 100000 in
set_option maxHeartbeats 4000000 in
theorem replace_calls (fid cb b N0 : Nat) (F : Int → Option Tm) (Q : Nat → Prop) (E : World → Prop) (hE : ∀ W W', E W → But b W W' → E W') (hQ : ∀ g, Q g → g < N0 ∧ g ≠ b) (hcf : ∀ args w, Sem.run Try.prog (callFunc fid args) w = .ok (.enter fid args) w)
  (hF : ∀ n x, F n = some x → x.size ≤ 1000000) (hf : ∀ (W : World) (n : Int), E W → 0 ≤ n → n < 100000 → Calls Try.prog fid #[.int .i64 n, .pointer (some ⟨cb, 0, none⟩)] W (RetP Q W (F n))) (t : Tm) :
  ∀ (P : Nat → Prop) (w : World) (v : Value) (L : Int), TmV P w v t → Blk w b 143 #[.int .i64 L] → (∀ g, P g → g ≠ b) → E w → N0 ≤ w.heap.size → 0 ≤ L → L ≤ 4000 → t.size ≤ 1000000 → (∀ x ∈ t.pre, x.k = 1 → 0 ≤ x.n ∧ x.n < 100000) →
   Calls Try.prog 127 #[.pointer (some ⟨b, 0, none⟩), v, .func (.func fid) #[] #[.pointer (some ⟨cb, 0, none⟩)]] w (RetR Q b w (t.rep F L)) := by
 induction t using Tm.ind with
 | h t ih =>
  intro P w v L hv hb hP hEw hN0 hL0 hL4 hsz hvar
  obtain ⟨A, c, rfl, hs, hc⟩ := hv
  obtain ⟨i0, hi0⟩ := info25
  have Hi := Lib.hid hi0; clear hi0
  have Ih := Lib.hid ih; clear ih
  obtain ⟨W0, hW0⟩ : ∃ W0, W0 = (w.alloc (.cells #[.int .i64 t.k, .int .i64 t.n, .string t.s, .slice A t.l.length c] 25)).alloc (.cells #[.int .i64 0, .int .i64 0, .string ⟨#[]⟩, .slice none 0 0] 25) := ⟨_, rfl⟩
  have hB0 : Below w.heap.size w W0 := by rw [hW0]; exact ((Below.refl _ _).alloc (Nat.le_refl _) _).alloc (by simp) _
  have hX0 : Blk W0 w.heap.size 25 #[.int .i64 t.k, .int .i64 t.n, .string t.s, .slice A t.l.length c] := by rw [hW0]; exact (Blk.new w 25 _).alloc _
  have hY0 : Blk W0 (w.heap.size + 1) 25 #[.int .i64 0, .int .i64 0, .string ⟨#[]⟩, .slice none 0 0] := by
   rw [hW0]
   have := Blk.new (w.alloc (.cells #[.int .i64 t.k, .int .i64 t.n, .string t.s, .slice A t.l.length c] 25)) 25 #[.int .i64 0, .int .i64 0, .string ⟨#[]⟩, .slice none 0 0]
   rwa [World.size_alloc] at this
  have ly0 := hY0.lt
  have hlc := hc.len.1
  have hlm := hc.len.2.1
  have hll : t.l.length ≤ 1000000 := by
   have h1 := t.size_eq
   have h2 := len_le_sizes t.l
   omega
  have hE0 := hE w W0 hEw (But.of_below hB0 (Nat.le_refl _))
  have hbw := hb.lt
  obtain ⟨bw0, bwf⟩ := Blk.one hb
  have hb0 := hb.below hB0 hb.lt
  have HE0 := Lib.hid hE0; clear hE0
  have HEw := Lib.hid hEw; clear hEw
  have hbk := hb
  have Hcw := Lib.hid hc
  have Hb0 := Lib.hid hb0; clear hb0 hb
  have Hc := Lib.hid (hc.stay hB0 (Nat.le_refl _)); clear hc
  have HX0 := Lib.hid hX0; clear hX0
  have HY0 := Lib.hid hY0; clear hY0
  have HB0 := Lib.hid hB0; clear hB0
  have HW := Lib.hid hW0; clear hW0
  have HP := Lib.hid hP; clear hP
  have Hvar := Lib.hid hvar; clear hvar
  obtain ⟨⟨a0, a1, a2, a3⟩, -⟩ := HX0.out.four
  have HF := Lib.hid hF; clear hF
  obtain ⟨R, hR⟩ : ∃ R, R = t.rep F L := ⟨_, rfl⟩
  rw [← hR]
  have HR := Lib.hid hR; clear hR
  by_cases hk : t.k = 1
  case neg =>
   have d1 : (t.k == 1) = false := by simpa using hk
   have Hrep := Lib.hid (Tm.rep_def F t L (fun x h => absurd h hk))
   clear hk
   obtain ⟨WL, hWL⟩ : ∃ WL, WL = ((w.setCell ⟨b, 0, none⟩ (.int .i64 (L - 1))).alloc (.cells #[.int .i64 t.k, .int .i64 t.n, .string t.s, .slice A t.l.length c] 25)).alloc (.cells #[.int .i64 0, .int .i64 0, .string ⟨#[]⟩, .slice none 0 0] 25) := ⟨_, rfl⟩
   have hsz0 : (w.setCell ⟨b, 0, none⟩ (.int .i64 (L - 1))).heap.size = w.heap.size := by simp
   have HBL := Lib.hid (show But b w WL from by rw [hWL]; exact (((But.refl b w).setCell 0 _).alloc _).alloc _)
   have hsl : w.heap.size + 2 = WL.heap.size := by rw [hWL]; simp
   have HbL := Lib.hid (show Blk WL b 143 #[.int .i64 (L - 1)] from by rw [hWL]; exact ((hbk.set_ 0 (.int .i64 (L - 1))).alloc _).alloc _)
   have HXL := Lib.hid (show Blk WL w.heap.size 25 #[.int .i64 t.k, .int .i64 t.n, .string t.s, .slice A t.l.length c] from by
    rw [hWL]
    have := (Blk.new (w.setCell ⟨b, 0, none⟩ (.int .i64 (L - 1))) 25 #[.int .i64 t.k, .int .i64 t.n, .string t.s, .slice A t.l.length c]).alloc (.cells #[.int .i64 0, .int .i64 0, .string ⟨#[]⟩, .slice none 0 0] 25)
    rwa [hsz0] at this)
   have HYL := Lib.hid (show Blk WL (w.heap.size + 1) 25 #[.int .i64 0, .int .i64 0, .string ⟨#[]⟩, .slice none 0 0] from by
    rw [hWL]
    have := Blk.new ((w.setCell ⟨b, 0, none⟩ (.int .i64 (L - 1))).alloc (.cells #[.int .i64 t.k, .int .i64 t.n, .string t.s, .slice A t.l.length c] 25)) 25 #[.int .i64 0, .int .i64 0, .string ⟨#[]⟩, .slice none 0 0]
    rwa [World.size_alloc, hsz0] at this)
   have HEL := Lib.hid (hE _ _ HEw.out HBL.out)
   have HcL := Lib.hid (Hcw.out.but HBL.out HP.out)
   have HWL := Lib.hid hWL; clear hWL hsz0
   clear a0 a1 a2 a3
   go_enter Try.func127, Try.ntmps127
   go_wp2
   rw [← HWL.out]
   go_loopw [11, 49] (fun u i wr => ∃ (k : Nat) (L' : Int) (ys : List Tm), k ≤ t.l.length ∧ i = .int .i64 k ∧ (RowT WL.heap.size (fun g => Q g ∨ WL.heap.size ≤ g) wr u ys ∧ Blk wr b 143 #[.int .i64 L'] ∧ But b WL wr ∧ -1000000 ≤ L' ∧ L' ≤ 4000 ∧ ys.length ≤ k ∧
    Tm.reps F t.l (L - 1) = (ys ++ (Tm.reps F (t.l.drop k) L').1, (Tm.reps F (t.l.drop k) L').2))) (fun _ i _ => t.l.length - (intOf i).toNat)
   case atStart => exact ⟨0, L - 1, [], Nat.zero_le _, rfl, RowT.nil _ _ _, HbL.out, But.refl _ _, by omega, by omega, Nat.le_refl _, rfl⟩
   case round =>
    obtain ⟨k, L', ys, hk, rfl, hrw, hbl, hB, hL1, hL2, hyl, hlink⟩ := hrel
    have HB := Lib.hid hB; clear hB
    have Hlink := Lib.hid hlink; clear hlink
    have Hrw := Lib.hid hrw; clear hrw
    have Hyl := Lib.hid hyl; clear hyl
    have hbs : wr.heap.size ≥ WL.heap.size := HB.out.size
    have hblt := hbl.lt
    have hx1 : w.heap.size < wr.heap.size := by omega
    have hx2 : w.heap.size + 1 < wr.heap.size := by omega
    have hbw1 : b ≠ w.heap.size := by omega
    have hbw2 : b ≠ w.heap.size + 1 := by omega
    have hbc : wr.cell? ⟨b, 0, none⟩ = some (.int .i64 L') := (Blk.one hbl).1
    have hbs : wr.heap.size ≥ WL.heap.size := HB.out.size
    have Hbl := Lib.hid hbl; clear hbl
    have HX := Lib.hid (HXL.out.but HB.out (by omega))
    have HY := Lib.hid (HYL.out.but HB.out (by omega))
    obtain ⟨⟨y0, y1, y2, y3⟩, ⟨yf0, yf1, yf2, yf3⟩⟩ := HX.out.four
    obtain ⟨⟨z0, z1, z2, z3⟩, ⟨zf0, zf1, zf2, zf3⟩⟩ := HY.out.four
    by_cases hlt : k < t.l.length
    ·obtain ⟨x, hx⟩ : ∃ x, t.l[k]? = some x := ⟨_, List.getElem?_eq_getElem hlt⟩
     obtain ⟨g, off, Ai, ci, rfl, hPg, ⟨e0, e1, e2, e3⟩, hxs, hxc⟩ := (HcL.out.but HB.out HP.out).at_ hx
     have hxm := List.mem_of_getElem? hx
     by_cases hneg : L' < 0
     ·have dn : decide (L' < 0) = true := decide_eq_true hneg
      have Hfin := Lib.hid (show Tm.reps F t.l (L - 1) = (ys, L') from by rw [Hlink.out, Tm.reps_neg F _ hneg, List.append_nil])
      clear hx
      obtain ⟨A2, c2, rfl, h2⟩ := Hrw.out.toC
      have hylz : ys.length ≤ 1000000 := by have := Hyl.out; omega
      have hob : ∀ g, ((Q g ∨ WL.heap.size ≤ g) ∨ some g = (Value.slice A2 ys.length c2).ownBlock) → (Q g ∨ WL.heap.size ≤ g) := fun g hg => by
       rcases hg with h | h
       ·exact h
       ·obtain ⟨es, h3, h4, h5⟩ := Hrw.out
        exact Or.inr (h4.lt g h.symm).1
      have hgt : ∀ g, (Q g ∨ WL.heap.size ≤ g) → g ≠ w.heap.size ∧ g ≠ w.heap.size + 1 := fun g hg => by
       rcases hg with h | h
       ·have := (hQ g h).1; omega
       ·omega
      have H2 := Lib.hid (h2.mono hob); clear h2 hob
      have Hgt := Lib.hid hgt; clear hgt
      go_wp2
      have hF := (((((HY.out.far (p := ⟨w.heap.size, 3, none⟩) (by simp) (.slice A2 ys.length c2)).set_ 0 (.int .i64 t.k)).set_ 1 (.int .i64 t.n)).set_ 2 (.string t.s)).set_ 3 (.slice A2 ys.length c2)).alloc (.cells #[.int .i64 x.k, .int .i64 x.n, .string x.s, .slice Ai x.l.length ci] 25)
      have hBb := (((((Hbl.out.far (p := ⟨w.heap.size, 3, none⟩) hbw1 (.slice A2 ys.length c2)).far (p := ⟨w.heap.size + 1, 0, none⟩) hbw2 (.int .i64 t.k)).far (p := ⟨w.heap.size + 1, 1, none⟩) hbw2 (.int .i64 t.n)).far (p := ⟨w.heap.size + 1, 2, none⟩) hbw2 (.string t.s)).far (p := ⟨w.heap.size + 1, 3, none⟩) hbw2 (.slice A2 ys.length c2)).alloc (.cells #[.int .i64 x.k, .int .i64 x.n, .string x.s, .slice Ai x.l.length ci] 25)
      have hT := ((((((H2.out.setCell ⟨w.heap.size, 3, none⟩ (.slice A2 ys.length c2) (fun g h => (Hgt.out g h).1)).setCell ⟨w.heap.size + 1, 0, none⟩ (.int .i64 t.k) (fun g h => (Hgt.out g h).2)).setCell ⟨w.heap.size + 1, 1, none⟩ (.int .i64 t.n) (fun g h => (Hgt.out g h).2)).setCell ⟨w.heap.size + 1, 2, none⟩ (.string t.s) (fun g h => (Hgt.out g h).2)).setCell ⟨w.heap.size + 1, 3, none⟩ (.slice A2 ys.length c2) (fun g h => (Hgt.out g h).2))).stay ((Below.refl _ _).alloc (Nat.le_refl _) (.cells #[.int .i64 x.k, .int .i64 x.n, .string x.s, .slice Ai x.l.length ci] 25)) (Nat.le_refl _)
      have hBF := ((((((HBL.out.trans HB.out).setCellFar ⟨w.heap.size, 3, none⟩ (Nat.le_refl _) (.slice A2 ys.length c2)).setCellFar ⟨w.heap.size + 1, 0, none⟩ (by simp) (.int .i64 t.k)).setCellFar ⟨w.heap.size + 1, 1, none⟩ (by simp) (.int .i64 t.n)).setCellFar ⟨w.heap.size + 1, 2, none⟩ (by simp) (.string t.s)).setCellFar ⟨w.heap.size + 1, 3, none⟩ (by simp) (.slice A2 ys.length c2)).alloc (.cells #[.int .i64 x.k, .int .i64 x.n, .string x.s, .slice Ai x.l.length ci] 25)
      obtain ⟨⟨q0, q1, q2, q3⟩, -⟩ := hF.four
      have hRR : R = (.mk t.k t.n t.s ys, L') := by rw [HR.out, Hrep.out, Hfin.out]
      refine bodyPost_ret (v := .agg #[.int .i64 t.k, .int .i64 t.n, .string t.s, .slice A2 ys.length c2]) ?_ rfl (R := RetR Q b w R) (by rw [hRR]; exact ⟨A2, c2, rfl, hs, hT.mono (fun g h => by rcases h with h | h; exact Or.inl h; exact Or.inr (by omega)), hBb, hBF⟩)
      generalize (World.alloc _ (.cells #[.int .i64 x.k, .int .i64 x.n, .string x.s, .slice Ai x.l.length ci] 25)) = WF at q0 q1 q2 q3 ⊢
      clear hF hT hBF hBb
      simp [results, Try.results127, go_sem, q0, q1, q2, q3]
     ·have dn : decide (L' < 0) = false := decide_eq_false hneg
      have hdrop : t.l.drop k = x :: t.l.drop (k + 1) := by
       obtain ⟨h1, h2⟩ := List.getElem?_eq_some_iff.1 hx
       rw [List.drop_eq_getElem_cons h1, h2]
      have hxz : x.size ≤ 1000000 := by have := Tm.size_child hxm; omega
      have Hlk := Lib.hid (show Tm.reps F t.l (L - 1) = ((ys ++ [(x.rep F L').1]) ++ (Tm.reps F (t.l.drop (k + 1)) (x.rep F L').2).1, (Tm.reps F (t.l.drop (k + 1)) (x.rep F L').2).2) from by
       rw [Hlink.out, hdrop, Tm.reps_cons, if_neg hneg]; simp)
      have hbd := (Tm.rep_bd F HF.out x.size).1 x L' (Nat.le_refl _) (by omega)
      have hbb : Below wr.heap.size wr (wr.alloc (.cells #[.int .i64 x.k, .int .i64 x.n, .string x.s, .slice Ai x.l.length ci] 25)) := (Below.refl _ _).alloc (Nat.le_refl _) _
      have hEr : E (wr.alloc (.cells #[.int .i64 x.k, .int .i64 x.n, .string x.s, .slice Ai x.l.length ci] 25)) := hE _ _ (hE _ _ HEL.out HB.out) (But.of_below hbb (Nat.le_refl _))
      have hcall := Ih.out x hxm P _ _ L' ⟨Ai, ci, rfl, hxs, hxc.stay hbb (Nat.le_refl _)⟩ (Hbl.out.below hbb hblt) HP.out hEr (by have := HBL.out.size; simp; omega) (by omega) hL2 hxz (fun y hy => Hvar.out y (pre_mem hxm hy))
      obtain ⟨r, hr⟩ : ∃ r, r = x.rep F L' := ⟨_, rfl⟩
      rw [← hr] at hcall hbd
      have Hlk2 := Lib.hid (show Tm.reps F t.l (L - 1) = ((ys ++ [r.1]) ++ (Tm.reps F (t.l.drop (k + 1)) r.2).1, (Tm.reps F (t.l.drop (k + 1)) r.2).2) from by rw [hr]; exact Hlk.out)
      have Hcall := Lib.hid hcall; clear hcall hxc hx hEr hdrop hr
      have HBB := Lib.hid hbb; clear hbb
      have Hbd := Lib.hid hbd; clear hbd
      go_wp2_with fail
      refine Hcall.out.mono ?_
      rintro e w2 ⟨A2, c2, rfl, hr1s, hx2, hbk2, hb2⟩
      have hbr : But b wr w2 := (But.of_below HBB.out (Nat.le_refl _)).trans hb2
      have hbr2 : But b wr (w2.alloc (.cells #[.int .i64 r.1.k, .int .i64 r.1.n, .string r.1.s, .slice A2 r.1.l.length c2] 25)) := hbr.alloc _
      have hPr : ∀ g, (Q g ∨ WL.heap.size ≤ g) → g ≠ b := fun g hg => by
       rcases hg with h | h
       ·exact (hQ g h).2
       ·have := HBL.out.size; omega
      have hrw2 := Hrw.out.but hbr2 Hbl.out (by decide) hPr
      have hx3 := hx2.stay ((Below.refl _ _).alloc (Nat.le_refl _) (.cells #[.int .i64 r.1.k, .int .i64 r.1.n, .string r.1.s, .slice A2 r.1.l.length c2] 25)) (Nat.le_refl _)
      have hob : ∀ g, (Q g ∨ wr.heap.size + 1 ≤ g) → (Q g ∨ WL.heap.size ≤ g) ∧ some g ≠ u11.ownBlock := fun g hg => by
       refine ⟨by rcases hg with h | h; exact Or.inl h; exact Or.inr (by omega), fun e => ?_⟩
       obtain ⟨es, h1, h2, h3⟩ := Hrw.out
       have h4 := h2.lt g e.symm
       rcases hg with h | h
       ·have := (hQ g h).1; have := HBL.out.size; omega
       ·omega
      obtain ⟨es, hes, hrow, hch⟩ := hrw2
      have hel : es.length ≤ k := by
       have h1 := congrArg List.length hes
       rw [List.length_map] at h1
       have := Hyl.out; omega
      have Hx3 := Lib.hid hx3; clear hx3 hx2
      have Hob := Lib.hid hob; clear hob
      have Hch := Lib.hid hch
      have Hrow := Lib.hid hrow
      have HB2 := Lib.hid (HB.out.trans hbr2)
      have Hbk2 := Lib.hid (hbk2.alloc (.cells #[.int .i64 r.1.k, .int .i64 r.1.n, .string r.1.s, .slice A2 r.1.l.length c2] 25)); clear hbk2
      clear hbr2 hbr hb2 hPr
      have Hes := Lib.hid hes
      have Hel := Lib.hid hel
      have Hr1s := Lib.hid hr1s
      clear hrow hch hes hel hr1s
      go_wp2_with (at_builtin; refine wpList_append_own_at _ rfl (.tmp 58) (.tmp 63) 22 rfl WL.heap.size 25 i0 _ 4 56 Try.underlying22 Hi.out.1 Hi.out.2.1 Hi.out.2.2.1 Hi.out.2.2.2 rfl (by decide) u11 es.length (es.flatMap encE) rfl Hrow.out ⟨w2.heap.size, 0, none⟩ 1 1 [.int .i64 r.1.k, .int .i64 r.1.n, .string r.1.s, .slice A2 r.1.l.length c2] rfl rfl ?c1 ?c2 ?c3 ?c4 ?c5 ?_)
      case c1 =>
       intro j u hu
       rw [add_lit0, (Blk.new w2 25 _).cell j]
       simpa using hu
      case c2 => simp [Value.oneCell']
      case c3 => have := Hel.out; simp only [maxLen]; omega
      case c4 => have := Hel.out; omega
      case c5 => have := HB2.out.size; simpa using this
      intro v' w4 hown hg _ hbk
      have hnew : RowT WL.heap.size (fun g => Q g ∨ WL.heap.size ≤ g) w4 v' (ys ++ [r.1]) :=
       RowT.push es Hes.out Hch.out Hr1s.out Hx3.out (fun g hg' => Hob.out g (by simpa using hg')) hown hg (by simpa using hbk)
      have hbo : u11.ownBlock ≠ some b := own_blk_ne Hrow.out Hbk2.out (by decide)
      have Hb4 := Lib.hid (Hbk2.out.grown hg (fun e => hbo e.symm))
      have HB4 := Lib.hid (show But b WL w4 from ⟨hg.os.trans HB2.out.os, hg.tape.trans HB2.out.tape, hg.output.trans HB2.out.output, Nat.le_trans HB2.out.size hg.size, fun j hj hjb => (hg.block j (Nat.lt_of_lt_of_le hj HB2.out.size) (fun e => by
       have := (Hrow.out.lt j e.symm).1; omega)).trans (HB2.out.block j hj hjb)⟩)
      have Hnew := Lib.hid hnew
      obtain ⟨A', c', rfl⟩ := own_slice hown
      clear hown hg hbk hnew hbo
      go_wp2
      go_roundw
      case rel => exact ⟨k + 1, r.2, ys ++ [r.1], by omega, by go_num, Hnew.out, Hb4.out, HB4.out, Hbd.out.1, by have := Hbd.out.2; omega, by have := Hyl.out; simp; omega, Hlk2.out⟩
      case measure => simp [intOf]; omega
    ·have hke : k = t.l.length := by omega
     subst hke
     have Hfin := Lib.hid (show Tm.reps F t.l (L - 1) = (ys, L') from by rw [Hlink.out, List.drop_length, Tm.reps_nil, List.append_nil])
     obtain ⟨A2, c2, rfl, h2⟩ := Hrw.out.toC
     have hylz : ys.length ≤ 1000000 := by have := Hyl.out; omega
     have hob : ∀ g, ((Q g ∨ WL.heap.size ≤ g) ∨ some g = (Value.slice A2 ys.length c2).ownBlock) → (Q g ∨ WL.heap.size ≤ g) := fun g hg => by
      rcases hg with h | h
      ·exact h
      ·obtain ⟨es, h3, h4, h5⟩ := Hrw.out
       exact Or.inr (h4.lt g h.symm).1
     have hgt : ∀ g, (Q g ∨ WL.heap.size ≤ g) → g ≠ w.heap.size ∧ g ≠ w.heap.size + 1 := fun g hg => by
      rcases hg with h | h
      ·have := (hQ g h).1; omega
      ·omega
     have H2 := Lib.hid (h2.mono hob); clear h2 hob
     have Hgt := Lib.hid hgt; clear hgt
     go_wp2
     have hF := (((((HY.out.far (p := ⟨w.heap.size, 3, none⟩) (by simp) (.slice A2 ys.length c2)).set_ 0 (.int .i64 t.k)).set_ 1 (.int .i64 t.n)).set_ 2 (.string t.s)).set_ 3 (.slice A2 ys.length c2))
     have hBb := (((((Hbl.out.far (p := ⟨w.heap.size, 3, none⟩) hbw1 (.slice A2 ys.length c2)).far (p := ⟨w.heap.size + 1, 0, none⟩) hbw2 (.int .i64 t.k)).far (p := ⟨w.heap.size + 1, 1, none⟩) hbw2 (.int .i64 t.n)).far (p := ⟨w.heap.size + 1, 2, none⟩) hbw2 (.string t.s)).far (p := ⟨w.heap.size + 1, 3, none⟩) hbw2 (.slice A2 ys.length c2))
     have hT := ((((((H2.out.setCell ⟨w.heap.size, 3, none⟩ (.slice A2 ys.length c2) (fun g h => (Hgt.out g h).1)).setCell ⟨w.heap.size + 1, 0, none⟩ (.int .i64 t.k) (fun g h => (Hgt.out g h).2)).setCell ⟨w.heap.size + 1, 1, none⟩ (.int .i64 t.n) (fun g h => (Hgt.out g h).2)).setCell ⟨w.heap.size + 1, 2, none⟩ (.string t.s) (fun g h => (Hgt.out g h).2)).setCell ⟨w.heap.size + 1, 3, none⟩ (.slice A2 ys.length c2) (fun g h => (Hgt.out g h).2)))
     have hBF := ((((((HBL.out.trans HB.out).setCellFar ⟨w.heap.size, 3, none⟩ (Nat.le_refl _) (.slice A2 ys.length c2)).setCellFar ⟨w.heap.size + 1, 0, none⟩ (by simp) (.int .i64 t.k)).setCellFar ⟨w.heap.size + 1, 1, none⟩ (by simp) (.int .i64 t.n)).setCellFar ⟨w.heap.size + 1, 2, none⟩ (by simp) (.string t.s)).setCellFar ⟨w.heap.size + 1, 3, none⟩ (by simp) (.slice A2 ys.length c2))
     obtain ⟨⟨q0, q1, q2, q3⟩, -⟩ := hF.four
     have hRR : R = (.mk t.k t.n t.s ys, L') := by rw [HR.out, Hrep.out, Hfin.out]
     refine bodyPost_ret (v := .agg #[.int .i64 t.k, .int .i64 t.n, .string t.s, .slice A2 ys.length c2]) ?_ rfl (R := RetR Q b w R) (by rw [hRR]; exact ⟨A2, c2, rfl, hs, hT.mono (fun g h => by rcases h with h | h; exact Or.inl h; exact Or.inr (by omega)), hBb, hBF⟩)
     generalize (World.setCell _ ⟨w.heap.size + 1, 3, none⟩ _) = WF at q0 q1 q2 q3 ⊢
     clear hF hT hBF hBb
     simp [results, Try.results127, go_sem, q0, q1, q2, q3]
  obtain ⟨hv0, hv1⟩ := Hvar.out t (by rw [t.pre_eq]; simp) hk
  have hcall := hf W0 t.n HE0.out hv0 hv1
  have hkk := Lib.hid hk
  cases hfn : F t.n with
  | some x =>
   rw [hfn] at hcall
   have hcall := hcall.mono (R' := fun e w1 => ∃ A1 c1, e = .returned (.tuple #[.agg #[.int .i64 x.k, .int .i64 x.n, .string x.s, .slice A1 x.l.length c1], .bool true]) ∧ x.s.size ≤ 9223372036854775807 ∧ TmC Q w1 A1 c1 x.l ∧ Below W0.heap.size W0 w1) (fun e w1 h => h)
   have Hcall := Lib.hid hcall; clear hcall
   have hxz := HF.out _ _ hfn
   have Hrep := Lib.hid (Tm.rep_hit F t L hkk.out hfn)
   have d1 : (t.k == 1) = true := by simpa using hk
   clear hfn hk
   go_enter Try.func127, Try.ntmps127
   go_wp2_with fail
   rw [← HW.out]
   refine Hcall.out.mono ?_
   rintro e w1 ⟨A1, c1, rfl, hs1, hx1, hb1⟩
   have hB1 := HB0.out.trans (hb1.mono HB0.out.size)
   have hbb := (Below.refl _ _).alloc (Nat.le_refl _) (.cells #[.int .i64 x.k, .int .i64 x.n, .string x.s, .slice A1 x.l.length c1] 25) (a := w1)
   have hcall := size_calls x Q _ _ ⟨A1, c1, rfl, hs1, hx1.stay hbb (Nat.le_refl _)⟩ hxz
   have Hcall2 := Lib.hid hcall; clear hcall
   have HB1 := Lib.hid (hB1.trans (hbb.mono hB1.size))
   have Hx1 := Lib.hid (hx1.stay hbb (Nat.le_refl _)); clear hx1
   have HX1 := Lib.hid ((Blk.new w1 25 #[.int .i64 x.k, .int .i64 x.n, .string x.s, .slice A1 x.l.length c1]))
   have hYa := (HY0.out.below hb1 ly0)
   have HY1 := Lib.hid (hYa.below hbb hYa.lt); clear hYa
   have hba := (Hb0.out.below hb1 (by have := HB0.out.size; omega))
   have Hb1 := Lib.hid (hba.below hbb hba.lt); clear hba
   have hszw1 := hB1.size
   have hbw3 : b ≠ w1.heap.size := by omega
   have hlY1 : w.heap.size + 1 < w1.heap.size := Nat.lt_of_lt_of_le ly0 hb1.size
   have hbw4 : w.heap.size + 1 ≠ w1.heap.size := by omega
   clear hB1 hb1 hbb
   go_wp2_with fail
   refine Hcall2.out.mono ?_
   rintro e w2 ⟨rfl, hb2⟩
   have hsz1 := HB1.out.size
   have lX := HX1.out.lt
   have lY := HY1.out.lt
   have lb := Hb1.out.lt
   have hX2 := HX1.out.below hb2 lX
   have hY2 := HY1.out.below hb2 lY
   have hb2' := Hb1.out.below hb2 lb
   obtain ⟨⟨y0, y1, y2, y3⟩, -⟩ := hX2.four
   obtain ⟨⟨z0, z1, z2, z3⟩, ⟨zf0, zf1, zf2, zf3⟩⟩ := hY2.four
   obtain ⟨p0, pf0⟩ := Blk.one hb2'
   have hbw2 : b ≠ w.heap.size + 1 := by omega
   have HY2 := Lib.hid hY2; clear hY2
   have Hb2 := Lib.hid hb2'; clear hb2'
   have HB2 := Lib.hid (HB1.out.trans (hb2.mono hsz1))
   have H2 := Lib.hid (Hx1.out.stay hb2 (Nat.le_refl _))
   clear hb2 hX2
   go_wp2
   have hF := (((((HY2.out.far (p := ⟨b, 0, none⟩) (Ne.symm hbw2) (.int .i64 (L - x.size))).set_ 0 (.int .i64 x.k)).set_ 1 (.int .i64 x.n)).set_ 2 (.string x.s)).set_ 3 (.slice A1 x.l.length c1))
   have hBb := (((((Hb2.out.set_ 0 (.int .i64 (L - x.size))).far (p := ⟨w.heap.size + 1, 0, none⟩) hbw2 (.int .i64 x.k)).far (p := ⟨w.heap.size + 1, 1, none⟩) hbw2 (.int .i64 x.n)).far (p := ⟨w.heap.size + 1, 2, none⟩) hbw2 (.string x.s)).far (p := ⟨w.heap.size + 1, 3, none⟩) hbw2 (.slice A1 x.l.length c1))
   have hgt : ∀ g, Q g → g ≠ b ∧ g ≠ w.heap.size + 1 := fun g h => ⟨(hQ g h).2, by have := (hQ g h).1; omega⟩
   have hT := (((((H2.out.setCell ⟨b, 0, none⟩ (.int .i64 (L - x.size)) (fun g h => (hgt g h).1)).setCell ⟨w.heap.size + 1, 0, none⟩ (.int .i64 x.k) (fun g h => (hgt g h).2)).setCell ⟨w.heap.size + 1, 1, none⟩ (.int .i64 x.n) (fun g h => (hgt g h).2)).setCell ⟨w.heap.size + 1, 2, none⟩ (.string x.s) (fun g h => (hgt g h).2)).setCell ⟨w.heap.size + 1, 3, none⟩ (.slice A1 x.l.length c1) (fun g h => (hgt g h).2))
   have hBF := ((((((But.of_below HB2.out (Nat.le_refl _)).setCell (b := b) 0 (.int .i64 (L - x.size))).setCellFar ⟨w.heap.size + 1, 0, none⟩ (by simp) (.int .i64 x.k)).setCellFar ⟨w.heap.size + 1, 1, none⟩ (by simp) (.int .i64 x.n)).setCellFar ⟨w.heap.size + 1, 2, none⟩ (by simp) (.string x.s)).setCellFar ⟨w.heap.size + 1, 3, none⟩ (by simp) (.slice A1 x.l.length c1))
   obtain ⟨⟨q0, q1, q2, q3⟩, -⟩ := hF.four
   have hRR : R = (x, L - x.size) := by rw [HR.out, Hrep.out]
   refine bodyPost_ret (v := .agg #[.int .i64 x.k, .int .i64 x.n, .string x.s, .slice A1 x.l.length c1]) ?_ rfl (R := RetR Q b w R) (by rw [hRR]; exact ⟨A1, c1, rfl, hs1, hT.mono (fun g h => Or.inl h), hBb, hBF⟩)
   generalize (World.setCell _ ⟨w.heap.size + 1, 3, none⟩ _) = WF at q0 q1 q2 q3 ⊢
   clear hF hT hBF hBb
   simp [results, Try.results127, go_sem, q0, q1, q2, q3]
  | none =>
   rw [hfn] at hcall
   have hcall := hcall.mono (R' := fun e w1 => ∃ A1 c1, e = .returned (.tuple #[.agg #[.int .i64 0, .int .i64 0, .string ⟨#[]⟩, .slice A1 0 c1], .bool false]) ∧ Below W0.heap.size W0 w1) (fun e w1 h => by
    obtain ⟨A1, c1, h1, -, -, h2⟩ := h
    exact ⟨A1, c1, h1, h2⟩)
   have Hcall := Lib.hid hcall; clear hcall
   have Hrep := Lib.hid (Tm.rep_def F t L (fun x _ h => by rw [hfn] at h; cases h))
   have d1 : (t.k == 1) = true := by simpa using hk
   clear hfn hk
   go_enter Try.func127, Try.ntmps127
   go_wp2_with fail
   rw [← HW.out]
   refine Hcall.out.mono ?_
   rintro e w1 ⟨A1, c1, rfl, hb1⟩
   have hB1 := HB0.out.trans (hb1.mono HB0.out.size)
   have hX1 := HX0.out.below hb1 (by omega)
   have hY1 := HY0.out.below hb1 ly0
   have hb1' := Hb0.out.below hb1 (by have := HB0.out.size; omega)
   have hc1 := Hc.out.stay hb1 (Nat.le_refl _)
   have hszw1 := hB1.size
   have hlY1 : w.heap.size + 1 < w1.heap.size := Nat.lt_of_lt_of_le ly0 hb1.size
   have hbw1' : b < w1.heap.size := by omega
   have hbx1 : b ≠ w.heap.size := by omega
   have hbx2 : b ≠ w.heap.size + 1 := by omega
   have hbx3 : b ≠ w1.heap.size := by omega
   have hlX1 : w.heap.size < w1.heap.size := by omega
   obtain ⟨p0, pf0⟩ := Blk.one hb1'
   obtain ⟨⟨y0, y1, y2, y3⟩, -⟩ := hX1.four
   obtain ⟨WL, hWL⟩ : ∃ WL, WL = (w1.setCell ⟨b, 0, none⟩ (.int .i64 (L - 1))).alloc (.cells #[.int .i64 0, .int .i64 0, .string ⟨#[]⟩, .slice A1 0 c1] 25) := ⟨_, rfl⟩
   have HBL := Lib.hid (show But b w WL from by rw [hWL]; exact ((But.of_below hB1 (Nat.le_refl _)).setCell (b := b) 0 _).alloc _)
   have hsl : w.heap.size + 2 ≤ WL.heap.size := by rw [hWL]; simp; omega
   have HbL := Lib.hid (show Blk WL b 143 #[.int .i64 (L - 1)] from by rw [hWL]; exact (hb1'.set_ 0 (.int .i64 (L - 1))).alloc _)
   have HXL := Lib.hid (show Blk WL w.heap.size 25 #[.int .i64 t.k, .int .i64 t.n, .string t.s, .slice A t.l.length c] from by rw [hWL]; exact (hX1.far (p := ⟨b, 0, none⟩) (Ne.symm hbx1) _).alloc _)
   have HYL := Lib.hid (show Blk WL (w.heap.size + 1) 25 #[.int .i64 0, .int .i64 0, .string ⟨#[]⟩, .slice none 0 0] from by rw [hWL]; exact (hY1.far (p := ⟨b, 0, none⟩) (Ne.symm hbx2) _).alloc _)
   have HEL := Lib.hid (hE _ _ HEw.out HBL.out)
   have HcL := Lib.hid (Hcw.out.but HBL.out HP.out)
   have HWL := Lib.hid hWL; clear hWL
   clear a0 a1 a2 a3 hX1 hY1 hb1' hb1 hB1 hc1
   go_wp2
   rw [← HWL.out]
   clear y0 y1 y2 y3 p0 pf0
   go_loopw [11, 49] (fun u i wr => ∃ (k : Nat) (L' : Int) (ys : List Tm), k ≤ t.l.length ∧ i = .int .i64 k ∧ (RowT WL.heap.size (fun g => Q g ∨ WL.heap.size ≤ g) wr u ys ∧ Blk wr b 143 #[.int .i64 L'] ∧ But b WL wr ∧ -1000000 ≤ L' ∧ L' ≤ 4000 ∧ ys.length ≤ k ∧
    Tm.reps F t.l (L - 1) = (ys ++ (Tm.reps F (t.l.drop k) L').1, (Tm.reps F (t.l.drop k) L').2))) (fun _ i _ => t.l.length - (intOf i).toNat)
   case atStart => exact ⟨0, L - 1, [], Nat.zero_le _, rfl, RowT.nil _ _ _, HbL.out, But.refl _ _, by omega, by omega, Nat.le_refl _, rfl⟩
   case round =>
    obtain ⟨k, L', ys, hk, rfl, hrw, hbl, hB, hL1, hL2, hyl, hlink⟩ := hrel
    have HB := Lib.hid hB; clear hB
    have Hlink := Lib.hid hlink; clear hlink
    have Hrw := Lib.hid hrw; clear hrw
    have Hyl := Lib.hid hyl; clear hyl
    have hbs : wr.heap.size ≥ WL.heap.size := HB.out.size
    have hblt := hbl.lt
    have hx1 : w.heap.size < wr.heap.size := by omega
    have hx2 : w.heap.size + 1 < wr.heap.size := by omega
    have hbw1 : b ≠ w.heap.size := by omega
    have hbw2 : b ≠ w.heap.size + 1 := by omega
    have hbc : wr.cell? ⟨b, 0, none⟩ = some (.int .i64 L') := (Blk.one hbl).1
    have hbs : wr.heap.size ≥ WL.heap.size := HB.out.size
    have Hbl := Lib.hid hbl; clear hbl
    have HX := Lib.hid (HXL.out.but HB.out (by omega))
    have HY := Lib.hid (HYL.out.but HB.out (by omega))
    obtain ⟨⟨y0, y1, y2, y3⟩, ⟨yf0, yf1, yf2, yf3⟩⟩ := HX.out.four
    obtain ⟨⟨z0, z1, z2, z3⟩, ⟨zf0, zf1, zf2, zf3⟩⟩ := HY.out.four
    by_cases hlt : k < t.l.length
    ·obtain ⟨x, hx⟩ : ∃ x, t.l[k]? = some x := ⟨_, List.getElem?_eq_getElem hlt⟩
     obtain ⟨g, off, Ai, ci, rfl, hPg, ⟨e0, e1, e2, e3⟩, hxs, hxc⟩ := (HcL.out.but HB.out HP.out).at_ hx
     have hxm := List.mem_of_getElem? hx
     by_cases hneg : L' < 0
     ·have dn : decide (L' < 0) = true := decide_eq_true hneg
      have Hfin := Lib.hid (show Tm.reps F t.l (L - 1) = (ys, L') from by rw [Hlink.out, Tm.reps_neg F _ hneg, List.append_nil])
      clear hx
      obtain ⟨A2, c2, rfl, h2⟩ := Hrw.out.toC
      have hylz : ys.length ≤ 1000000 := by have := Hyl.out; omega
      have hob : ∀ g, ((Q g ∨ WL.heap.size ≤ g) ∨ some g = (Value.slice A2 ys.length c2).ownBlock) → (Q g ∨ WL.heap.size ≤ g) := fun g hg => by
       rcases hg with h | h
       ·exact h
       ·obtain ⟨es, h3, h4, h5⟩ := Hrw.out
        exact Or.inr (h4.lt g h.symm).1
      have hgt : ∀ g, (Q g ∨ WL.heap.size ≤ g) → g ≠ w.heap.size ∧ g ≠ w.heap.size + 1 := fun g hg => by
       rcases hg with h | h
       ·have := (hQ g h).1; omega
       ·omega
      have H2 := Lib.hid (h2.mono hob); clear h2 hob
      have Hgt := Lib.hid hgt; clear hgt
      go_wp2
      have hF := (((((HY.out.far (p := ⟨w.heap.size, 3, none⟩) (by simp) (.slice A2 ys.length c2)).set_ 0 (.int .i64 t.k)).set_ 1 (.int .i64 t.n)).set_ 2 (.string t.s)).set_ 3 (.slice A2 ys.length c2)).alloc (.cells #[.int .i64 x.k, .int .i64 x.n, .string x.s, .slice Ai x.l.length ci] 25)
      have hBb := (((((Hbl.out.far (p := ⟨w.heap.size, 3, none⟩) hbw1 (.slice A2 ys.length c2)).far (p := ⟨w.heap.size + 1, 0, none⟩) hbw2 (.int .i64 t.k)).far (p := ⟨w.heap.size + 1, 1, none⟩) hbw2 (.int .i64 t.n)).far (p := ⟨w.heap.size + 1, 2, none⟩) hbw2 (.string t.s)).far (p := ⟨w.heap.size + 1, 3, none⟩) hbw2 (.slice A2 ys.length c2)).alloc (.cells #[.int .i64 x.k, .int .i64 x.n, .string x.s, .slice Ai x.l.length ci] 25)
      have hT := ((((((H2.out.setCell ⟨w.heap.size, 3, none⟩ (.slice A2 ys.length c2) (fun g h => (Hgt.out g h).1)).setCell ⟨w.heap.size + 1, 0, none⟩ (.int .i64 t.k) (fun g h => (Hgt.out g h).2)).setCell ⟨w.heap.size + 1, 1, none⟩ (.int .i64 t.n) (fun g h => (Hgt.out g h).2)).setCell ⟨w.heap.size + 1, 2, none⟩ (.string t.s) (fun g h => (Hgt.out g h).2)).setCell ⟨w.heap.size + 1, 3, none⟩ (.slice A2 ys.length c2) (fun g h => (Hgt.out g h).2))).stay ((Below.refl _ _).alloc (Nat.le_refl _) (.cells #[.int .i64 x.k, .int .i64 x.n, .string x.s, .slice Ai x.l.length ci] 25)) (Nat.le_refl _)
      have hBF := ((((((HBL.out.trans HB.out).setCellFar ⟨w.heap.size, 3, none⟩ (Nat.le_refl _) (.slice A2 ys.length c2)).setCellFar ⟨w.heap.size + 1, 0, none⟩ (by simp) (.int .i64 t.k)).setCellFar ⟨w.heap.size + 1, 1, none⟩ (by simp) (.int .i64 t.n)).setCellFar ⟨w.heap.size + 1, 2, none⟩ (by simp) (.string t.s)).setCellFar ⟨w.heap.size + 1, 3, none⟩ (by simp) (.slice A2 ys.length c2)).alloc (.cells #[.int .i64 x.k, .int .i64 x.n, .string x.s, .slice Ai x.l.length ci] 25)
      obtain ⟨⟨q0, q1, q2, q3⟩, -⟩ := hF.four
      have hRR : R = (.mk t.k t.n t.s ys, L') := by rw [HR.out, Hrep.out, Hfin.out]
      refine bodyPost_ret (v := .agg #[.int .i64 t.k, .int .i64 t.n, .string t.s, .slice A2 ys.length c2]) ?_ rfl (R := RetR Q b w R) (by rw [hRR]; exact ⟨A2, c2, rfl, hs, hT.mono (fun g h => by rcases h with h | h; exact Or.inl h; exact Or.inr (by omega)), hBb, hBF⟩)
      generalize (World.alloc _ (.cells #[.int .i64 x.k, .int .i64 x.n, .string x.s, .slice Ai x.l.length ci] 25)) = WF at q0 q1 q2 q3 ⊢
      clear hF hT hBF hBb
      simp [results, Try.results127, go_sem, q0, q1, q2, q3]
     ·have dn : decide (L' < 0) = false := decide_eq_false hneg
      have hdrop : t.l.drop k = x :: t.l.drop (k + 1) := by
       obtain ⟨h1, h2⟩ := List.getElem?_eq_some_iff.1 hx
       rw [List.drop_eq_getElem_cons h1, h2]
      have hxz : x.size ≤ 1000000 := by have := Tm.size_child hxm; omega
      have Hlk := Lib.hid (show Tm.reps F t.l (L - 1) = ((ys ++ [(x.rep F L').1]) ++ (Tm.reps F (t.l.drop (k + 1)) (x.rep F L').2).1, (Tm.reps F (t.l.drop (k + 1)) (x.rep F L').2).2) from by
       rw [Hlink.out, hdrop, Tm.reps_cons, if_neg hneg]; simp)
      have hbd := (Tm.rep_bd F HF.out x.size).1 x L' (Nat.le_refl _) (by omega)
      have hbb : Below wr.heap.size wr (wr.alloc (.cells #[.int .i64 x.k, .int .i64 x.n, .string x.s, .slice Ai x.l.length ci] 25)) := (Below.refl _ _).alloc (Nat.le_refl _) _
      have hEr : E (wr.alloc (.cells #[.int .i64 x.k, .int .i64 x.n, .string x.s, .slice Ai x.l.length ci] 25)) := hE _ _ (hE _ _ HEL.out HB.out) (But.of_below hbb (Nat.le_refl _))
      have hcall := Ih.out x hxm P _ _ L' ⟨Ai, ci, rfl, hxs, hxc.stay hbb (Nat.le_refl _)⟩ (Hbl.out.below hbb hblt) HP.out hEr (by have := HBL.out.size; simp; omega) (by omega) hL2 hxz (fun y hy => Hvar.out y (pre_mem hxm hy))
      obtain ⟨r, hr⟩ : ∃ r, r = x.rep F L' := ⟨_, rfl⟩
      rw [← hr] at hcall hbd
      have Hlk2 := Lib.hid (show Tm.reps F t.l (L - 1) = ((ys ++ [r.1]) ++ (Tm.reps F (t.l.drop (k + 1)) r.2).1, (Tm.reps F (t.l.drop (k + 1)) r.2).2) from by rw [hr]; exact Hlk.out)
      have Hcall := Lib.hid hcall; clear hcall hxc hx hEr hdrop hr
      have HBB := Lib.hid hbb; clear hbb
      have Hbd := Lib.hid hbd; clear hbd
      go_wp2_with fail
      refine Hcall.out.mono ?_
      rintro e w2 ⟨A2, c2, rfl, hr1s, hx2, hbk2, hb2⟩
      have hbr : But b wr w2 := (But.of_below HBB.out (Nat.le_refl _)).trans hb2
      have hbr2 : But b wr (w2.alloc (.cells #[.int .i64 r.1.k, .int .i64 r.1.n, .string r.1.s, .slice A2 r.1.l.length c2] 25)) := hbr.alloc _
      have hPr : ∀ g, (Q g ∨ WL.heap.size ≤ g) → g ≠ b := fun g hg => by
       rcases hg with h | h
       ·exact (hQ g h).2
       ·have := HBL.out.size; omega
      have hrw2 := Hrw.out.but hbr2 Hbl.out (by decide) hPr
      have hx3 := hx2.stay ((Below.refl _ _).alloc (Nat.le_refl _) (.cells #[.int .i64 r.1.k, .int .i64 r.1.n, .string r.1.s, .slice A2 r.1.l.length c2] 25)) (Nat.le_refl _)
      have hob : ∀ g, (Q g ∨ wr.heap.size + 1 ≤ g) → (Q g ∨ WL.heap.size ≤ g) ∧ some g ≠ u11.ownBlock := fun g hg => by
       refine ⟨by rcases hg with h | h; exact Or.inl h; exact Or.inr (by omega), fun e => ?_⟩
       obtain ⟨es, h1, h2, h3⟩ := Hrw.out
       have h4 := h2.lt g e.symm
       rcases hg with h | h
       ·have := (hQ g h).1; have := HBL.out.size; omega
       ·omega
      obtain ⟨es, hes, hrow, hch⟩ := hrw2
      have hel : es.length ≤ k := by
       have h1 := congrArg List.length hes
       rw [List.length_map] at h1
       have := Hyl.out; omega
      have Hx3 := Lib.hid hx3; clear hx3 hx2
      have Hob := Lib.hid hob; clear hob
      have Hch := Lib.hid hch
      have Hrow := Lib.hid hrow
      have HB2 := Lib.hid (HB.out.trans hbr2)
      have Hbk2 := Lib.hid (hbk2.alloc (.cells #[.int .i64 r.1.k, .int .i64 r.1.n, .string r.1.s, .slice A2 r.1.l.length c2] 25)); clear hbk2
      clear hbr2 hbr hb2 hPr
      have Hes := Lib.hid hes
      have Hel := Lib.hid hel
      have Hr1s := Lib.hid hr1s
      clear hrow hch hes hel hr1s
      go_wp2_with (at_builtin; refine wpList_append_own_at _ rfl (.tmp 58) (.tmp 63) 22 rfl WL.heap.size 25 i0 _ 4 56 Try.underlying22 Hi.out.1 Hi.out.2.1 Hi.out.2.2.1 Hi.out.2.2.2 rfl (by decide) u11 es.length (es.flatMap encE) rfl Hrow.out ⟨w2.heap.size, 0, none⟩ 1 1 [.int .i64 r.1.k, .int .i64 r.1.n, .string r.1.s, .slice A2 r.1.l.length c2] rfl rfl ?c1 ?c2 ?c3 ?c4 ?c5 ?_)
      case c1 =>
       intro j u hu
       rw [add_lit0, (Blk.new w2 25 _).cell j]
       simpa using hu
      case c2 => simp [Value.oneCell']
      case c3 => have := Hel.out; simp only [maxLen]; omega
      case c4 => have := Hel.out; omega
      case c5 => have := HB2.out.size; simpa using this
      intro v' w4 hown hg _ hbk
      have hnew : RowT WL.heap.size (fun g => Q g ∨ WL.heap.size ≤ g) w4 v' (ys ++ [r.1]) :=
       RowT.push es Hes.out Hch.out Hr1s.out Hx3.out (fun g hg' => Hob.out g (by simpa using hg')) hown hg (by simpa using hbk)
      have hbo : u11.ownBlock ≠ some b := own_blk_ne Hrow.out Hbk2.out (by decide)
      have Hb4 := Lib.hid (Hbk2.out.grown hg (fun e => hbo e.symm))
      have HB4 := Lib.hid (show But b WL w4 from ⟨hg.os.trans HB2.out.os, hg.tape.trans HB2.out.tape, hg.output.trans HB2.out.output, Nat.le_trans HB2.out.size hg.size, fun j hj hjb => (hg.block j (Nat.lt_of_lt_of_le hj HB2.out.size) (fun e => by
       have := (Hrow.out.lt j e.symm).1; omega)).trans (HB2.out.block j hj hjb)⟩)
      have Hnew := Lib.hid hnew
      obtain ⟨A', c', rfl⟩ := own_slice hown
      clear hown hg hbk hnew hbo
      go_wp2
      go_roundw
      case rel => exact ⟨k + 1, r.2, ys ++ [r.1], by omega, by go_num, Hnew.out, Hb4.out, HB4.out, Hbd.out.1, by have := Hbd.out.2; omega, by have := Hyl.out; simp; omega, Hlk2.out⟩
      case measure => simp [intOf]; omega
    ·have hke : k = t.l.length := by omega
     subst hke
     have Hfin := Lib.hid (show Tm.reps F t.l (L - 1) = (ys, L') from by rw [Hlink.out, List.drop_length, Tm.reps_nil, List.append_nil])
     obtain ⟨A2, c2, rfl, h2⟩ := Hrw.out.toC
     have hylz : ys.length ≤ 1000000 := by have := Hyl.out; omega
     have hob : ∀ g, ((Q g ∨ WL.heap.size ≤ g) ∨ some g = (Value.slice A2 ys.length c2).ownBlock) → (Q g ∨ WL.heap.size ≤ g) := fun g hg => by
      rcases hg with h | h
      ·exact h
      ·obtain ⟨es, h3, h4, h5⟩ := Hrw.out
       exact Or.inr (h4.lt g h.symm).1
     have hgt : ∀ g, (Q g ∨ WL.heap.size ≤ g) → g ≠ w.heap.size ∧ g ≠ w.heap.size + 1 := fun g hg => by
      rcases hg with h | h
      ·have := (hQ g h).1; omega
      ·omega
     have H2 := Lib.hid (h2.mono hob); clear h2 hob
     have Hgt := Lib.hid hgt; clear hgt
     go_wp2
     have hF := (((((HY.out.far (p := ⟨w.heap.size, 3, none⟩) (by simp) (.slice A2 ys.length c2)).set_ 0 (.int .i64 t.k)).set_ 1 (.int .i64 t.n)).set_ 2 (.string t.s)).set_ 3 (.slice A2 ys.length c2))
     have hBb := (((((Hbl.out.far (p := ⟨w.heap.size, 3, none⟩) hbw1 (.slice A2 ys.length c2)).far (p := ⟨w.heap.size + 1, 0, none⟩) hbw2 (.int .i64 t.k)).far (p := ⟨w.heap.size + 1, 1, none⟩) hbw2 (.int .i64 t.n)).far (p := ⟨w.heap.size + 1, 2, none⟩) hbw2 (.string t.s)).far (p := ⟨w.heap.size + 1, 3, none⟩) hbw2 (.slice A2 ys.length c2))
     have hT := ((((((H2.out.setCell ⟨w.heap.size, 3, none⟩ (.slice A2 ys.length c2) (fun g h => (Hgt.out g h).1)).setCell ⟨w.heap.size + 1, 0, none⟩ (.int .i64 t.k) (fun g h => (Hgt.out g h).2)).setCell ⟨w.heap.size + 1, 1, none⟩ (.int .i64 t.n) (fun g h => (Hgt.out g h).2)).setCell ⟨w.heap.size + 1, 2, none⟩ (.string t.s) (fun g h => (Hgt.out g h).2)).setCell ⟨w.heap.size + 1, 3, none⟩ (.slice A2 ys.length c2) (fun g h => (Hgt.out g h).2)))
     have hBF := ((((((HBL.out.trans HB.out).setCellFar ⟨w.heap.size, 3, none⟩ (Nat.le_refl _) (.slice A2 ys.length c2)).setCellFar ⟨w.heap.size + 1, 0, none⟩ (by simp) (.int .i64 t.k)).setCellFar ⟨w.heap.size + 1, 1, none⟩ (by simp) (.int .i64 t.n)).setCellFar ⟨w.heap.size + 1, 2, none⟩ (by simp) (.string t.s)).setCellFar ⟨w.heap.size + 1, 3, none⟩ (by simp) (.slice A2 ys.length c2))
     obtain ⟨⟨q0, q1, q2, q3⟩, -⟩ := hF.four
     have hRR : R = (.mk t.k t.n t.s ys, L') := by rw [HR.out, Hrep.out, Hfin.out]
     refine bodyPost_ret (v := .agg #[.int .i64 t.k, .int .i64 t.n, .string t.s, .slice A2 ys.length c2]) ?_ rfl (R := RetR Q b w R) (by rw [hRR]; exact ⟨A2, c2, rfl, hs, hT.mono (fun g h => by rcases h with h | h; exact Or.inl h; exact Or.inr (by omega)), hBb, hBF⟩)
     generalize (World.setCell _ ⟨w.heap.size + 1, 3, none⟩ _) = WF at q0 q1 q2 q3 ⊢
     clear hF hT hBF hBb
     simp [results, Try.results127, go_sem, q0, q1, q2, q3]
end Go.Proofs.Ytfhgknmkpegpbaa
set_option linter.unusedVariables false
set_option linter.unusedSimpArgs false
namespace Go.Proofs.Ytfhgknmkpegpbaa
open Go.RowKit
def pickF (l : List Tm) (n : Int) : Option Tm := match l[n.toNat]? with
 | some x => if freeB x = true then none else some x
 | none => none
set_option maxRecDepth 100000 in
set_option maxHeartbeats 4000000 in
theorem picked_calls (A : Option Addr) (n c : Nat) (w : World) : Calls Try.prog 94 #[.slice A n c] w fun e w' => e = .returned (.func (.func 133) #[] #[.pointer (some ⟨w.heap.size, 0, none⟩)]) ∧ w' = w.alloc (.cells #[.slice A n c] 22) := by
 go_enter Try.func94, Try.ntmps94
 go_wp2
 go_ret
 exact ⟨rfl, rfl⟩
set_option maxRecDepth 100000 in
set_option maxHeartbeats 4000000 in
theorem picked1_calls (l : List Tm) (Q : Nat → Prop) (A : Option Addr) (c cb : Nat) (w : World) (n : Int) (hb : Blk w cb 22 #[.slice A l.length c]) (hl : TmC Q w A c l) (h0 : 0 ≤ n) (hn : n < 100000) :
  Calls Try.prog 133 #[.int .i64 n, .pointer (some ⟨cb, 0, none⟩)] w (RetP Q w (pickF l n)) := by
 have hlc := hl.len.1
 have hlm := hl.len.2.1
 obtain ⟨b0, -⟩ := Blk.one hb
 have hlt := hb.lt
 by_cases hge : (l.length : Int) ≤ n
 ·have hp : pickF l n = none := by unfold pickF; rw [List.getElem?_eq_none (by omega)]
  rw [hp]
  have d1 : decide ((l.length : Int) ≤ n) = true := decide_eq_true hge
  clear hl hp
  go_enter Try.func133, Try.ntmps133
  go_wp2
  refine bodyPost_ret (v := .tuple #[.agg #[.int .i64 0, .int .i64 0, .string ⟨#[]⟩, .slice none 0 0], .bool false]) (by simp [results, Try.results133, go_sem]) rfl (R := RetP Q w none) ⟨none, 0, rfl, by decide, TmC.nil _ _ (by omega) (fun _ => rfl), ?_⟩
  exact (Below.refl _ _).alloc (Nat.le_refl _) _
 ·have hlt2 : n.toNat < l.length := by omega
  obtain ⟨x, hx⟩ : ∃ x, l[n.toNat]? = some x := ⟨_, List.getElem?_eq_getElem hlt2⟩
  have hp : pickF l n = if freeB x = true then none else some x := by unfold pickF; rw [hx]
  have d1 : decide ((l.length : Int) ≤ n) = false := decide_eq_false hge
  obtain ⟨m, rfl⟩ : ∃ m : Nat, n = m := ⟨n.toNat, by omega⟩
  rw [show (m : Int).toNat = m from rfl] at hx
  obtain ⟨g, off, Ai, ci, rfl, hQg, ⟨e0, e1, e2, e3⟩, hxs, hxc⟩ := hl.at_ hx
  have hbb : Below w.heap.size w (w.alloc (.cells #[.int .i64 0, .int .i64 0, .string ⟨#[]⟩, .slice none 0 0] 25)) := (Below.refl _ _).alloc (Nat.le_refl _) _
  have hcall := free_calls x Q _ _ ⟨Ai, ci, rfl, hxs, hxc.stay hbb (Nat.le_refl _)⟩
  obtain ⟨r, hr⟩ : ∃ r, r = pickF l m := ⟨_, rfl⟩
  rw [← hr]
  obtain ⟨fb, hfb⟩ : ∃ fb, fb = freeB x := ⟨_, rfl⟩
  rw [← hfb] at hcall hp
  have Hr := Lib.hid (hr.trans hp); clear hr hp hfb
  have Hcall := Lib.hid hcall; clear hcall
  have Hxc := Lib.hid hxc; clear hxc hl hx
  have Hbk := Lib.hid hb; clear hb
  have HY := Lib.hid (Blk.new w 25 #[.int .i64 0, .int .i64 0, .string ⟨#[]⟩, .slice none 0 0])
  have HBB := Lib.hid hbb; clear hbb
  have hm1 : m < l.length := by omega
  clear hge hlt2 hn h0
  have d2 : decide (l.length ≤ m) = false := decide_eq_false (by omega)
  have hgl : g < w.heap.size := World.block_lt_of_cell? w _ e0
  have d2 : decide (l.length ≤ m) = false := decide_eq_false (by omega)
  go_enter Try.func133, Try.ntmps133
  go_wp2_with fail
  refine Hcall.out.mono ?_
  rintro e w1 ⟨rfl, hb1⟩
  have hB1 : Below w.heap.size w w1 := HBB.out.trans (hb1.mono HBB.out.size)
  have q0 := (hB1.cell (p := ⟨g, off + m * 4, none⟩) (World.block_lt_of_cell? w _ e0)).trans e0
  have q1 := (hB1.cell (p := ⟨g, off + m * 4 + 1, none⟩) (World.block_lt_of_cell? w _ e1)).trans e1
  have q2 := (hB1.cell (p := ⟨g, off + m * 4 + 2, none⟩) (World.block_lt_of_cell? w _ e2)).trans e2
  have q3 := (hB1.cell (p := ⟨g, off + m * 4 + 3, none⟩) (World.block_lt_of_cell? w _ e3)).trans e3
  have c0 := (hB1.cell (p := ⟨cb, 0, none⟩) hlt).trans b0
  have hY1 := HY.out.below hb1 HY.out.lt
  obtain ⟨⟨d0, d1, d2, d3⟩, ⟨g0, g1, g2, g3⟩⟩ := hY1.four
  have HY1 := Lib.hid hY1; clear hY1
  have Hx1 := Lib.hid (Hxc.out.inside.stay hB1 (Nat.le_refl _))
  have HB1 := Lib.hid hB1; clear hB1 hb1
  clear e0 e1 e2 e3 b0
  cases fb
  ·have hr := Hr.out
   rw [if_neg (by simp)] at hr
   subst hr
   have hlw : w.heap.size < w1.heap.size := HY1.out.lt
   have hgw : g < w.heap.size → g ≠ w.heap.size := fun h => by omega
   go_wp2
   have hF := ((((HY1.out.set_ 0 (.int .i64 x.k)).set_ 1 (.int .i64 x.n)).set_ 2 (.string x.s)).set_ 3 (.slice Ai x.l.length ci))
   have hBF := ((((HB1.out.setCell (p := ⟨w.heap.size, 0, none⟩) (Nat.le_refl _) (.int .i64 x.k)).setCell (p := ⟨w.heap.size, 1, none⟩) (Nat.le_refl _) (.int .i64 x.n)).setCell (p := ⟨w.heap.size, 2, none⟩) (Nat.le_refl _) (.string x.s)).setCell (p := ⟨w.heap.size, 3, none⟩) (Nat.le_refl _) (.slice Ai x.l.length ci))
   obtain ⟨⟨z0, z1, z2, z3⟩, -⟩ := hF.four
   have hT := ((((Hx1.out.setCell ⟨w.heap.size, 0, none⟩ (.int .i64 x.k) (fun g h e => by simp at e; omega)).setCell ⟨w.heap.size, 1, none⟩ (.int .i64 x.n) (fun g h e => by simp at e; omega)).setCell ⟨w.heap.size, 2, none⟩ (.string x.s) (fun g h e => by simp at e; omega)).setCell ⟨w.heap.size, 3, none⟩ (.slice Ai x.l.length ci) (fun g h e => by simp at e; omega))
   refine bodyPost_ret (v := .tuple #[.agg #[.int .i64 x.k, .int .i64 x.n, .string x.s, .slice Ai x.l.length ci], .bool true]) ?_ rfl (R := RetP Q w (some x)) ⟨Ai, ci, rfl, hxs, hT.mono (fun g h => h.1), hBF⟩
   clear hT
   generalize (World.setCell _ ⟨w.heap.size, 3, none⟩ _) = WF at z0 z1 z2 z3 ⊢
   clear hF hBF
   simp [results, Try.results133, go_sem, z0, z1, z2, z3]
  ·have hr := Hr.out
   rw [if_pos rfl] at hr
   subst hr
   go_wp2
   have hF := ((((HY1.out.set_ 0 (.int .i64 0)).set_ 1 (.int .i64 0)).set_ 2 (.string ⟨#[]⟩)).set_ 3 (.slice none 0 0))
   have hBF := ((((HB1.out.setCell (p := ⟨w.heap.size, 0, none⟩) (Nat.le_refl _) (.int .i64 0)).setCell (p := ⟨w.heap.size, 1, none⟩) (Nat.le_refl _) (.int .i64 0)).setCell (p := ⟨w.heap.size, 2, none⟩) (Nat.le_refl _) (.string ⟨#[]⟩)).setCell (p := ⟨w.heap.size, 3, none⟩) (Nat.le_refl _) (.slice none 0 0))
   obtain ⟨⟨z0, z1, z2, z3⟩, -⟩ := hF.four
   refine bodyPost_ret (v := .tuple #[.agg #[.int .i64 0, .int .i64 0, .string ⟨#[]⟩, .slice none 0 0], .bool false]) ?_ rfl (R := RetP Q w none) ⟨none, 0, rfl, by decide, TmC.nil _ _ (by omega) (fun _ => rfl), hBF⟩
   generalize (World.setCell _ ⟨w.heap.size, 3, none⟩ _) = WF at z0 z1 z2 z3 ⊢
   clear hF hBF
   simp [results, Try.results133, go_sem, z0, z1, z2, z3]
end Go.Proofs.Ytfhgknmkpegpbaa
set_option linter.unusedVariables false
set_option linter.unusedSimpArgs false
namespace Go.Proofs.Ytfhgknmkpegpbaa
open Go.RowKit
theorem findI_step {q : Tm → Bool} {l : List Tm} {k : Nat} {x : Tm} (h : ∀ y ∈ l.take k, q y = false) (hx : l[k]? = some x) (hq : q x = true) : findI q l = k := by
 refine findI_some ?_
 rw [List.findIdx?_eq_some_iff_getElem]
 obtain ⟨h1, h2⟩ := List.getElem?_eq_some_iff.1 hx
 refine ⟨h1, by rw [h2]; exact hq, fun j hj => ?_⟩
 have := h l[j] (by rw [List.mem_take_iff_getElem]; exact ⟨j, by omega, rfl⟩)
 simp [this]
theorem findI_miss {q : Tm → Bool} {l : List Tm} (h : ∀ y ∈ l, q y = false) : findI q l = -1 := findI_none (by rw [List.findIdx?_eq_none_iff]; intro x hx; exact h x hx)
set_option maxRecDepth 100000 in
set_option maxHeartbeats 4000000 in
theorem indexFuncT_calls (fid : Nat) (q : Tm → Bool) (l : List Tm) (P : Nat → Prop) (A : Option Addr) (c : Nat) (w : World) (hc : TmC P w A c l)
  (hcf : ∀ args w, Sem.run Try.prog (callFunc fid args) w = .ok (.enter fid args) w)
  (hf : ∀ x ∈ l, ∀ W v, TmV P W v x → Calls Try.prog fid #[v] W (RetB W (q x))) :
  Calls Try.prog 123 #[.slice A l.length c, .func (.func fid) #[] #[]] w (RetN w (findI q l)) := by
 have hlc := hc.len.1
 have hlm := hc.len.2.1
 have Hc := Lib.hid hc; clear hc
 have Hf := Lib.hid hf; clear hf
 go_enter Try.func123, Try.ntmps123
 go_wp2
 go_loopw [8] (fun i wr => ∃ k : Nat, k ≤ l.length ∧ i = .int .i64 k ∧ (∀ y ∈ l.take k, q y = false) ∧ Below w.heap.size w wr) (fun i _ => l.length - (intOf i).toNat)
 case atStart => exact ⟨0, Nat.zero_le _, rfl, by simp, Below.refl _ _⟩
 case round =>
  obtain ⟨k, hk, rfl, hal, hB⟩ := hrel
  have HB := Lib.hid hB; clear hB
  have Hal := Lib.hid hal; clear hal
  by_cases hlt : k < l.length
  ·obtain ⟨x, hx⟩ : ∃ x, l[k]? = some x := ⟨_, List.getElem?_eq_getElem hlt⟩
   obtain ⟨g, off, Ai, ci, rfl, -, ⟨e0, e1, e2, e3⟩, hxs, hxc⟩ := (Hc.out.stay HB.out (Nat.le_refl _)).at_ hx
   have hxm := List.mem_of_getElem? hx
   have hcall := Hf.out x hxm wr _ ⟨Ai, ci, rfl, hxs, hxc⟩
   obtain ⟨b, hb'⟩ : ∃ b, b = q x := ⟨_, rfl⟩
   rw [← hb'] at hcall
   have Hcall := Lib.hid hcall; clear hcall hxc
   have Hx := Lib.hid hx; clear hx
   have Hb := Lib.hid hb'; clear hb'
   go_wp2_with fail
   refine Hcall.out.mono ?_
   rintro e w2 ⟨rfl, hb⟩
   have HB2 := Lib.hid (HB.out.trans (hb.mono HB.out.size)); clear hb
   cases b
   ·have Hal2 := Lib.hid (show ∀ y ∈ l.take (k + 1), q y = false from by
     rw [take_snoc Hx.out]
     intro y hy
     rcases List.mem_append.1 hy with h | h
     ·exact Hal.out y h
     ·rw [List.mem_singleton.1 h]; exact Hb.out.symm)
    go_wp2
    go_roundw
    case rel => exact ⟨k + 1, by omega, by go_num, Hal2.out, HB2.out⟩
    case measure => simp [intOf]; omega
   ·have Hr := Lib.hid (findI_step Hal.out Hx.out Hb.out.symm)
    go_wp2
    go_ret
    exact ⟨by rw [Hr.out]; rfl, HB2.out⟩
  ·have hke : k = l.length := by omega
   subst hke
   have Hr := Lib.hid (findI_miss (q := q) (l := l) (by have := Hal.out; rwa [List.take_length] at this))
   go_wp2
   go_ret
   exact ⟨by rw [Hr.out]; rfl, HB.out⟩
set_option maxRecDepth 100000 in
set_option maxHeartbeats 4000000 in
theorem containsFuncT_calls (fid : Nat) (q : Tm → Bool) (l : List Tm) (P : Nat → Prop) (A : Option Addr) (c : Nat) (w : World) (hc : TmC P w A c l)
  (hcf : ∀ args w, Sem.run Try.prog (callFunc fid args) w = .ok (.enter fid args) w)
  (hf : ∀ x ∈ l, ∀ W v, TmV P W v x → Calls Try.prog fid #[v] W (RetB W (q x))) :
  Calls Try.prog 81 #[.slice A l.length c, .func (.func fid) #[] #[]] w (RetB w (l.any q)) := by
 have hcall := indexFuncT_calls fid q l P A c w hc hcf hf
 have hr := any_findI q l
 obtain ⟨r, hr2⟩ : ∃ r, r = l.any q := ⟨_, rfl⟩
 rw [← hr2] at hr ⊢
 obtain ⟨i, hi⟩ : ∃ i, i = findI q l := ⟨_, rfl⟩
 rw [← hi] at hcall hr
 have Hr := Lib.hid hr; clear hr hr2
 have Hcall := Lib.hid hcall; clear hcall hf hc hi
 go_enter Try.func81, Try.ntmps81
 go_wp2_with fail
 refine Hcall.out.mono ?_
 rintro e w2 ⟨rfl, hb⟩
 have HB := Lib.hid hb; clear hb
 go_wp2
 go_ret
 exact ⟨by rw [Hr.out]; rfl, HB.out⟩
def badB (t : Tm) : Bool := !freeB t && !isB t
set_option maxRecDepth 100000 in
set_option maxHeartbeats 4000000 in
theorem bad_calls (t : Tm) (P : Nat → Prop) (w : World) (v : Value) (hv : TmV P w v t) : Calls Try.prog 132 #[v] w (RetB w (badB t)) := by
 obtain ⟨A, c, rfl, hs, hc⟩ := hv
 have hbb : Below w.heap.size w (w.alloc (.cells #[.int .i64 t.k, .int .i64 t.n, .string t.s, .slice A t.l.length c] 25)) := (Below.refl _ _).alloc (Nat.le_refl _) _
 have hX := Blk.new w 25 #[.int .i64 t.k, .int .i64 t.n, .string t.s, .slice A t.l.length c]
 have hc0 := hc.stay hbb (Nat.le_refl _)
 have hcall := free_calls t P _ _ ⟨A, c, rfl, hs, hc0⟩
 obtain ⟨fb, hfb⟩ : ∃ fb, fb = freeB t := ⟨_, rfl⟩
 obtain ⟨ib, hib⟩ : ∃ ib, ib = isB t := ⟨_, rfl⟩
 obtain ⟨r, hr⟩ : ∃ r, r = badB t := ⟨_, rfl⟩
 rw [← hr]
 unfold badB at hr
 rw [← hfb, ← hib] at hr
 rw [← hfb] at hcall
 have Hr := Lib.hid hr; clear hr hfb
 have Hib := Lib.hid hib; clear hib
 have Hcall := Lib.hid hcall; clear hcall
 have HX := Lib.hid hX; clear hX
 have Hc := Lib.hid hc0; clear hc hc0
 have HB := Lib.hid hbb; clear hbb
 go_enter Try.func132, Try.ntmps132
 go_wp2_with fail
 refine Hcall.out.mono ?_
 rintro e w1 ⟨rfl, hb1⟩
 have hX1 := HX.out.below hb1 HX.out.lt
 obtain ⟨⟨a0, a1, a2, a3⟩, -⟩ := hX1.four
 clear hX1
 have hcall := check_calls t P w1 _ ⟨A, c, rfl, hs, Hc.out.stay hb1 (Nat.le_refl _)⟩
 rw [← Hib.out] at hcall
 have Hcall2 := Lib.hid hcall; clear hcall
 have HB1 := Lib.hid (HB.out.trans (hb1.mono HB.out.size)); clear hb1
 cases fb
 ·go_wp2_with fail
  refine Hcall2.out.mono ?_
  rintro e w2 ⟨rfl, hb2⟩
  have HB2 := Lib.hid (HB1.out.trans (hb2.mono HB1.out.size)); clear hb2
  cases ib
  ·have he : (errT false != 0) = true := rfl
   have hr := Hr.out
   subst hr
   go_wp2
   go_ret
   exact ⟨rfl, HB2.out⟩
  ·have he : (errT true != 0) = false := rfl
   have hr := Hr.out
   subst hr
   go_wp2
   go_ret
   exact ⟨rfl, HB2.out⟩
 ·have hr := Hr.out
  subst hr
  go_wp2
  go_ret
  exact ⟨rfl, HB1.out⟩
def subB (l : List Tm) : Bool := decide (l.length ≤ 100000) && !l.any badB
set_option maxRecDepth 100000 in
set_option maxHeartbeats 4000000 in
theorem substitution_calls (l : List Tm) (P : Nat → Prop) (A : Option Addr) (c : Nat) (w : World) (hc : TmC P w A c l) : Calls Try.prog 93 #[.slice A l.length c] w (RetB w (subB l)) := by
 have hlc := hc.len.1
 have hlm := hc.len.2.1
 have hcall := containsFuncT_calls 132 badB l P A c w hc (fun _ _ => rfl) (fun x hx W v hv => bad_calls x P W v hv)
 have Hcall := Lib.hid hcall; clear hcall
 obtain ⟨b, hb⟩ : ∃ b, b = l.any badB := ⟨_, rfl⟩
 rw [← hb] at Hcall
 obtain ⟨r, hr⟩ : ∃ r, r = subB l := ⟨_, rfl⟩
 rw [← hr]
 unfold subB at hr
 rw [← hb] at hr
 clear hb hc
 by_cases hle : l.length ≤ 100000
 ·have Hr := Lib.hid (show r = !b from by rw [hr, decide_eq_true hle]; rfl); clear hr
  have d1 : decide ((l.length : Int) ≤ 100000) = true := decide_eq_true (by omega)
  have d2 : decide (l.length ≤ 100000) = true := decide_eq_true (by omega)
  clear hle
  go_enter Try.func93, Try.ntmps93
  go_wp2_with fail
  refine Hcall.out.mono ?_
  rintro e w2 ⟨rfl, hb⟩
  have HB := Lib.hid hb; clear hb
  go_wp2
  go_ret
  exact ⟨by rw [Hr.out]; rfl, HB.out⟩
 ·have Hr := Lib.hid (show r = false from by rw [hr, decide_eq_false hle]; rfl); clear hr
  have d1 : decide ((l.length : Int) ≤ 100000) = false := decide_eq_false (by omega)
  have d2 : decide (l.length ≤ 100000) = false := decide_eq_false (by omega)
  clear hle
  go_enter Try.func93, Try.ntmps93
  go_wp2
  go_ret
  exact ⟨by rw [Hr.out]; rfl, Below.refl _ _⟩
end Go.Proofs.Ytfhgknmkpegpbaa
set_option linter.unusedVariables false
set_option linter.unusedSimpArgs false
namespace Go.Proofs.Ytfhgknmkpegpbaa
open Go.RowKit
def repT (F : Int → Option Tm) (t : Tm) : Option Tm := if (t.rep F 4000).2 < 0 then none else if isB (t.rep F 4000).1 = true then some (t.rep F 4000).1 else none
set_option maxRecDepth 100000 in
set_option maxHeartbeats 4000000 in
theorem replaced_calls (fid cb : Nat) (F : Int → Option Tm) (Q : Nat → Prop) (E : World → Prop) (w : World) (hE : ∀ b W W', w.heap.size ≤ b → E W → But b W W' → E W') (hQ : ∀ g, Q g → g < w.heap.size)
  (hcf : ∀ args w, Sem.run Try.prog (callFunc fid args) w = .ok (.enter fid args) w)
  (hF : ∀ n x, F n = some x → x.size ≤ 1000000) (hf : ∀ (W : World) (n : Int), E W → 0 ≤ n → n < 100000 → Calls Try.prog fid #[.int .i64 n, .pointer (some ⟨cb, 0, none⟩)] W (RetP Q W (F n))) (t : Tm)
  (P : Nat → Prop) (v : Value) (hv : TmV P w v t) (hEw : E w) (hsz : t.size ≤ 1000000) (hvar : ∀ x ∈ t.pre, x.k = 1 → 0 ≤ x.n ∧ x.n < 100000) :
  Calls Try.prog 85 #[v, .func (.func fid) #[] #[.pointer (some ⟨cb, 0, none⟩)]] w (RetME w (repT F t) 2) := by
 obtain ⟨A, c, rfl, hs, hc⟩ := hv
 obtain ⟨Wa, hWa⟩ : ∃ Wa, Wa = (w.alloc (.cells #[.int .i64 t.k, .int .i64 t.n, .string t.s, .slice A t.l.length c] 25)).alloc (.cells #[.int .i64 0, .int .i64 0, .string ⟨#[]⟩, .slice none 0 0] 25) := ⟨_, rfl⟩
 have hBa : Below w.heap.size w Wa := by rw [hWa]; exact ((Below.refl _ _).alloc (Nat.le_refl _) _).alloc (by simp) _
 have hYa : Blk Wa (w.heap.size + 1) 25 #[.int .i64 0, .int .i64 0, .string ⟨#[]⟩, .slice none 0 0] := by
  rw [hWa]
  have := Blk.new (w.alloc (.cells #[.int .i64 t.k, .int .i64 t.n, .string t.s, .slice A t.l.length c] 25)) 25 #[.int .i64 0, .int .i64 0, .string ⟨#[]⟩, .slice none 0 0]
  rwa [World.size_alloc] at this
 have hsa : Wa.heap.size = w.heap.size + 1 + 1 := by rw [hWa]; simp
 obtain ⟨W0, hW0⟩ : ∃ W0, W0 = Wa.alloc (.cells #[.int .i64 4000] 143) := ⟨_, rfl⟩
 have hB0 : Below w.heap.size w W0 := by rw [hW0]; exact hBa.alloc (by omega) _
 have hY0 : Blk W0 (w.heap.size + 1) 25 #[.int .i64 0, .int .i64 0, .string ⟨#[]⟩, .slice none 0 0] := by rw [hW0]; exact hYa.alloc _
 have hb0 : Blk W0 (w.heap.size + 1 + 1) 143 #[.int .i64 4000] := by rw [hW0, ← hsa]; exact Blk.new _ _ _
 have hs0 : w.heap.size + 1 + 1 < W0.heap.size := hb0.lt
 have hE0 := hE (w.heap.size + 1 + 1) w W0 (by omega) hEw (But.of_below hB0 (Nat.le_refl _))
 have hc0 := hc.inside.stay hB0 (Nat.le_refl _)
 have hcall := replace_calls fid cb (w.heap.size + 1 + 1) w.heap.size F Q E (fun W W' h1 h2 => hE _ W W' (by omega) h1 h2) (fun g h => ⟨hQ g h, by have := hQ g h; omega⟩) hcf hF hf t (fun g => P g ∧ g < w.heap.size) W0 _ 4000 ⟨A, c, rfl, hs, hc0⟩ hb0 (fun g h => by have := h.2; omega) hE0 (by omega) (by omega) (by omega) hsz hvar
 have hbd := (Tm.rep_bd F hF t.size).1 t 4000 (Nat.le_refl _) (by omega)
 obtain ⟨r, hr⟩ : ∃ r, r = t.rep F 4000 := ⟨_, rfl⟩
 obtain ⟨R, hR⟩ : ∃ R, R = repT F t := ⟨_, rfl⟩
 rw [← hR]
 unfold repT at hR
 rw [← hr] at hcall hR hbd
 have HR := Lib.hid hR; clear hR hr
 have Hcall := Lib.hid hcall; clear hcall
 have Hbd := Lib.hid hbd; clear hbd
 have HY0 := Lib.hid hY0; clear hY0 hYa
 have HB0 := Lib.hid hB0; clear hB0 hBa hb0 hE0 hc0 hc hf hF hE hEw hvar hQ
 have HWa := Lib.hid hWa; clear hWa
 have HW0 := Lib.hid hW0; clear hW0
 have Hsa := Lib.hid hsa; clear hsa
 go_enter Try.func85, Try.ntmps85
 go_wp2_with fail
 rw [← HWa.out, ← HW0.out]
 refine Hcall.out.mono ?_
 rintro e w1 ⟨A1, c1, rfl, hs1, hx1, hbb1, hb1⟩
 have hlb := hbb1.lt
 obtain ⟨p0, -⟩ := Blk.one hbb1
 have hY1 := HY0.out.but hb1 (by omega)
 have hB1 : Below w.heap.size w w1 := HB0.out.trans (hb1.below (by omega) (by omega))
 have hlY := hY1.lt
 have hbbx := (Below.refl _ _).alloc (Nat.le_refl _) (.cells #[.int .i64 r.1.k, .int .i64 r.1.n, .string r.1.s, .slice A1 r.1.l.length c1] 25) (a := w1)
 have hcall := limited_calls r.1 _ _ _ ⟨A1, c1, rfl, hs1, hx1.stay hbbx (Nat.le_refl _)⟩
 have HY1 := Lib.hid hY1; clear hY1
 have HY2 := Lib.hid (HY1.out.below hbbx hlY)
 have HB1 := Lib.hid hB1
 have HB2 := Lib.hid (hB1.trans (hbbx.mono hB1.size))
 have Hlim := Lib.hid hcall; clear hcall hB1 hbbx hx1 hb1 hbb1
 have hw1s := HB1.out.size
 by_cases hneg : r.2 < 0
 ·have d1 : decide (r.2 < 0) = true := decide_eq_true hneg
  have hr := HR.out
  rw [if_pos hneg] at hr
  subst hr
  obtain ⟨⟨d0, d1', d2, d3⟩, ⟨g0, g1, g2, g3⟩⟩ := HY1.out.four
  clear Hlim
  go_wp2
  have hF := (((((HY1.out.set_ 0 (.int .i64 0)).set_ 1 (.int .i64 0)).set_ 2 (.string ⟨#[]⟩)).set_ 3 (.slice none 0 0))).alloc (.cells #[.int .i64 r.1.k, .int .i64 r.1.n, .string r.1.s, .slice A1 r.1.l.length c1] 25)
  have hBF := (((((HB1.out.setCell (p := ⟨w.heap.size + 1, 0, none⟩) (by simp) (.int .i64 0)).setCell (p := ⟨w.heap.size + 1, 1, none⟩) (by simp) (.int .i64 0)).setCell (p := ⟨w.heap.size + 1, 2, none⟩) (by simp) (.string ⟨#[]⟩)).setCell (p := ⟨w.heap.size + 1, 3, none⟩) (by simp) (.slice none 0 0))).alloc (by simpa using hw1s) (.cells #[.int .i64 r.1.k, .int .i64 r.1.n, .string r.1.s, .slice A1 r.1.l.length c1] 25)
  obtain ⟨⟨z0, z1, z2, z3⟩, -⟩ := hF.four
  refine bodyPost_ret (v := .tuple #[.agg #[.int .i64 0, .int .i64 0, .string ⟨#[]⟩, .slice none 0 0], .int .i64 2]) ?_ rfl (R := RetME w none 2) ⟨none, 0, rfl, by decide, TmC.nil _ _ (by omega) (fun _ => rfl), hBF⟩
  generalize (World.alloc _ (.cells #[.int .i64 r.1.k, .int .i64 r.1.n, .string r.1.s, .slice A1 r.1.l.length c1] 25)) = WF at z0 z1 z2 z3 ⊢
  clear hF hBF
  simp [results, Try.results85, go_sem, z0, z1, z2, z3]
 ·have d1 : decide (r.2 < 0) = false := decide_eq_false hneg
  have hr := HR.out
  rw [if_neg hneg] at hr
  rw [← hr] at Hlim
  have Hlim2 := Lib.hid Hlim.out
  clear Hlim hr HR
  go_wp2_with fail
  refine Hlim2.out.mono ?_
  rintro e w2 ⟨A2, c2, rfl, hs2, hx2, hb2⟩
  generalize hz : (if R.isSome = true then (0 : Int) else 2) = er
  have Hz := Lib.hid hz; clear hz
  have hY3 := HY2.out.below hb2 HY2.out.lt
  obtain ⟨⟨d0, d1, d2, d3⟩, ⟨g0, g1, g2, g3⟩⟩ := hY3.four
  have HY3 := Lib.hid hY3; clear hY3
  have HB3 := Lib.hid (HB2.out.trans (hb2.mono HB2.out.size)); clear hb2
  have Hx2 := Lib.hid hx2; clear hx2
  go_wp2
  have hF := (((((HY3.out.set_ 0 (.int .i64 (R.getD Tm.zero).k)).set_ 1 (.int .i64 (R.getD Tm.zero).n)).set_ 2 (.string (R.getD Tm.zero).s)).set_ 3 (.slice A2 (R.getD Tm.zero).l.length c2)))
  have hBF := (((((HB3.out.setCell (p := ⟨w.heap.size + 1, 0, none⟩) (by simp) (.int .i64 (R.getD Tm.zero).k)).setCell (p := ⟨w.heap.size + 1, 1, none⟩) (by simp) (.int .i64 (R.getD Tm.zero).n)).setCell (p := ⟨w.heap.size + 1, 2, none⟩) (by simp) (.string (R.getD Tm.zero).s)).setCell (p := ⟨w.heap.size + 1, 3, none⟩) (by simp) (.slice A2 (R.getD Tm.zero).l.length c2)))
  obtain ⟨⟨z0, z1, z2, z3⟩, -⟩ := hF.four
  have hT := ((((Hx2.out.setCell ⟨w.heap.size + 1, 0, none⟩ (.int .i64 (R.getD Tm.zero).k) (fun g h e => by simp at e h; omega)).setCell ⟨w.heap.size + 1, 1, none⟩ (.int .i64 (R.getD Tm.zero).n) (fun g h e => by simp at e h; omega)).setCell ⟨w.heap.size + 1, 2, none⟩ (.string (R.getD Tm.zero).s) (fun g h e => by simp at e h; omega)).setCell ⟨w.heap.size + 1, 3, none⟩ (.slice A2 (R.getD Tm.zero).l.length c2) (fun g h e => by simp at e h; omega))
  refine bodyPost_ret (v := .tuple #[.agg #[.int .i64 (R.getD Tm.zero).k, .int .i64 (R.getD Tm.zero).n, .string (R.getD Tm.zero).s, .slice A2 (R.getD Tm.zero).l.length c2], .int .i64 er]) ?_ rfl (R := RetME w R 2) ⟨A2, c2, by rw [Hz.out], hs2, hT.mono (fun g h => by simp at h; omega), hBF⟩
  generalize (World.setCell _ ⟨w.heap.size + 1, 3, none⟩ _) = WF at z0 z1 z2 z3 ⊢
  clear hF hT hBF
  simp [results, Try.results85, go_sem, z0, z1, z2, z3]
end Go.Proofs.Ytfhgknmkpegpbaa
