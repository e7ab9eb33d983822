/- Layer 1, part 7 of the base: the walks and plain facts named in NOTES.md as V4, V5, T44, A1. -/
import Derived.Test.YtfhgknmkpegpbaaM6
import Derived.Test.YtfhgknmkpegpbaaM5

set_option linter.unusedVariables false
set_option linter.unusedSimpArgs false
namespace Go.Proofs.Ytfhgknmkpegpbaa
open Go.RowKit Go.Shelf
attribute [local go_sem] Oper.semAt_some

def noPanic (Q : Exit → Act → World → Prop) : Exit → Act → World → Prop
  | .panic _, _, _ => False
  | e, a, w => Q e a w
theorem noPanic_le {Q : Exit → Act → World → Prop} : ∀ (e : Exit) (a : Act) (w : World), noPanic Q e a w → Q e a w
  | .panic _, _, _, h => h.elim
  | .normal, _, _, h => h
  | .ret, _, _, h => h
  | .exit _, _, _, h => h
  | .goto _, _, _, h => h
  | .outgrown, _, _, h => h
theorem noPanic_normal {Q : Exit → Act → World → Prop} {a : Act} {w : World} (h : Q .normal a w) : noPanic Q .normal a w := h
theorem wpIn_noPanic {F : Fence} {n : Nat} {c : Code} {Q : Exit → Act → World → Prop} {a : Act} {w : World} (h : c.wpIn F n Try.prog (noPanic Q) a w) : c.wpIn F n Try.prog Q a w := wpIn_mono h noPanic_le
theorem plcs_take (l : List Tm) (p : List Int) (i k : Nat) : Tm.plcs (l.take k) p i <+: Tm.plcs l p i := by
  induction l generalizing i k with
  | nil => rw [List.take_nil]; exact List.prefix_rfl
  | cons a l ih =>
    cases k with
    | zero => rw [List.take_zero, Tm.plcs]; exact List.nil_prefix
    | succ k => rw [List.take_succ_cons, Tm.plcs, Tm.plcs]; exact (List.prefix_append_right_inj _).2 (ih _ _)
def PlS (n₀ : Nat) (w0 : World) (t : Tm) (p : List Int) (ys : List (PW n₀ w0)) (W : World) : Prop := ys.map PW.pt = t.plc p ∧ ∀ y ∈ ys, y.ok W
def PlSp (n₀ : Nat) (w0 : World) (t : Tm) (p : List Int) (ys : List (PW n₀ w0)) (W : World) : Prop := ys.map PW.pt <+: t.plc p ∧ ∀ y ∈ ys, y.ok W

set_option maxRecDepth 100000 in
set_option maxHeartbeats 4000000 in
theorem places1_seq (n₀ : Nat) (w0 : World) (t : Tm) : ∀ (n : Nat) (x0 : PW n₀ w0) (Bp Bt : Nat) (w : World), x0.1.2.1 = t → n₀ ≤ w.heap.size → Below n₀ w0 w →
    Blk w Bp 39 #[.slice x0.1.1.2.1 x0.1.1.1.length x0.1.1.2.2] → Blk w Bt 25 #[.int .i64 t.k, .int .i64 t.n, .string t.s, .slice x0.1.2.2.1 t.l.length x0.1.2.2.2] → x0.ok w → x0.1.1.1.length + t.size ≤ 1000000 →
    SeqW Fence.wide n 137 #[.pointer (some ⟨Bp, 0, none⟩), .pointer (some ⟨Bt, 0, none⟩)] (PW.encs (n₀ := n₀) (w0 := w0)) n₀ (PlS n₀ w0 t x0.1.1.1) (PlSp n₀ w0 t x0.1.1.1) t.size w := by
  induction t using Tm.ind with
  | h t ih =>
    intro n x0 Bp Bt w hx0 hn0 hb0 hBp hBt hok0 hsz l J Jx W hW hJ hJx hY h0
    obtain ⟨⟨⟨ps, Ap, cp⟩, t', A, c⟩, ho, hs, hc⟩ := x0
    obtain rfl : t' = t := hx0
    have Ih := Lib.hid ih; clear ih
    have hlc := hc.len.1
    have hlm := hc.len.2.1
    simp only at ho hs hc hBp hBt hok0 hsz ⊢
    have hnW : n₀ ≤ W.heap.size := Nat.le_trans hn0 hW.size
    obtain ⟨W0, hW0⟩ : ∃ W0, W0 = W.alloc (.cells #[.func (.yield l) #[] #[]] 155) := ⟨_, rfl⟩
    have hbW : Below W.heap.size W W0 := by rw [hW0]; exact (Below.refl _ _).alloc (Nat.le_refl _) _
    have hk0 : KpP n₀ W W0 := KpP.of_below hnW hbW
    have hYb : Blk W0 W.heap.size 155 #[.func (.yield l) #[] #[]] := by rw [hW0]; exact Blk.new _ _ _
    have hJ1 : J [] W0 := ownFrom_below hJ h0 hbW
    have hBp0 := (hBp.below hW hBp.lt).below hbW (Nat.lt_of_lt_of_le hBp.lt hW.size)
    have hBt0 := (hBt.below hW hBt.lt).below hbW (Nat.lt_of_lt_of_le hBt.lt hW.size)
    have hb00 : Below n₀ w0 W0 := hb0.trans ((hW.mono hn0).trans (hbW.mono hnW))
    have hok1 : PathOk n₀ W0 Ap cp ps := (hok0.below hW).below hbW
    have hszW : W0.heap.size = W.heap.size + 1 := by rw [hW0]; simp
    have hpl := hok0.len
    obtain ⟨xr, hxr⟩ : ∃ xr : PW n₀ w0, xr.1 = ((ps, Ap, cp), t', A, c) := ⟨⟨((ps, Ap, cp), t', A, c), ho, hs, hc⟩, rfl⟩
    have hyy := yieldAt_anyDepth (F := Fence.wide) rfl (n - 1) (hY [] xr W0 hJ1 t'.size_pos)
    have HY := Lib.hid (fun (m : Nat) pre x W1 (h1 : J pre W1) (h2 : pre.length < t'.size) => yieldAt_anyDepth (F := Fence.wide) rfl m (hY pre x W1 h1 h2)); clear hY
    have hBpw := hBp.below hW hBp.lt
    have hBtw := hBt.below hW hBt.lt
    obtain ⟨⟨a0, a1, a2, a3⟩, -⟩ := hBtw.four
    have p0 := (Blk.one hBpw).1
    have hBpl := hBpw.lt
    have hBtl := hBtw.lt
    clear hBpw hBtw
    have HK0 := Lib.hid hk0; clear hk0
    have HYb := Lib.hid hYb; clear hYb
    have HBp := Lib.hid hBp0; clear hBp0 hBp
    have HBt := Lib.hid hBt0; clear hBt0 hBt
    have HB := Lib.hid hb00; clear hb00
    have Hok := Lib.hid hok1; clear hok1 hok0
    have HW := Lib.hid hW0; clear hW0
    have HszW := Lib.hid hszW; clear hszW
    have Hxr := Lib.hid hxr; clear hxr
    have HC := Lib.hid hc
    have Hsz := Lib.hid hsz; clear hsz
    obtain ⟨fn, tmps, assign, body, hy, hR⟩ := hyy
    simp only [PW.encs, Hxr.out] at hy
    refine callsIn_of_wp_marks Try.func137 rfl trivial ?_ rfl
    simp only [Try.ntmps137, List.size_toArray, List.length_cons, List.length_nil, Nat.reduceAdd, Nat.reduceSub, Array.replicate_succ, Array.replicate_zero, List.push_toArray, List.append_toArray, List.nil_append, List.cons_append]
    gi_wp2_with fail
    rw [← HW.out]
    rw [hy]
    gi_wp2_with fail
    refine ⟨(fun h => by simp [Fence.wide] at h), hR.mono ?_⟩
    clear hR hy
    have hxt : xr.pt = (ps, t') := by unfold PW.pt; rw [Hxr.out]
    have hxo : ∀ W', KpP n₀ W0 W' → xr.ok W' := fun W' h => by unfold PW.ok; rw [Hxr.out]; exact Hok.out.kp h
    have Hxt := Lib.hid hxt; clear hxt
    have Hxo := Lib.hid hxo; clear hxo
    rintro e W1 (⟨rfl, hJ2, hk1, hf1⟩ | ⟨rfl, hJ2, hk1, hf1⟩)
    case inr =>
      have Hj := Lib.hid hJ2; clear hJ2
      have Hk1 := Lib.hid hk1; clear hk1
      gi_wp2
      refine leaves_marks (N := W.heap.size) (fun W' => PlSp n₀ w0 t' ps [xr] W' ∧ Jx [xr] W') ?_ ?_ [] W1 trivial ⟨⟨by rw [List.map_singleton, Hxt.out, t'.plc_eq]; exact ⟨_, rfl⟩, fun y hy => by rw [List.mem_singleton.1 hy]; exact Hxo.out _ Hk1.out⟩, Hj.out⟩
      · rintro W5 D5 ⟨h1, h2⟩ hD5 hk5
        exact ⟨⟨h1.1, fun z hz => (h1.2 z hz).kp (KpP.putObj _ _ _ (.deferred none) (by omega) hk5 rfl)⟩, hJx.putObj _ h2 hD5 hk5 rfl⟩
      · intro W' h
        exact ⟨_, results_none rfl _ _ _, ⟨_, rfl⟩, .inr ⟨_, h.1, h.2⟩⟩
    have HYb1 := Lib.hid (hk1.2.2.1 _ _ HYb.out)
    have HBp1 := Lib.hid (hk1.2.2.2.2 _ _ HBp.out)
    have HBt1 := Lib.hid (hk1.2.1 _ _ HBt.out)
    have HK1 := Lib.hid (HK0.out.trans hk1)
    have HKx := Lib.hid hk1; clear hk1
    have HB1 := Lib.hid (HB.out.trans HKx.out.1)
    have Hj2 := Lib.hid hJ2; clear hJ2
    have hW1 : W.heap.size + 1 ≤ W1.heap.size := by have := HszW.out; have := hf1.size; omega
    clear hf1 a0 a1 a2 a3 p0
    obtain ⟨⟨a0, a1, a2, a3⟩, -⟩ := HBt1.out.four
    gi_wp2
    refine wpIn_loop (fun a' Wr => ∃ (k : Nat) (u4 u5 u17 u18 u19 u20 u21 u22 u23 u24 u25 u33 : Value) (ds : List Deferred) (ys : List (PW n₀ w0)), k ≤ t'.l.length ∧ Hid (ys.map PW.pt = Tm.plcs (t'.l.take k) ps 0) ∧ Hid (J (xr :: ys) Wr) ∧ Hid (KpP n₀ W1 Wr) ∧ Hid (∀ y ∈ ys, y.ok Wr) ∧ Hid (Marks W.heap.size Wr ds) ∧ Hid (W1.heap.size ≤ Wr.heap.size) ∧
      a' = { tmps := #[.func (.yield l) #[] #[], .pointer (some ⟨Bp, 0, none⟩), .pointer (some ⟨Bt, 0, none⟩), .pointer (some ⟨W.heap.size, 0, none⟩), u4, u5, undef, undef, .func (.yield l) #[] #[], .slice Ap ps.length cp, .agg #[.int .i64 t'.k, .int .i64 t'.n, .string t'.s, .slice A t'.l.length c], .bool true, .bool false, .pointer (some ⟨Bt, 3, none⟩), .slice A t'.l.length c, .int .i64 t'.l.length, .int .i64 k, u17, u18, u19, u20, u21, u22, u23, u24, u25, undef, undef, undef, undef, undef, undef, undef, u33], defers := ds })
      (fun a' _ => t'.l.length - (intOf (a'.tmps.getD 16 undef)).toNat) ?start ?round
    case start => exact ⟨0, undef, undef, undef, undef, undef, undef, undef, undef, undef, undef, undef, undef, [], [], Nat.zero_le _, Lib.hid (by simp [Tm.plcs]), Hj2, Lib.hid (KpP.refl _ _), Lib.hid (fun y hy => by simp at hy), Lib.hid trivial, Lib.hid (Nat.le_refl _), rfl⟩
    case round =>
      rintro _ wr ⟨k, u4, u5, u17, u18, u19, u20, u21, u22, u23, u24, u25, u33, ds, ys, hk, Hys, Hjr, Hkr, Hyo, HM, Hsr, rfl⟩
      have HBp2 := Lib.hid (Hkr.out.2.2.2.2 _ _ HBp1.out)
      have HYb2 := Lib.hid (Hkr.out.2.2.1 _ _ HYb1.out)
      by_cases hlt : k < t'.l.length
      · obtain ⟨x, hx⟩ : ∃ x, t'.l[k]? = some x := ⟨_, List.getElem?_eq_getElem hlt⟩
        obtain ⟨g, off, Ai, ci, rfl, hPg, ⟨c0, c1, c2, c3⟩, hxs, hxc⟩ := HC.out.at_ hx
        have hBr : Below n₀ w0 wr := HB1.out.trans Hkr.out.1
        have e0 := (hBr.cell (p := ⟨g, off + k * 4, none⟩) hPg).trans c0
        have e1 := (hBr.cell (p := ⟨g, off + k * 4 + 1, none⟩) hPg).trans c1
        have e2 := (hBr.cell (p := ⟨g, off + k * 4 + 2, none⟩) hPg).trans c2
        have e3 := (hBr.cell (p := ⟨g, off + k * 4 + 3, none⟩) hPg).trans c3
        clear c0 c1 c2 c3
        have HBr := Lib.hid hBr; clear hBr
        have hxm := List.mem_of_getElem? hx
        have Hts := Lib.hid (take_snoc hx)
        have hxo := okB_mem ho hxm
        have hnr : n₀ ≤ wr.heap.size := by have := Hsr.out; omega
        have hpk : PathOk n₀ wr Ap cp ps := (Hok.out.kp HKx.out).kp Hkr.out
        have Hpk := Lib.hid hpk; clear hpk
        have Hxz := Lib.hid (show ps.length + 1 + x.size ≤ 1000000 from by have := Tm.size_child hxm; have := Hsz.out; omega)
        have Hjoin := Lib.hid (fun W' (h : PathOk n₀ W' Ap cp ps) => join_calls n₀ ps k Ap cp W' h (by have := Hsz.out; omega))
        have p0 := (Blk.one HBp2.out).1
        have hBpl2 := HBp2.out.lt
        have Hxc := Lib.hid hxc; clear hxc hx
        have hPx : PathOk n₀ (wr.alloc (.cells #[.int .i64 x.k, .int .i64 x.n, .string x.s, .slice Ai x.l.length ci] 25)) Ap cp ps := Hpk.out.below ((Below.refl _ _).alloc (Nat.le_refl _) _)
        have HPx := Lib.hid hPx; clear hPx
        gi_wp2_with fail
        have hjw := Hjoin.out (wr.alloc (.cells #[.int .i64 x.k, .int .i64 x.n, .string x.s, .slice Ai x.l.length ci] 25)).drew (HPx.out.keep (fun _ _ h => h))
        have hjw2 := callsIn_wide (n := n - 1).2 hjw
        have Hjw := Lib.hid hjw2; clear hjw hjw2
        have f138 : Fence.wide.fn 138 := trivial
        have f107 : Fence.wide.fn 107 := trivial
        have hdep : Fence.wide.depth.isSome = true → 1 ≤ n := fun h => by simp [Fence.wide] at h
        refine wpIn_noPanic ?_
        gi_region_with (first
          | ((try refine ⟨f138, hdep, ?_⟩); (try refine ⟨hdep, ?_⟩); gi_at_call 138; refine Hjw.out.mono ?_; rintro e w3 ⟨A3, c3, rfl, hp3, hb3⟩; have hbx := (Blk.new wr 25 #[.int .i64 x.k, .int .i64 x.n, .string x.s, .slice Ai x.l.length ci]).drew.below hb3 (by simp); obtain ⟨⟨s0, s1, s2, s3⟩, -⟩ := hbx.four; have hsl := hb3.size; have Hp3 := Lib.hid hp3; have Hb3 := Lib.hid hb3; clear hp3 hb3 hbx)
          | ((try refine ⟨f107, hdep, ?_⟩); (try refine ⟨hdep, ?_⟩); gi_at_call 107; refine (callsIn_wide.2 (places_calls _ _ _ _ _ _ _ _ _ _)).mono ?_; rintro e w4 ⟨rfl, rfl⟩))
        all_goals
          refine noPanic_normal ?_
          gi_wp2_with fail
          obtain ⟨Wz, hWz⟩ : ∃ Wz, Wz = (w3.alloc (.cells #[.int .i64 x.k, .int .i64 x.n, .string x.s, .slice Ai x.l.length ci] 25)).alloc (.cells #[.slice A3 (ps.length + 1) c3] 39) := ⟨_, rfl⟩
          have hs3 : wr.heap.size + 1 ≤ w3.heap.size := by have := Hb3.out.size; simpa using this
          have hb3z : Below w3.heap.size w3 Wz := by rw [hWz]; exact ((Below.refl _ _).alloc (Nat.le_refl _) _).alloc (by simp) _
          have hbz : Below wr.heap.size wr Wz := by
            have h1 : Below wr.heap.size wr (wr.alloc (.cells #[.int .i64 x.k, .int .i64 x.n, .string x.s, .slice Ai x.l.length ci] 25)).drew := ((Below.refl _ _).alloc (Nat.le_refl _) _).drew
            exact h1.trans ((Hb3.out.mono (by simp)).trans (hb3z.mono (by omega)))
          have hbt : Blk Wz w3.heap.size 25 #[.int .i64 x.k, .int .i64 x.n, .string x.s, .slice Ai x.l.length ci] := by rw [hWz]; exact (Blk.new _ _ _).alloc _
          have hbp : Blk Wz (w3.heap.size + 1) 39 #[.slice A3 (ps.length + 1) c3] := by
            rw [hWz]
            have := Blk.new (w3.alloc (.cells #[.int .i64 x.k, .int .i64 x.n, .string x.s, .slice Ai x.l.length ci] 25)) 39 #[.slice A3 (ps.length + 1) c3]
            rwa [World.size_alloc] at this
          have hpz : PathOk n₀ Wz A3 c3 (ps ++ [(k : Int)]) := (Hp3.out.mono (by simp; omega)).below hb3z
          have hkz : KpP n₀ wr Wz := KpP.of_below hnr hbz
          have hsz4 : Wz.heap.size = w3.heap.size + 2 := by rw [hWz]; simp
          obtain ⟨xe, hxe⟩ : ∃ xe : PW n₀ w0, xe.1 = ((ps ++ [(k : Int)], A3, c3), x, Ai, ci) := ⟨⟨((ps ++ [(k : Int)], A3, c3), x, Ai, ci), hxo, hxs, Hxc.out⟩, rfl⟩
          have hseq := Ih.out x hxm (n - 1) xe (w3.heap.size + 1) w3.heap.size Wz (by rw [hxe]) (by omega) (HBr.out.trans hkz.1) (by rw [hxe]; simpa using hbp) (by rw [hxe]; exact hbt) (by unfold PW.ok; rw [hxe]; exact hpz) (by rw [hxe]; have := Hxz.out; simp; omega)
          have hpt : xe.1.1.1 = ps ++ [(k : Int)] := by rw [hxe]
          rw [hpt] at hseq
          have hJz : J (xr :: ys ++ []) Wz := by rw [List.append_nil]; exact ownFrom_below hJ Hjr.out hbz
          have hMz : Marks W.heap.size Wz ds := HM.out.keep fun D _ _ h => (hbz.block D (Array.getElem?_eq_some_iff.1 h).1).trans h
          have hml : ∀ d ∈ ds, ∃ D, d.target = .collected D ∧ D < Wz.heap.size := hMz.lt
          have hnz : n₀ ≤ Wz.heap.size := by omega
          have hWz2 : W.heap.size ≤ Wz.heap.size := by have := Hsr.out; omega
          have own : ∀ {X Y : World} {row : Option Nat}, Wz.heap.size ≤ X.heap.size → X.grownBy Y row → (∀ r, row = some r → Wz.heap.size ≤ r ∧ ∃ o : Obj, X.heap[r]? = some o ∧ o.isCells = false) → KpP n₀ X Y :=
            fun hX hg hr => kpP_grown (by omega) hg (fun r e => ⟨by have := (hr r e).1; omega, (hr r e).2⟩)
          have hkz1 : KpP n₀ W1 Wz := Hkr.out.trans hkz
          have hyz : ∀ y ∈ ys, y.ok Wz := fun y hy => (Hyo.out y hy).kp hkz
          rw [← hWz]
          clear hWz hbt hbp hpz hbz hb3z hxe
          refine wpIn_rangeW rfl hdep (gf := 137) (lb := #[.pointer (some ⟨w3.heap.size + 1, 0, none⟩), .pointer (some ⟨w3.heap.size, 0, none⟩)]) rfl trivial (enters_of Try.func137 (by kernel_rfl) rfl) (n₀ := n₀) hnz hseq
            (fun s X Y row hs hg hr => ⟨hs.1, fun y hy => (hs.2 y hy).keep (fun g cs hb => (hg.block g hb.lt (fun e => by obtain ⟨-, o, ho, hc⟩ := hr g e.symm; rw [show X.heap[g]? = _ from hb] at ho; injection ho with ho; subst ho; simp [Obj.isCells] at hc)).trans hb)⟩)
            (fun s X Y row hs hg hr => ⟨hs.1, fun y hy => (hs.2 y hy).keep (fun g cs hb => (hg.block g hb.lt (fun e => by obtain ⟨-, o, ho, hc⟩ := hr g e.symm; rw [show X.heap[g]? = _ from hb] at ho; injection ho with ho; subst ho; simp [Obj.isCells] at hc)).trans hb)⟩)
            (Below.refl _ _) (fun _ => rfl)
            (fun pre W' => J (xr :: ys ++ pre) W' ∧ KpP n₀ W1 W' ∧ (∀ y ∈ ys, y.ok W') ∧ Marks W.heap.size W' ds ∧ Wz.heap.size ≤ W'.heap.size)
            (fun c pre W' => c = .ret ∧ Jx (xr :: ys ++ pre) W' ∧ KpP n₀ W1 W' ∧ (∀ y ∈ ys, y.ok W') ∧ Marks W.heap.size W' ds ∧ Wz.heap.size ≤ W'.heap.size)
            (fun s X Y row hs hg hr => ⟨hJ _ X Y row hs.1 hg (fun r e => ⟨by have := (hr r e).1; omega, (hr r e).2⟩), hs.2.1.trans (own hs.2.2.2.2 hg hr), fun y hy => (hs.2.2.1 y hy).kp (own hs.2.2.2.2 hg hr), marks_own hml () X Y row hs.2.2.2.1 hg hr, Nat.le_trans hs.2.2.2.2 hg.size⟩)
            (fun c s X Y row hs hg hr => ⟨hs.1, hJx _ X Y row hs.2.1 hg (fun r e => ⟨by have := (hr r e).1; omega, (hr r e).2⟩), hs.2.2.1.trans (own hs.2.2.2.2.2 hg hr), fun y hy => (hs.2.2.2.1 y hy).kp (own hs.2.2.2.2.2 hg hr), marks_own hml () X Y row hs.2.2.2.2.1 hg hr, Nat.le_trans hs.2.2.2.2.2 hg.size⟩)
            ⟨hJz, hkz1, hyz, hMz, Nat.le_refl _⟩
            (fun y a' W' => ∃ Bx, Wz.heap.size ≤ Bx ∧ Blk W' Bx 25 #[.int .i64 y.1.2.1.k, .int .i64 y.1.2.1.n, .string y.1.2.1.s, .slice y.1.2.2.1 y.1.2.1.l.length y.1.2.2.2] ∧ a' = { tmps := #[.func (.yield l) #[] #[], .pointer (some ⟨Bp, 0, none⟩), .pointer (some ⟨Bt, 0, none⟩), .pointer (some ⟨W.heap.size, 0, none⟩), .int .i64 k, .pointer (some ⟨wr.heap.size, 0, none⟩), .slice y.1.1.2.1 y.1.1.1.length y.1.1.2.2, .pointer (some ⟨Bx, 0, none⟩), .func (.yield l) #[] #[], .slice Ap ps.length cp, .agg #[.int .i64 t'.k, .int .i64 t'.n, .string t'.s, .slice (some ⟨g, off, none⟩) t'.l.length c], .bool true, .bool false, .pointer (some ⟨Bt, 3, none⟩), .slice (some ⟨g, off, none⟩) t'.l.length c, .int .i64 t'.l.length, .int .i64 k, .bool true, .int .i64 k, .pointer (some ⟨g, off + k * 4, none⟩), .agg #[.int .i64 x.k, .int .i64 x.n, .string x.s, .slice Ai x.l.length ci], .agg #[.int .i64 x.k, .int .i64 x.n, .string x.s, .slice Ai x.l.length ci], .slice Ap ps.length cp, .int .i64 k, .slice A3 (ps.length + 1) c3, .func (.func 137) #[] #[.pointer (some ⟨w3.heap.size + 1, 0, none⟩), .pointer (some ⟨w3.heap.size, 0, none⟩)], .slice y.1.1.2.1 y.1.1.1.length y.1.1.2.2, .agg #[.int .i64 y.1.2.1.k, .int .i64 y.1.2.1.n, .string y.1.2.1.s, .slice y.1.2.2.1 y.1.2.1.l.length y.1.2.2.2], undef, undef, undef, undef, undef, u33], defers := [] })
            (fun y a' _ X Y row hs hg hr => by
              obtain ⟨Bx, h1, h2, h3⟩ := hs
              exact ⟨Bx, h1, h2.grown hg (fun e => by
                obtain ⟨-, o, ho, hc⟩ := hr _ e.symm
                rw [show X.heap[Bx]? = some _ from h2] at ho
                injection ho with ho; subst ho; simp [Obj.isCells] at hc), h3⟩)
            ?assign ?body ?done ?stop
          case assign =>
            rintro l2 pre y W' K ⟨hj, hk', hyo', hM', hS'⟩ hK
            simp only [PW.encs]
            gi_wp2
            have hba : Below W'.heap.size W' (W'.alloc (.cells #[.int .i64 y.1.2.1.k, .int .i64 y.1.2.1.n, .string y.1.2.1.s, .slice y.1.2.2.1 y.1.2.1.l.length y.1.2.2.2] 25)) := (Below.refl _ _).alloc (Nat.le_refl _) _
            have hka : KpP n₀ W' (W'.alloc (.cells #[.int .i64 y.1.2.1.k, .int .i64 y.1.2.1.n, .string y.1.2.1.s, .slice y.1.2.2.1 y.1.2.1.l.length y.1.2.2.2] 25)) := KpP.of_below (by omega) hba
            exact hK _ _ (keepsFrom_below hba) hka ⟨ownFrom_below hJ hj hba, hk'.trans hka, fun z hz => (hyo' z hz).kp hka, hM'.keep fun D _ _ h => (hba.block D (Array.getElem?_eq_some_iff.1 h).1).trans h, by simp; omega⟩ ⟨W'.heap.size, hS', Blk.new _ _ _, rfl⟩
          case body =>
            rintro l2 pre y a' W' hl ⟨r, hr⟩ ⟨hj, hk', hyo', hM', hS'⟩ ⟨Bx, hBx, hbx, rfl⟩ hlen
            have hysl : ys.length = Tm.sizes (t'.l.take k) := by
              have h1 := congrArg List.length Hys.out
              rw [List.length_map, (Tm.plc_len_le _).2 _ _ _ (Nat.le_refl _)] at h1
              exact h1
            have hlen2 : (xr :: ys ++ pre).length < t'.size := by
              have h3 := sizes_take_le (k + 1) t'.l
              rw [Hts.out, sizes_append] at h3
              simp only [Tm.sizes, Nat.add_zero] at h3
              rw [t'.size_eq]
              simp only [List.length_append, List.length_cons]
              omega
            obtain ⟨⟨q0, q1, q2, q3⟩, -⟩ := hbx.four
            have hyb2 := (Blk.one (hk'.2.2.1 _ _ HYb1.out)).1
            have hWl : W.heap.size < W'.heap.size := by have := Hsr.out; omega
            have hbl := hbx.lt
            obtain ⟨fn2, tmps2, assign2, body2, hy2, hR2⟩ := HY.out (n - 1 - 1 - 1) (xr :: ys ++ pre) y W' hj hlen2
            simp only [PW.encs] at hy2
            have Hj := Lib.hid hj; clear hj
            have Hk' := Lib.hid hk'; clear hk'
            have Hyo' := Lib.hid hyo'; clear hyo'
            have HM' := Lib.hid hM'; clear hM'
            gi_wp2_with fail
            refine ⟨(fun h => by simp [Fence.wide, Fence.inRound] at h), (show RoundIn (Fence.wide.inRound l2) (n - 1 - 1 - 1) Try.prog l fn2 tmps2 assign2 body2 W' _ from hR2).mono ?_⟩
            clear hR2 hy2
            rintro e W4 (⟨rfl, hj4, hk4, hf4⟩ | ⟨rfl, hj4, hk4, hf4⟩)
            · gi_wp2
              exact ⟨keepsFrom_mono hf4 hWz2, hk4, by rw [← List.append_assoc]; exact hj4, Hk'.out.trans hk4, fun z hz => (Hyo'.out z hz).kp hk4, HM'.out.keep fun D hD _ h => hf4.same D _ hD h rfl, Nat.le_trans hS' hf4.size⟩
            · gi_wp2
              exact ⟨keepsFrom_mono hf4 hWz2, hk4, rfl, by rw [← List.append_assoc]; exact hj4, Hk'.out.trans hk4, fun z hz => (Hyo'.out z hz).kp hk4, HM'.out.keep fun D hD _ h => hf4.same D _ hD h rfl, Nat.le_trans hS' hf4.size⟩
          case done =>
            rintro D zs W' hD ⟨hzs, hzo⟩ ⟨hj, hk', hyo', hM', hS'⟩ hDk
            have hnx : (ys ++ zs).map PW.pt = Tm.plcs (t'.l.take (k + 1)) ps 0 := by
              rw [List.map_append, Hys.out, hzs, Hts.out, Tm.plcs_snoc, List.length_take, Nat.zero_add, Nat.min_eq_left (by omega)]
            have hM3 : Marks W.heap.size W' ({ target := .collected D, args := #[] } :: ds) := ⟨⟨D, rfl, by omega, hDk, fun e he h => by
              obtain ⟨E, h1, h2⟩ := hml e he
              rw [h] at h1; injection h1 with h1; omega⟩, hM'⟩
            have HM3 := Lib.hid hM3; clear hM3
            have Hnx := Lib.hid hnx; clear hnx
            have Hj := Lib.hid (show J (xr :: (ys ++ zs)) W' from hj); clear hj
            have Hk' := Lib.hid hk'; clear hk'
            have Hyo' := Lib.hid (show ∀ z ∈ ys ++ zs, z.ok W' from fun z hz => by
              rcases List.mem_append.1 hz with h | h
              · exact hyo' z h
              · exact hzo z h); clear hyo' hzo
            have Hs' := Lib.hid (show W1.heap.size ≤ W'.heap.size from by have := Hsr.out; omega)
            gi_wp2
            refine ⟨⟨k + 1, _, _, _, _, _, _, _, _, _, _, _, _, _, ys ++ zs, by omega, Hnx, Hj, Hk', Hyo', HM3, Hs', rfl⟩, ?_⟩
            simp [intOf]; omega
          case stop =>
            rintro D c2 pre W' hD ⟨hpre, hpo⟩ ⟨rfl, hj, hk', hyo', hM', hS'⟩ hDk
            have hM3 : Marks W.heap.size W' ({ target := .collected D, args := #[] } :: ds) := ⟨⟨D, rfl, by omega, hDk, fun e he h => by
              obtain ⟨E, h1, h2⟩ := hml e he
              rw [h] at h1; injection h1 with h1; omega⟩, hM'⟩
            have hsp : PlSp n₀ w0 t' ps (xr :: ys ++ pre) W' := by
              refine ⟨?_, fun z hz => ?_⟩
              · rw [List.map_append, List.map_cons, Hxt.out, Hys.out, t'.plc_eq]
                refine List.prefix_cons_inj _ |>.2 ?_
                have h1 := Tm.plcs_snoc (t'.l.take k) x ps 0
                rw [← Hts.out, List.length_take, Nat.zero_add, Nat.min_eq_left (by omega)] at h1
                refine ((List.prefix_append_right_inj _).2 hpre).trans ?_
                rw [← h1]
                exact plcs_take _ _ _ _
              · rcases List.mem_append.1 hz with h | h
                · rcases List.mem_cons.1 h with rfl | h
                  · exact Hxo.out _ (HKx.out.trans hk')
                  · exact hyo' z h
                · exact hpo z h
            have Hsp := Lib.hid hsp; clear hsp
            gi_wp2
            refine leaves_marks (N := W.heap.size) (fun W' => PlSp n₀ w0 t' ps (xr :: ys ++ pre) W' ∧ Jx (xr :: ys ++ pre) W') ?_ ?_ _ W' hM3 ⟨Hsp.out, hj⟩
            · rintro W5 D5 ⟨h1, h2⟩ hD5 hk5
              exact ⟨⟨h1.1, fun z hz => (h1.2 z hz).kp (KpP.putObj _ _ _ (.deferred none) (by omega) hk5 rfl)⟩, hJx.putObj _ h2 hD5 hk5 rfl⟩
            · rintro W5 ⟨h1, h2⟩
              exact ⟨_, results_none rfl _ _ _, ⟨_, rfl⟩, .inr ⟨_, h1, h2⟩⟩
      · have hke : k = t'.l.length := by omega
        subst hke
        have hsF : PlS n₀ w0 t' ps (xr :: ys) wr := by
          refine ⟨?_, fun z hz => ?_⟩
          · rw [List.map_cons, Hxt.out, Hys.out, t'.plc_eq, List.take_length]
          · rcases List.mem_cons.1 hz with rfl | h
            · exact Hxo.out _ (HKx.out.trans Hkr.out)
            · exact Hyo.out z h
        have HsF := Lib.hid hsF; clear hsF
        gi_wp2
        refine leaves_marks (N := W.heap.size) (fun W' => PlS n₀ w0 t' ps (xr :: ys) W' ∧ J (xr :: ys) W') ?_ ?_ ds wr HM.out ⟨HsF.out, Hjr.out⟩
        · rintro W5 D5 ⟨h1, h2⟩ hD5 hk5
          exact ⟨⟨h1.1, fun z hz => (h1.2 z hz).kp (KpP.putObj _ _ _ (.deferred none) (by omega) hk5 rfl)⟩, hJ.putObj _ h2 hD5 hk5 rfl⟩
        · rintro W5 ⟨h1, h2⟩
          exact ⟨_, results_none rfl _ _ _, ⟨_, rfl⟩, .inl ⟨_, h1, h2⟩⟩
end Go.Proofs.Ytfhgknmkpegpbaa

set_option linter.unusedVariables false
set_option linter.unusedSimpArgs false
namespace Go.Proofs.Ytfhgknmkpegpbaa
open Go.RowKit Go.Shelf
attribute [local go_sem] Oper.semAt_some

theorem info39 : ∃ i0 : TypeInfo, Try.prog.info? 39 = some i0 ∧ i0.zero = some (.slice none 0 0) ∧ i0.size = 1 ∧ i0.bytes = 24 := info_parts (by kernel_rfl)
/-- An append to a slice of slices of its own: a block of one cell stays. -/
theorem run_append39 (base : Nat) (w : World) (ty : TypeId) (v : Value) (k : Nat) (xs : List Value) (u : Value) (hown : w.ownsRow base 39 1 v k xs) (hk : k = 0 → v = .slice none 0 0) (ad : Addr) (hc : w.cell? ad = some u) (hu : u.oneCell' = true) (b1 : k + 1 ≤ 1000001) (hb : base ≤ w.heap.size) :
    ∃ v' w', (Builtin.append_ #[76, 76] ty #[v, .slice (some ad) 1 1]).run Try.prog w = .ok v' w' ∧ w'.ownsRow base 39 1 v' (k + 1) (xs ++ [u]) ∧ w.grownBy w' v.ownBlock ∧ ∀ g x, Blk w g 39 #[x] → Blk w' g 39 #[x] := by
  obtain ⟨i0, h1, h2, h3, h4⟩ := info39
  have hn : ∀ j u', [u][j]? = some u' → w.cell? (ad.add j) = some u' := fun j u' h => by
    match j, h with
    | 0, h => simp at h; subst h; simpa [Addr.add] using hc
  have hone : ∀ u' ∈ [u], u'.oneCell' = true := fun u' h => by rw [List.mem_singleton.1 h]; exact hu
  rcases hown.2 with ⟨hv, h0⟩ | ⟨g, cap, cur, hv, hbg, hg, hnc, hcm, hcs, htake⟩
  · obtain ⟨v', w', hr, r1, r2, -⟩ := run_append_own (P := Try.prog) w base 76 ty 39 i0 _ 1 24 Try.underlying76 h1 h2 h3 h4 rfl (by decide) v k xs hown ad 1 1 [u] rfl hn hone (by simp only [maxLen]; omega) (by omega) hb
    refine ⟨v', w', hr, r1, r2, fun g x hbk => hbk.grown r2 ?_⟩
    rw [hv]; simp [Value.ownBlock]
  · have hk0 : k ≠ 0 := fun e => by rw [hk e] at hv; cases hv
    subst hv
    by_cases hroom : k + 1 ≤ cap
    · obtain ⟨w', hr, r1, r2⟩ := run_append_fits (P := Try.prog) w base 76 ty 39 i0 1 Try.underlying76 h1 h3 g k cap xs hown ad 1 1 [u] rfl hn hone hroom
      refine ⟨_, w', hr, r1, r2, fun g' x hbk => hbk.grown r2 (fun e => ?_)⟩
      injection e with e
      subst e
      rw [show w.heap[g']? = _ from hbk] at hg
      injection hg with hg
      injection hg with hg
      rw [← hg] at hcs
      simp at hcs
      omega
    · have holds : ∀ j u', xs[j]? = some u' → w.cell? ((⟨g, 0, none⟩ : Addr).add j) = some u' := fun j u' h => hown.cells (g := g) rfl j u' h
      obtain ⟨v', w', hr, r1, r2⟩ := run_append_arg_grows (P := Try.prog) w 76 ty 39 i0 _ 1 24 Try.underlying76 h1 h2 h3 h4 rfl (by decide) ⟨g, 0, none⟩ k cap xs hown.1 holds ad 1 1 [u] rfl hn (by omega) (by simp only [maxLen]; omega) (by omega)
      exact ⟨v', w', hr, own_lower r1 hb, ⟨r2.os, r2.tape, r2.output, r2.size, fun j hj _ => r2.block j hj (by simp)⟩, fun g' x hbk => hbk.grown r2 (by simp)⟩
theorem wpListIn_append39 {F : Fence} {n : Nat} (w : World) {ops : Array Oper} {rest : List Oper} {o : Oper} {a : Act} {Q : Exit → Act → World → Prop} (hgd : o.guard = none) (s x : Operand)
    (ho : o.op = .call { callee := .builtin .append, args := #[s, x], argTypes := #[76, 76] }) (base : Nat) (v : Value) (k : Nat) (xs : List Value) (u : Value) (hs : a.eval s = v) (hown : w.ownsRow base 39 1 v k xs) (hk : k = 0 → v = .slice none 0 0) (ad : Addr)
    (hx : a.eval x = .slice (some ad) 1 1) (hc : w.cell? ad = some u) (hu : u.oneCell' = true) (b1 : k + 1 ≤ 1000001) (hb : base ≤ w.heap.size)
    (h : ∀ v' w', w'.ownsRow base 39 1 v' (k + 1) (xs ++ [u]) → w.grownBy w' v.ownBlock → (∀ g x, Blk w g 39 #[x] → Blk w' g 39 #[x]) → wpListIn F n Try.prog ops Q rest (a.put o.dst v') w') :
    wpListIn F n Try.prog ops Q (o :: rest) a w := by
  refine wpListIn_plain hgd fun K hK => ?_
  obtain ⟨v', w', hr, h2, h3, h4⟩ := run_append39 base w o.type v k xs u hown hk ad hc hu b1 hb
  unfold Oper.wpIn
  refine ⟨by simp [Oper.about, ho, resolve, Target.leads, Sem.run_pure], ?_⟩
  rw [Oper.semAt_plain F _ _ (by rw [ho]; intro c hc'; cases hc')]
  simp [execOp, ho, resolve, invoke, builtin, hs, hx, hr, Result.andThen]
  exact hK _ _ (h v' w' h2 h3 h4)
def PW.sv {n₀ : Nat} {w0 : World} (x : PW n₀ w0) : Value := .slice x.1.1.2.1 x.1.1.1.length x.1.1.2.2
/-- What Paths gives. -/
def RetPs (w : World) (ls : List (List Int)) (er : Int) (e : Ending) (w' : World) : Prop :=
  ∃ A c, e = .returned (.tuple #[.slice A ls.length c, .int .i64 er]) ∧ SlC (w.heap.size ≤ ·) w' A c ls ∧ Below w.heap.size w w'
theorem slC_of {n₀ N c n : Nat} {w0 W : World} {A : Option Addr} {ys : List (PW n₀ w0)} (h : W.ownsRow N 39 1 (.slice A n c) n (ys.map PW.sv)) (hn : n = ys.length) (hnN : n₀ ≤ N) (hok : ∀ y ∈ ys, y.ok W) : SlC (n₀ ≤ ·) W A c (ys.map (fun y => y.1.1.1)) := by
  subst hn
  refine ⟨ys.map (fun y => y.1.1), by rw [List.map_map]; rfl, ?_, ?_, ?_, ?_, ?_, fun e he => ?_⟩
  · rw [List.length_map]
    rcases h.2 with ⟨hv, h0⟩ | ⟨g, cap, cur, hv, hg, hb, h1, h2, h3, h4⟩
    · injection hv; omega
    · injection hv; omega
  · rcases h.2 with ⟨hv, h0⟩ | ⟨g, cap, cur, hv, hg, hb, h1, h2, h3, h4⟩
    · injection hv; omega
    · injection hv with _ _ hv; subst hv; simpa [maxLen] using h2
  · intro e
    rcases h.2 with ⟨hv, h0⟩ | ⟨g, cap, cur, hv, hg, hb, h1, h2, h3, h4⟩
    · injection hv
    · injection hv with hv; rw [e] at hv; cases hv
  · intro hne
    rcases h.2 with ⟨hv, h0⟩ | ⟨g, cap, cur, hv, hg, hb, h1, h2, h3, h4⟩
    · exact absurd (by rw [List.length_eq_zero_iff.1 h0]; rfl) hne
    · injection hv with hv
      exact ⟨g, 0, hv, by omega⟩
  · have h5 := own_rd h
    have h6 : (ys.map (fun y => y.1.1)).flatMap encS = ys.map PW.sv := by
      clear h h5 hok
      induction ys with
      | nil => rfl
      | cons y ys ih => rw [List.map_cons, List.flatMap_cons, ih]; rfl
    rw [h6]; exact h5
  · obtain ⟨y, hy, rfl⟩ := List.mem_map.1 he
    have h7 := hok y hy
    have h8 := h7.len
    refine ⟨h8.1, h8.2.1, fun hne => ?_, ?_⟩
    · rcases h7 with ⟨h1, _⟩ | ⟨h1, h2, h3, g, cs, h4, h5, _⟩
      · exact absurd h1 hne
      · exact ⟨g, 0, h4, h5⟩
    · rcases h7 with ⟨h1, _⟩ | ⟨h1, h2, h3, g, cs, h4, h5, h6, h9⟩
      · rw [h1]; exact rd_nil _ _
      · intro _
        refine ⟨g, 0, h4, fun j v hj => ?_⟩
        rw [flatMap_encI, List.getElem?_map] at hj
        cases hx : y.1.1.1[j]? with
        | none => rw [hx] at hj; cases hj
        | some u =>
          rw [hx] at hj
          rw [Nat.zero_add, h6.cell j, h9 j u hx]
          exact hj

theorem slC_put {P : Nat → Prop} {W : World} {A : Option Addr} {c D : Nat} {ls : List (List Int)} (h : SlC P W A c ls) (hD : W.heap[D]? = some (.deferred (some []))) : SlC P (W.putObj D (.deferred none)) A c ls := by
  have key : ∀ (p : Addr) v, W.cell? p = some v → (W.putObj D (.deferred none)).cell? p = some v := fun p v hv => by
    rw [World.cell?_of_block (World.putObj_heap_other (fun e => ?_))]
    · exact hv
    · rw [← e] at hD
      simp [World.cell?, hD] at hv
  have rd : ∀ {B : Option Addr} {xs : List Value}, Rd W B xs → Rd (W.putObj D (.deferred none)) B xs := fun hr hne => by
    obtain ⟨g, off, h1, h2⟩ := hr hne
    exact ⟨g, off, h1, fun j v hj => key _ _ (h2 j v hj)⟩
  obtain ⟨es, h1, h2, h3, h4, h5, h6, h7⟩ := h
  exact ⟨es, h1, h2, h3, h4, h5, rd h6, fun e he => ⟨(h7 e he).1, (h7 e he).2.1, (h7 e he).2.2.1, rd (h7 e he).2.2.2⟩⟩

set_option maxRecDepth 100000 in
set_option maxHeartbeats 4000000 in
theorem pathsTop_calls (t : Tm) (P : Nat → Prop) (w : World) (v : Value) (hv : TmV P w v t) : Calls Try.prog 63 #[v] w (RetPs w (if isB t = true then (t.plc []).map Prod.fst else []) (errT (isB t))) := by
  refine (callsIn_wide (n := 5)).1 ?_
  obtain ⟨A, c, rfl, hs, hc⟩ := hv
  obtain ⟨b, hb⟩ : ∃ b, b = isB t := ⟨_, rfl⟩
  have hB0 : Below w.heap.size w (w.alloc (.cells #[.int .i64 t.k, .int .i64 t.n, .string t.s, .slice A t.l.length c] 25)) := (Below.refl _ _).alloc (Nat.le_refl _) _
  have hX0 : Blk (w.alloc (.cells #[.int .i64 t.k, .int .i64 t.n, .string t.s, .slice A t.l.length c] 25)) w.heap.size 25 #[.int .i64 t.k, .int .i64 t.n, .string t.s, .slice A t.l.length c] := Blk.new _ _ _
  have hc0 : TmC (· < w.heap.size) w A c t.l := hc.inside.mono (fun g h => h.2)
  have hcall := (callsIn_wide (n := 4)).2 (check_calls t _ _ _ ⟨A, c, rfl, hs, hc0.stay hB0 (Nat.le_refl _)⟩)
  rw [← hb] at hcall ⊢
  obtain ⟨ls, hls⟩ : ∃ ls, ls = if b = true then (t.plc []).map Prod.fst else [] := ⟨_, rfl⟩
  rw [← hls]
  have Hls := Lib.hid hls; clear hls
  have Hcall := Lib.hid hcall; clear hcall
  have Hb := Lib.hid hb; clear hb
  have HX0 := Lib.hid hX0; clear hX0
  have HB0 := Lib.hid hB0; clear hB0
  have Hc0 := Lib.hid hc0; clear hc0 hc
  refine callsIn_of_wp_marks Try.func63 rfl trivial ?_ rfl
  simp only [Try.ntmps63, List.size_toArray, List.length_cons, List.length_nil, Nat.reduceAdd, Nat.reduceSub, Array.replicate_succ, Array.replicate_zero, List.push_toArray, List.append_toArray, List.nil_append, List.cons_append]
  gi_wp2_with fail
  refine ⟨trivial, ?_⟩
  refine Hcall.out.mono ?_
  rintro e w1 ⟨rfl, hb1⟩
  have HB1 := Lib.hid (HB0.out.trans (hb1.mono HB0.out.size))
  have hX1 := HX0.out.below hb1 HX0.out.lt
  have hl1 := hX1.lt
  obtain ⟨⟨a0, a1, a2, a3⟩, -⟩ := hX1.four
  have HX1 := Lib.hid hX1; clear hX1 hb1
  cases b
  · have he : (errT false != 0) = true := rfl
    have hl : ls = [] := by have := Hls.out; simpa using this
    subst hl
    gi_wp2
    refine leaves_marks (N := w.heap.size) (fun W' => Below w.heap.size w W') ?_ ?_ [] w1 trivial HB1.out
    · rintro W5 D5 h1 hD5 hk5
      exact h1.trans (Below.putObj_ (Nat.le_refl _) _ _ (.deferred none) _ hD5)
    · rintro W5 h1
      exact ⟨.tuple #[.slice none 0 0, .int .i64 (errT false)], by simp [results, Try.results63, go_sem], none, 0, rfl, ⟨[], rfl, by simp, by omega, fun _ => rfl, fun h => absurd rfl h, rd_nil _ _, fun e he => by simp at he⟩, h1⟩
  have he : (errT true != 0) = false := rfl
  have hl : ls = (t.plc []).map Prod.fst := by have := Hls.out; simpa using this
  have Hl := Lib.hid hl; clear hl Hls
  gi_wp2_with fail
  refine ⟨trivial, ?_⟩
  refine ((callsIn_wide (n := 4)).2 (places_calls _ _ _ _ _ _ _ _ _ _)).mono ?_
  rintro e w2 ⟨rfl, rfl⟩
  gi_wp2_with fail
  obtain ⟨Wz, hWz⟩ : ∃ Wz, Wz = ((w1.alloc (.cells #[.slice none 0 0] 76)).alloc (.cells #[.int .i64 t.k, .int .i64 t.n, .string t.s, .slice A t.l.length c] 25)).alloc (.cells #[.slice none 0 0] 39) := ⟨_, rfl⟩
  rw [← hWz]
  have hsw1 : w.heap.size < w1.heap.size := HX1.out.lt
  have hb2 : Below w1.heap.size w1 Wz := by rw [hWz]; exact (((Below.refl _ _).alloc (Nat.le_refl _) _).alloc (by simp) _).alloc (by simp; omega) _
  have hob : Boxed Wz w1.heap.size 76 (.slice none 0 0) := by rw [hWz]; exact ((Boxed.new w1 76 (.slice none 0 0)).alloc _).alloc _
  have hbt : Blk Wz (w1.heap.size + 1) 25 #[.int .i64 t.k, .int .i64 t.n, .string t.s, .slice A t.l.length c] := by
    rw [hWz]
    have := Blk.new (w1.alloc (.cells #[.slice none 0 0] 76)) 25 #[.int .i64 t.k, .int .i64 t.n, .string t.s, .slice A t.l.length c]
    rw [World.size_alloc] at this
    exact this.alloc _
  have hbp : Blk Wz (w1.heap.size + 1 + 1) 39 #[.slice none 0 0] := by
    rw [hWz]
    have := Blk.new ((w1.alloc (.cells #[.slice none 0 0] 76)).alloc (.cells #[.int .i64 t.k, .int .i64 t.n, .string t.s, .slice A t.l.length c] 25)) 39 #[.slice none 0 0]
    rwa [World.size_alloc, World.size_alloc] at this
  have hszz : Wz.heap.size = w1.heap.size + 3 := by rw [hWz]; simp
  have hot := isB_iff.1 Hb.out.symm
  obtain ⟨xe, hxe⟩ : ∃ xe : PW w.heap.size w, xe.1 = (([], none, 0), t, A, c) := ⟨⟨(([], none, 0), t, A, c), hot.1, hs, Hc0.out⟩, rfl⟩
  have hBz : Below w.heap.size w Wz := HB1.out.trans (hb2.mono (by omega))
  have hseq := places1_seq w.heap.size w t (5 - 1) xe (w1.heap.size + 1 + 1) (w1.heap.size + 1) Wz (by rw [hxe]) (by omega) hBz (by rw [hxe]; exact hbp) (by rw [hxe]; exact hbt) (by unfold PW.ok; rw [hxe]; exact PathOk.nil _ _) (by rw [hxe]; have := hot.2.1; simp; omega)
  have hpt : xe.1.1.1 = [] := by rw [hxe]
  rw [hpt] at hseq
  clear hWz hbt hbp hxe hb2
  have hts : t.size ≤ 4000 := hot.2.1
  clear a0 a1 a2 a3 hot
  refine wpIn_rangeW rfl (fun _ => by decide) (gf := 137) (lb := #[.pointer (some ⟨w1.heap.size + 1 + 1, 0, none⟩), .pointer (some ⟨w1.heap.size + 1, 0, none⟩)]) rfl trivial (enters_of Try.func137 (by kernel_rfl) rfl) (n₀ := w.heap.size) (by omega) hseq
    (fun s X Y row hs hg hr => ⟨hs.1, fun y hy => (hs.2 y hy).keep (fun g cs hb => (hg.block g hb.lt (fun e => by obtain ⟨-, o, ho, hc⟩ := hr g e.symm; rw [show X.heap[g]? = _ from hb] at ho; injection ho with ho; subst ho; simp [Obj.isCells] at hc)).trans hb)⟩)
    (fun s X Y row hs hg hr => ⟨hs.1, fun y hy => (hs.2 y hy).keep (fun g cs hb => (hg.block g hb.lt (fun e => by obtain ⟨-, o, ho, hc⟩ := hr g e.symm; rw [show X.heap[g]? = _ from hb] at ho; injection ho with ho; subst ho; simp [Obj.isCells] at hc)).trans hb)⟩)
    (Below.refl _ _) (fun _ => rfl)
    (fun pre W' => (∃ v, Boxed W' w1.heap.size 76 v ∧ W'.ownsRow w1.heap.size 39 1 v pre.length (pre.map PW.sv) ∧ (v = .slice none 0 0 ↔ pre = [])) ∧ Below w.heap.size w W' ∧ Wz.heap.size ≤ W'.heap.size)
    (fun _ _ _ => False)
    (fun s X Y row hs hg hr => ⟨holdsRow_own w1.heap.size w1.heap.size 76 39 1 (fun (pre : List (PW w.heap.size w)) => pre.length) (fun pre => pre.map PW.sv) (fun pre v => (v = .slice none 0 0 ↔ pre = [])) s X Y row hs.1 hg (fun r e => (hr r e).2), ⟨(hs.2.1.grown hg (Nat.le_trans hs.2.1.size (Nat.le_refl _)) (fun r e => by have := (hr r e).1; omega)), Nat.le_trans hs.2.2 hg.size⟩⟩)
    (fun _ _ _ _ _ hs _ _ => hs) ⟨⟨_, hob, World.ownsRow_nil _ _ _ _, by simp⟩, hBz, Nat.le_refl _⟩
    (fun y a' W' => a' = { tmps := #[.agg #[.int .i64 t.k, .int .i64 t.n, .string t.s, .slice A t.l.length c], .pointer (some ⟨w.heap.size, 0, none⟩), .slice none 0 0, .int .i64 0, .int .i64 (errT true), .pointer (some ⟨w1.heap.size, 0, none⟩), .slice y.1.1.2.1 y.1.1.1.length y.1.1.2.2, .agg #[.int .i64 t.k, .int .i64 t.n, .string t.s, .slice A t.l.length c], .int .i64 (errT true), .int .i64 (errT true), .bool false, undef, .agg #[.int .i64 t.k, .int .i64 t.n, .string t.s, .slice A t.l.length c], .func (.func 137) #[] #[.pointer (some ⟨w1.heap.size + 1 + 1, 0, none⟩), .pointer (some ⟨w1.heap.size + 1, 0, none⟩)], .slice y.1.1.2.1 y.1.1.1.length y.1.1.2.2, .agg #[.int .i64 y.1.2.1.k, .int .i64 y.1.2.1.n, .string y.1.2.1.s, .slice y.1.2.2.1 y.1.2.1.l.length y.1.2.2.2], undef, undef, undef, undef, undef], defers := [] })
    (fun _ _ _ _ _ _ hs _ _ => hs)
    ?assign ?body ?done ?stop
  case assign =>
    rintro l2 pre y W' K hi hK
    simp only [PW.encs]
    gi_wp2
    exact hK _ _ (KeepsFrom.refl _ _) (KpP.refl _ _) hi rfl
  case body =>
    rintro l2 pre y a' W' hl ⟨r, hr⟩ ⟨⟨v, hv, hrow, hnil⟩, hB, hS⟩ rfl hlen
    have cv := hv.cell
    have hB2 := hB.size
    have hvl := hv.lt
    have hvf := hv.frozen
    have hl4 : pre.length ≤ 4000 := by omega
    have Hrow := Lib.hid hrow; clear hrow
    have Hv := Lib.hid hv; clear hv
    have HB := Lib.hid hB; clear hB
    have Hnil := Lib.hid hnil; clear hnil
    gi_wp2_with (gi_at_builtin; refine wpListIn_append39 _ rfl _ _ rfl w1.heap.size v pre.length (pre.map PW.sv) (.slice y.1.1.2.1 y.1.1.1.length y.1.1.2.2) rfl (Hrow.out.alloc _) (fun h => Hnil.out.2 (List.length_eq_zero_iff.1 h)) ⟨W'.heap.size, 0, none⟩ rfl (by simp) (by rfl) (by omega) (by simp; omega) ?_; intro v' w2 hown' hgrow hkp; obtain ⟨g', cap', rfl⟩ := ownsRow_succ hown'; obtain ⟨hv2, hv3, hr3, hk3, hb3⟩ := Hv.out.appended (by decide) Hrow.out (by omega) (Nat.le_refl _) hown' hgrow; have hc2 := hv2.cell; have hf2 := hv2.frozen)
    have keep : ∀ g T cs, T ≠ 39 → T ≠ 76 → Blk W' g T cs → Blk (w2.setCell ⟨w1.heap.size, 0, none⟩ (.slice (some ⟨g', 0, none⟩) (pre.length + 1) cap')) g T cs := fun g T cs h39 h76 hb => by
      have h1 := (hb.alloc (.cells #[.slice y.1.1.2.1 y.1.1.1.length y.1.1.2.2] 39)).grown hgrow (fun e => own_blk_ne Hrow.out hb (Ne.symm h39) e.symm)
      exact h1.far (p := ⟨w1.heap.size, 0, none⟩) (fun e => Blk.ne_ h1 (show Blk w2 w1.heap.size 76 #[v] from hv2) h76 e) _
    refine ⟨hk3.from _, ⟨hb3.mono (by omega), fun g cs hb => keep g 25 cs (by decide) (by decide) hb, fun g cs hb => keep g 155 cs (by decide) (by decide) hb, fun g cs hb => keep g 3 cs (by decide) (by decide) hb, fun g x hb => ?_⟩, ⟨_, hv3, by simpa [PW.sv] using hr3, by simp⟩, HB.out.trans (hb3.mono (by omega)), Nat.le_trans hS hb3.size⟩
    have h1 := hkp g x (hb.alloc _)
    exact h1.far (p := ⟨w1.heap.size, 0, none⟩) (fun e => Blk.ne_ h1 (show Blk w2 w1.heap.size 76 #[v] from hv2) (by decide) e) _
  case done =>
    rintro D ys W' hD ⟨hys, hyo⟩ ⟨⟨v, hv, hrow, hnil⟩, hB, hS⟩ hDk
    have cv := hv.cell
    obtain ⟨A2, c2, rfl⟩ := own_slice hrow
    have hll : ls = ys.map (fun y => y.1.1.1) := by rw [Hl.out, ← hys, List.map_map]; rfl
    have hfin := slC_of hrow rfl (by omega) hyo
    have hM : Marks w.heap.size W' [{ target := .collected D, args := #[] }] := ⟨⟨D, rfl, by omega, hDk, fun e he => by simp at he⟩, trivial⟩
    have Hfin := Lib.hid hfin; clear hfin
    have Hll := Lib.hid hll; clear hll
    have HB := Lib.hid hB; clear hB
    have HM := Lib.hid hM; clear hM
    have Hnl := Lib.hid (show ys.length = ls.length from by rw [Hll.out, List.length_map])
    have hgr : W'.heap[D]? = some (.deferred (some [])) := hDk
    have Hmk := Lib.hid (HM.out)
    gi_wp2
    refine leaves_marks (N := Wz.heap.size) (fun W5 => SlC (w.heap.size ≤ ·) W5 A2 c2 (ys.map (fun y => y.1.1.1)) ∧ Below w.heap.size w W5 ∧ Wz.heap.size ≤ W5.heap.size) ?_ ?_ _ W' ⟨⟨D, rfl, hD, hgr, fun e he => by simp at he⟩, trivial⟩ ⟨Hfin.out, HB.out, hS⟩
    · rintro W5 D5 ⟨h1, h2, h3⟩ hD5 hk5
      exact ⟨slC_put h1 hk5, h2.trans (Below.putObj_ (Nat.le_refl _) _ _ (.deferred none) _ (by omega)), by simpa using h3⟩
    · rintro W5 ⟨h1, h2, h3⟩
      exact ⟨.tuple #[.slice A2 ys.length c2, .int .i64 0], by simp [results, Try.results63, go_sem], A2, c2, by rw [← Hnl.out]; rfl, by rw [Hll.out]; exact h1, h2⟩
  case stop =>
    rintro D c2 pre W' _ _ h _
    exact h.elim
end Go.Proofs.Ytfhgknmkpegpbaa

set_option linter.unusedVariables false
set_option linter.unusedSimpArgs false
namespace Go.Proofs.Ytfhgknmkpegpbaa
open Go.RowKit

abbrev sa : ByteArray := ⟨#[97]⟩
abbrev sb : ByteArray := ⟨#[98]⟩
abbrev sc : ByteArray := ⟨#[99]⟩
abbrev sf : ByteArray := ⟨#[102]⟩
abbrev sg : ByteArray := ⟨#[103]⟩
abbrev sd : ByteArray := ⟨#[46]⟩
abbrev se : ByteArray := ⟨#[91, 93]⟩
theorem va_ok {n : Int} (h0 : 0 ≤ n) (h1 : n < 100000) : (Tm.va n).okB = true := by
  rw [Tm.okB_eq]
  have : nodeB (Tm.va n) = true := by
    unfold nodeB
    rw [if_pos (show (Tm.va n).k = 1 from rfl)]
    have h2 : bareB (Tm.va n) true false false = true := by
      unfold bareB
      show ((true && (false || decide ((⟨#[]⟩ : ByteArray).toList = []))) && true) = true
      rw [show (⟨#[]⟩ : ByteArray).toList = [] from empty_toList]; rfl
    rw [h2]
    show ((true && decide (0 ≤ n)) && decide (n < 100000)) = true
    simp [h0, h1]
  rw [this]; rfl
theorem at_ok {s : ByteArray} (h : nameB s = true) : (Tm.at' s).okB = true := by
  rw [Tm.okB_eq]
  have : nodeB (Tm.at' s) = true := by
    unfold nodeB
    rw [if_neg (by show (3 : Int) ≠ 1; decide), if_neg (by show (3 : Int) ≠ 2; decide), if_pos (show (Tm.at' s).k = 3 from rfl)]
    show (bareB (Tm.at' s) false true false && nameB s) = true
    rw [h]; rfl
  rw [this]; rfl
theorem fn_ok {s : ByteArray} {l : List Tm} (h : nameB s = true) (h1 : 1 ≤ l.length) (h2 : l.length ≤ 16) (hl : Tm.okBs l = true) : (Tm.fn s l).okB = true := by
  rw [Tm.okB_eq]
  have : nodeB (Tm.fn s l) = true := by
    unfold nodeB
    rw [if_neg (by show (5 : Int) ≠ 1; decide), if_neg (by show (5 : Int) ≠ 2; decide), if_neg (by show (5 : Int) ≠ 3; decide), if_neg (by show (5 : Int) ≠ 4; decide), if_pos (show (Tm.fn s l).k = 5 from rfl)]
    show (((bareB (Tm.fn s l) false true true && nameB s) && decide (1 ≤ l.length)) && decide (l.length ≤ 16)) = true
    rw [h, decide_eq_true h1, decide_eq_true h2]; rfl
  rw [this]
  show (true && Tm.okBs l) = true
  rw [hl]; rfl
theorem nm_a : nameB sa = true := by decide
theorem nm_b : nameB sb = true := by decide
theorem nm_c : nameB sc = true := by decide
theorem nm_f : nameB sf = true := by decide
theorem nm_g : nameB sg = true := by decide
theorem nm_d : nameB sd = true := by decide
theorem nm_e : nameB se = true := by decide
theorem va_k (n : Int) : (Tm.va n).k = 1 := rfl
theorem va_n (n : Int) : (Tm.va n).n = n := rfl
theorem va_l (n : Int) : (Tm.va n).l = [] := rfl
theorem va_s (n : Int) : (Tm.va n).s = ⟨#[]⟩ := rfl
theorem at_k (s : ByteArray) : (Tm.at' s).k = 3 := rfl
theorem at_n (s : ByteArray) : (Tm.at' s).n = 0 := rfl
theorem at_l (s : ByteArray) : (Tm.at' s).l = [] := rfl
theorem at_s (s : ByteArray) : (Tm.at' s).s = s := rfl
theorem fn_k (s : ByteArray) (l : List Tm) : (Tm.fn s l).k = 5 := rfl
theorem fn_n (s : ByteArray) (l : List Tm) : (Tm.fn s l).n = 0 := rfl
theorem fn_l (s : ByteArray) (l : List Tm) : (Tm.fn s l).l = l := rfl
theorem fn_s (s : ByteArray) (l : List Tm) : (Tm.fn s l).s = s := rfl
theorem mk_fn (s : ByteArray) (l : List Tm) : Tm.mk 5 0 s l = Tm.fn s l := rfl
theorem mk_at (s : ByteArray) : Tm.mk 3 0 s [] = Tm.at' s := rfl
theorem mk_va (n : Int) : Tm.mk 1 n ⟨#[]⟩ [] = Tm.va n := rfl
def sX : Tm := Tm.fn sf [Tm.va 0, Tm.fn sd [Tm.at' sa, Tm.at' se]]
theorem sX_ok : isB sX = true := isB_iff.2 ⟨fn_ok nm_f (by decide) (by decide) (by rw [Tm.okBs, va_ok (by decide) (by decide), Tm.okBs, fn_ok nm_d (by decide) (by decide) (by rw [Tm.okBs, at_ok nm_a, Tm.okBs, at_ok nm_e]; rfl)]; rfl), by decide, by decide⟩
theorem sX_size : sX.size = 5 := by rfl
theorem sX_depth : sX.depth = 3 := by rfl
theorem s_cmp : (if allIs [Tm.fn sg [Tm.at' sa], Tm.fn sf [Tm.at' sa, Tm.at' sb]] = true then Tm.ord (Tm.fn sg [Tm.at' sa]) (Tm.fn sf [Tm.at' sa, Tm.at' sb]) else 0) = -1 ∧ errT (allIs [Tm.fn sg [Tm.at' sa], Tm.fn sf [Tm.at' sa, Tm.at' sb]]) = 0 := by
  have h : allIs [Tm.fn sg [Tm.at' sa], Tm.fn sf [Tm.at' sa, Tm.at' sb]] = true := by
    simp only [allIs, List.all_cons, List.all_nil, Bool.and_true, Bool.and_eq_true]
    exact ⟨isB_iff.2 ⟨fn_ok nm_g (by decide) (by decide) (by rw [Tm.okBs, at_ok nm_a]; rfl), by decide, by decide⟩, isB_iff.2 ⟨fn_ok nm_f (by decide) (by decide) (by rw [Tm.okBs, at_ok nm_a, Tm.okBs, at_ok nm_b]; rfl), by decide, by decide⟩⟩
  rw [h]
  refine ⟨?_, rfl⟩
  rw [if_pos rfl, Tm.ord_eq]
  rw [if_pos (by rfl)]
  decide
theorem s_paths : (sX.plc []).map Prod.fst = [[], [0], [1], [1, 0], [1, 1]] := by rfl
theorem fb_va (n : Int) : freeB (Tm.va n) = false := by unfold freeB; rw [if_neg (fun h => absurd h.1 (by show (1 : Int) ≠ 0; decide))]
theorem fb_at (s : ByteArray) : freeB (Tm.at' s) = false := by unfold freeB; rw [if_neg (fun h => absurd h.1 (by show (3 : Int) ≠ 0; decide))]
theorem fb_fn (s : ByteArray) (l : List Tm) : freeB (Tm.fn s l) = false := by unfold freeB; rw [if_neg (fun h => absurd h.1 (by show (5 : Int) ≠ 0; decide))]
theorem fb_zero : freeB Tm.zero = true := freeB_iff.2 rfl
theorem rep_va {F : Int → Option Tm} {n : Int} {x : Tm} (L : Int) (h : F n = some x) : (Tm.va n).rep F L = (x, L - x.size) := Tm.rep_hit F (Tm.va n) L rfl h
theorem rep_at {F : Int → Option Tm} (s : ByteArray) (L : Int) : (Tm.at' s).rep F L = (Tm.at' s, L - 1) := by
  rw [Tm.rep_def F (Tm.at' s) L (fun x h => absurd h (by show (3 : Int) ≠ 1; decide)), at_l, Tm.reps_nil]; rfl
theorem rep_fn {F : Int → Option Tm} (s : ByteArray) (l : List Tm) (L : Int) : (Tm.fn s l).rep F L = (Tm.fn s (Tm.reps F l (L - 1)).1, (Tm.reps F l (L - 1)).2) := by
  rw [Tm.rep_def F (Tm.fn s l) L (fun x h => absurd h (by show (5 : Int) ≠ 1; decide))]; rfl
theorem one_ok {x : Tm} (h : x.okB = true) : Tm.okBs [x] = true := by rw [Tm.okBs, h]; rfl
theorem two_ok {x y : Tm} (h : x.okB = true) (h2 : y.okB = true) : Tm.okBs [x, y] = true := by rw [Tm.okBs, h, Tm.okBs, h2]; rfl
theorem three_ok {x y z : Tm} (h : x.okB = true) (h2 : y.okB = true) (h3 : z.okB = true) : Tm.okBs [x, y, z] = true := by rw [Tm.okBs, h, two_ok h2 h3]; rfl
def sP : Tm := Tm.fn sf [Tm.va 0, Tm.va 1]
def sQ : List Tm := [Tm.fn sg [Tm.va 1], Tm.at' sa]
def sR : Tm := Tm.fn sf [Tm.fn sg [Tm.va 1], Tm.at' sa]
theorem va0 : (Tm.va 0).okB = true := va_ok (by decide) (by decide)
theorem va1 : (Tm.va 1).okB = true := va_ok (by decide) (by decide)
theorem va2 : (Tm.va 2).okB = true := va_ok (by decide) (by decide)
theorem sP_ok : isB sP = true := isB_iff.2 ⟨fn_ok nm_f (by decide) (by decide) (two_ok va0 va1), by decide, by decide⟩
theorem sR_ok : isB sR = true := isB_iff.2 ⟨fn_ok nm_f (by decide) (by decide) (two_ok (fn_ok nm_g (by decide) (by decide) (one_ok va1)) (at_ok nm_a)), by decide, by decide⟩
theorem sQ_sub : subB sQ = true := by
  have h1 : isB (Tm.fn sg [Tm.va 1]) = true := isB_iff.2 ⟨fn_ok nm_g (by decide) (by decide) (one_ok va1), by decide, by decide⟩
  have h2 : isB (Tm.at' sa) = true := isB_iff.2 ⟨at_ok nm_a, by decide, by decide⟩
  unfold subB sQ
  simp only [List.any_cons, List.any_nil, badB, h1, h2, fb_fn, fb_at]
  rfl
theorem pick0 : pickF sQ 0 = some (Tm.fn sg [Tm.va 1]) := by
  show (if freeB (Tm.fn sg [Tm.va 1]) = true then none else some _) = _
  rw [fb_fn]; rfl
theorem pick1 : pickF sQ 1 = some (Tm.at' sa) := by
  show (if freeB (Tm.at' sa) = true then none else some _) = _
  rw [fb_at]; rfl
theorem s_subst : substR sP sQ = some sR ∧ substE sP sQ = 2 := by
  have hr : sP.rep (pickF sQ) 4000 = (sR, 3996) := by
    unfold sP sR
    rw [rep_fn, Tm.reps_cons, if_neg (by decide), rep_va _ pick0]
    simp only
    rw [Tm.reps_cons, if_neg (by decide), rep_va _ pick1]
    simp only
    rw [Tm.reps_nil]
    rfl
  unfold substR substE
  rw [sP_ok, sQ_sub, if_pos ⟨rfl, rfl⟩]
  refine ⟨?_, rfl⟩
  unfold repT
  rw [hr, if_neg (by decide), sR_ok]; rfl
def sM : Tm := Tm.fn sf [Tm.va 0, Tm.va 0]
def sM1 : Tm := Tm.fn sf [Tm.at' sa, Tm.at' sa]
def sM2 : Tm := Tm.fn sf [Tm.at' sa, Tm.at' sb]
theorem sM_all : allIs [sM, sM1] = true ∧ allIs [sM, sM2] = true := by
  have h0 : isB sM = true := isB_iff.2 ⟨fn_ok nm_f (by decide) (by decide) (two_ok va0 va0), by decide, by decide⟩
  have h1 : isB sM1 = true := isB_iff.2 ⟨fn_ok nm_f (by decide) (by decide) (two_ok (at_ok nm_a) (at_ok nm_a)), by decide, by decide⟩
  have h2 : isB sM2 = true := isB_iff.2 ⟨fn_ok nm_f (by decide) (by decide) (two_ok (at_ok nm_a) (at_ok nm_b)), by decide, by decide⟩
  simp [allIs, h0, h1, h2]
theorem sM_vars : varsL [sM] = [0] := by rfl
theorem mat_va (n : Int) (u : Tm) (sub : List Tm) {x : Tm} (h : sub[n.toNat]? = some x) : (Tm.va n).mat u sub = if freeB x = true then (sub.set n.toNat u, true) else (sub, sameB x u) := by
  rw [Tm.mat_eq, if_pos (show (Tm.va n).k = 1 from rfl), va_n, h]
theorem mat_fn (s : ByteArray) (l : List Tm) (u : Tm) (sub : List Tm) : (Tm.fn s l).mat u sub = if 5 = u.k ∧ 0 = u.n ∧ s.toList = u.s.toList ∧ l.length = u.l.length then Tm.mats l u.l sub else (sub, false) := by
  rw [Tm.mat_eq, if_neg (by show (5 : Int) ≠ 1; decide)]; rfl
theorem s_match1 : matchR sM sM1 = some [Tm.at' sa] := by
  have h : sM.mat sM1 [Tm.zero] = ([Tm.at' sa], true) := by
    unfold sM sM1
    rw [mat_fn, if_pos ⟨rfl, rfl, rfl, rfl⟩, fn_l, Tm.mats_cons, mat_va 0 _ _ (x := Tm.zero) rfl, fb_zero]
    rw [if_pos (show (if true = true then (([Tm.zero] : List Tm).set (Int.toNat 0) (Tm.at' sa), true) else ([Tm.zero], sameB Tm.zero (Tm.at' sa))).2 = true from rfl)]
    show Tm.mats [Tm.va 0] [Tm.at' sa] [Tm.at' sa] = _
    rw [Tm.mats_cons, mat_va 0 _ _ (x := Tm.at' sa) rfl, fb_at]
    rw [if_pos (show (if false = true then (([Tm.at' sa] : List Tm).set (Int.toNat 0) (Tm.at' sa), true) else ([Tm.at' sa], sameB (Tm.at' sa) (Tm.at' sa))).2 = true from sameB_refl _)]
    rw [Tm.mats_nil]; rfl
  unfold matchR
  rw [sM_vars]
  show (if (sM.mat sM1 [Tm.zero]).2 = true then some (sM.mat sM1 [Tm.zero]).1 else none) = _
  rw [h]; rfl
theorem s_match2 : matchR sM sM2 = none := by
  have h : (sM.mat sM2 [Tm.zero]).2 = false := by
    unfold sM sM2
    rw [mat_fn, if_pos ⟨rfl, rfl, rfl, rfl⟩, fn_l, Tm.mats_cons, mat_va 0 _ _ (x := Tm.zero) rfl, fb_zero]
    rw [if_pos (show (if true = true then (([Tm.zero] : List Tm).set (Int.toNat 0) (Tm.at' sa), true) else ([Tm.zero], sameB Tm.zero (Tm.at' sa))).2 = true from rfl)]
    show (Tm.mats [Tm.va 0] [Tm.at' sb] [Tm.at' sa]).2 = _
    have hne : sameB (Tm.at' sa) (Tm.at' sb) = false := sameB_false.2 (fun e => by
      have h1 := congrArg (fun t => t.s.data) e
      exact absurd h1 (by decide))
    rw [Tm.mats_cons, mat_va 0 _ _ (x := Tm.at' sa) rfl, fb_at]
    rw [if_neg (show ¬ (if false = true then (([Tm.at' sa] : List Tm).set (Int.toNat 0) (Tm.at' sb), true) else ([Tm.at' sa], sameB (Tm.at' sa) (Tm.at' sb))).2 = true from by show ¬ sameB (Tm.at' sa) (Tm.at' sb) = true; rw [hne]; decide)]
  unfold matchR
  rw [sM_vars]
  show (if (sM.mat sM2 [Tm.zero]).2 = true then some (sM.mat sM2 [Tm.zero]).1 else none) = _
  rw [h]; rfl
theorem s_check0 : isB Tm.zero = false := by
  rw [← Bool.not_eq_true]
  intro h
  have h1 := (node_fit (okB_node (isB_iff.1 h).1)).1.1
  exact absurd h1 (by show ¬ (1 : Int) ≤ 0; decide)
theorem s_ne {a b : ByteArray} (h : a.data ≠ b.data) : a.toList ≠ b.toList := fun e => h (by rw [bytes_ext e])
theorem gen_leaf {t u : Tm} (p : List (Tm × Tm)) (h : t.s.data ≠ u.s.data) : t.gen u p = (Tm.va (pidx p (t, u)), padd p (t, u)) := by
  rw [Tm.gen_eq, if_neg (fun e => s_ne h e.2.2.2.1)]
theorem gen_fn (s : ByteArray) (l l' : List Tm) (p : List (Tm × Tm)) (hl : l.length = l'.length) : (Tm.fn s l).gen (Tm.fn s l') p = (Tm.fn s (Tm.gens l l' p).1, (Tm.gens l l' p).2) := by
  rw [Tm.gen_eq, if_pos ⟨rfl, by show (5 : Int) ≠ 1; decide, rfl, rfl, hl⟩]; rfl
theorem at_ne {a b : ByteArray} (h : a.data ≠ b.data) : Tm.at' a ≠ Tm.at' b := fun e => h (congrArg (fun t => t.s.data) e)
def sG1 : Tm := Tm.fn sf [Tm.at' sa, Tm.fn sg [Tm.at' sa], Tm.at' sa]
def sG2 : Tm := Tm.fn sf [Tm.at' sb, Tm.fn sg [Tm.at' sb], Tm.at' sc]
def sG : Tm := Tm.fn sf [Tm.va 0, Tm.fn sg [Tm.va 0], Tm.va 1]
theorem sG_all : allIs [sG1, sG2] = true := by
  have h1 : isB sG1 = true := isB_iff.2 ⟨fn_ok nm_f (by decide) (by decide) (three_ok (at_ok nm_a) (fn_ok nm_g (by decide) (by decide) (one_ok (at_ok nm_a))) (at_ok nm_a)), by decide, by decide⟩
  have h2 : isB sG2 = true := isB_iff.2 ⟨fn_ok nm_f (by decide) (by decide) (three_ok (at_ok nm_b) (fn_ok nm_g (by decide) (by decide) (one_ok (at_ok nm_b))) (at_ok nm_c)), by decide, by decide⟩
  simp [allIs, h1, h2]
theorem s_gen : genR sG1 sG2 = sG := by
  have p1 : pidx [] (Tm.at' sa, Tm.at' sb) = 0 := pidx_not (by simp)
  have d1 : padd [] (Tm.at' sa, Tm.at' sb) = [(Tm.at' sa, Tm.at' sb)] := by unfold padd; rw [if_neg (by simp)]; rfl
  have p2 : pidx [(Tm.at' sa, Tm.at' sb)] (Tm.at' sa, Tm.at' sb) = 0 := by have := pidx_lt (p := [(Tm.at' sa, Tm.at' sb)]) (q := (Tm.at' sa, Tm.at' sb)) (by simp); simp at this; exact this
  have d2 : padd [(Tm.at' sa, Tm.at' sb)] (Tm.at' sa, Tm.at' sb) = [(Tm.at' sa, Tm.at' sb)] := by unfold padd; rw [if_pos (by simp)]
  have hn : (Tm.at' sa, Tm.at' sc) ∉ [(Tm.at' sa, Tm.at' sb)] := by
    intro h
    rw [List.mem_singleton] at h
    exact at_ne (a := sc) (b := sb) (by decide) (congrArg Prod.snd h)
  have p3 : pidx [(Tm.at' sa, Tm.at' sb)] (Tm.at' sa, Tm.at' sc) = 1 := pidx_not hn
  have g1 : ∀ p, Tm.gen (Tm.at' sa) (Tm.at' sb) p = _ := fun p => gen_leaf p (by show sa.data ≠ sb.data; decide)
  have g2 : ∀ p, Tm.gen (Tm.at' sa) (Tm.at' sc) p = _ := fun p => gen_leaf p (by show sa.data ≠ sc.data; decide)
  unfold genR sG1 sG2 sG
  rw [gen_fn sf [Tm.at' sa, Tm.fn sg [Tm.at' sa], Tm.at' sa] [Tm.at' sb, Tm.fn sg [Tm.at' sb], Tm.at' sc] [] rfl]
  simp only
  rw [Tm.gens_cons, g1, p1, d1]
  simp only
  rw [Tm.gens_cons, gen_fn sg [Tm.at' sa] [Tm.at' sb] _ rfl, Tm.gens_cons, g1, p2, d2]
  simp only
  rw [Tm.gens_nil]
  simp only
  rw [Tm.gens_cons, g2, p3]
  simp only
  rw [Tm.gens_nil]
  rfl
def sN : List Tm := [Tm.fn sf [Tm.va 2, Tm.va 0], Tm.va 2]
def sN' : List Tm := [Tm.fn sf [Tm.va 0, Tm.va 1], Tm.va 0]
theorem sN_all : allB sN = true := allB_iff.2 ⟨two_ok (fn_ok nm_f (by decide) (by decide) (two_ok va2 va0)) va2, by decide, by decide⟩
theorem sN_vars : varsL sN = [2, 0] := by rfl
theorem s_norm : normR sN = sN' := by
  have v2 : nowOf [2, 0] 2 2 = 0 := by decide
  have v0 : nowOf [2, 0] 2 0 = 1 := by decide
  have f2 : nowF (nowOf [2, 0] 2) 2 = some (Tm.va 0) := by unfold nowF; rw [v2]
  have f0 : nowF (nowOf [2, 0] 2) 0 = some (Tm.va 1) := by unfold nowF; rw [v0]
  have h1 : (Tm.fn sf [Tm.va 2, Tm.va 0]).rep (nowF (nowOf [2, 0] 2)) 4000 = (Tm.fn sf [Tm.va 0, Tm.va 1], 3997) := by
    rw [rep_fn, Tm.reps_cons, if_neg (by decide), rep_va _ f2]
    simp only
    rw [Tm.reps_cons, if_neg (by decide), rep_va _ f0]
    simp only
    rw [Tm.reps_nil]
    rfl
  have h2 : (Tm.va 2).rep (nowF (nowOf [2, 0] 2)) 4000 = (Tm.va 0, 3999) := by rw [rep_va _ f2]; rfl
  have i1 : isB (Tm.fn sf [Tm.va 0, Tm.va 1]) = true := sP_ok
  have i2 : isB (Tm.va 0) = true := isB_iff.2 ⟨va0, by decide, by decide⟩
  unfold normR
  rw [sN_vars]
  show [normT (nowOf [2, 0] 2) (Tm.fn sf [Tm.va 2, Tm.va 0]), normT (nowOf [2, 0] 2) (Tm.va 2)] = _
  have n1 : repT (nowF (nowOf [2, 0] 2)) (Tm.fn sf [Tm.va 2, Tm.va 0]) = some (Tm.fn sf [Tm.va 0, Tm.va 1]) := by
    unfold repT
    rw [h1]
    show (if (3997 : Int) < 0 then none else if isB (Tm.fn sf [Tm.va 0, Tm.va 1]) = true then some (Tm.fn sf [Tm.va 0, Tm.va 1]) else none) = _
    rw [i1]; rfl
  have n2 : repT (nowF (nowOf [2, 0] 2)) (Tm.va 2) = some (Tm.va 0) := by
    unfold repT
    rw [h2]
    show (if (3999 : Int) < 0 then none else if isB (Tm.va 0) = true then some (Tm.va 0) else none) = _
    rw [i2]; rfl
  unfold normT
  rw [n1, n2]
  rfl
end Go.Proofs.Ytfhgknmkpegpbaa

/- Steps in a region whose order is drawn: one operation that may be taken first, one that comes up alone, and several that make memory in whatever order. -/
set_option linter.unusedVariables false
set_option linter.unusedSimpArgs false
namespace Go.Proofs.Ytfhgknmkpegpbaa
open Go.RowKit

section
variable {P : Program} {ops : Array Oper} {Q : Exit → Act → World → Prop} {md : Region.Mode} {S : World → Prop}
theorem takeH {i d : Nat} {fuel : Nat} {listed : Array Bool} {a : Act} {w : World} (v : Value) (hd : (ops[i]?).map Oper.dst = some (some d)) (hs : Region.noSelect ops = true) (hf : Region.free md ops listed i = true) (hr : (Region.ready md ops listed).contains i = true)
    (hQ : ∀ c a d w, Q (.panic c) (a.put d v) w → Q (.panic c) a w) (hy : ∀ o, ops[i]? = some o → YieldsIf P ops S o v a) (hS : S w)
    (h : wpAnyH P md ops Q S fuel (listed.setIfInBounds i true) (a.put (some d) v) w) : wpAnyH P md ops Q S (fuel + 1) listed a w := by
  cases ho : ops[i]? with
  | none => rw [ho] at hd; cases hd
  | some o =>
    rw [ho] at hd
    injection hd with hd
    refine wpAnyH_take ho hs hf hr (fun c a w hq => hQ c a o.dst w hq) (hy o ho) hS ?_
    rw [show o.dst = some d from hd]
    exact h
theorem stepH {i : Nat} {fuel : Nat} {listed : Array Bool} {a : Act} {w : World} (hr : Region.ready md ops listed = [i]) (hi : (ops[i]?).isSome = true)
    (h : ∀ o, ops[i]? = some o → ∀ K' : Act → World → Prop, Shut (∀ a w, S w → (S w → wpAnyH P md ops Q S fuel (listed.setIfInBounds i true) a w) → K' a w) → if Region.wanted o (yielded ops a.tmps) = true then Oper.wp P o a w K' Q else K' (a.put o.dst undef) w) :
    wpAnyH P md ops Q S (fuel + 1) listed a w := by
  cases ho : ops[i]? with
  | none => rw [ho] at hi; cases hi
  | some o => exact wpAnyH_ready hr (by simp) (AllReadyH.cons ho (h o ho) AllReadyH.nil)
/-- Several operations that make memory, in whatever order. -/
theorem allocsH (idx : List Nat) (L : (Nat → Bool) → Array Bool) (A : (Nat → Value) → Act) (F : Nat → Value → World → Prop) (fuel : Nat)
    (hLc : ∀ d d' : Nat → Bool, (∀ i ∈ idx, d i = d' i) → L d = L d')
    (hready : ∀ d : Nat → Bool, (∃ i ∈ idx, d i = false) → Region.ready md ops (L d) = idx.filter (fun i => !d i))
    (hset : ∀ (d : Nat → Bool) (i : Nat), i ∈ idx → (L d).setIfInBounds i true = L (fun j => if j = i then true else d j))
    (hstep : ∀ i ∈ idx, ∀ (vals : Nat → Value) (w : World) (K : Act → World → Prop), S w → (∀ x w', S w' → Below w.heap.size w w' → F i x w' → K (A (fun j => if j = i then x else vals j)) w') → wpOp P ops Q i K (A vals) w)
    (hF : ∀ i x (w w' : World), F i x w → Below w.heap.size w w' → F i x w')
    (hfin : ∀ vals w, S w → (∀ i ∈ idx, F i (vals i) w) → wpAnyH P md ops Q S fuel (L (fun _ => true)) (A vals) w) :
    ∀ (n : Nat) (d : Nat → Bool) (vals : Nat → Value) (w : World), (idx.filter (fun i => !d i)).length = n → idx.Nodup → S w → (∀ i ∈ idx, d i = true → F i (vals i) w) → wpAnyH P md ops Q S (fuel + n) (L d) (A vals) w := by
  intro n
  induction n with
  | zero =>
    intro d vals w hn hnd hS hd
    have hall : ∀ i ∈ idx, d i = true := fun i hi => by
      cases hdi : d i with
      | true => rfl
      | false =>
        have : i ∈ idx.filter (fun i => !d i) := List.mem_filter.2 ⟨hi, by rw [hdi]; rfl⟩
        rw [List.length_eq_zero_iff.1 hn] at this
        cases this
    rw [hLc d (fun _ => true) hall]
    exact hfin vals w hS (fun i hi => hd i hi (hall i hi))
  | succ n ih =>
    intro d vals w hn hnd hS hd
    have hex : ∃ i ∈ idx, d i = false := by
      cases hl : idx.filter (fun i => !d i) with
      | nil => rw [hl] at hn; cases hn
      | cons i l =>
        have : i ∈ idx.filter (fun i => !d i) := by rw [hl]; exact List.mem_cons_self ..
        have h2 := List.mem_filter.1 this
        exact ⟨i, h2.1, by simpa using h2.2⟩
    refine wpAnyH_all (hready d hex) (fun e => by rw [e] at hn; cases hn) fun i hi => ?_
    have h2 := List.mem_filter.1 hi
    have hdi : d i = false := by simpa using h2.2
    refine hstep i h2.1 vals w _ hS fun x w' hS' hb hFx => ⟨hS', ?_⟩
    rw [hset d i h2.1]
    refine ih _ _ w' ?_ hnd hS' fun j hj hdj => ?_
    · have h3 : idx.filter (fun j => !(if j = i then true else d j)) = (idx.filter (fun j => !d j)).erase i := by
        rw [List.Nodup.erase_eq_filter (hnd.filter _), List.filter_filter]
        apply List.filter_congr
        intro j hj
        by_cases e : j = i
        · subst e; simp
        · simp [e]
      rw [h3, List.length_erase_of_mem hi, hn]; rfl
    · by_cases e : j = i
      · subst e; rw [if_pos rfl]; exact hFx
      · rw [if_neg e]; rw [if_neg e] at hdj; exact hF j _ w w' (hd j hj hdj) hb
end
end Go.Proofs.Ytfhgknmkpegpbaa
