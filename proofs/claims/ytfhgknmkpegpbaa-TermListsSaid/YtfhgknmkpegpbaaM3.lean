/- Layer 1, part 3 of the base: the walks and plain facts named in NOTES.md as T15, T16, T17, T21, T18, T19, T20, T22. -/
import Derived.Test.YtfhgknmkpegpbaaM1
import Derived.WalkLawsBesides
import Derived.Test.YtfhgknmkpegpbaaM2
import Derived.Maps.AppendAt
import Derived.RangeFuncNested
import Derived.RangeFuncBound
import Derived.RangeFuncCalls
import Derived.RangeFuncLeaves
import Derived.Shelf.Abstract
import Derived.Shelf.RegionOpen
import Derived.WalkKit
import Derived.OwnWalkIn
import Derived.TacticsInMore
import Derived.LoopNIn
import Derived.LoopIn
import Derived.Maps.OwnIn

set_option linter.unusedVariables false
set_option linter.unusedSimpArgs false
namespace Go.Proofs.Ytfhgknmkpegpbaa
open Go.RowKit

/-- -1, 0 or 1. -/
def cmpI (a b : Int) : Int := if a < b then -1 else if b < a then 1 else 0

set_option maxRecDepth 100000 in
set_option maxHeartbeats 4000000 in
theorem isNaNI_calls (x : Int) (w : World) : Calls Try.prog 141 #[.int .i64 x] w fun e w' => e = .returned (.bool false) ∧ w = w' := by
  go_enter Try.func141, Try.ntmps141
  go_wp2
  go_ret
  exact ⟨by simp, rfl⟩
theorem isNaNS_calls (x : ByteArray) (w : World) : Calls Try.prog 145 #[.string x] w fun e w' => e = .returned (.bool false) ∧ w = w' := by
  go_enter Try.func145, Try.ntmps145
  go_wp2
  go_ret
  exact ⟨by simp, rfl⟩

set_option maxRecDepth 100000 in
set_option maxHeartbeats 4000000 in
theorem cmpI_calls (a b : Int) (w : World) : Calls Try.prog 113 #[.int .i64 a, .int .i64 b] w fun e w' => e = .returned (.int .i64 (cmpI a b)) ∧ w = w' := by
  by_cases h1 : a < b
  · have Hr := Lib.hid (show cmpI a b = -1 from by rw [cmpI, if_pos h1])
    have d1 : decide (a < b) = true := decide_eq_true h1
    go_enter Try.func113, Try.ntmps113
    go_wp2_with (go_at_call 141; refine (isNaNI_calls _ _).mono ?_; rintro e w' ⟨rfl, rfl⟩)
    go_ret
    exact ⟨by rw [Hr.out]; rfl, rfl⟩
  · have d1 : decide (a < b) = false := decide_eq_false h1
    by_cases h2 : b < a
    · have Hr := Lib.hid (show cmpI a b = 1 from by rw [cmpI, if_neg h1, if_pos h2])
      have d2 : decide (b < a) = true := decide_eq_true h2
      go_enter Try.func113, Try.ntmps113
      go_wp2_with (go_at_call 141; refine (isNaNI_calls _ _).mono ?_; rintro e w' ⟨rfl, rfl⟩)
      go_ret
      exact ⟨by rw [Hr.out]; rfl, rfl⟩
    · have Hr := Lib.hid (show cmpI a b = 0 from by rw [cmpI, if_neg h1, if_neg h2])
      have d2 : decide (b < a) = false := decide_eq_false h2
      go_enter Try.func113, Try.ntmps113
      go_wp2_with (go_at_call 141; refine (isNaNI_calls _ _).mono ?_; rintro e w' ⟨rfl, rfl⟩)
      go_ret
      exact ⟨by rw [Hr.out]; rfl, rfl⟩
/-- -1, 0 or 1, of texts. -/
def cmpS (a b : ByteArray) : Int := if Op.bytesLess a.toList b.toList = true then -1 else if a.toList = b.toList then 0 else 1

set_option maxRecDepth 100000 in
set_option maxHeartbeats 4000000 in
theorem cmpS_calls (a b : ByteArray) (w : World) : Calls Try.prog 125 #[.string a, .string b] w fun e w' => e = .returned (.int .i64 (cmpS a b)) ∧ w = w' := by
  rcases h1 : Op.bytesLess a.toList b.toList with _ | _
  · by_cases h2 : a.toList = b.toList
    · have Hr := Lib.hid (show cmpS a b = 0 from by rw [cmpS, if_neg (by rw [h1]; simp), if_pos h2])
      have d2 : (a.toList == b.toList) = true := by simpa using h2
      clear h2
      go_enter Try.func125, Try.ntmps125
      go_wp2_with (go_at_call 145; refine (isNaNS_calls _ _).mono ?_; rintro e w' ⟨rfl, rfl⟩)
      go_ret
      exact ⟨by rw [Hr.out]; rfl, rfl⟩
    · have Hr := Lib.hid (show cmpS a b = 1 from by rw [cmpS, if_neg (by rw [h1]; simp), if_neg h2])
      have d2 : (a.toList == b.toList) = false := by simpa using h2
      clear h2
      go_enter Try.func125, Try.ntmps125
      go_wp2_with (go_at_call 145; refine (isNaNS_calls _ _).mono ?_; rintro e w' ⟨rfl, rfl⟩)
      go_ret
      exact ⟨by rw [Hr.out]; rfl, rfl⟩
  · have Hr := Lib.hid (show cmpS a b = -1 from by rw [cmpS, if_pos h1])
    go_enter Try.func125, Try.ntmps125
    go_wp2_with (go_at_call 145; refine (isNaNS_calls _ _).mono ?_; rintro e w' ⟨rfl, rfl⟩)
    go_ret
    exact ⟨by rw [Hr.out]; rfl, rfl⟩
/-- The first number that is not 0. -/
def orI : List Int → Int
  | [] => 0
  | x :: xs => if x = 0 then orI xs else x
theorem orI_zeros : ∀ {l : List Int} (k : Nat), (∀ (j : Nat) (x : Int), j < k → l[j]? = some x → x = 0) → orI (l.drop k) = orI l
  | _, 0, _ => by simp
  | [], k + 1, _ => by simp
  | y :: ys, k + 1, h => by
    have hy := h 0 y (by omega) rfl
    rw [List.drop_succ_cons, orI, if_pos hy]
    exact orI_zeros k (fun j x hj hx => h (j + 1) x (by omega) (by simpa using hx))
theorem orI_at {l : List Int} {k : Nat} {x : Int} (h : l[k]? = some x) (hz : ∀ (j : Nat) (x : Int), j < k → l[j]? = some x → x = 0) (hx : x ≠ 0) : orI l = x := by
  rw [← orI_zeros k hz]
  obtain ⟨h1, h2⟩ := List.getElem?_eq_some_iff.1 h
  rw [List.drop_eq_getElem_cons h1, h2, orI, if_neg hx]

set_option maxRecDepth 100000 in
set_option maxHeartbeats 4000000 in
theorem or_calls (l : List Int) (A : Option Addr) (c : Nat) (w : World) (hl : l.length ≤ 1000) (hr : Rd w A (l.flatMap encI)) : Calls Try.prog 124 #[.slice A l.length c] w fun e w' => e = .returned (.int .i64 (orI l)) ∧ w = w' := by
  have HR := Lib.hid hr; clear hr
  go_enter Try.func124, Try.ntmps124
  go_wp2
  go_loop [8] (fun i => ∃ k : Nat, k ≤ l.length ∧ i = .int .i64 k ∧ (∀ (j : Nat) (x : Int), j < k → l[j]? = some x → x = 0)) (fun i => l.length - (intOf i).toNat)
  case atStart => exact ⟨0, Nat.zero_le _, rfl, fun j x h => absurd h (by omega)⟩
  case round =>
    obtain ⟨k, hk, rfl, hz⟩ := hrel
    have Hz := Lib.hid hz; clear hz
    by_cases hlt : k < l.length
    · obtain ⟨x, hx⟩ : ∃ x, l[k]? = some x := ⟨_, List.getElem?_eq_getElem hlt⟩
      obtain ⟨g, off, rfl, e0⟩ := Rd.atI HR.out hx
      have Hx := Lib.hid hx; clear hx
      by_cases hx0 : x = 0
      · have d1 : (x != 0) = false := by simpa using hx0
        have Hx0 := Lib.hid hx0; clear hx0
        go_wp2
        go_round
        case rel => exact ⟨k + 1, by omega, by go_num, fun j y hj hy => by
          rcases Nat.lt_or_ge j k with h1 | h1
          · exact Hz.out j y h1 hy
          · obtain rfl : j = k := by omega
            have h2 := Hx.out
            rw [hy] at h2
            injection h2 with h2
            rw [h2]; exact Hx0.out⟩
        case measure => simp [intOf]; omega
      · have d1 : (x != 0) = true := by simpa using hx0
        have Hr := Lib.hid (orI_at Hx.out Hz.out hx0)
        clear hx0
        go_wp2
        go_ret
        exact ⟨by rw [Hr.out]; rfl, rfl⟩
    · have hke : k = l.length := by omega
      subst hke
      have Hr := Lib.hid (show orI l = 0 from by
        have := orI_zeros l.length Hz.out
        rw [List.drop_length] at this
        exact this.symm)
      go_wp2
      go_ret
      exact ⟨by rw [Hr.out]; rfl, rfl⟩
end Go.Proofs.Ytfhgknmkpegpbaa

set_option linter.unusedVariables false
set_option linter.unusedSimpArgs false
namespace Go.Proofs.Ytfhgknmkpegpbaa
open Go.RowKit

mutual
/-- The program's order of trees. -/
def Tm.ord : Tm → Tm → Int
  | .mk k n s l, .mk k' n' s' l' => if k = k' then (if orI [cmpI n n', cmpI l.length l'.length, cmpS s s'] = 0 then Tm.ords l l' else orI [cmpI n n', cmpI l.length l'.length, cmpS s s']) else cmpI k k'
def Tm.ords : List Tm → List Tm → Int
  | [], [] => 0
  | [], _ :: _ => -1
  | _ :: _, [] => 1
  | x :: xs, y :: ys => if Tm.ord x y = 0 then Tm.ords xs ys else Tm.ord x y
end
theorem Tm.ord_eq (t u : Tm) : Tm.ord t u = if t.k = u.k then (if orI [cmpI t.n u.n, cmpI t.l.length u.l.length, cmpS t.s u.s] = 0 then Tm.ords t.l u.l else orI [cmpI t.n u.n, cmpI t.l.length u.l.length, cmpS t.s u.s]) else cmpI t.k u.k := by
  cases t; cases u; rw [Tm.ord]; rfl
theorem ords_same : ∀ {xs ys : List Tm} (k : Nat), k ≤ xs.length → k ≤ ys.length → (∀ (j : Nat) (x y : Tm), j < k → xs[j]? = some x → ys[j]? = some y → Tm.ord x y = 0) → Tm.ords (xs.drop k) (ys.drop k) = Tm.ords xs ys
  | _, _, 0, _, _, _ => by simp
  | [], _, k + 1, h, _, _ => by simp at h
  | _ :: _, [], k + 1, _, h, _ => by simp at h
  | x :: xs, y :: ys, k + 1, h1, h2, h => by
    have hy := h 0 x y (by omega) rfl rfl
    rw [List.drop_succ_cons, List.drop_succ_cons, Tm.ords, if_pos hy]
    exact ords_same k (by simpa using h1) (by simpa using h2) (fun j a b hj ha hb => h (j + 1) a b (by omega) (by simpa using ha) (by simpa using hb))

set_option maxRecDepth 100000 in
set_option maxHeartbeats 4000000 in
theorem compareFunc_calls (fid : Nat) (xs ys : List Tm) (A : Option Addr) (c : Nat) (B : Option Addr) (d : Nat) (P Q : Nat → Prop) (w : World) (hx : TmC P w A c xs) (hy : TmC Q w B d ys)
    (hcf : ∀ args w, Sem.run Try.prog (callFunc fid args) w = .ok (.enter fid args) w)
    (hf : ∀ x ∈ xs, ∀ y w1 v1 v2, TmV P w1 v1 x → TmV Q w1 v2 y → Calls Try.prog fid #[v1, v2] w1 (RetN w1 (Tm.ord x y))) :
    Calls Try.prog 126 #[.slice A xs.length c, .slice B ys.length d, .func (.func fid) #[] #[]] w (RetN w (Tm.ords xs ys)) := by
  have hxl := hx.len
  have hyl := hy.len
  have hx1 : xs.length ≤ 9223372036854775807 := by omega
  have hy1 : ys.length ≤ 9223372036854775807 := by omega
  have Hx := Lib.hid hx; clear hx hxl
  have Hy := Lib.hid hy; clear hy hyl
  have Hf := Lib.hid hf; clear hf
  go_enter Try.func126, Try.ntmps126
  go_wp2
  go_loopw [13] (fun i wr => ∃ k : Nat, k ≤ xs.length ∧ k ≤ ys.length ∧ i = .int .i64 k ∧ (∀ (j : Nat) (x y : Tm), j < k → xs[j]? = some x → ys[j]? = some y → Tm.ord x y = 0) ∧ Below w.heap.size w wr) (fun i _ => xs.length - (intOf i).toNat)
  case atStart => exact ⟨0, Nat.zero_le _, Nat.zero_le _, rfl, fun j x y h => absurd h (by omega), Below.refl _ _⟩
  case round =>
    obtain ⟨k, hk, hky, rfl, heq, hB⟩ := hrel
    have Heq := Lib.hid heq; clear heq
    have HB := Lib.hid hB; clear hB
    have Hs := Lib.hid (ords_same k hk hky Heq.out)
    by_cases hlt : k < xs.length
    · obtain ⟨x, hx⟩ : ∃ x, xs[k]? = some x := ⟨_, List.getElem?_eq_getElem hlt⟩
      obtain ⟨g, off, Ai, ci, rfl, -, ⟨e0, e1, e2, e3⟩, hxs, hxc⟩ := (Hx.out.stay HB.out (Nat.le_refl _)).at_ hx
      by_cases hlt2 : k < ys.length
      · obtain ⟨y, hy⟩ : ∃ y, ys[k]? = some y := ⟨_, List.getElem?_eq_getElem hlt2⟩
        obtain ⟨g', off', Bi, di, rfl, -, ⟨f0, f1, f2, f3⟩, hys, hyc⟩ := (Hy.out.stay HB.out (Nat.le_refl _)).at_ hy
        have hb0 : Below wr.heap.size wr (wr.alloc (.cells #[.int .i64 x.k, .int .i64 x.n, .string x.s, .slice Ai x.l.length ci] 25)) := (Below.refl _ _).alloc (Nat.le_refl _) _
        have q0 := keep_cell hb0 f0
        have q1 := keep_cell hb0 f1
        have q2 := keep_cell hb0 f2
        have q3 := keep_cell hb0 f3
        clear hb0
        have hbb : Below wr.heap.size wr ((wr.alloc (.cells #[.int .i64 x.k, .int .i64 x.n, .string x.s, .slice Ai x.l.length ci] 25)).alloc (.cells #[.int .i64 y.k, .int .i64 y.n, .string y.s, .slice Bi y.l.length di] 25)) := ((Below.refl _ _).alloc (Nat.le_refl _) _).alloc (by simp) _
        obtain ⟨r, hr⟩ : ∃ r, r = Tm.ord x y := ⟨_, rfl⟩
        have hcall := Hf.out x (List.mem_of_getElem? hx) y _ _ _ ⟨Ai, ci, rfl, hxs, hxc.stay hbb (Nat.le_refl _)⟩ ⟨Bi, di, rfl, hys, hyc.stay hbb (Nat.le_refl _)⟩
        rw [← hr] at hcall
        have Hcall := Lib.hid hcall; clear hcall hxc hyc
        have HBB := Lib.hid (HB.out.trans (hbb.mono HB.out.size)); clear hbb
        have hst : Tm.ords xs ys = if r = 0 then Tm.ords (xs.drop (k + 1)) (ys.drop (k + 1)) else r := by
          rw [← Hs.out]
          obtain ⟨h1, h2⟩ := List.getElem?_eq_some_iff.1 hx
          obtain ⟨h3, h4⟩ := List.getElem?_eq_some_iff.1 hy
          rw [List.drop_eq_getElem_cons h1, h2, List.drop_eq_getElem_cons h3, h4, Tm.ords, hr]
        have Hst := Lib.hid hst; clear hst
        have Hxx := Lib.hid hx; clear hx
        have Hyy := Lib.hid hy; clear hy
        have Hr := Lib.hid hr; clear hr
        have d1 : decide ((ys.length : Int) ≤ (k : Int)) = false := decide_eq_false (by omega)
        have d2 : decide (ys.length ≤ k) = false := decide_eq_false (by omega)
        have hlen' : (k : Int) < (ys.length : Int) := by omega
        go_wp2_with fail
        refine Hcall.out.mono ?_
        rintro e w1 ⟨rfl, hb⟩
        have HB1 := Lib.hid (HBB.out.trans (hb.mono HBB.out.size)); clear hb
        by_cases hr0 : r = 0
        · have d3 : (r != 0) = false := by simpa using hr0
          have Hr0 := Lib.hid hr0; clear hr0
          go_wp2
          go_roundw
          case rel => exact ⟨k + 1, by omega, by omega, by go_num, fun j a b hj ha hb => by
            rcases Nat.lt_or_ge j k with h1 | h1
            · exact Heq.out j a b h1 ha hb
            · obtain rfl : j = k := by omega
              have h2 := Hxx.out
              rw [ha] at h2
              injection h2 with h2
              have h3 := Hyy.out
              rw [hb] at h3
              injection h3 with h3
              rw [h2, h3, ← Hr.out]; exact Hr0.out, HB1.out⟩
          case measure => simp [intOf]; omega
        · have d3 : (r != 0) = true := by simpa using hr0
          have Hrr := Lib.hid (show Tm.ords xs ys = r from by rw [Hst.out, if_neg hr0])
          clear hr0
          go_wp2
          go_ret
          exact ⟨by rw [Hrr.out]; rfl, HB1.out⟩
      · have Hrr := Lib.hid (show Tm.ords xs ys = 1 from by
          rw [← Hs.out, List.drop_of_length_le (l := ys) (by omega)]
          obtain ⟨h1, h2⟩ := List.getElem?_eq_some_iff.1 hx
          rw [List.drop_eq_getElem_cons h1, Tm.ords])
        have d1 : decide ((ys.length : Int) ≤ (k : Int)) = true := decide_eq_true (by omega)
        have d2 : decide (ys.length ≤ k) = true := decide_eq_true (by omega)
        have Hbel := Lib.hid (HB.out.alloc HB.out.size (.cells #[.int .i64 x.k, .int .i64 x.n, .string x.s, .slice Ai x.l.length ci] 25))
        clear hx
        go_wp2
        go_ret
        exact ⟨by rw [Hrr.out]; rfl, Hbel.out⟩
    · have hke : k = xs.length := by omega
      subst hke
      by_cases hlt2 : xs.length < ys.length
      · have Hrr := Lib.hid (show Tm.ords xs ys = -1 from by
          rw [← Hs.out, List.drop_length, List.drop_eq_getElem_cons hlt2, Tm.ords])
        have d1 : decide (xs.length < ys.length) = true := decide_eq_true hlt2
        have d2 : decide ((xs.length : Int) < (ys.length : Int)) = true := decide_eq_true (by omega)
        go_wp2
        go_ret
        exact ⟨by rw [Hrr.out]; rfl, HB.out⟩
      · have Hrr := Lib.hid (show Tm.ords xs ys = 0 from by
          rw [← Hs.out, List.drop_length, List.drop_of_length_le (by omega), Tm.ords])
        have d1 : decide (xs.length < ys.length) = false := decide_eq_false hlt2
        have d2 : decide ((xs.length : Int) < (ys.length : Int)) = false := decide_eq_false (by omega)
        go_wp2
        go_ret
        exact ⟨by rw [Hrr.out]; rfl, HB.out⟩
theorem rd3 {w : World} {g : Nat} {x y z : Int} (h0 : w.cell? ⟨g, 0, none⟩ = some (.int .i64 x)) (h1 : w.cell? ⟨g, 1, none⟩ = some (.int .i64 y)) (h2 : w.cell? ⟨g, 2, none⟩ = some (.int .i64 z)) : Rd w (some ⟨g, 0, none⟩) ([x, y, z].flatMap encI) := by
  intro _
  refine ⟨g, 0, rfl, fun j v hj => ?_⟩
  rw [Nat.zero_add]
  match j with
  | 0 => injection hj with hj; rw [← hj]; exact h0
  | 1 => injection hj with hj; rw [← hj]; exact h1
  | 2 => injection hj with hj; rw [← hj]; exact h2
  | j + 3 => simp [encI] at hj
theorem below_alloc1 (W : World) (o : Obj) : Below W.heap.size W (W.alloc o) := (Below.refl _ _).alloc (Nat.le_refl _) _

set_option maxRecDepth 100000 in
set_option maxHeartbeats 4000000 in
theorem compare_calls (t : Tm) : ∀ (P Q : Nat → Prop) (w : World) (v v2 : Value) (u : Tm), TmV P w v t → TmV Q w v2 u → Calls Try.prog 84 #[v, v2] w (RetN w (Tm.ord t u)) := by
  induction t using Tm.ind with
  | h t ih =>
    intro P Q w v v2 u hv hv2
    obtain ⟨A, c, rfl, hs, hc⟩ := hv
    obtain ⟨B, d, rfl, hs', hd⟩ := hv2
    have Ih := Lib.hid ih; clear ih
    obtain ⟨W0, hW0⟩ : ∃ W0, W0 = (w.alloc (.cells #[.int .i64 t.k, .int .i64 t.n, .string t.s, .slice A t.l.length c] 25)).alloc (.cells #[.int .i64 u.k, .int .i64 u.n, .string u.s, .slice B u.l.length d] 25) := ⟨_, rfl⟩
    have hB0 : Below w.heap.size w W0 := by rw [hW0]; exact ((Below.refl _ _).alloc (Nat.le_refl _) _).alloc (by simp) _
    have hX0 : Blk W0 w.heap.size 25 #[.int .i64 t.k, .int .i64 t.n, .string t.s, .slice A t.l.length c] := by rw [hW0]; exact (Blk.new w 25 _).alloc _
    have hY0 : Blk W0 (w.heap.size + 1) 25 #[.int .i64 u.k, .int .i64 u.n, .string u.s, .slice B u.l.length d] := by
      rw [hW0]
      have := Blk.new (w.alloc (.cells #[.int .i64 t.k, .int .i64 t.n, .string t.s, .slice A t.l.length c] 25)) 25 #[.int .i64 u.k, .int .i64 u.n, .string u.s, .slice B u.l.length d]
      rw [show (w.alloc (.cells #[.int .i64 t.k, .int .i64 t.n, .string t.s, .slice A t.l.length c] 25)).heap.size = w.heap.size + 1 from by simp] at this
      exact this
    have ly0 := hY0.lt
    have hlc := hc.len.1
    have hlm := hc.len.2.1
    have hld := hd.len.1
    have hln := hd.len.2.1
    have Hc := Lib.hid (hc.stay hB0 (Nat.le_refl _)); clear hc
    have Hd := Lib.hid (hd.stay hB0 (Nat.le_refl _)); clear hd
    have HX0 := Lib.hid hX0; clear hX0
    have HY0 := Lib.hid hY0; clear hY0
    have HB0 := Lib.hid hB0; clear hB0
    have HW := Lib.hid hW0; clear hW0
    have hsp := Tm.ord_eq t u
    obtain ⟨R, hR⟩ : ∃ R, R = Tm.ord t u := ⟨_, rfl⟩
    rw [← hR] at hsp ⊢
    have Hsp := Lib.hid hsp; clear hsp hR
    by_cases hk : t.k = u.k
    case neg =>
      have Hr := Lib.hid (show R = cmpI t.k u.k from by rw [Hsp.out, if_neg hk])
      have h1 : (t.k != u.k) = true := by simpa using hk
      clear hk
      go_enter Try.func84, Try.ntmps84
      go_wp2_with (go_at_call 113; refine (cmpI_calls _ _ _).mono ?_; rintro e w' ⟨rfl, rfl⟩)
      go_ret
      exact ⟨by rw [Hr.out]; rfl, by rw [← HW.out]; exact HB0.out⟩
    have hk1 : (t.k != u.k) = false := by simpa using hk
    obtain ⟨o3, ho3⟩ : ∃ o3, o3 = orI [cmpI t.n u.n, cmpI t.l.length u.l.length, cmpS t.s u.s] := ⟨_, rfl⟩
    have Hr := Lib.hid (show R = if o3 = 0 then Tm.ords t.l u.l else o3 from by rw [Hsp.out, if_pos hk, ho3])
    clear hk Hsp
    have Ho3 := Lib.hid ho3; clear ho3
    obtain ⟨⟨a0, a1, a2, a3⟩, -⟩ := HX0.out.four
    obtain ⟨⟨b0, b1, b2, b3⟩, -⟩ := HY0.out.four
    go_enter Try.func84, Try.ntmps84
    go_wp2_with fail
    rw [← HW.out]
    go_region_held3 (fun W => W.cell? ⟨w.heap.size, 1, none⟩ = some (.int .i64 t.n) ∧ W.cell? ⟨w.heap.size, 2, none⟩ = some (.string t.s) ∧ W.cell? ⟨w.heap.size, 3, none⟩ = some (.slice A t.l.length c) ∧ W.cell? ⟨w.heap.size + 1, 1, none⟩ = some (.int .i64 u.n) ∧ W.cell? ⟨w.heap.size + 1, 2, none⟩ = some (.string u.s) ∧ W.cell? ⟨w.heap.size + 1, 3, none⟩ = some (.slice B u.l.length d))
      (first
        | exact ⟨a1, a2, a3, b1, b2, b3⟩
        | (go_split_ands; refine ⟨?_, ?_, ?_, ?_, ?_, ?_⟩ <;> first | assumption | exact keep_cell (below_alloc1 _ _) (by assumption)))
      (first
        | (go_at_call 113; refine (cmpI_calls _ _ _).mono ?_; rintro e w' ⟨rfl, rfl⟩)
        | (go_at_call 125; refine (cmpS_calls _ _ _).mono ?_; rintro e w' ⟨rfl, rfl⟩)
        | (go_at_call 124; refine (or_calls [cmpI t.n u.n, cmpI t.l.length u.l.length, cmpS t.s u.s] _ 3 _ (by simp) (rd3 (by simp) (by simp) (by simp))).mono ?_; rintro e w' ⟨rfl, rfl⟩))
    rw [← Ho3.out]
    obtain ⟨W1, hW1⟩ : ∃ W1, W1 = (W0.alloc (.cells #[.int .i64 (cmpI t.n u.n), .int .i64 (cmpI t.l.length u.l.length), .int .i64 (cmpS t.s u.s)] 3)).drew := ⟨_, rfl⟩
    have hB1 : Below W0.heap.size W0 W1 := by rw [hW1]; exact ((Below.refl _ _).alloc (Nat.le_refl _) _).drew
    rw [← hW1]
    have c3 := keep_cell hB1 a3
    have e3 := keep_cell hB1 b3
    have hsz : w.heap.size ≤ W0.heap.size := HB0.out.size
    have Hc1 := Lib.hid (Hc.out.stay hB1 (Nat.le_refl _))
    have Hd1 := Lib.hid (Hd.out.stay hB1 (Nat.le_refl _))
    have HB1 := Lib.hid (HB0.out.trans (hB1.mono hsz))
    clear hB1 hW1
    by_cases h0 : o3 = 0
    · have Hrr := Lib.hid (show R = Tm.ords t.l u.l from by rw [Hr.out, if_pos h0])
      have h1 : (o3 != 0) = false := by simpa using h0
      clear h0 Hr Ho3
      have hcall := compareFunc_calls 84 t.l u.l A c B d P Q W1 Hc1.out Hd1.out (fun _ _ => rfl) (fun x hx y w1 v1 v2 h1 h2 => Ih.out x hx P Q w1 v1 v2 y h1 h2)
      rw [← Hrr.out] at hcall
      have Hcall := Lib.hid hcall; clear hcall
      go_wp2_with fail
      refine Hcall.out.mono ?_
      rintro e w1 ⟨rfl, hb⟩
      have HB2 := Lib.hid (HB1.out.trans (hb.mono HB1.out.size)); clear hb
      go_wp2
      go_ret
      exact ⟨rfl, HB2.out⟩
    · have Hrr := Lib.hid (show R = o3 from by rw [Hr.out, if_neg h0])
      have h1 : (o3 != 0) = true := by simpa using h0
      clear h0 Hr Ho3
      go_wp2
      go_ret
      exact ⟨by rw [Hrr.out]; rfl, HB1.out⟩
end Go.Proofs.Ytfhgknmkpegpbaa

set_option linter.unusedVariables false
set_option linter.unusedSimpArgs false
namespace Go.Proofs.Ytfhgknmkpegpbaa
open Go.RowKit

def RetA (w : World) (x : Value) (e : Ending) (w' : World) : Prop := e = .returned x ∧ Below w.heap.size w w'
def Tm.va (n : Int) : Tm := .mk 1 n ⟨#[]⟩ []
def Tm.at' (s : ByteArray) : Tm := .mk 3 0 s []
def Tm.fn (s : ByteArray) (l : List Tm) : Tm := .mk 5 0 s l
def vV (n : Int) : Value := .agg #[.int .i64 1, .int .i64 n, .string ⟨#[]⟩, .slice none 0 0]
def vA (s : ByteArray) : Value := .agg #[.int .i64 3, .int .i64 0, .string s, .slice none 0 0]
def vF (s : ByteArray) (v : Value) : Value := .agg #[.int .i64 5, .int .i64 0, .string s, v]
theorem TmV.va (P : Nat → Prop) (w : World) (n : Int) : TmV P w (vV n) (Tm.va n) := ⟨none, 0, rfl, by show (0 : Nat) ≤ _; omega, TmC.nil P w (by omega) (fun _ => rfl)⟩
theorem TmV.at' (P : Nat → Prop) (w : World) (s : ByteArray) (h : s.size ≤ 9223372036854775807) : TmV P w (vA s) (Tm.at' s) := ⟨none, 0, rfl, h, TmC.nil P w (by omega) (fun _ => rfl)⟩
theorem TmV.fn {P : Nat → Prop} {w : World} {A : Option Addr} {c : Nat} {l : List Tm} (s : ByteArray) (h : s.size ≤ 9223372036854775807) (hc : TmC P w A c l) : TmV P w (vF s (.slice A l.length c)) (Tm.fn s l) := ⟨A, c, rfl, h, hc⟩

set_option maxRecDepth 100000 in
set_option maxHeartbeats 4000000 in
theorem v_calls (n : Int) (w : World) : Calls Try.prog 44 #[.int .i64 n] w (RetA w (vV n)) := by
  go_enter Try.func44, Try.ntmps44
  go_wp2
  refine bodyPost_ret (v := vV n) (by simp [results, Try.results44, go_sem]; rfl) rfl (R := RetA w (vV n)) ⟨rfl, ?_⟩
  exact (Below.refl _ _).alloc (Nat.le_refl _) _

set_option maxRecDepth 100000 in
set_option maxHeartbeats 4000000 in
theorem a_calls (s : ByteArray) (w : World) : Calls Try.prog 75 #[.string s] w (RetA w (vA s)) := by
  go_enter Try.func75, Try.ntmps75
  go_wp2
  refine bodyPost_ret (v := vA s) (by simp [results, Try.results75, go_sem]; rfl) rfl (R := RetA w (vA s)) ⟨rfl, ?_⟩
  exact (Below.refl _ _).alloc (Nat.le_refl _) _

set_option maxRecDepth 100000 in
set_option maxHeartbeats 4000000 in
theorem f_calls (s : ByteArray) (A : Option Addr) (n c : Nat) (w : World) : Calls Try.prog 74 #[.string s, .slice A n c] w (RetA w (vF s (.slice A n c))) := by
  go_enter Try.func74, Try.ntmps74
  go_wp2
  refine bodyPost_ret (v := vF s (.slice A n c)) (by simp [results, Try.results74, go_sem]; rfl) rfl (R := RetA w (vF s (.slice A n c))) ⟨rfl, ?_⟩
  exact (Below.refl _ _).alloc (Nat.le_refl _) _

set_option maxRecDepth 100000 in
set_option maxHeartbeats 4000000 in
theorem compareTop_calls (t u : Tm) (P Q : Nat → Prop) (w : World) (v v2 : Value) (hv : TmV P w v t) (hv2 : TmV Q w v2 u) :
    Calls Try.prog 27 #[v, v2] w (RetA w (.tuple #[.int .i64 (if allIs [t, u] = true then Tm.ord t u else 0), .int .i64 (errT (allIs [t, u]))])) := by
  obtain ⟨A, c, rfl, hs, hc⟩ := hv
  obtain ⟨B, d, rfl, hs', hd⟩ := hv2
  obtain ⟨W1, hW1⟩ : ∃ W1, W1 = ((w.alloc (.cells #[.int .i64 t.k, .int .i64 t.n, .string t.s, .slice A t.l.length c] 25)).alloc (.cells #[.int .i64 u.k, .int .i64 u.n, .string u.s, .slice B u.l.length d] 25)).alloc (.cells #[.int .i64 t.k, .int .i64 t.n, .string t.s, .slice A t.l.length c, .int .i64 u.k, .int .i64 u.n, .string u.s, .slice B u.l.length d] 25) := ⟨_, rfl⟩
  have hB1 : Below w.heap.size w W1 := by rw [hW1]; exact (((Below.refl _ _).alloc (Nat.le_refl _) _).alloc (by simp) _).alloc (by simp; omega) _
  have hX : Blk W1 w.heap.size 25 #[.int .i64 t.k, .int .i64 t.n, .string t.s, .slice A t.l.length c] := by rw [hW1]; exact ((Blk.new w 25 _).alloc _).alloc _
  have hY : Blk W1 (w.heap.size + 1) 25 #[.int .i64 u.k, .int .i64 u.n, .string u.s, .slice B u.l.length d] := by
    rw [hW1]
    have := Blk.new (w.alloc (.cells #[.int .i64 t.k, .int .i64 t.n, .string t.s, .slice A t.l.length c] 25)) 25 #[.int .i64 u.k, .int .i64 u.n, .string u.s, .slice B u.l.length d]
    rw [show (w.alloc (.cells #[.int .i64 t.k, .int .i64 t.n, .string t.s, .slice A t.l.length c] 25)).heap.size = w.heap.size + 1 from by simp] at this
    exact this.alloc _
  have hZ : Blk W1 (w.heap.size + 1 + 1) 25 #[.int .i64 t.k, .int .i64 t.n, .string t.s, .slice A t.l.length c, .int .i64 u.k, .int .i64 u.n, .string u.s, .slice B u.l.length d] := by
    rw [hW1]
    have := Blk.new ((w.alloc (.cells #[.int .i64 t.k, .int .i64 t.n, .string t.s, .slice A t.l.length c] 25)).alloc (.cells #[.int .i64 u.k, .int .i64 u.n, .string u.s, .slice B u.l.length d] 25)) 25 #[.int .i64 t.k, .int .i64 t.n, .string t.s, .slice A t.l.length c, .int .i64 u.k, .int .i64 u.n, .string u.s, .slice B u.l.length d]
    rw [show ((w.alloc (.cells #[.int .i64 t.k, .int .i64 t.n, .string t.s, .slice A t.l.length c] 25)).alloc (.cells #[.int .i64 u.k, .int .i64 u.n, .string u.s, .slice B u.l.length d] 25)).heap.size = w.heap.size + 1 + 1 from by simp] at this
    exact this
  have hc1 := (hc.inside.belowP hB1 (fun g h => h.2)).mono (Q := fun g => P g ∨ Q g ∨ g = w.heap.size + 1 + 1) (fun g h => Or.inl h.1)
  have hd1 := (hd.inside.belowP hB1 (fun g h => h.2)).mono (Q := fun g => P g ∨ Q g ∨ g = w.heap.size + 1 + 1) (fun g h => Or.inr (Or.inl h.1))
  have hcall := checked_calls [t, u] _ _ 2 W1 (TmC.lit (P := fun g => P g ∨ Q g ∨ g = w.heap.size + 1 + 1) [(t, A, c), (u, B, d)] (by simp; exact ⟨⟨hs, hc1⟩, hs', hd1⟩) hZ (Or.inr (Or.inr rfl)) (by simp))
  obtain ⟨b, hb⟩ : ∃ b, b = allIs [t, u] := ⟨_, rfl⟩
  obtain ⟨o, ho⟩ : ∃ o, o = if b = true then Tm.ord t u else 0 := ⟨_, rfl⟩
  rw [← hb] at hcall ⊢
  rw [← ho]
  have Ho := Lib.hid ho; clear ho
  have Hcall := Lib.hid hcall; clear hcall hZ
  have Hc := Lib.hid hc; clear hc hc1
  have Hd := Lib.hid hd; clear hd hd1
  have HX := Lib.hid hX; clear hX
  have HY := Lib.hid hY; clear hY
  have HB1 := Lib.hid hB1; clear hB1 hb
  have HW := Lib.hid hW1; clear hW1
  go_enter Try.func27, Try.ntmps27
  go_wp2_with fail
  rw [← HW.out]
  refine Hcall.out.mono ?_
  rintro e w1 ⟨rfl, hb1⟩
  have hsz := HB1.out.size
  have lx := HX.out.lt
  have ly := HY.out.lt
  obtain ⟨⟨a0, a1, a2, a3⟩, -⟩ := (HX.out.below hb1 lx).four
  obtain ⟨⟨b0, b1, b2, b3⟩, -⟩ := (HY.out.below hb1 ly).four
  have HB2 := Lib.hid (HB1.out.trans (hb1.mono hsz))
  clear hb1 lx ly
  cases b
  · have he : (errT false != 0) = true := rfl
    have ho := Ho.out
    rw [if_neg (by simp)] at ho
    subst ho
    go_wp2
    exact bodyPost_ret (v := .tuple #[.int .i64 0, .int .i64 (errT false)]) (by simp [results, Try.results27, go_sem]) rfl (R := RetA w _) ⟨rfl, HB2.out⟩
  · have he : (errT true != 0) = false := rfl
    have ho := Ho.out
    rw [if_pos rfl] at ho
    have Hh := Lib.hid ho; clear ho Ho
    have hcall := compare_calls t P Q w1 _ _ u ⟨A, c, rfl, hs, Hc.out.stay HB2.out (Nat.le_refl _)⟩ ⟨B, d, rfl, hs', Hd.out.stay HB2.out (Nat.le_refl _)⟩
    rw [← Hh.out] at hcall
    have Hcall2 := Lib.hid hcall; clear hcall Hcall
    go_wp2_with fail
    refine Hcall2.out.mono ?_
    rintro e w2 ⟨rfl, hb2⟩
    have HB3 := Lib.hid (HB2.out.trans (hb2.mono HB2.out.size)); clear hb2
    go_wp2
    exact bodyPost_ret (v := .tuple #[.int .i64 o, .int .i64 (errT true)]) (by simp [results, Try.results27, go_sem]; rfl) rfl (R := RetA w _) ⟨rfl, HB3.out⟩

theorem eqI_false {xs ys : List Int} : decide (xs = ys) = false ↔ xs ≠ ys := decide_eq_false_iff_not
set_option maxRecDepth 100000 in
set_option maxHeartbeats 4000000 in
theorem equalInt_calls (xs ys : List Int) (A : Option Addr) (c : Nat) (B : Option Addr) (d : Nat) (w : World) (hx : Rd w A (xs.flatMap encI)) (hy : Rd w B (ys.flatMap encI)) (hlx : xs.length ≤ c) (hcx : c ≤ 9223372036854775807) (hly : ys.length ≤ d) (hcy : d ≤ 9223372036854775807) :
    Calls Try.prog 34 #[.slice A xs.length c, .slice B ys.length d] w (RetB w (decide (xs = ys))) := by
  have hx1 : xs.length ≤ 9223372036854775807 := by omega
  have hy1 : ys.length ≤ 9223372036854775807 := by omega
  have Hx := Lib.hid hx; clear hx
  have Hy := Lib.hid hy; clear hy
  by_cases hlen : xs.length = ys.length
  case neg =>
    have Hr := Lib.hid (show decide (xs = ys) = false from eqI_false.2 (fun e => hlen (by rw [e])))
    have hb : ((xs.length : Int) != (ys.length : Int)) = true := by simp; omega
    have hb2 : (xs.length != ys.length) = true := by simpa using hlen
    clear hlen
    go_enter Try.func34, Try.ntmps34
    go_wp2
    go_ret
    exact ⟨by rw [Hr.out]; rfl, Below.refl _ _⟩
  have Hlen := Lib.hid hlen
  go_enter Try.func34, Try.ntmps34
  rw [← hlen]
  clear hlen
  go_wp2
  go_loopw [13] (fun i wr => ∃ k : Nat, k ≤ xs.length ∧ i = .int .i64 k ∧ xs.take k = ys.take k ∧ Below w.heap.size w wr) (fun i _ => xs.length - (intOf i).toNat)
  case atStart => exact ⟨0, Nat.zero_le _, rfl, by simp, Below.refl _ _⟩
  case round =>
    obtain ⟨k, hk, rfl, heq, hB⟩ := hrel
    have Heq := Lib.hid heq; clear heq
    have HB := Lib.hid hB; clear hB
    by_cases hlt : k < xs.length
    · obtain ⟨x, hx⟩ : ∃ x, xs[k]? = some x := ⟨_, List.getElem?_eq_getElem hlt⟩
      obtain ⟨y, hy⟩ : ∃ y, ys[k]? = some y := ⟨_, List.getElem?_eq_getElem (by rw [← Hlen.out]; exact hlt)⟩
      obtain ⟨g, off, rfl, e0⟩ := (Hx.out.below HB.out (Nat.le_refl _)).atI hx
      obtain ⟨g', off', rfl, f0⟩ := (Hy.out.below HB.out (Nat.le_refl _)).atI hy
      have Hxx := Lib.hid hx; clear hx
      have Hyy := Lib.hid hy; clear hy
      have hlt' : k < ys.length := by rw [← Hlen.out]; exact hlt
      have hlen' : (k : Int) < (ys.length : Int) := by omega
      by_cases hxy : x = y
      · have Hnx := Lib.hid (show xs.take (k + 1) = ys.take (k + 1) from by rw [take_snoc Hxx.out, take_snoc Hyy.out, Heq.out, hxy])
        have hne : (x != y) = false := by simpa using hxy
        clear hxy
        go_wp2_with fail
        go_quiet (fail)
        go_wp2
        go_roundw
        case rel => exact ⟨k + 1, by omega, by go_num, Hnx.out, below_drewN HB.out _⟩
        case measure => simp [intOf]; omega
      · have Hf' := Lib.hid (show decide (xs = ys) = false from eqI_false.2 (fun e => by
          subst e
          have h1 := Hxx.out.symm.trans Hyy.out
          injection h1 with h1
          exact hxy h1))
        have hne : (x != y) = true := by simpa using hxy
        clear hxy
        go_wp2_with fail
        go_quiet (fail)
        go_wp2
        go_ret
        exact ⟨by rw [Hf'.out]; rfl, below_drewN HB.out _⟩
    · have hke : k = xs.length := by omega
      subst hke
      have Hf' := Lib.hid (show decide (xs = ys) = true from decide_eq_true (by
        have := Heq.out
        rw [List.take_length, Hlen.out, List.take_length] at this
        exact this))
      go_wp2
      go_ret
      exact ⟨by rw [Hf'.out]; rfl, HB.out⟩
end Go.Proofs.Ytfhgknmkpegpbaa

set_option linter.unusedVariables false
set_option linter.unusedSimpArgs false
namespace Go.Proofs.Ytfhgknmkpegpbaa
open Go.RowKit

/-- A slice of its own whose elements read as trees. -/
def RowT (N : Nat) (P : Nat → Prop) (w : World) (v : Value) (l : List Tm) : Prop :=
  ∃ es : List EV, l = es.map (fun e => e.1) ∧ w.ownsRow N 25 4 v es.length (es.flatMap encE) ∧ ∀ e ∈ es, e.1.s.size ≤ 9223372036854775807 ∧ TmC (fun g => P g ∧ some g ≠ v.ownBlock ∧ g < w.heap.size) w e.2.1 e.2.2 e.1.l
theorem encE_len (x : EV) : (encE x).length = 4 := rfl
theorem RowT.nil (N : Nat) (P : Nat → Prop) (w : World) : RowT N P w (.slice none 0 0) [] := ⟨[], rfl, World.ownsRow_nil _ _ _ _, fun e h => by simp at h⟩
theorem RowT.below {N : Nat} {P : Nat → Prop} {w w' : World} {v : Value} {l : List Tm} {B : Nat} (h : RowT N P w v l) (hb : Below B w w') (hB : w.heap.size ≤ B) : RowT N P w' v l := by
  obtain ⟨es, h1, h2, h3⟩ := h
  exact ⟨es, h1, own_below h2 hb hB, fun e he => ⟨(h3 e he).1, ((h3 e he).2.stay hb hB).mono fun g hg => ⟨hg.1, hg.2.1, Nat.lt_of_lt_of_le hg.2.2 hb.size⟩⟩⟩
theorem own_at {w : World} {N n c : Nat} {A : Option Addr} {es : List EV} (h : w.ownsRow N 25 4 (.slice A n c) es.length (es.flatMap encE)) (hne : es ≠ []) : ∃ g, A = some ⟨g, 0, none⟩ ∧ N ≤ g ∧ (Value.slice A n c).ownBlock = some g := by
  rcases h.2 with ⟨hv, hn⟩ | ⟨g, cap, cur, hv, hg, _⟩
  · exact absurd (List.length_eq_zero_iff.1 hn) hne
  · injection hv with h1 _ _
    subst h1
    exact ⟨g, rfl, hg, by simp [Value.ownBlock]⟩
theorem RowT.toC {N : Nat} {P : Nat → Prop} {w : World} {v : Value} {l : List Tm} (h : RowT N P w v l) : ∃ A c, v = .slice A l.length c ∧ TmC (fun g => P g ∨ some g = v.ownBlock) w A c l := by
  obtain ⟨es, rfl, h2, h3⟩ := h
  obtain ⟨A, c, rfl⟩ := own_slice h2
  rw [List.length_map]
  refine ⟨A, c, rfl, ?_⟩
  have hl := own_len encE_len (by omega) h2
  refine .mk es rfl (by rw [List.length_map]; exact hl.1) ?_ hl.2 (fun hne => ?_) (own_rd h2) (fun e he => (h3 e he).1) (fun e he => (h3 e he).2.mono fun g hg => Or.inl hg.1)
  · rcases h2.2 with ⟨hv, _⟩ | ⟨g, cap, cur, hv, _, _, _, hcm, _⟩
    · injection hv with _ _ hv; omega
    · injection hv with _ _ hv; subst hv; simpa [maxLen] using hcm
  · obtain ⟨g, h4, _, h5⟩ := own_at h2 (by intro e; rw [e] at hne; exact hne rfl)
    exact ⟨g, 0, h4, Or.inr h5.symm⟩
theorem RowT.push {N : Nat} {P P' : Nat → Prop} {w w1 : World} {v v' : Value} {l : List Tm} {t : Tm} {A : Option Addr} {c : Nat} (es : List EV) (hl : l = es.map (fun e => e.1)) (h3 : ∀ e ∈ es, e.1.s.size ≤ 9223372036854775807 ∧ TmC (fun g => P g ∧ some g ≠ v.ownBlock ∧ g < w.heap.size) w e.2.1 e.2.2 e.1.l) (hs : t.s.size ≤ 9223372036854775807) (ht : TmC P' w A c t.l)
    (hP : ∀ g, P' g → P g ∧ some g ≠ v.ownBlock) (h1 : w1.ownsRow N 25 4 v' (es.length + 1) (es.flatMap encE ++ [.int .i64 t.k, .int .i64 t.n, .string t.s, .slice A t.l.length c])) (hg : w.grownBy w1 v.ownBlock)
    (hv : v'.ownBlock = v.ownBlock ∨ v'.ownBlock = some w.heap.size) : RowT N P w1 v' (l ++ [t]) := by
  subst hl
  refine ⟨es ++ [(t, A, c)], by simp, by simpa [encE] using h1, fun e he => ?_⟩
  have hq : ∀ g, (P g ∧ some g ≠ v.ownBlock ∧ g < w.heap.size) → P g ∧ some g ≠ v'.ownBlock ∧ g < w1.heap.size := fun g hg' => by
    refine ⟨hg'.1, ?_, Nat.lt_of_lt_of_le hg'.2.2 hg.size⟩
    rcases hv with e | e
    · rw [e]; exact hg'.2.1
    · rw [e]; intro e2; injection e2 with e2; omega
  rcases List.mem_append.1 he with h4 | h4
  · exact ⟨(h3 e h4).1, ((h3 e h4).2.grown hg (fun g hg' e => hg'.2.1 e.symm)).mono hq⟩
  · obtain rfl : e = (t, A, c) := by simpa using h4
    have h5 : TmC (fun g => P g ∧ some g ≠ v.ownBlock ∧ g < w.heap.size) w A c t.l := ht.inside.mono (fun g hg' => ⟨(hP g hg'.1).1, (hP g hg'.1).2, hg'.2⟩)
    exact ⟨hs, (h5.grown hg (fun g hg' e => hg'.2.1 e.symm)).mono hq⟩

theorem len_le_sizes (l : List Tm) : l.length ≤ Tm.sizes l := by
  induction l with
  | nil => simp [Tm.sizes]
  | cons x l ih => rw [List.length_cons, Tm.sizes]; have := x.size_pos; omega
/-- A tree is given back, in new memory. -/
def RetM (w : World) (t : Tm) (e : Ending) (w' : World) : Prop :=
  ∃ A c, e = .returned (.agg #[.int .i64 t.k, .int .i64 t.n, .string t.s, .slice A t.l.length c]) ∧ t.s.size ≤ 9223372036854775807 ∧ TmC (w.heap.size ≤ ·) w' A c t.l ∧ Below w.heap.size w w'
theorem info25 : ∃ i0 : TypeInfo, Try.prog.info? 25 = some i0 ∧ i0.zero = some (.agg #[.int .i64 0, .int .i64 0, .string ⟨#[]⟩, .slice none 0 0]) ∧ i0.size = 4 ∧ i0.bytes = 56 := info_parts (by kernel_rfl)

set_option maxRecDepth 100000 in
set_option maxHeartbeats 4000000 in
theorem copied_calls (t : Tm) : ∀ (P : Nat → Prop) (w : World) (v : Value), TmV P w v t → t.size ≤ 1000000 → Calls Try.prog 90 #[v] w (RetM w t) := by
  induction t using Tm.ind with
  | h t ih =>
    intro P w v hv hsz
    obtain ⟨A, c, rfl, hs, hc⟩ := hv
    obtain ⟨i0, hi0⟩ := info25
    have Hi := Lib.hid hi0; clear hi0
    have Ih := Lib.hid ih; clear ih
    obtain ⟨W0, hW0⟩ : ∃ W0, W0 = (w.alloc (.cells #[.int .i64 t.k, .int .i64 t.n, .string t.s, .slice A t.l.length c] 25)).alloc (.cells #[.int .i64 0, .int .i64 0, .string ⟨#[]⟩, .slice none 0 0] 25) := ⟨_, rfl⟩
    have hB0 : Below w.heap.size w W0 := by rw [hW0]; exact ((Below.refl _ _).alloc (Nat.le_refl _) _).alloc (by simp) _
    have hX0 : Blk W0 w.heap.size 25 #[.int .i64 t.k, .int .i64 t.n, .string t.s, .slice A t.l.length c] := by rw [hW0]; exact (Blk.new w 25 _).alloc _
    have hY0 : Blk W0 (w.heap.size + 1) 25 #[.int .i64 0, .int .i64 0, .string ⟨#[]⟩, .slice none 0 0] := by
      rw [hW0]
      have := Blk.new (w.alloc (.cells #[.int .i64 t.k, .int .i64 t.n, .string t.s, .slice A t.l.length c] 25)) 25 #[.int .i64 0, .int .i64 0, .string ⟨#[]⟩, .slice none 0 0]
      rwa [World.size_alloc] at this
    have ly0 := hY0.lt
    have hlc := hc.len.1
    have hlm := hc.len.2.1
    have hll : t.l.length ≤ 1000000 := by
      have h1 := t.size_eq
      have h2 := len_le_sizes t.l
      omega
    have Hc := Lib.hid (hc.stay hB0 (Nat.le_refl _)); clear hc
    have HX0 := Lib.hid hX0; clear hX0
    have HY0 := Lib.hid hY0; clear hY0
    have HB0 := Lib.hid hB0; clear hB0
    have HW := Lib.hid hW0; clear hW0
    obtain ⟨⟨a0, a1, a2, a3⟩, -⟩ := HX0.out.four
    go_enter Try.func90, Try.ntmps90
    go_wp2_with fail
    rw [← HW.out]
    go_wp2
    have hsz0 : w.heap.size + 1 + 1 ≤ W0.heap.size := by omega
    go_loopw [3, 9] (fun v3 i wr => ∃ k : Nat, k ≤ t.l.length ∧ i = .int .i64 k ∧ RowT W0.heap.size (W0.heap.size ≤ ·) wr v3 (t.l.take k) ∧ Below W0.heap.size W0 wr) (fun _ i _ => t.l.length - (intOf i).toNat)
    case atStart => exact ⟨0, Nat.zero_le _, rfl, RowT.nil _ _ _, Below.refl _ _⟩
    case round =>
      obtain ⟨k, hk, rfl, hrw, hB⟩ := hrel
      have HB := Lib.hid hB; clear hB
      by_cases hlt : k < t.l.length
      · obtain ⟨x, hx⟩ : ∃ x, t.l[k]? = some x := ⟨_, List.getElem?_eq_getElem hlt⟩
        obtain ⟨g, off, Ai, ci, rfl, hPg, ⟨e0, e1, e2, e3⟩, hxs, hxc⟩ := (Hc.out.stay HB.out (Nat.le_refl _)).at_ hx
        have hxm := List.mem_of_getElem? hx
        have Hts := Lib.hid (take_snoc hx)
        have hxz : x.size ≤ 1000000 := by have := Tm.size_child hxm; omega
        have hbb : Below wr.heap.size wr (wr.alloc (.cells #[.int .i64 x.k, .int .i64 x.n, .string x.s, .slice Ai x.l.length ci] 25)) := (Below.refl _ _).alloc (Nat.le_refl _) _
        have hcall := Ih.out x hxm P _ _ ⟨Ai, ci, rfl, hxs, hxc.stay hbb (Nat.le_refl _)⟩ hxz
        have Hcall := Lib.hid hcall; clear hcall hxc hx
        have HBB := Lib.hid hbb; clear hbb
        have Hrw := Lib.hid hrw; clear hrw
        go_wp2_with fail
        refine Hcall.out.mono ?_
        rintro e w2 ⟨A2, c2, rfl, -, hx2, hb2⟩
        have hbr : Below wr.heap.size wr w2 := HBB.out.trans (hb2.mono HBB.out.size)
        have hbr2 : Below wr.heap.size wr (w2.alloc (.cells #[.int .i64 x.k, .int .i64 x.n, .string x.s, .slice A2 x.l.length c2] 25)) := hbr.alloc hbr.size _
        have hrw2 := Hrw.out.below hbr2 (Nat.le_refl _)
        have hx3 := hx2.stay ((Below.refl _ _).alloc (Nat.le_refl _) (.cells #[.int .i64 x.k, .int .i64 x.n, .string x.s, .slice A2 x.l.length c2] 25)) (Nat.le_refl _)
        have hob : ∀ g, wr.heap.size + 1 ≤ g → W0.heap.size ≤ g ∧ some g ≠ u3.ownBlock := fun g hg => by
          refine ⟨by have := HB.out.size; omega, fun e => ?_⟩
          obtain ⟨es, h1, h2, h3⟩ := Hrw.out
          have := (h2.lt g e.symm).2
          omega
        obtain ⟨es, hes, hrow, hch⟩ := hrw2
        have hel : es.length = k := by rw [← List.length_map (f := fun e : EV => e.1), ← hes, List.length_take]; omega
        have Hx3 := Lib.hid hx3; clear hx3 hx2
        have Hob := Lib.hid hob; clear hob
        have Hch := Lib.hid hch
        have Hrow := Lib.hid hrow
        have HB2 := Lib.hid (HB.out.trans (hbr2.mono HB.out.size)); clear hbr2 hbr hb2
        have Hes := Lib.hid hes
        have Hel := Lib.hid hel
        clear hrow hch hes hel
        go_wp2_with (at_builtin; refine wpList_append_own_at _ rfl (.tmp 13) (.tmp 16) 22 rfl W0.heap.size 25 i0 _ 4 56 Try.underlying22 Hi.out.1 Hi.out.2.1 Hi.out.2.2.1 Hi.out.2.2.2 rfl (by decide) u3 es.length (es.flatMap encE) rfl Hrow.out ⟨w2.heap.size, 0, none⟩ 1 1 [.int .i64 x.k, .int .i64 x.n, .string x.s, .slice A2 x.l.length c2] rfl rfl ?c1 ?c2 ?c3 ?c4 ?c5 ?_)
        case c1 =>
          intro j u hu
          rw [add_lit0, (Blk.new w2 25 _).cell j]
          simpa using hu
        case c2 => simp [Value.oneCell']
        case c3 => rw [Hel.out]; simp only [maxLen]; omega
        case c4 => rw [Hel.out]; omega
        case c5 => have := HB2.out.size; simpa using this
        intro v' w4 hown hg _ hbk
        have hnew : RowT W0.heap.size (W0.heap.size ≤ ·) w4 v' (t.l.take (k + 1)) := by
          rw [Hts.out]
          exact RowT.push es Hes.out Hch.out hxs Hx3.out (fun g hg' => Hob.out g (by simpa using hg')) hown hg (by simpa using hbk)
        have HB4 := Lib.hid (HB2.out.grown hg HB2.out.size (fun k hk => (Hrow.out.lt k hk).1))
        have Hnew := Lib.hid hnew
        obtain ⟨A', c', rfl⟩ := own_slice hown
        clear hown hg hbk hnew
        go_wp2
        go_roundw
        case rel => exact ⟨k + 1, by omega, by go_num, Hnew.out, HB4.out⟩
        case measure => simp [intOf]; omega
      · have hke : k = t.l.length := by omega
        subst hke
        rw [List.take_length] at hrw
        obtain ⟨A2, c2, rfl, h2⟩ := hrw.toC
        have hob : ∀ g, (W0.heap.size ≤ g ∨ some g = (Value.slice A2 t.l.length c2).ownBlock) → W0.heap.size ≤ g := fun g hg => by
          rcases hg with h | h
          · exact h
          · obtain ⟨es, h3, h4, h5⟩ := hrw
            exact (h4.lt g h.symm).1
        have H2 := Lib.hid (h2.mono hob); clear h2 hob hrw
        have hX := HX0.out.below HB.out HX0.out.lt
        have hY := HY0.out.below HB.out ly0
        obtain ⟨⟨b0, b1, b2, b3⟩, ⟨f0, f1, f2, f3⟩⟩ := hX.four
        obtain ⟨⟨d0, d1, d2, d3⟩, ⟨g0, g1, g2, g3⟩⟩ := hY.four
        have HX := Lib.hid hX; clear hX
        have HY := Lib.hid hY; clear hY
        go_wp2
        have hF := (((((HY.out.far (p := ⟨w.heap.size, 3, none⟩) (by simp) (.slice A2 t.l.length c2)).set_ 0 (.int .i64 t.k)).set_ 1 (.int .i64 t.n)).set_ 2 (.string t.s)).set_ 3 (.slice A2 t.l.length c2))
        have hT := ((((H2.out.setCell ⟨w.heap.size, 3, none⟩ (.slice A2 t.l.length c2) (fun g h e => by simp at e; omega)).setCell ⟨w.heap.size + 1, 0, none⟩ (.int .i64 t.k) (fun g h e => by simp at e; omega)).setCell ⟨w.heap.size + 1, 1, none⟩ (.int .i64 t.n) (fun g h e => by simp at e; omega)).setCell ⟨w.heap.size + 1, 2, none⟩ (.string t.s) (fun g h e => by simp at e; omega)).setCell ⟨w.heap.size + 1, 3, none⟩ (.slice A2 t.l.length c2) (fun g h e => by simp at e; omega)
        have hBF := (((((HB0.out.trans (HB.out.mono HB0.out.size)).setCell (p := ⟨w.heap.size, 3, none⟩) (Nat.le_refl _) (.slice A2 t.l.length c2)).setCell (p := ⟨w.heap.size + 1, 0, none⟩) (by simp) (.int .i64 t.k)).setCell (p := ⟨w.heap.size + 1, 1, none⟩) (by simp) (.int .i64 t.n)).setCell (p := ⟨w.heap.size + 1, 2, none⟩) (by simp) (.string t.s)).setCell (p := ⟨w.heap.size + 1, 3, none⟩) (by simp) (.slice A2 t.l.length c2)
        obtain ⟨⟨q0, q1, q2, q3⟩, -⟩ := hF.four
        refine bodyPost_ret (v := .agg #[.int .i64 t.k, .int .i64 t.n, .string t.s, .slice A2 t.l.length c2]) ?_ rfl (R := RetM w t) ⟨A2, c2, rfl, hs, hT.mono (fun g h => by omega), hBF⟩
        generalize (World.setCell _ ⟨w.heap.size + 1, 3, none⟩ _) = WF at q0 q1 q2 q3 ⊢
        clear hF hT hBF
        simp [results, Try.results90, go_sem, q0, q1, q2, q3]
end Go.Proofs.Ytfhgknmkpegpbaa

set_option linter.unusedVariables false
set_option linter.unusedSimpArgs false
namespace Go.Proofs.Ytfhgknmkpegpbaa
open Go.RowKit Go.Shelf
attribute [local go_sem] Oper.semAt_some

theorem room_of_none {F : Fence} (hd : F.depth = none) (k : Nat) : F.room k := fun d h => by rw [hd] at h; cases h
theorem roundIn_anyDepth {F : Fence} (hd : F.depth = none) {m m' : Nat} {P : Program} {l : Nat} {f : FuncId} {tmps : Array Value} {assign body : Code} {w : World} {R : Ending → World → Prop}
    (h : RoundIn F m P l f tmps assign body w R) : RoundIn F m' P l f tmps assign body w R := ⟨h.1, fun c cs _ => h.2 c cs (room_of_none hd _)⟩
theorem yieldAt_anyDepth {F : Fence} (hd : F.depth = none) {m : Nat} (m' : Nat) {P : Program} {l : Nat} {args : Array Value} {W : World} {R : Ending → World → Prop} (h : YieldAt F m P l args W R) : YieldAt F m' P l args W R := by
  obtain ⟨fn, tmps, assign, body, hy, hR⟩ := h
  exact ⟨fn, tmps, assign, body, hy, roundIn_anyDepth hd hR⟩

mutual
/-- The nodes of a tree, each ahead of those within it. -/
def Tm.pre : Tm → List Tm | .mk k n s l => Tm.mk k n s l :: Tm.pres l
def Tm.pres : List Tm → List Tm
  | [] => []
  | t :: ts => Tm.pre t ++ Tm.pres ts
end
theorem Tm.pre_eq (t : Tm) : t.pre = t :: Tm.pres t.l := by cases t; rw [Tm.pre]; rfl
theorem Tm.pres_append (a b : List Tm) : Tm.pres (a ++ b) = Tm.pres a ++ Tm.pres b := by
  induction a with
  | nil => rfl
  | cons x a ih => rw [List.cons_append, Tm.pres, Tm.pres, ih, List.append_assoc]
theorem Tm.pre_len_le (n : Nat) : (∀ t : Tm, t.size ≤ n → t.pre.length = t.size) ∧ (∀ l : List Tm, Tm.sizes l ≤ n → (Tm.pres l).length = Tm.sizes l) := by
  induction n with
  | zero =>
    refine ⟨fun t h => by have := t.size_pos; omega, fun l h => ?_⟩
    cases l with
    | nil => rfl
    | cons a l => rw [Tm.sizes] at h; have := a.size_pos; omega
  | succ n ih =>
    have h1 : ∀ t : Tm, t.size ≤ n + 1 → t.pre.length = t.size := fun t h => by
      rw [t.size_eq] at h ⊢
      rw [t.pre_eq, List.length_cons, ih.2 t.l (by omega)]; omega
    refine ⟨h1, fun l => ?_⟩
    induction l with
    | nil => intro _; rfl
    | cons a l ihl =>
      intro h
      rw [Tm.sizes] at h ⊢
      rw [Tm.pres, List.length_append, h1 a (by omega), ihl (by omega)]
theorem Tm.pre_len (t : Tm) : t.pre.length = t.size := (Tm.pre_len_le t.size).1 t (Nat.le_refl _)
theorem Tm.pres_len (l : List Tm) : (Tm.pres l).length = Tm.sizes l := (Tm.pre_len_le _).2 l (Nat.le_refl _)

theorem sizes_append (a b : List Tm) : Tm.sizes (a ++ b) = Tm.sizes a + Tm.sizes b := by
  induction a with
  | nil => simp [Tm.sizes]
  | cons x a ih => rw [List.cons_append, Tm.sizes, Tm.sizes, ih]; omega
theorem sizes_take_le (k : Nat) (l : List Tm) : Tm.sizes (l.take k) ≤ Tm.sizes l := by
  have h := congrArg Tm.sizes (List.take_append_drop k l)
  rw [sizes_append] at h; omega
theorem okB_mem {t x : Tm} (h : t.okB = true) (hx : x ∈ t.l) : x.okB = true := by
  rw [Tm.okB_eq, Bool.and_eq_true] at h
  exact Tm.okBs_mem h.2 hx
/-- A node that is given out, with where its elements lie. -/
abbrev EW (n₀ : Nat) (w0 : World) := {x : EV // x.1.okB = true ∧ x.1.s.size ≤ 9223372036854775807 ∧ TmC (· < n₀) w0 x.2.1 x.2.2 x.1.l}
def EW.tm {n₀ : Nat} {w0 : World} (x : EW n₀ w0) : Tm := x.1.1
def EW.encs {n₀ : Nat} {w0 : World} (x : EW n₀ w0) : Array Value := #[.agg #[.int .i64 x.1.1.k, .int .i64 x.1.1.n, .string x.1.1.s, .slice x.1.2.1 x.1.1.l.length x.1.2.2]]
/-- What a round keeps. -/
def KpT (n₀ : Nat) (W W' : World) : Prop := Below n₀ W W' ∧ ∀ g cs, Blk W g 25 cs → Blk W' g 25 cs
theorem KpT.refl (n₀ : Nat) (W : World) : KpT n₀ W W := ⟨Below.refl _ _, fun _ _ h => h⟩
theorem KpT.trans {n₀ : Nat} {A B C : World} (h : KpT n₀ A B) (k : KpT n₀ B C) : KpT n₀ A C := ⟨h.1.trans k.1, fun g cs hb => k.2 g cs (h.2 g cs hb)⟩
theorem KpT.alloc {n₀ : Nat} {W : World} (hn : n₀ ≤ W.heap.size) (o : Obj) : KpT n₀ W (W.alloc o) := ⟨(Below.refl _ _).alloc hn _, fun _ _ h => h.alloc _⟩
theorem Below.putObj_ {n₀ B : Nat} (hn : n₀ ≤ B) (W : World) (l : Nat) (o o' : Obj) (hl : B ≤ l) : Below n₀ W (W.putObj l o') :=
  ⟨rfl, rfl, rfl, by simp, fun k hk => World.putObj_heap_other (fun e => by omega)⟩
theorem kpT_b {n₀ : Nat} {B : Nat} (hn : n₀ ≤ B) (W : World) (l : Nat) (o o' : Obj) (hl : B ≤ l) (h : W.heap[l]? = some o) (hc : o.isCells = false) (hw : o.isWalk = false) : KpT n₀ W (W.putObj l o') := by
  refine ⟨Below.putObj_ hn W l o o' hl, fun g cs hb => ?_⟩
  have hne : g ≠ l := fun e => by
    subst e
    have h1 : W.heap[g]? = some (.cells cs 25 (0, 0)) := hb
    rw [h] at h1
    injection h1 with h1
    subst h1
    simp [Obj.isCells] at hc
  exact (World.putObj_heap_other (fun e => hne e)).trans hb
theorem abides_alloc {β : Type} {B : Nat} {J : β → World → Prop} (h : AbidesFrom B J) {s : β} {W : World} (o : Obj) (hs : J s W) : J s (W.alloc o) :=
  h s W _ none hs (World.grownBy_alloc W o none) (fun r e => by cases e)

set_option maxRecDepth 100000 in
set_option maxHeartbeats 4000000 in
theorem walk_tree (F : Fence) (hd : F.depth = none) (hF : F.fn 135) (hro : F.round = none) (l n₀ N B : Nat) (w0 : World) (J Jx : List (EW n₀ w0) → World → Prop) (hJ : AbidesFrom B J)
    (hY : ∀ m pre x W, J pre W → Below n₀ w0 W → pre.length < N → YieldAt F m Try.prog l (EW.encs x) W fun e W' =>
      (e = .returned (.bool true) ∧ J (pre ++ [x]) W' ∧ KpT n₀ W W') ∨ (e = .returned (.bool false) ∧ Jx (pre ++ [x]) W')) (t : Tm) :
    ∀ (n : Nat) (x0 : EW n₀ w0) (pre : List (EW n₀ w0)) (W : World), x0.1.1 = t → J pre W → Below n₀ w0 W → n₀ ≤ W.heap.size → pre.length + t.size ≤ N →
      CallsIn F n Try.prog 135 #[.agg #[.int .i64 t.k, .int .i64 t.n, .string t.s, .slice x0.1.2.1 t.l.length x0.1.2.2], .func (.yield l) #[] #[]] W fun e W' =>
        (e = .returned (.bool true) ∧ (∃ ys : List (EW n₀ w0), ys.map EW.tm = t.pre ∧ J (pre ++ ys) W') ∧ KpT n₀ W W') ∨ (e = .returned (.bool false) ∧ ∃ ys : List (EW n₀ w0), ys.map EW.tm <+: t.pre ∧ Jx (pre ++ ys) W') := by
  induction t using Tm.ind with
  | h t ih =>
    intro n x0 pre W hx0 hJ0 hb0 hn0 hN
    obtain ⟨⟨t', A, c⟩, ho, hs, hc⟩ := x0
    obtain rfl : t' = t := hx0
    have Ih := Lib.hid ih; clear ih
    have hdd : ∀ k : Nat, (F.depth.isSome = true → 1 ≤ k) := fun k h => by rw [hd] at h; cases h
    have hlc := hc.len.1
    have hlm := hc.len.2.1
    simp only at ho hs hc ⊢
    obtain ⟨W0, hW0⟩ : ∃ W0, W0 = W.alloc (.cells #[.int .i64 t'.k, .int .i64 t'.n, .string t'.s, .slice A t'.l.length c] 25) := ⟨_, rfl⟩
    have hk0 : KpT n₀ W W0 := by rw [hW0]; exact KpT.alloc hn0 _
    have hX0 : Blk W0 W.heap.size 25 #[.int .i64 t'.k, .int .i64 t'.n, .string t'.s, .slice A t'.l.length c] := by rw [hW0]; exact Blk.new _ _ _
    have hJ1 : J pre W0 := by rw [hW0]; exact abides_alloc hJ _ hJ0
    have hyy := hY (n - 1) pre ⟨(t', A, c), ho, hs, hc⟩ W0 hJ1 (hb0.trans hk0.1) (by have := t'.size_pos; omega)
    have hsz0 : n₀ ≤ W0.heap.size := Nat.le_trans hn0 hk0.1.size
    have HK0 := Lib.hid hk0; clear hk0
    obtain ⟨⟨a0, a1, a2, a3⟩, -⟩ := hX0.four
    have HX0 := Lib.hid hX0; clear hX0
    have HB := Lib.hid hb0; clear hb0
    have HW := Lib.hid hW0; clear hW0
    have HN := Lib.hid hN; clear hN
    have HY := Lib.hid hY; clear hY
    obtain ⟨fn, tmps, assign, body, hy, hR⟩ := hyy
    simp only [EW.encs] at hy
    refine callsIn_of_wp Try.func135 rfl hF ?_ hro
    simp only [Try.ntmps135, List.size_toArray, List.length_cons, List.length_nil, Nat.reduceAdd, Nat.reduceSub, Array.replicate_succ, Array.replicate_zero, List.push_toArray, List.append_toArray, List.nil_append, List.cons_append]
    gi_wp2_with fail
    rw [← HW.out]
    rw [hy]
    gi_wp2_with fail
    refine hR.mono ?_
    clear hR hy
    rintro e W1 (⟨rfl, hJ2, hk1⟩ | ⟨rfl, hJx⟩)
    case inr =>
      gi_wp2
      go_ret
      exact .inr ⟨rfl, [⟨(t', A, c), ho, hs, hc⟩], by rw [List.map_cons, List.map_nil, t'.pre_eq]; exact ⟨Tm.pres t'.l, rfl⟩, hJx⟩
    have hX1 := hk1.2 _ _ HX0.out
    obtain ⟨⟨b0, b1, b2, b3⟩, -⟩ := hX1.four
    have hB1 : Below n₀ w0 W1 := HB.out.trans (HK0.out.1.trans hk1.1)
    have HK1 := Lib.hid (HK0.out.trans hk1); clear hk1
    have hsz1 : n₀ ≤ W1.heap.size := Nat.le_trans hn0 HK1.out.1.size
    have HB1 := Lib.hid hB1; clear hB1
    have HX1 := Lib.hid hX1; clear hX1
    have HJ2 := Lib.hid hJ2; clear hJ2
    have HC := Lib.hid hc
    gi_wp2
    gi_loopw [14] (fun i wr => ∃ (k : Nat) (ys : List (EW n₀ w0)), k ≤ t'.l.length ∧ i = .int .i64 k ∧ ys.map EW.tm = Tm.pres (t'.l.take k) ∧ J (pre ++ [⟨(t', A, c), ho, hs, hc⟩] ++ ys) wr ∧ KpT n₀ W1 wr) (fun i _ => t'.l.length - (intOf i).toNat)
    case atStart => exact ⟨0, [], Nat.zero_le _, rfl, rfl, by rw [List.append_nil]; exact HJ2.out, KpT.refl _ _⟩
    case round =>
      obtain ⟨k, ys, hk, rfl, hys, hJ3, hk3⟩ := hrel
      have Hys := Lib.hid hys; clear hys
      have hBr : Below n₀ w0 wr := HB1.out.trans hk3.1
      have hszr : n₀ ≤ wr.heap.size := Nat.le_trans hsz1 hk3.1.size
      have HK3 := Lib.hid hk3; clear hk3
      by_cases hlt : k < t'.l.length
      · obtain ⟨x, hx⟩ : ∃ x, t'.l[k]? = some x := ⟨_, List.getElem?_eq_getElem hlt⟩
        obtain ⟨g, off, Ai, ci, rfl, hPg, ⟨c0, c1, c2, c3⟩, hxs, hxc⟩ := HC.out.at_ hx
        have e0 := (hBr.cell (p := ⟨g, off + k * 4, none⟩) hPg).trans c0
        have e1 := (hBr.cell (p := ⟨g, off + k * 4 + 1, none⟩) hPg).trans c1
        have e2 := (hBr.cell (p := ⟨g, off + k * 4 + 2, none⟩) hPg).trans c2
        have e3 := (hBr.cell (p := ⟨g, off + k * 4 + 3, none⟩) hPg).trans c3
        clear c0 c1 c2 c3
        have hxm := List.mem_of_getElem? hx
        have Hts := Lib.hid (take_snoc hx)
        have hkr : KpT n₀ wr (wr.alloc (.cells #[.int .i64 x.k, .int .i64 x.n, .string x.s, .slice Ai x.l.length ci] 25)) := KpT.alloc hszr _
        have hsum : (pre ++ [(⟨(t', some ⟨g, off, none⟩, c), ho, hs, hc⟩ : EW n₀ w0)] ++ ys).length + x.size ≤ N := by
          have h1 := HN.out
          have h2 : ys.length = Tm.sizes (t'.l.take k) := by rw [← Tm.pres_len, ← Hys.out, List.length_map]
          have h3 : Tm.sizes (t'.l.take (k + 1)) ≤ Tm.sizes t'.l := sizes_take_le _ _
          rw [Hts.out, sizes_append] at h3
          rw [t'.size_eq] at h1
          simp only [Tm.sizes, Nat.add_zero] at h3
          simp only [List.length_append, List.length_cons, List.length_nil]
          omega
        obtain ⟨xe, hxe⟩ : ∃ xe : EW n₀ w0, xe.1 = (x, Ai, ci) := ⟨⟨(x, Ai, ci), okB_mem ho hxm, hxs, hxc⟩, rfl⟩
        have hcall := Ih.out x hxm (n - 1) xe (pre ++ [⟨(t', some ⟨g, off, none⟩, c), ho, hs, hc⟩] ++ ys) _ (by rw [hxe]) (abides_alloc hJ _ hJ3) (hBr.trans hkr.1) (Nat.le_trans hszr hkr.1.size) hsum
        have HJ3 := Lib.hid hJ3; clear hJ3 hsum hx hxc hxs hBr
        rw [hxe] at hcall
        clear hxe
        have HKr := Lib.hid (HK3.out.trans hkr); clear hkr
        simp only at hcall
        gi_wp2_with ((try refine ⟨hdd _, ?_⟩); gi_at_call 135; refine hcall.mono ?_; clear hcall; rintro e W3 (⟨rfl, ⟨zs, hzs, hJ4⟩, hk4⟩ | ⟨rfl, zs, hzs, hJx⟩))
        · have HK4 := Lib.hid (HKr.out.trans hk4); clear hk4
          have HJ4 := Lib.hid hJ4; clear hJ4
          have Hzs := Lib.hid hzs; clear hzs
          gi_wp2
          go_roundw
          case rel => exact ⟨k + 1, ys ++ zs, by omega, by go_num, by rw [List.map_append, Hys.out, Hzs.out, Hts.out, Tm.pres_append]; simp [Tm.pres], by rw [← List.append_assoc]; exact HJ4.out, HK4.out⟩
          case measure => simp [intOf]; omega
        · have Hzs := Lib.hid hzs; clear hzs
          gi_wp2
          go_ret
          refine .inr ⟨rfl, [⟨(t', some ⟨g, off, none⟩, c), ho, hs, hc⟩] ++ ys ++ zs, ?_, by simpa [List.append_assoc] using hJx⟩
          rw [List.map_append, List.map_append, Hys.out, t'.pre_eq]
          refine List.prefix_cons_inj _ |>.2 ?_
          refine (List.prefix_append_right_inj _ |>.2 Hzs.out).trans ?_
          have h1 := congrArg Tm.pres (List.take_append_drop (k + 1) t'.l)
          rw [Tm.pres_append, Hts.out, Tm.pres_append] at h1
          simp only [Tm.pres, List.append_nil] at h1
          exact ⟨_, h1⟩
      · have hke : k = t'.l.length := by omega
        subst hke
        have Hj := Lib.hid hJ3; clear hJ3
        gi_wp2
        go_ret
        refine .inl ⟨rfl, ⟨[⟨(t', A, c), ho, hs, hc⟩] ++ ys, ?_, by rw [← List.append_assoc]; exact Hj.out⟩, HK1.out.trans HK3.out⟩
        rw [List.map_append, Hys.out, t'.pre_eq, List.take_length]; rfl

set_option maxRecDepth 100000 in
set_option maxHeartbeats 4000000 in
theorem nodes1_in (F : Fence) (hd : F.depth = none) (n : Nat) (h134 : F.fn 134) (h135 : F.fn 135) (hro : F.round = none) (l Bt n₀ : Nat) (w0 : World) (x0 : EW n₀ w0) (J Jx : List (EW n₀ w0) → World → Prop)
    (W : World) (hJ : AbidesFrom W.heap.size J)
    (hY : ∀ pre x W, J pre W → pre.length < x0.1.1.size → YieldAt F (n - 1) Try.prog l (EW.encs x) W fun e W' =>
      (e = .returned (.bool true) ∧ J (pre ++ [x]) W' ∧ KpT n₀ W W') ∨ (e = .returned (.bool false) ∧ Jx (pre ++ [x]) W'))
    (hBt : Blk W Bt 25 #[.int .i64 x0.1.1.k, .int .i64 x0.1.1.n, .string x0.1.1.s, .slice x0.1.2.1 x0.1.1.l.length x0.1.2.2]) (hb0 : Below n₀ w0 W) (hn0 : n₀ ≤ W.heap.size) (h0 : J [] W) :
    CallsIn F n Try.prog 134 #[.func (.yield l) #[] #[], .pointer (some ⟨Bt, 0, none⟩)] W fun e W' => (∃ v, e = .returned v) ∧
      ((∃ ys : List (EW n₀ w0), ys.map EW.tm = x0.1.1.pre ∧ J ys W') ∨ (∃ pre : List (EW n₀ w0), pre.map EW.tm <+: x0.1.1.pre ∧ Jx pre W')) := by
  have hdd : ∀ k : Nat, (F.depth.isSome = true → 1 ≤ k) := fun k h => by rw [hd] at h; cases h
  have hp := walk_tree F hd h135 hro l n₀ x0.1.1.size W.heap.size w0 J Jx hJ (fun m pre x W hj _ hl => yieldAt_anyDepth hd m (hY pre x W hj hl)) x0.1.1 (n - 1) x0 [] W rfl h0 hb0 hn0 (by simp)
  clear hY
  obtain ⟨⟨a0, a1, a2, a3⟩, -⟩ := hBt.four
  refine callsIn_of_wp Try.func134 rfl h134 ?_ hro
  simp only [Try.ntmps134, List.size_toArray, List.length_cons, List.length_nil, Nat.reduceAdd, Nat.reduceSub, Array.replicate_succ, Array.replicate_zero, List.push_toArray, List.append_toArray, List.nil_append, List.cons_append]
  gi_wp2_with ((try refine ⟨hdd _, ?_⟩); gi_at_call 135; refine hp.mono ?_; clear hp; rintro e W1 (⟨rfl, ⟨ys, hys, hJ1⟩, _⟩ | ⟨rfl, ys, hys, hx⟩))
  · go_end0
    exact ⟨⟨_, rfl⟩, .inl ⟨_, hys, by simpa using hJ1⟩⟩
  · go_end0
    exact ⟨⟨_, rfl⟩, .inr ⟨ys, hys, by simpa using hx⟩⟩

set_option maxHeartbeats 1000000 in
theorem nodes_in (F : Fence) (n : Nat) (h95 : F.fn 95) (hro : F.round = none) (k n' : Int) (s : ByteArray) (A : Option Addr) (len c : Nat) (w : World) :
    CallsIn F n Try.prog 95 #[.agg #[.int .i64 k, .int .i64 n', .string s, .slice A len c]] w fun e w' => e = .returned (.func (.func 134) #[] #[.pointer (some ⟨w.heap.size, 0, none⟩)]) ∧ w' = w.alloc (.cells #[.int .i64 k, .int .i64 n', .string s, .slice A len c] 25) := by
  refine callsIn_of_wp Try.func95 rfl h95 ?_ hro
  simp only [Try.ntmps95, List.size_toArray, List.length_cons, List.length_nil, Nat.reduceAdd, Nat.reduceSub, Array.replicate_succ, Array.replicate_zero, List.push_toArray, List.append_toArray, List.nil_append, List.cons_append]
  gi_wp2
  go_ret
  exact ⟨rfl, rfl⟩

theorem nodes_stops (F : Fence) (hd : F.depth = none) (n : Nat) (h134 : F.fn 134) (h135 : F.fn 135) (hro : F.round = none) (Bt n₀ : Nat) (w0 : World) (x0 : EW n₀ w0) (w : World) (hn₀ : n₀ ≤ w.heap.size) (hb0 : Below n₀ w0 w)
    (hBt : Blk w Bt 25 #[.int .i64 x0.1.1.k, .int .i64 x0.1.1.n, .string x0.1.1.s, .slice x0.1.2.1 x0.1.1.l.length x0.1.2.2]) :
    SeqStopsK F n Try.prog 134 #[.pointer (some ⟨Bt, 0, none⟩)] (EW.encs (n₀ := n₀) (w0 := w0)) (KpT n₀) (fun ys => ys.map EW.tm = x0.1.1.pre) (fun pre => pre.map EW.tm <+: x0.1.1.pre) x0.1.1.size w := fun l J Jx W hW hJ _ hY h0 =>
  nodes1_in F hd n h134 h135 hro l Bt n₀ w0 x0 J Jx W hJ hY (hBt.below hW hBt.lt) (hb0.trans (hW.mono hn₀)) (Nat.le_trans hn₀ hW.size) h0
end Go.Proofs.Ytfhgknmkpegpbaa

set_option linter.unusedVariables false
set_option linter.unusedSimpArgs false
namespace Go.Proofs.Ytfhgknmkpegpbaa
open Go.RowKit Go.Shelf
attribute [local go_sem] Oper.semAt_some

/-- A set of numbers as a map of truth values. -/
def MapB (W : World) (b n : Nat) (mem : Int → Bool) : Prop :=
  ∃ D : DataW Unit, W.ownsMap Try.prog 3 (plainElem Try.prog 4) b n D ∧ Maps.IsMap D ∧ ∀ x, D.atKey (.int .i64 x) (.lit (.bool false)) = .lit (.bool (mem x))
theorem MapB.made (w : World) : MapB (w.alloc (.map #[] 0)) w.heap.size 0 (fun _ => false) := ⟨_, World.ownsMap_made w _ _ _, Maps.isMap_empty, fun _ => rfl⟩
theorem MapB.kept {w w' : World} {b n : Nat} {m : Int → Bool} {row : Option Nat} (h : MapB w b n m) (hg : w.grownBy w' row) (hne : some b ≠ row) : MapB w' b n m := by
  obtain ⟨D, h1, h2⟩ := h; exact ⟨D, h1.kept hg hne, h2⟩
theorem plainElem_bool_inv {P : Program} {e : TypeId} (he : P.underlying e = some .bool) {v : Value} {b : Bool} {ps : List MemPlace} (h : plainElem (H := Unit) P e v = some (.lit (.bool b), ps)) : v = .bool b := by
  unfold plainElem at h
  rw [he] at h
  cases v <;> simp at h
  rw [h.1]
theorem MapB.lookup {w : World} {b n : Nat} {m : Int → Bool} (h : MapB w b n m) {x : Int} (hx : (Lit.int .i64 x).wf = true) :
    (Instr.lookup 62 (.map (some b)) (.int .i64 x) false).run Try.prog w = .ok (.bool (m x)) w := by
  obtain ⟨D, h1, -, h2⟩ := h
  obtain ⟨v, ps, hrun, hv⟩ := h1.lookup (Maps.int_keyed Try.underlying3) Try.underlying62 (Try.zeroValue4 _) (plainElem_bool Try.underlying4 false) (Maps.keyOf_int_mk Try.underlying3 hx)
  rw [h2] at hv
  rw [plainElem_bool_inv Try.underlying4 hv] at hrun
  exact hrun
theorem MapB.put {w : World} {b n : Nat} {D : DataW Unit} {m : Int → Bool} {x : Int} (h1 : w.ownsMap Try.prog 3 (plainElem Try.prog 4) b n (D.put (.int .i64 x) (.lit (.bool true)))) (hm : Maps.IsMap D)
    (h2 : ∀ x, D.atKey (.int .i64 x) (.lit (.bool false)) = .lit (.bool (m x))) : MapB w b n (fun y => m y || y == x) := by
  refine ⟨_, h1, ?_, fun y => ?_⟩
  · obtain ⟨es, rfl⟩ := hm; exact ⟨_, rfl⟩
  · by_cases h : y = x
    · subst h
      rw [Maps.atKey_put_same hm (show WideAt.IsKeyLit (.int .i64 y) from trivial)]; simp
    · rw [Maps.atKey_put_other (by simpa using h), h2]
      have : (y == x) = false := by simpa using h
      show _ = DataW.lit (Lit.bool (m y || y == x))
      rw [this, Bool.or_false]

/-- The marks of the ranges over functions that are over. -/
def Marks (N : Nat) (W : World) : List Deferred → Prop
  | [] => True
  | d :: ds => (∃ D, d.target = .collected D ∧ N ≤ D ∧ W.heap[D]? = some (.deferred (some [])) ∧ ∀ e ∈ ds, e.target ≠ .collected D) ∧ Marks N W ds
theorem Marks.keep {N : Nat} {W W' : World} : ∀ {ds : List Deferred}, Marks N W ds → (∀ D, N ≤ D → (∃ d ∈ ds, d.target = .collected D) → W.heap[D]? = some (.deferred (some [])) → W'.heap[D]? = some (.deferred (some []))) → Marks N W' ds
  | [], _, _ => trivial
  | d :: ds, ⟨⟨D, h1, h2, h3, h4⟩, h5⟩, hk => ⟨⟨D, h1, h2, hk D h2 ⟨d, by simp, h1⟩ h3, h4⟩, h5.keep fun E hE he => hk E hE (by obtain ⟨e, h6, h7⟩ := he; exact ⟨e, by simp [h6], h7⟩)⟩
theorem Marks.lt {N : Nat} {W : World} : ∀ {ds : List Deferred}, Marks N W ds → ∀ d ∈ ds, ∃ D, d.target = .collected D ∧ D < W.heap.size
  | [], _, _, h => by simp at h
  | d :: ds, ⟨⟨D, h1, h2, h3, h4⟩, h5⟩, e, he => by
    rcases List.mem_cons.1 he with rfl | he
    · exact ⟨D, h1, (Array.getElem?_eq_some_iff.1 h3).1⟩
    · exact h5.lt e he
theorem leaves_marks {F : Fence} {n : Nat} {P : Program} {fn : Func} {tmps : Array Value} {R : Ending → World → Prop} {N : Nat} (G : World → Prop)
    (hG : ∀ W D, G W → N ≤ D → W.heap[D]? = some (.deferred (some [])) → G (W.putObj D (.deferred none)))
    (hR : ∀ W, G W → ∃ v, (results fn tmps).run P W = .ok v W ∧ R (.returned v) W) : ∀ (ds : List Deferred) (W : World), Marks N W ds → G W → LeavesInM F n P fn tmps R ds .returning W
  | [], W, _, hg => hR W hg
  | d :: ds, W, ⟨⟨D, h1, h2, h3, h4⟩, h5⟩, hg => by
    refine ⟨by simp, .inl ⟨D, _, h1, run_takeDeferred h3, ?_⟩⟩
    refine leaves_marks G hG hR ds _ (h5.keep fun E hE he h => ?_) (hG W D hg h2 h3)
    obtain ⟨e, h6, h7⟩ := he
    have hne : E ≠ D := fun e' => h4 e h6 (by rw [h7, e'])
    exact (World.putObj_heap_other hne).trans h
end Go.Proofs.Ytfhgknmkpegpbaa

set_option linter.unusedVariables false
set_option linter.unusedSimpArgs false
namespace Go.Proofs.Ytfhgknmkpegpbaa
open Go.RowKit Go.Shelf
attribute [local go_sem] Oper.semAt_some

def varsAcc (acc : List Int) (t : Tm) : List Int := if t.k = 1 ∧ t.n ∉ acc then acc ++ [t.n] else acc
def varsFrom (acc : List Int) (l : List Tm) : List Int := l.foldl varsAcc acc
def varsL (l : List Tm) : List Int := varsFrom [] (Tm.pres l)
theorem varsFrom_append (acc : List Int) (a b : List Tm) : varsFrom acc (a ++ b) = varsFrom (varsFrom acc a) b := by simp [varsFrom]
theorem varsFrom_len (acc : List Int) (l : List Tm) : (varsFrom acc l).length ≤ acc.length + l.length := by
  induction l generalizing acc with
  | nil => exact Nat.le_refl _
  | cons t l ih =>
    refine Nat.le_trans (ih _) ?_
    unfold varsAcc
    split <;> simp <;> omega
def RetV (w : World) (xs : List Int) (e : Ending) (w' : World) : Prop :=
  ∃ v, e = .returned v ∧ w'.ownsRow w.heap.size 3 1 v xs.length (xs.map (Value.int .i64)) ∧ (v = .slice none 0 0 ↔ xs = []) ∧ Below w.heap.size w w'
/-- What 'vars' holds between two rounds. -/
def VInv (w : World) (acc : List Int) (W : World) : Prop :=
  ((∃ v, Boxed W w.heap.size 39 v ∧ W.ownsRow w.heap.size 3 1 v acc.length (acc.map (Value.int .i64)) ∧ (v = .slice none 0 0 ↔ acc = [])) ∧ Boxed W (w.heap.size + 1 + 1) 62 (.map (some (w.heap.size + 1))) ∧
    MapB W (w.heap.size + 1) acc.length (fun x => decide (x ∈ acc))) ∧ Below w.heap.size w W

theorem marks_own {β : Type} {N B : Nat} {ds : List Deferred} (hlt : ∀ d ∈ ds, ∃ D, d.target = .collected D ∧ D < B) : OwnFrom B (fun (_ : β) W => Marks N W ds) := by
  intro _ X Y row hs hg hr
  refine hs.keep fun D hD hd h => ?_
  obtain ⟨d, hd1, hd2⟩ := hd
  obtain ⟨D', h1, h2⟩ := hlt d hd1
  rw [hd2] at h1
  injection h1 with h1
  subst h1
  exact (hg.block D (Array.getElem?_eq_some_iff.1 h).1 (fun e => by have := (hr D e.symm).1; omega)).trans h
theorem mapB_ne {w : World} {b n : Nat} {m : Int → Bool} (h : MapB w b n m) {o : Obj} {g : Nat} (hg : w.heap[g]? = some o) (ho : o.isCells = true) : b ≠ g := by
  intro e
  subst e
  obtain ⟨D, ⟨es, ck, hb, -⟩, -⟩ := h
  rw [hg] at hb
  injection hb with hb
  subst hb
  simp [Obj.isCells] at ho
theorem own_map_ne {w : World} {base e size k : Nat} {v : Value} {xs : List Value} (hr : w.ownsRow base e size v k xs) {b n : Nat} {m : Int → Bool} (h : MapB w b n m) : some b ≠ v.ownBlock := by
  rcases hr.2 with ⟨rfl, _⟩ | ⟨g, cap, cur, rfl, _, hg, _⟩
  · simp [Value.ownBlock]
  · intro e
    have : b = g := by simpa [Value.ownBlock] using e
    exact mapB_ne h hg rfl this
theorem vinv_own {β : Type} (w : World) {B : Nat} (hB : w.heap.size + 3 ≤ B) (f : β → List Int) : OwnFrom B (fun s W => VInv w (f s) W) := by
  rintro s X Y row ⟨⟨h1, h2, h3⟩, h4⟩ hg hr
  refine ⟨⟨holdsRow_own w.heap.size w.heap.size 39 3 1 (fun s => (f s).length) (fun s => (f s).map (Value.int .i64)) (fun s v => v = .slice none 0 0 ↔ f s = []) s X Y row h1 hg (fun r e => (hr r e).2), h2.kept hg (fun e => ?_), h3.kept hg (fun e => ?_)⟩, ?_⟩
  · have := (hr _ e.symm).1; omega
  · have := (hr _ e.symm).1; omega
  · exact ownFrom_below (β := Unit) (Nat.le_refl _) (by omega) () X Y row h4 hg hr
theorem vars_step1 {w W w1 : World} {B : Nat} {acc : List Int} {v : Value} (hB : w.heap.size + 3 ≤ B) (h1 : Boxed W w.heap.size 39 v) (h2 : W.ownsRow w.heap.size 3 1 v acc.length (acc.map (Value.int .i64)))
    (h3 : Boxed W (w.heap.size + 1 + 1) 62 (.map (some (w.heap.size + 1)))) {n : Nat} {m : Int → Bool} (h4 : MapB W (w.heap.size + 1) n m) (h5 : Below w.heap.size w W) (hg : W.grownBy w1 (some (w.heap.size + 1))) :
    Boxed w1 w.heap.size 39 v ∧ w1.ownsRow w.heap.size 3 1 v acc.length (acc.map (Value.int .i64)) ∧ Boxed w1 (w.heap.size + 1 + 1) 62 (.map (some (w.heap.size + 1))) ∧ Below w.heap.size w w1 ∧ KpT w.heap.size W w1 ∧ KeepsFrom B W w1 ∧ (∀ g cs, Blk W g 25 cs → Blk w1 g 25 cs) := by
  have hk : ∀ g cs, Blk W g 25 cs → Blk w1 g 25 cs := fun g cs hb => hb.grown hg (fun e => mapB_ne h4 hb rfl (by simpa using e.symm))
  exact ⟨h1.kept hg (by simp), h2.kept hg (.inr (own_map_ne h2 h4).symm), h3.kept hg (by simp), h5.grown hg h5.size (fun k e => by cases e; omega), ⟨(Below.refl _ W).grown hg h5.size (fun k e => by cases e; omega), hk⟩, KeepsFrom.of_grownBy hg (fun j e => by cases e; omega), hk⟩
theorem vars_step2 {w w1 w2 : World} {acc : List Int} {v v' : Value} {tmp : Obj} (hv1 : Boxed w1 w.heap.size 39 v) (hrow1 : w1.ownsRow w.heap.size 3 1 v acc.length (acc.map (Value.int .i64)))
    (hmet1 : Boxed w1 (w.heap.size + 1 + 1) 62 (.map (some (w.heap.size + 1)))) {n : Int} (hM : MapB w1 (w.heap.size + 1) (acc.length + 1) (fun x => decide (x ∈ acc) || x == n)) (hg : (w1.alloc tmp).grownBy w2 v.ownBlock) (hv2 : Boxed w2 w.heap.size 39 v) :
    Boxed (w2.setCell ⟨w.heap.size, 0, none⟩ v') (w.heap.size + 1 + 1) 62 (.map (some (w.heap.size + 1))) ∧ MapB (w2.setCell ⟨w.heap.size, 0, none⟩ v') (w.heap.size + 1) (acc ++ [n]).length (fun x => decide (x ∈ acc ++ [n])) ∧
      ∀ g cs, Blk w1 g 25 cs → Blk (w2.setCell ⟨w.heap.size, 0, none⟩ v') g 25 cs := by
  refine ⟨?_, ?_, fun g cs hb => ?_⟩
  · exact ((hmet1.alloc tmp).kept hg (hmet1.not_row (by decide) hrow1)).kept (grownBy_setCell' w2 w.heap.size v') (by simp; omega)
  · have h1 := (hM.kept (World.grownBy_alloc w1 tmp none) (by simp)).kept hg (own_map_ne hrow1 hM)
    have h2 := h1.kept (grownBy_setCell' w2 w.heap.size v') (by simp)
    rw [List.length_append]
    have h3 : (fun x => decide (x ∈ acc ++ [n])) = (fun x => decide (x ∈ acc) || x == n) := by
      funext x
      rw [Bool.eq_iff_iff]
      simp
    rw [h3]
    exact h2
  · have h1 := (hb.alloc tmp).grown hg (fun e => own_blk_ne hrow1 hb (by decide) e.symm)
    refine h1.far (p := ⟨w.heap.size, 0, none⟩) (fun e => ?_) v'
    have e' : g = w.heap.size := e
    exact Blk.ne_ h1 (show Blk w2 w.heap.size 39 #[v] from hv2) (by decide) e'
theorem var_wf {t : Tm} (h : t.okB = true) (hk : t.k = 1) : (Lit.int .i64 t.n).wf = true := by
  rw [Tm.okB_eq, Bool.and_eq_true] at h
  have h1 := h.1
  unfold nodeB at h1
  rw [if_pos hk] at h1
  simp only [Bool.and_eq_true, decide_eq_true_eq] at h1
  unfold Lit.wf
  simp [IntKind.min, IntKind.max, IntKind.bits, IntKind.signed]
  omega

set_option maxRecDepth 100000 in
set_option maxHeartbeats 4000000 in
theorem vars_calls (l : List Tm) (P : Nat → Prop) (A : Option Addr) (c : Nat) (w : World) (hc : TmC P w A c l) (hok : Tm.okBs l = true) (hsz : Tm.sizes l ≤ 1000000) :
    Calls Try.prog 88 #[.slice A l.length c] w (RetV w (varsL l)) := by
  refine (callsIn_wide (n := 5)).1 ?_
  have hmm := @run_makeMap Try.prog
  obtain ⟨i0, hi, hz0, hz1, hz2⟩ := info_parts (P := Try.prog) (e := 3) (z := .int .i64 0) (size := 1) (bytes := 8) (by kernel_rfl)
  have hlc := hc.len.1
  have hlm := hc.len.2.1
  have Hc := Lib.hid (hc.inside.mono (Q := (· < w.heap.size)) (fun g h => h.2)); clear hc
  have hV0 : VInv w [] (((w.alloc (.cells #[.slice none 0 0] 39)).alloc (.map #[] 0)).alloc (.cells #[.map (some (w.heap.size + 1))] 62)) := by
    refine ⟨⟨⟨_, ((Boxed.new w 39 (.slice none 0 0)).alloc _).alloc _, World.ownsRow_nil _ _ _ _, by simp⟩, ?_, ?_⟩, (((Below.refl _ w).alloc (Nat.le_refl _) _).alloc (by simp) _).alloc (by simp; omega) _⟩
    · have := Boxed.new ((w.alloc (.cells #[.slice none 0 0] 39)).alloc (.map #[] 0)) 62 (.map (some (w.heap.size + 1)))
      simpa using this
    · have := (MapB.made (w.alloc (.cells #[.slice none 0 0] 39))).kept (World.grownBy_alloc _ (.cells #[.map (some (w.heap.size + 1))] 62) none) (by simp)
      simpa using this
  have HV0 := Lib.hid hV0; clear hV0
  refine callsIn_of_wp_marks Try.func88 rfl trivial ?_ rfl
  simp only [Try.ntmps88, List.size_toArray, List.length_cons, List.length_nil, Nat.reduceAdd, Nat.reduceSub, Array.replicate_succ, Array.replicate_zero, List.push_toArray, List.append_toArray, List.nil_append, List.cons_append]
  gi_wp2
  refine wpIn_loop (fun a' W => ∃ (k : Nat) (u6 u12 u13 u14 u15 u16 u36 : Value) (ds : List Deferred), k ≤ l.length ∧ Hid (VInv w (varsFrom [] (Tm.pres (l.take k))) W) ∧ Hid (Marks (w.heap.size + 3) W ds) ∧
    a' = { tmps := #[.slice A l.length c, undef, .slice none 0 0, .pointer (some ⟨w.heap.size, 0, none⟩), .pointer (some ⟨w.heap.size + 1 + 1, 0, none⟩), undef, u6, undef, .map (some (w.heap.size + 1)), .slice A l.length c, .int .i64 l.length, .int .i64 k, u12, u13, u14, u15, u16, undef, undef, undef, undef, undef, undef, undef, undef, undef, undef, undef, undef, undef, undef, undef, undef, undef, undef, undef, u36, undef], defers := ds })
    (fun a' _ => l.length - (intOf (a'.tmps.getD 11 undef)).toNat) ?start ?round
  case start => exact ⟨0, undef, undef, undef, undef, undef, undef, undef, [], Nat.zero_le _, HV0, Lib.hid (show Marks _ _ [] from trivial), rfl⟩
  case round =>
    rintro _ wr ⟨k, u6, u12, u13, u14, u15, u16, u36, ds, hk, HV, HM, rfl⟩
    by_cases hlt : k < l.length
    · obtain ⟨x, hx⟩ : ∃ x, l[k]? = some x := ⟨_, List.getElem?_eq_getElem hlt⟩
      obtain ⟨g, off, Ai, ci, rfl, hPg, ⟨c0, c1, c2, c3⟩, hxs, hxc⟩ := Hc.out.at_ hx
      have hBr := HV.out.2
      have e0 := (hBr.cell (p := ⟨g, off + k * 4, none⟩) hPg).trans c0
      have e1 := (hBr.cell (p := ⟨g, off + k * 4 + 1, none⟩) hPg).trans c1
      have e2 := (hBr.cell (p := ⟨g, off + k * 4 + 2, none⟩) hPg).trans c2
      have e3 := (hBr.cell (p := ⟨g, off + k * 4 + 3, none⟩) hPg).trans c3
      clear c0 c1 c2 c3 hBr
      have hxm := List.mem_of_getElem? hx
      have Hts := Lib.hid (take_snoc hx)
      obtain ⟨xe, hxe⟩ : ∃ xe : EW w.heap.size w, xe.1 = (x, Ai, ci) := ⟨⟨(x, Ai, ci), Tm.okBs_mem hok hxm, hxs, hxc⟩, rfl⟩
      clear hx hxc hxs
      gi_wp2_with (refine ⟨trivial, ?_⟩; gi_at_call 95; refine (nodes_in Fence.wide _ trivial rfl _ _ _ _ _ _ _).mono ?_; rintro e w' ⟨rfl, rfl⟩)
      obtain ⟨W2, hW2⟩ : ∃ W2, W2 = (wr.alloc (.cells #[.int .i64 x.k, .int .i64 x.n, .string x.s, .slice Ai x.l.length ci] 25)).alloc (.cells #[.int .i64 x.k, .int .i64 x.n, .string x.s, .slice Ai x.l.length ci] 25) := ⟨_, rfl⟩
      have hB2 : Below wr.heap.size wr W2 := by rw [hW2]; exact ((Below.refl _ _).alloc (Nat.le_refl _) _).alloc (by simp) _
      have hbox : Blk W2 (wr.heap.size + 1) 25 #[.int .i64 x.k, .int .i64 x.n, .string x.s, .slice Ai x.l.length ci] := by
        rw [hW2]
        have := Blk.new (wr.alloc (.cells #[.int .i64 x.k, .int .i64 x.n, .string x.s, .slice Ai x.l.length ci] 25)) 25 #[.int .i64 x.k, .int .i64 x.n, .string x.s, .slice Ai x.l.length ci]
        rwa [World.size_alloc] at this
      have hg2 : wr.grownBy W2 none := by
        rw [hW2]; exact (only_alloc (only_of_below (Below.refl _ _) none |> fun h => only_alloc h _) _)
      have hVr := HV.out
      have hsr : w.heap.size + 3 ≤ wr.heap.size := by
        have h1 := hVr.1.2.1.lt
        omega
      have hs2 : wr.heap.size + 2 = W2.heap.size := by rw [hW2]; simp
      have hV2 : VInv w (varsFrom [] (Tm.pres (l.take k))) W2 := vinv_own (β := Unit) w hsr (fun _ => varsFrom [] (Tm.pres (l.take k))) () _ _ none hVr hg2 (fun r e => by cases e)
      have hM2 : Marks (w.heap.size + 3) W2 ds := HM.out.keep fun D _ _ h => (hB2.block D (Array.getElem?_eq_some_iff.1 h).1).trans h
      have hml : ∀ d ∈ ds, ∃ D, d.target = .collected D ∧ D < W2.heap.size := hM2.lt
      rw [← hW2]
      clear hW2 hg2 hVr
      have hseq := nodes_stops Fence.wide rfl (5 - 1) trivial trivial rfl (wr.heap.size + 1) w.heap.size w xe W2 (by omega) hV2.2 (by rw [hxe]; exact hbox)
      rw [hxe] at hseq
      refine wpIn_rangeFunc_ownH rfl (by decide) (gf := 134) (lb := #[.pointer (some ⟨wr.heap.size + 1, 0, none⟩)]) rfl trivial (enters_of Try.func134 (by kernel_rfl) rfl) hseq KpT.trans (fun W l o o' h1 h2 h3 h4 => kpT_b (B := W2.heap.size) (by omega) W l o o' h1 h2 h3 h4) (Below.refl _ _) (fun _ => rfl)
        (fun ys W => VInv w (varsFrom (varsFrom [] (Tm.pres (l.take k))) (ys.map EW.tm)) W ∧ Marks (w.heap.size + 3) W ds ∧ W2.heap.size ≤ W.heap.size) (fun _ _ _ => False)
        (OwnFrom.and (vinv_own w (by omega) _) (OwnFrom.and (marks_own hml) (fun _ _ _ _ hs hg _ => Nat.le_trans hs hg.size))) (fun _ _ _ _ _ hs _ _ => hs) ⟨hV2, hM2, Nat.le_refl _⟩
        (fun y a' W => ∃ Bx, W2.heap.size ≤ Bx ∧ Blk W Bx 25 #[.int .i64 y.1.1.k, .int .i64 y.1.1.n, .string y.1.1.s, .slice y.1.2.1 y.1.1.l.length y.1.2.2] ∧ a' = { tmps := #[.slice (some ⟨g, off, none⟩) l.length c, undef, .slice none 0 0, .pointer (some ⟨w.heap.size, 0, none⟩), .pointer (some ⟨w.heap.size + 1 + 1, 0, none⟩), undef, .pointer (some ⟨wr.heap.size, 0, none⟩), .pointer (some ⟨Bx, 0, none⟩), .map (some (w.heap.size + 1)), .slice (some ⟨g, off, none⟩) l.length c, .int .i64 l.length, .int .i64 k, .bool true, .pointer (some ⟨g, off + k * 4, none⟩), .agg #[.int .i64 x.k, .int .i64 x.n, .string x.s, .slice Ai x.l.length ci], .agg #[.int .i64 x.k, .int .i64 x.n, .string x.s, .slice Ai x.l.length ci], .func (.func 134) #[] #[.pointer (some ⟨wr.heap.size + 1, 0, none⟩)], .agg #[.int .i64 y.1.1.k, .int .i64 y.1.1.n, .string y.1.1.s, .slice y.1.2.1 y.1.1.l.length y.1.2.2], undef, undef, undef, undef, undef, undef, undef, undef, undef, undef, undef, undef, undef, undef, undef, undef, undef, undef, u36, undef], defers := [] })
        (fun y a' _ X Y row hs hg hr => by
          obtain ⟨Bx, h1, h2, h3⟩ := hs
          exact ⟨Bx, h1, h2.grown hg (fun e => by
            obtain ⟨-, o, ho, hc⟩ := hr _ e.symm
            rw [show X.heap[Bx]? = _ from h2] at ho
            injection ho with ho; subst ho; simp [Obj.isCells] at hc), h3⟩)
        ?assign ?body ?done ?stop
      case assign =>
        rintro l2 pre y W K ⟨hV, hM, hS⟩ hK
        simp only [EW.encs]
        gi_wp2
        have hsW := hV.1.2.1.lt
        exact hK _ _ ((KeepsOthers.alloc _ _).from _) (KpT.alloc (by omega) _) ⟨vinv_own (B := W.heap.size) (β := Unit) w (by omega) (fun _ => _) () _ _ none hV (World.grownBy_alloc W _ none) (fun r e => by cases e), hM.keep fun D _ _ h => (Below.heap_alloc W _ D (Array.getElem?_eq_some_iff.1 h).1).trans h, Nat.le_trans hS (by simp)⟩ ⟨W.heap.size, hS, Blk.new _ _ _, rfl⟩
      case body =>
        rintro l2 pre y a' W hl ⟨r, hr⟩ ⟨hV, hM, hS⟩ ⟨Bx, hBx, hbx, rfl⟩ hlt
        obtain ⟨⟨⟨v, hv, hrow, hnil⟩, hmet, D, hown, hDm, hat⟩, hB⟩ := hV
        obtain ⟨⟨x0, x1, x2, x3⟩, -⟩ := hbx.four
        obtain ⟨acc, hacc⟩ : ∃ acc, acc = varsFrom (varsFrom [] (Tm.pres (l.take k))) (pre.map EW.tm) := ⟨_, rfl⟩
        have hstep : varsFrom (varsFrom [] (Tm.pres (l.take k))) ((pre ++ [y]).map EW.tm) = varsAcc acc y.1.1 := by
          rw [List.map_append, varsFrom_append, ← hacc]; rfl
        rw [← hacc] at hrow hnil hown hat
        have hfin : ∀ acc2 W', varsAcc acc y.1.1 = acc2 → VInv w acc2 W' → Marks (w.heap.size + 3) W' ds → W2.heap.size ≤ W'.heap.size →
            VInv w (varsFrom (varsFrom [] (Tm.pres (l.take k))) ((pre ++ [y]).map EW.tm)) W' ∧ Marks (w.heap.size + 3) W' ds ∧ W2.heap.size ≤ W'.heap.size := fun acc2 W' h1 h2 h3 h4 => ⟨by rw [hstep, h1]; exact h2, h3, h4⟩
        have hal : acc.length ≤ 1000000 := by
          have h1 := varsFrom_len (varsFrom [] (Tm.pres (l.take k))) (pre.map EW.tm)
          have h2 := varsFrom_len [] (Tm.pres (l.take k))
          rw [← hacc, List.length_map] at h1
          rw [Tm.pres_len] at h2
          have h3 := sizes_take_le (k + 1) l
          rw [Hts.out, sizes_append] at h3
          simp only [Tm.sizes, Nat.add_zero, List.length_nil, Nat.zero_add] at h2 h3
          have h5 : pre.length < x.size := hlt
          omega
        clear hstep hacc
        have cv := hv.cell
        have cm := hmet.cell
        by_cases hk1 : y.1.1.k = 1
        · have hwf := var_wf y.2.1 hk1
          have hlook := MapB.lookup ⟨D, hown, hDm, hat⟩ hwf
          by_cases hmem : y.1.1.n ∈ acc
          · rw [decide_eq_true hmem] at hlook
            have hs2 : varsAcc acc y.1.1 = acc := by unfold varsAcc; rw [if_neg (by simp [hmem])]
            rw [hk1] at x0
            gi_wp2
            exact ⟨KeepsFrom.refl _ _, KpT.refl _ _, hfin acc W hs2 ⟨⟨⟨v, hv, hrow, hnil⟩, hmet, D, hown, hDm, hat⟩, hB⟩ hM hS⟩
          · rw [decide_eq_false hmem] at hlook
            have hs2 : varsAcc acc y.1.1 = acc ++ [y.1.1.n] := by unfold varsAcc; rw [if_pos ⟨hk1, hmem⟩]
            rw [hk1] at x0
            gi_wp2_with (first
              | (gi_at_mapUpdate; refine wpListIn_mapUpdate_own _ rfl _ _ _ 62 rfl 3 4 (Maps.int_keyed Try.underlying3) Try.underlying62 _ (w.heap.size + 1) acc.length _ rfl hown (by simp [maxLen]; omega) _ _ _ rfl rfl (Maps.keyOf_int_mk Try.underlying3 hwf) _ [] (plainElem_bool Try.underlying4 true) ?_; intro w1 hown1 hgrow1; obtain ⟨hv1, hrow1, hmet1, hB1, hkp1, hkf1, hbk1⟩ := vars_step1 (B := W2.heap.size) (by omega) hv hrow hmet ⟨D, hown, hDm, hat⟩ hB hgrow1; have hbx1 := hbk1 _ _ hbx; obtain ⟨⟨z0, z1, z2, z3⟩, -⟩ := hbx1.four; have cv1 := hv1.cell; have cm1 := hmet1.cell; have hM1 := MapB.put hown1 hDm hat)
              | (gi_at_builtin; refine wpListIn_append_own _ rfl _ _ 39 rfl w.heap.size 3 i0 (.int .i64 0) 1 8 Try.underlying39 hi hz0 hz1 hz2 rfl (by decide) _ _ _ rfl (hrow1.alloc _) ⟨w1.heap.size, 0, none⟩ 1 1 [.int .i64 y.1.1.n] rfl rfl (cell_one_new _ _ _) (by simp [Value.oneCell']) (by simp [maxLen]; omega) (by omega) (by have := hB1.size; simp; omega) ?_; intro v' w2 hown' hgrow _; obtain ⟨g', cap', rfl⟩ := ownsRow_succ hown'; obtain ⟨hv2, hv3, hr3, hk3, hb3⟩ := hv1.appended (by decide) hrow1 hB1.size (Nat.le_refl _) hown' hgrow; have hc2 := hv2.cell; have hf2 := hv2.frozen))
            obtain ⟨hmet3, hM3, hbk3⟩ := vars_step2 (v' := .slice (some ⟨g', 0, none⟩) (acc.length + 1) cap') hv1 hrow1 hmet1 hM1 hgrow hv2
            refine ⟨hkf1.trans (hk3.from _), hkp1.trans ⟨hb3, hbk3⟩, hfin _ _ hs2 ⟨⟨⟨_, hv3, by simpa using hr3, by simp⟩, hmet3, hM3⟩, hB1.trans hb3⟩ (hM.keep fun D hD _ h => ?_) (Nat.le_trans hS (Nat.le_trans hkp1.1.size hb3.size))⟩
            refine hk3.same D _ ((hgrow1.block D (Array.getElem?_eq_some_iff.1 h).1 (fun e => ?_)).trans h) rfl
            have : D = w.heap.size + 1 := by simpa using e
            omega
        · have hs2 : varsAcc acc y.1.1 = acc := by unfold varsAcc; rw [if_neg (by simp [hk1])]
          have hkb : (y.1.1.k == 1) = false := by simpa using hk1
          gi_wp2
          exact ⟨KeepsFrom.refl _ _, KpT.refl _ _, hfin acc W hs2 ⟨⟨⟨v, hv, hrow, hnil⟩, hmet, D, hown, hDm, hat⟩, hB⟩ hM hS⟩
      case done =>
        rintro D ys W hD hys ⟨hV, hM, hS⟩ hK
        simp only at hys
        rw [hys] at hV
        have hnx : varsFrom (varsFrom [] (Tm.pres (l.take k))) x.pre = varsFrom [] (Tm.pres (l.take (k + 1))) := by rw [← varsFrom_append, Hts.out, Tm.pres_append]; simp [Tm.pres]
        rw [hnx] at hV
        have HV3 := Lib.hid hV
        have hM3 : Marks (w.heap.size + 3) W ({ target := .collected D, args := #[] } :: ds) := ⟨⟨D, rfl, by omega, hK, fun e he h => by
          obtain ⟨E, h1, h2⟩ := hml e he
          rw [h] at h1; injection h1 with h1; omega⟩, hM⟩
        have HM3 := Lib.hid hM3
        clear hV hM hM3 hnx hys
        gi_wp2
        refine ⟨⟨k + 1, by omega, HV3, by omega⟩, ?_⟩
        simp [intOf]; omega
      case stop =>
        rintro D c pre W _ _ h _
        exact h.elim
    · have hke : k = l.length := by omega
      subst hke
      obtain ⟨⟨⟨v, hv, hrow, hnil⟩, hmet, hmap⟩, hB⟩ := HV.out
      have cv := hv.cell
      rw [List.take_length] at hrow hnil
      have Hr := Lib.hid hrow
      have Hn := Lib.hid hnil
      have HB := Lib.hid hB
      clear hv hrow hnil hmet hmap hB HV
      gi_wp2
      refine leaves_marks (N := w.heap.size + 3) (fun W => W.ownsRow w.heap.size 3 1 v (varsFrom [] (Tm.pres l)).length ((varsFrom [] (Tm.pres l)).map (Value.int .i64)) ∧ Below w.heap.size w W) ?_ ?_ ds wr HM.out ⟨Hr.out, HB.out⟩
      · rintro W D ⟨h1, h2⟩ hD hk
        exact ⟨ownsRow_putObj h1 _ hk rfl, h2.trans (Below.putObj_ (B := w.heap.size) (Nat.le_refl _) W D (.deferred none) (.deferred none) (by omega))⟩
      · rintro W ⟨h1, h2⟩
        exact ⟨_, results_tmp rfl _ _ _, v, rfl, h1, Hn.out, h2⟩
end Go.Proofs.Ytfhgknmkpegpbaa

set_option linter.unusedVariables false
set_option linter.unusedSimpArgs false
namespace Go.Proofs.Ytfhgknmkpegpbaa
open Go.RowKit

theorem empty_toList : Tm.zero.s.toList = [] := by
  show ByteArray.toList.loop _ 0 [] = []
  rw [ByteArray.toList.loop]
  rfl
def freeB (t : Tm) : Bool := if t.k = 0 ∧ t.n = 0 ∧ t.s.toList = [] ∧ t.l = [] then true else false
theorem freeB_iff {t : Tm} : freeB t = true ↔ t = Tm.zero := by
  unfold freeB
  constructor
  · intro h
    split at h
    · rename_i h1
      obtain ⟨h1, h2, h3, h4⟩ := h1
      refine Tm.ext h1 h2 (bytes_ext (by rw [h3]; exact empty_toList.symm)) h4
    · cases h
  · rintro rfl
    rw [if_pos ⟨rfl, rfl, empty_toList, rfl⟩]

set_option maxRecDepth 100000 in
set_option maxHeartbeats 4000000 in
theorem free_calls (t : Tm) (P : Nat → Prop) (w : World) (v : Value) (hv : TmV P w v t) : Calls Try.prog 98 #[v] w (RetB w (freeB t)) := by
  obtain ⟨A, c, rfl, hs, hc⟩ := hv
  have hlc := hc.len.1
  have hlm := hc.len.2.1
  have hB0 : Below w.heap.size w (w.alloc (.cells #[.int .i64 t.k, .int .i64 t.n, .string t.s, .slice A t.l.length c] 25)) := (Below.refl _ _).alloc (Nat.le_refl _) _
  have HB0 := Lib.hid hB0; clear hB0 hc
  by_cases h1 : t.k = 0
  case neg =>
    have Hr := Lib.hid (show freeB t = false from by unfold freeB; rw [if_neg (fun h => h1 h.1)])
    have d1 : (t.k == 0) = false := by simpa using h1
    go_enter Try.func98, Try.ntmps98
    go_wp2
    go_ret
    exact ⟨by rw [Hr.out]; rfl, HB0.out⟩
  have d1 : (t.k == 0) = true := by simpa using h1
  have H1 := Lib.hid h1; clear h1
  by_cases h2 : t.n = 0
  case neg =>
    have Hr := Lib.hid (show freeB t = false from by unfold freeB; rw [if_neg (fun h => h2 h.2.1)])
    have d2 : (t.n == 0) = false := by simpa using h2
    go_enter Try.func98, Try.ntmps98
    go_wp2
    go_ret
    exact ⟨by rw [Hr.out]; rfl, HB0.out⟩
  have d2 : (t.n == 0) = true := by simpa using h2
  have H2 := Lib.hid h2; clear h2
  by_cases h3 : t.s.toList = []
  case neg =>
    have Hr := Lib.hid (show freeB t = false from by unfold freeB; rw [if_neg (fun h => h3 h.2.2.1)])
    go_enter Try.func98, Try.ntmps98
    go_wp2
    go_ret
    exact ⟨by rw [Hr.out]; rfl, HB0.out⟩
  by_cases h4 : t.l = []
  case neg =>
    have Hr := Lib.hid (show freeB t = false from by unfold freeB; rw [if_neg (fun h => h4 h.2.2.2)])
    have h5 : t.l.length ≠ 0 := by intro e; exact h4 (List.length_eq_zero_iff.1 e)
    have d4 : ((t.l.length : Int) == 0) = false := by simpa using h4
    go_enter Try.func98, Try.ntmps98
    go_wp2
    go_ret
    exact ⟨by rw [Hr.out]; rfl, HB0.out⟩
  have Hr := Lib.hid (show freeB t = true from by unfold freeB; rw [if_pos ⟨H1.out, H2.out, h3, h4⟩])
  have d4 : ((t.l.length : Int) == 0) = true := by rw [h4]; rfl
  clear h4
  go_enter Try.func98, Try.ntmps98
  go_wp2
  go_ret
  exact ⟨by rw [Hr.out]; rfl, HB0.out⟩

/-- A result that is a tree and an error. -/
def RetME (w : World) (r : Option Tm) (er : Int) (e : Ending) (w' : World) : Prop :=
  ∃ A c, e = .returned (.tuple #[.agg #[.int .i64 (r.getD Tm.zero).k, .int .i64 (r.getD Tm.zero).n, .string (r.getD Tm.zero).s, .slice A (r.getD Tm.zero).l.length c], .int .i64 (if r.isSome then 0 else er)]) ∧ (r.getD Tm.zero).s.size ≤ 9223372036854775807 ∧ TmC (w.heap.size ≤ ·) w' A c (r.getD Tm.zero).l ∧ Below w.heap.size w w'

set_option maxRecDepth 100000 in
set_option maxHeartbeats 4000000 in
theorem limited_calls (t : Tm) (P : Nat → Prop) (w : World) (v : Value) (hv : TmV P w v t) : Calls Try.prog 104 #[v] w (RetME w (if isB t = true then some t else none) 2) := by
  obtain ⟨A, c, rfl, hs, hc⟩ := hv
  obtain ⟨W0, hW0⟩ : ∃ W0, W0 = (w.alloc (.cells #[.int .i64 t.k, .int .i64 t.n, .string t.s, .slice A t.l.length c] 25)).alloc (.cells #[.int .i64 0, .int .i64 0, .string ⟨#[]⟩, .slice none 0 0] 25) := ⟨_, rfl⟩
  have hB0 : Below w.heap.size w W0 := by rw [hW0]; exact ((Below.refl _ _).alloc (Nat.le_refl _) _).alloc (by simp) _
  have hX0 : Blk W0 w.heap.size 25 #[.int .i64 t.k, .int .i64 t.n, .string t.s, .slice A t.l.length c] := by rw [hW0]; exact (Blk.new w 25 _).alloc _
  have hY0 : Blk W0 (w.heap.size + 1) 25 #[.int .i64 0, .int .i64 0, .string ⟨#[]⟩, .slice none 0 0] := by
    rw [hW0]
    have := Blk.new (w.alloc (.cells #[.int .i64 t.k, .int .i64 t.n, .string t.s, .slice A t.l.length c] 25)) 25 #[.int .i64 0, .int .i64 0, .string ⟨#[]⟩, .slice none 0 0]
    rwa [World.size_alloc] at this
  have ly0 := hY0.lt
  have hc0 := hc.stay hB0 (Nat.le_refl _)
  have hcall := check_calls t P W0 _ ⟨A, c, rfl, hs, hc0⟩
  obtain ⟨b, hb⟩ : ∃ b, b = isB t := ⟨_, rfl⟩
  rw [← hb] at hcall ⊢
  obtain ⟨r, hr⟩ : ∃ r, r = (if b = true then some t else none) := ⟨_, rfl⟩
  rw [← hr]
  have Hrr := Lib.hid hr; clear hr
  have Hcall := Lib.hid hcall; clear hcall
  have Hc := Lib.hid hc0; clear hc hc0
  have HX0 := Lib.hid hX0; clear hX0
  have HY0 := Lib.hid hY0; clear hY0
  have HB0 := Lib.hid hB0; clear hB0
  have HW := Lib.hid hW0; clear hW0
  have Hb := Lib.hid hb; clear hb
  go_enter Try.func104, Try.ntmps104
  go_wp2_with fail
  rw [← HW.out]
  go_wp2_with fail
  refine Hcall.out.mono ?_
  rintro e w1 ⟨rfl, hb1⟩
  have hX1 := HX0.out.below hb1 HX0.out.lt
  have hY1 := HY0.out.below hb1 ly0
  obtain ⟨⟨a0, a1, a2, a3⟩, -⟩ := hX1.four
  obtain ⟨⟨d0, d1, d2, d3⟩, ⟨g0, g1, g2, g3⟩⟩ := hY1.four
  have HX1 := Lib.hid hX1; clear hX1
  have HY1 := Lib.hid hY1; clear hY1
  have Hc1 := Lib.hid (Hc.out.stay hb1 (Nat.le_refl _))
  have HB1 := Lib.hid (HB0.out.trans (hb1.mono HB0.out.size)); clear hb1
  cases b
  · have he : (errT false != 0) = true := rfl
    have hr := Hrr.out
    rw [if_neg (by simp)] at hr
    subst hr
    go_wp2
    have hF := ((((HY1.out.set_ 0 (.int .i64 0)).set_ 1 (.int .i64 0)).set_ 2 (.string ⟨#[]⟩)).set_ 3 (.slice none 0 0))
    have hBF := ((((HB1.out.setCell (p := ⟨w.heap.size + 1, 0, none⟩) (by simp) (.int .i64 0)).setCell (p := ⟨w.heap.size + 1, 1, none⟩) (by simp) (.int .i64 0)).setCell (p := ⟨w.heap.size + 1, 2, none⟩) (by simp) (.string ⟨#[]⟩)).setCell (p := ⟨w.heap.size + 1, 3, none⟩) (by simp) (.slice none 0 0))
    obtain ⟨⟨q0, q1, q2, q3⟩, -⟩ := hF.four
    refine bodyPost_ret (v := .tuple #[.agg #[.int .i64 0, .int .i64 0, .string ⟨#[]⟩, .slice none 0 0], .int .i64 2]) ?_ rfl (R := RetME w none 2) ⟨none, 0, rfl, by decide, TmC.nil _ _ (by omega) (fun _ => rfl), hBF⟩
    generalize (World.setCell _ ⟨w.heap.size + 1, 3, none⟩ _) = WF at q0 q1 q2 q3 ⊢
    clear hF hBF
    simp [results, Try.results104, go_sem, q0, q1, q2, q3]
  · have he : (errT true != 0) = false := rfl
    have hr := Hrr.out
    rw [if_pos rfl] at hr
    subst hr
    have hsz : t.size ≤ 1000000 := by have := (isB_iff.1 Hb.out.symm).2.1; omega
    have hcall := copied_calls t P w1 _ ⟨A, c, rfl, hs, Hc1.out⟩ hsz
    have Hcall2 := Lib.hid hcall; clear hcall Hcall
    go_wp2_with fail
    refine Hcall2.out.mono ?_
    rintro e w2 ⟨A2, c2, rfl, -, hx2, hb2⟩
    have hY2 := HY1.out.below hb2 HY1.out.lt
    obtain ⟨⟨d0, d1, d2, d3⟩, ⟨g0, g1, g2, g3⟩⟩ := hY2.four
    have HY2 := Lib.hid hY2; clear hY2
    have H2 := Lib.hid hx2; clear hx2
    have HB2 := Lib.hid (HB1.out.trans (hb2.mono HB1.out.size)); clear hb2
    go_wp2
    have hsz1 := HB1.out.size
    have hlw1 : w.heap.size + 1 < w1.heap.size := HY1.out.lt
    have hF := ((((HY2.out.set_ 0 (.int .i64 t.k)).set_ 1 (.int .i64 t.n)).set_ 2 (.string t.s)).set_ 3 (.slice A2 t.l.length c2))
    have hBF := ((((HB2.out.setCell (p := ⟨w.heap.size + 1, 0, none⟩) (by simp) (.int .i64 t.k)).setCell (p := ⟨w.heap.size + 1, 1, none⟩) (by simp) (.int .i64 t.n)).setCell (p := ⟨w.heap.size + 1, 2, none⟩) (by simp) (.string t.s)).setCell (p := ⟨w.heap.size + 1, 3, none⟩) (by simp) (.slice A2 t.l.length c2))
    obtain ⟨⟨q0, q1, q2, q3⟩, -⟩ := hF.four
    have hT := ((((H2.out.setCell ⟨w.heap.size + 1, 0, none⟩ (.int .i64 t.k) (fun g h e => by simp at e; omega)).setCell ⟨w.heap.size + 1, 1, none⟩ (.int .i64 t.n) (fun g h e => by simp at e; omega)).setCell ⟨w.heap.size + 1, 2, none⟩ (.string t.s) (fun g h e => by simp at e; omega)).setCell ⟨w.heap.size + 1, 3, none⟩ (.slice A2 t.l.length c2) (fun g h e => by simp at e; omega))
    refine bodyPost_ret (v := .tuple #[.agg #[.int .i64 t.k, .int .i64 t.n, .string t.s, .slice A2 t.l.length c2], .int .i64 0]) ?_ rfl (R := RetME w (some t) 2) ⟨A2, c2, rfl, hs, hT.mono (fun g h => by omega), hBF⟩
    generalize (World.setCell _ ⟨w.heap.size + 1, 3, none⟩ _) = WF at q0 q1 q2 q3 ⊢
    clear hF hT hBF
    simp [results, Try.results104, go_sem, q0, q1, q2, q3]
end Go.Proofs.Ytfhgknmkpegpbaa
