/- The law's test of terms that are together small: function 26, its closure 82. -/
import Derived.Test.YtfhgknmkpegpbaaM1
import Derived.Test.YtfhgknmkpegpbaaM3
import Derived.Test.YtfhgknmkpegpbaaM4
set_option linter.unusedVariables false
set_option linter.unusedSimpArgs false
namespace Go.Proofs.Ytfhgknmkpegpbaa
open Go.RowKit

set_option maxRecDepth 100000 in
set_option maxHeartbeats 4000000 in
theorem notIs_calls (t : Tm) (P : Nat → Prop) (w : World) (v : Value) (hv : TmV P w v t) (hsz : t.size ≤ 1000000) : Calls Try.prog 82 #[v] w (RetB w (!isB t)) := by
  obtain ⟨A, c, rfl, hs, hc⟩ := hv
  obtain ⟨W0, hW0⟩ : ∃ W0, W0 = w.alloc (.cells #[.int .i64 t.k, .int .i64 t.n, .string t.s, .slice A t.l.length c] 25) := ⟨_, rfl⟩
  have hB0 : Below w.heap.size w W0 := by rw [hW0]; exact (Below.refl _ _).alloc (Nat.le_refl _) _
  have hX0 : Blk W0 w.heap.size 25 #[.int .i64 t.k, .int .i64 t.n, .string t.s, .slice A t.l.length c] := by rw [hW0]; exact Blk.new _ _ _
  have lx0 := hX0.lt
  have Hc := Lib.hid (hc.stay hB0 (Nat.le_refl _)); clear hc
  have HB0 := Lib.hid hB0; clear hB0
  have HW := Lib.hid hW0; clear hW0 hX0
  obtain ⟨b, hb⟩ : ∃ b, b = isB t := ⟨_, rfl⟩
  have hcall := refIs_calls t P W0 (.agg #[.int .i64 t.k, .int .i64 t.n, .string t.s, .slice A t.l.length c]) ⟨A, c, rfl, hs, Hc.out⟩ hsz
  rw [← hb] at hcall ⊢
  have Hcall := Lib.hid hcall; clear hcall hb
  go_enter Try.func82, Try.ntmps82
  go_wp2_with fail
  rw [← HW.out]
  refine Hcall.out.mono ?_
  rintro e w1 ⟨rfl, hb⟩
  have hbw := Lib.hid (HB0.out.trans (hb.mono HB0.out.size)); clear hb
  cases b
  · go_wp2
    go_ret
    exact ⟨rfl, hbw.out⟩
  · go_wp2
    go_ret
    exact ⟨rfl, hbw.out⟩

def rightB (l : List Tm) : Bool := smallB l && !l.any (fun t => !isB t)
theorem rightB_iff {l : List Tm} : rightB l = true ↔ smallB l = true ∧ ∀ t ∈ l, isB t = true := by
  simp [rightB, Bool.and_eq_true, List.any_eq_true]

set_option maxRecDepth 100000 in
set_option maxHeartbeats 4000000 in
theorem right_calls (l : List Tm) (P : Nat → Prop) (A : Option Addr) (c : Nat) (w : World) (hc : TmC P w A c l) :
    Calls Try.prog 26 #[.slice A l.length c] w (RetB w (rightB l)) := by
  have hcall := small_calls l P A c w hc
  obtain ⟨r, hr⟩ : ∃ r, r = rightB l := ⟨_, rfl⟩
  rw [← hr]
  obtain ⟨s, hs⟩ : ∃ s, s = smallB l := ⟨_, rfl⟩
  rw [← hs] at hcall
  have Hcall := Lib.hid hcall; clear hcall
  have Hc := Lib.hid hc; clear hc
  rw [rightB, ← hs] at hr
  cases s
  · have Hr := Lib.hid hr; clear hr hs
    go_enter Try.func26, Try.ntmps26
    go_wp2_with fail
    refine Hcall.out.mono ?_
    rintro e w1 ⟨rfl, hb⟩
    have HB := Lib.hid hb; clear hb
    go_wp2
    go_ret
    exact ⟨by rw [Hr.out]; rfl, HB.out⟩
  · have Hsz := Lib.hid (fun (t : Tm) (ht : t ∈ l) => smallB_size hs.symm ht); clear hs
    obtain ⟨a, ha⟩ : ∃ a, a = l.any (fun t => !isB t) := ⟨_, rfl⟩
    rw [← ha] at hr
    have Hr := Lib.hid hr; clear hr
    have Ha := Lib.hid ha; clear ha
    go_enter Try.func26, Try.ntmps26
    go_wp2_with fail
    refine Hcall.out.mono ?_
    rintro e w1 ⟨rfl, hb⟩
    have HB := Lib.hid hb; clear hb
    have hcall := containsFuncT_calls 82 (fun t => !isB t) l P A c w1 (Hc.out.stay HB.out (Nat.le_refl _)) (fun _ _ => rfl) (fun x hx W v hv => notIs_calls x P W v hv (by have := Hsz.out x hx; omega))
    rw [← Ha.out] at hcall
    have Hcall2 := Lib.hid hcall; clear hcall
    go_wp2_with fail
    refine Hcall2.out.mono ?_
    rintro e w2 ⟨rfl, hb⟩
    have HB2 := Lib.hid (HB.out.trans (hb.mono HB.out.size)); clear hb
    go_wp2
    go_ret
    exact ⟨by rw [Hr.out]; rfl, HB2.out⟩
end Go.Proofs.Ytfhgknmkpegpbaa
