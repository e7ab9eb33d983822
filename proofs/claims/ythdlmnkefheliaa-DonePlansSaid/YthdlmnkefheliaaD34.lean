import Derived.Test.YthdlmnkefheliaaD32
import Derived.Test.YthdlmnkefheliaaP4
import Derived.IntWalk
set_option linter.unusedVariables false
set_option linter.unusedSimpArgs false
namespace Go.Proofs.Ythdlmnkefheliaa
open Go.RowKit

theorem containsHr (b : Bool) (fid : Nat) (q : Int × Int → Bool) (xs : List (Int × Int)) (A : Option Addr) (c : Nat) (w : World) (hb : xs.any q = b) (hlen : xs.length ≤ 100000) (hr : Rd w A (xs.flatMap encH))
    (hcf : ∀ args w, Sem.run Try.prog (callFunc fid args) w = .ok (.enter fid args) w) (hf : ∀ x w1, Calls Try.prog fid #[.agg #[.int .i64 x.1, .int .i64 x.2]] w1 fun e w' => e = .returned (.bool (q x)) ∧ Below w1.heap.size w1 w') :
    Calls Try.prog 31 #[.slice A xs.length c, .func (.func fid) #[] #[]] w fun e w' => e = .returned (.bool b) ∧ Below w.heap.size w w' := by
  subst hb; exact containsFuncH fid #[] q xs A c w hlen hr hcf (fun w1 x _ _ => hf x w1)
theorem containsLr (b : Bool) (fid : Nat) (q : Int × Int × Int → Bool) (xs : List (Int × Int × Int)) (A : Option Addr) (c : Nat) (w : World) (hb : xs.any q = b) (hlen : xs.length ≤ 100000) (hr : Rd w A (xs.flatMap encL))
    (hcf : ∀ args w, Sem.run Try.prog (callFunc fid args) w = .ok (.enter fid args) w) (hf : ∀ x w1, Calls Try.prog fid #[.agg #[.int .i64 x.1, .int .i64 x.2.1, .int .i64 x.2.2]] w1 fun e w' => e = .returned (.bool (q x)) ∧ Below w1.heap.size w1 w') :
    Calls Try.prog 54 #[.slice A xs.length c, .func (.func fid) #[] #[]] w fun e w' => e = .returned (.bool b) ∧ Below w.heap.size w w' := by
  subst hb; exact containsFuncL fid #[] q xs A c w hlen hr hcf (fun w1 x _ _ => hf x w1)
theorem ThrV.rds {w : World} {A1 A2 : Option Addr} {n1 n2 c1 c2 : Nat} {a b : Int} {e : Bool} {t : Thr} (h : ThrV w (.agg #[.int .i64 a, .int .i64 b, .slice A1 n1 c1, .slice A2 n2 c2, .bool e]) t) : Rd w A1 (t.procs.flatMap encH) ∧ Rd w A2 (t.mail.flatMap encL) := by
  obtain ⟨B1, d1, B2, d2, hv, _, _, h3, _, _, h6⟩ := h
  simp only [Value.agg.injEq, Array.mk.injEq, List.cons.injEq, Value.slice.injEq] at hv
  obtain ⟨-, -, ⟨rfl, -, -⟩, ⟨rfl, -, -⟩, -⟩ := hv
  exact ⟨h3, h6⟩
def RetQ (r : Bool × Int) (w : World) (e : Ending) (w' : World) : Prop := e = .returned (.tuple #[.bool r.1, .int .i64 r.2]) ∧ Below w.heap.size w w'
set_option maxRecDepth 100000 in
set_option maxHeartbeats 4000000 in
theorem quiet_calls (t : Thr) (v : Value) (w : World) (hv : ThrV w v t) (hl : t.Lens) : Calls Try.prog 40 #[v] w (RetQ (quietM t) w) := by
  have hv0 := hv
  obtain ⟨gr, ou, ps, ms, en⟩ := t
  obtain ⟨A1, c1, A2, c2, rfl, k1, k2, k3, k4, k5, k6⟩ := hv
  clear k1 k2 k3 k4 k5 k6
  simp only at hv0 ⊢
  obtain ⟨hl1, hl2⟩ := hl
  simp only at hl1 hl2
  obtain ⟨W0, hW0⟩ : ∃ W0, W0 = w.alloc (.cells #[.int .i64 gr, .int .i64 ou, .slice A1 ps.length c1, .slice A2 ms.length c2, .bool en] 25) := ⟨_, rfl⟩
  have hB0 : Below w.heap.size w W0 := by rw [hW0]; exact (Below.refl _ _).alloc (Nat.le_refl _) _
  have hbx : Blk W0 w.heap.size 25 #[.int .i64 gr, .int .i64 ou, .slice A1 ps.length c1, .slice A2 ms.length c2, .bool en] := by rw [hW0]; exact Blk.new _ _ _
  have hsz := hbx.lt
  have HV := Lib.hid (hv0.below hB0 (Nat.le_refl _)); clear hv0
  have HBX := Lib.hid hbx; clear hbx
  have HB0 := Lib.hid hB0; clear hB0
  have HW := Lib.hid hW0; clear hW0
  obtain ⟨r, hr⟩ : ∃ r, r = quietM ⟨gr, ou, ps, ms, en⟩ := ⟨_, rfl⟩
  rw [← hr]
  obtain ⟨rb, rn⟩ := r
  by_cases hok : Thr.ok ⟨gr, ou, ps, ms, en⟩ = true
  case neg =>
    rw [quietM, if_neg hok] at hr
    simp only [Prod.mk.injEq] at hr
    obtain ⟨rfl, rfl⟩ := hr
    have hck := Thr.check_f hok
    have Hck := Lib.hid hck; clear hck hok
    go_enter Try.func40, Try.ntmps40
    go_wp2_with fail
    rw [← HW.out]
    refine (checkr_calls 280 ⟨gr, ou, ps, ms, en⟩ _ _ Hck.out HV.out ⟨hl1, hl2⟩).mono ?_
    rintro e w1 ⟨rfl, hb1⟩
    have Hb1 := Lib.hid (HB0.out.trans (hb1.mono HB0.out.size)); clear hb1
    go_wp2
    go_ret2
    exact ⟨rfl, Hb1.out⟩
  rw [quietM, if_pos hok] at hr
  simp only [Prod.mk.injEq] at hr
  obtain ⟨hrb, rfl⟩ := hr
  have hck := Thr.check_t hok
  have Hck := Lib.hid hck; clear hck hok
  go_enter Try.func40, Try.ntmps40
  go_wp2_with fail
  rw [← HW.out]
  refine (checkr_calls 0 ⟨gr, ou, ps, ms, en⟩ _ _ Hck.out HV.out ⟨hl1, hl2⟩).mono ?_
  rintro e w1 ⟨rfl, hb1⟩
  have HV1 := Lib.hid (HV.out.below hb1 (Nat.le_refl _))
  have HBX1 := Lib.hid (HBX.out.below hb1 hsz)
  have Hb1 := Lib.hid (HB0.out.trans (hb1.mono HB0.out.size)); clear hb1
  obtain ⟨⟨b0, b1, b2, b3, b4⟩, -⟩ := HBX1.out.five
  have hsz1 := HBX1.out.lt
  obtain ⟨qa, hqa⟩ : ∃ qa, ps.any (fun x => decide (0 < x.1)) = qa := ⟨_, rfl⟩
  have Hqa := Lib.hid hqa
  go_wp2_with fail
  refine (containsHr qa 75 _ ps A1 c1 _ Hqa.out hl1 HV1.out.rds.1 cf75 f75_calls).mono ?_
  rintro e w2 ⟨rfl, hb2⟩
  have HV2 := Lib.hid (HV1.out.below hb2 (Nat.le_refl _))
  have HBX2 := Lib.hid (HBX1.out.below hb2 hsz1)
  have Hb2 := Lib.hid (Hb1.out.trans (hb2.mono Hb1.out.size)); clear hb2
  clear b0 b1 b2 b3 b4
  obtain ⟨⟨b0, b1, b2, b3, b4⟩, -⟩ := HBX2.out.five
  have hsz2 := HBX2.out.lt
  cases qa
  · obtain ⟨qb, hqb⟩ : ∃ qb, ms.any (fun l => l.1 == 1) = qb := ⟨_, rfl⟩
    have hrb2 : rb = !qb := by rw [hrb, quietB]; simp only [hqa, hqb, Bool.not_false, Bool.true_and]
    have Hqb := Lib.hid hqb
    clear hqa hqb hrb
    subst hrb2
    go_wp2_with fail
    refine (containsLr qb 76 _ ms A2 c2 _ Hqb.out hl2 HV2.out.rds.2 cf76 f76_calls).mono ?_
    rintro e w3 ⟨rfl, hb3⟩
    have Hb3 := Lib.hid (Hb2.out.trans (hb3.mono Hb2.out.size)); clear hb3
    go_wp2
    go_ret2
    exact ⟨rfl, Hb3.out⟩
  · have hrb2 : rb = false := by rw [hrb, quietB]; simp only [hqa, Bool.not_true, Bool.false_and]
    clear hqa hrb
    subst hrb2
    go_wp2
    go_ret2
    exact ⟨rfl, Hb2.out⟩

/-- A state in a variable, whoever owns its lists. -/
def BoxV (w : World) (b : Nat) (t : Thr) : Prop := ∃ A1 c1 A2 c2, Blk w b 25 #[.int .i64 t.grain, .int .i64 t.out, .slice A1 t.procs.length c1, .slice A2 t.mail.length c2, .bool t.ended] ∧
  ThrV w (.agg #[.int .i64 t.grain, .int .i64 t.out, .slice A1 t.procs.length c1, .slice A2 t.mail.length c2, .bool t.ended]) t
theorem BoxV.below {w w1 : World} {b B1 : Nat} {t : Thr} (h : BoxV w b t) (hb : Below B1 w w1) (hB : w.heap.size ≤ B1) : BoxV w1 b t := by
  obtain ⟨A1, c1, A2, c2, h1, h2⟩ := h
  exact ⟨A1, c1, A2, c2, h1.below (hb.mono hB) h1.lt, h2.below hb hB⟩
theorem BoxV.lt {w : World} {b : Nat} {t : Thr} (h : BoxV w b t) : b < w.heap.size := by
  obtain ⟨_, _, _, _, h1, _⟩ := h; exact h1.lt
theorem choice_eq (c : Int) (n : Nat) (h : 0 < n) : (c.tmod n + n).tmod n = c % (n : Int) := by
  have h1 : -(n : Int) < c.tmod n := Int.lt_tmod_of_pos c (by omega)
  rw [Int.tmod_eq_emod_of_nonneg (by omega), Int.add_emod_right]
  rw [Int.tmod_eq_emod]
  split <;> simp
theorem tmod_bd (c : Int) (n : Nat) (h : 0 < n) : -(n : Int) < c.tmod n ∧ c.tmod n < n := ⟨Int.lt_tmod_of_pos c (by omega), Int.tmod_lt_of_pos c (by omega)⟩
end Go.Proofs.Ythdlmnkefheliaa
