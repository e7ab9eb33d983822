import Derived.Test.YthdlmnkefheliaaD1
set_option linter.unusedVariables false
set_option linter.unusedSimpArgs false
namespace Go.Proofs.Ythdlmnkefheliaa
open Go.RowKit
/-- The sum of the first k numbers that f tells. -/
def sumTo {T : Type} (f : T → Int) (xs : List T) (k : Nat) : Int := ((xs.take k).map f).sum
theorem sumTo_zero {T : Type} (f : T → Int) (xs : List T) : sumTo f xs 0 = 0 := by simp [sumTo]
theorem sumTo_succ {T : Type} (f : T → Int) (xs : List T) (k : Nat) (x : T) (h : xs[k]? = some x) : sumTo f xs (k + 1) = sumTo f xs k + f x := by
  unfold sumTo
  obtain ⟨hk, hx⟩ := List.getElem?_eq_some_iff.1 h
  rw [List.take_succ_eq_append_getElem hk, hx]
  simp
theorem sumTo_bd {T : Type} (f : T → Int) (xs : List T) (M : Int) (hM : 0 ≤ M) (h : ∀ x ∈ xs, 0 ≤ f x ∧ f x ≤ M) : ∀ k, k ≤ xs.length → 0 ≤ sumTo f xs k ∧ sumTo f xs k ≤ k * M
  | 0, _ => by rw [sumTo_zero]; simp
  | k + 1, hk => by
    obtain ⟨x, hx⟩ : ∃ x, xs[k]? = some x := ⟨_, List.getElem?_eq_getElem hk⟩
    rw [sumTo_succ f xs k x hx]
    have h1 := sumTo_bd f xs M hM h k (by omega)
    have h2 := h x (List.mem_of_getElem? hx)
    refine ⟨by omega, ?_⟩
    have : ((k + 1 : Nat) : Int) * M = k * M + M := by rw [Int.natCast_succ, Int.add_mul]; omega
    omega
theorem sumTo_all {T : Type} (f : T → Int) (xs : List T) (k : Nat) (h : k = xs.length) : sumTo f xs k = (xs.map f).sum := by subst h; simp [sumTo]

structure Thr where
  grain : Int
  out : Int
  procs : List (Int × Int)
  mail : List (Int × Int × Int)
  ended : Bool

def Thr.zero : Thr := ⟨0, 0, [], [], false⟩
def wsumL (ps : List (Int × Int)) (ms : List (Int × Int × Int)) : Int := (ps.map (fun x => x.2)).sum + (ms.map (fun x => x.2.2)).sum
def Thr.wsum (t : Thr) : Int := wsumL t.procs t.mail

/-- A value that reads as a state. -/
def ThrV (w : World) (v : Value) (t : Thr) : Prop :=
  ∃ A1 c1 A2 c2, v = .agg #[.int .i64 t.grain, .int .i64 t.out, .slice A1 t.procs.length c1, .slice A2 t.mail.length c2, .bool t.ended] ∧
    t.procs.length ≤ c1 ∧ (c1 ≤ 9223372036854775807 ∧ (A1 = none → c1 = 0)) ∧ Rd w A1 (t.procs.flatMap encH) ∧ t.mail.length ≤ c2 ∧ (c2 ≤ 9223372036854775807 ∧ (A2 = none → c2 = 0)) ∧ Rd w A2 (t.mail.flatMap encL)
theorem ThrV.below {w w1 : World} {v : Value} {t : Thr} {B : Nat} (h : ThrV w v t) (hb : Below B w w1) (hB : w.heap.size ≤ B) : ThrV w1 v t := by
  obtain ⟨A1, c1, A2, c2, hv, h1, h2, h3, h4, h5, h6⟩ := h
  exact ⟨A1, c1, A2, c2, hv, h1, h2, h3.below hb hB, h4, h5, h6.below hb hB⟩

/-- The lists are small enough to be walked. -/
def Thr.Lens (t : Thr) : Prop := t.procs.length ≤ 100000 ∧ t.mail.length ≤ 100000
/-- Weights are in their range. -/
structure Thr.Wts (t : Thr) : Prop where
  p : ∀ x ∈ t.procs, 0 ≤ x.2 ∧ x.2 ≤ 1099511627776
  m : ∀ x ∈ t.mail, 0 ≤ x.2.2 ∧ x.2.2 ≤ 1099511627776
  lp : t.procs.length ≤ 16
  lm : t.mail.length ≤ 4000

set_option maxHeartbeats 1000000 in
theorem weights_calls (t : Thr) (v : Value) (w : World) (hv : ThrV w v t) (hw : t.Wts) :
    Calls Try.prog 57 #[v] w fun e w' => e = .returned (.int .i64 t.wsum) ∧ Below w.heap.size w w' := by
  obtain ⟨A1, c1, A2, c2, rfl, h1, h2, h3, h4, h5, h6⟩ := hv
  have hlp := hw.lp
  have hlm := hw.lm
  have Hw := Lib.hid hw; clear hw
  obtain ⟨W0, hW0⟩ : ∃ W0, W0 = w.alloc (.cells #[.int .i64 t.grain, .int .i64 t.out, .slice A1 t.procs.length c1, .slice A2 t.mail.length c2, .bool t.ended] 25) := ⟨_, rfl⟩
  have hB0 : Below w.heap.size w W0 := by rw [hW0]; exact (Below.refl _ _).alloc (Nat.le_refl _) _
  have Hr1 := Lib.hid (h3.below hB0 (Nat.le_refl _)); clear h3
  have Hr2 := Lib.hid (h6.below hB0 (Nat.le_refl _)); clear h6
  have g2 : W0.cell? ⟨w.heap.size, 2, none⟩ = some (.slice A1 t.procs.length c1) := by rw [hW0]; go_simp
  have g3 : W0.cell? ⟨w.heap.size, 3, none⟩ = some (.slice A2 t.mail.length c2) := by rw [hW0]; go_simp
  have hsz : w.heap.size < W0.heap.size := by rw [hW0]; simp
  have HB0 := Lib.hid hB0; clear hB0
  have G2 := Lib.hid g2; clear g2
  have G3 := Lib.hid g3; clear g3
  have HW := Lib.hid hW0; clear hW0
  clear h1 h2 h4 h5
  go_enter Try.func57, Try.ntmps57
  go_wp2
  go_loopw [3, 11] (fun s i wr => ∃ k : Nat, k ≤ t.procs.length ∧ i = .int .i64 k ∧ s = .int .i64 (sumTo (fun x => x.2) t.procs k) ∧ Below W0.heap.size W0 wr) (fun _ i _ => t.procs.length - (intOf i).toNat)
  case atStart => exact ⟨0, Nat.zero_le _, rfl, by rw [sumTo_zero], by rw [HW.out]; exact Below.refl _ _⟩
  case round =>
    obtain ⟨k, hk, rfl, rfl, hB⟩ := hrel
    have gg2 := (hB.cell (p := ⟨w.heap.size, 2, none⟩) hsz).trans G2.out
    have gg3 := (hB.cell (p := ⟨w.heap.size, 3, none⟩) hsz).trans G3.out
    have HB := Lib.hid hB; clear hB
    have hsb := sumTo_bd (fun x : Int × Int => x.2) t.procs 1099511627776 (by omega) Hw.out.p k hk
    have hs0 : 0 ≤ sumTo (fun x => x.2) t.procs k := hsb.1
    have hs1 : sumTo (fun x => x.2) t.procs k ≤ 17592186044416 := by omega
    clear hsb
    by_cases hlt : k < t.procs.length
    · obtain ⟨x, hx⟩ : ∃ x, t.procs[k]? = some x := ⟨_, List.getElem?_eq_getElem hlt⟩
      obtain ⟨g, off, rfl, e0, e1⟩ := Rd.atH (Hr1.out.below HB.out (Nat.le_refl _)) hx
      have hx0 := (Hw.out.p x (List.mem_of_getElem? hx)).1
      have hx1 := (Hw.out.p x (List.mem_of_getElem? hx)).2
      have Hx := Lib.hid hx; clear hx
      go_wp2
      go_roundw
      case rel => exact ⟨k + 1, by omega, by go_num, by rw [sumTo_succ _ _ _ _ Hx.out], by first | exact HB.out | exact HB.out.alloc HB.out.size _⟩
      case measure => simp [intOf]; omega
    · have hke : k = t.procs.length := by omega
      subst hke
      go_wp2
      obtain ⟨W1, hW1⟩ : ∃ W1 : World, W1 = wr := ⟨_, rfl⟩
      have HW1 := Lib.hid hW1; clear hW1
      clear gg2 gg3
      go_loopw [3, 23] (fun s i wr => ∃ k : Nat, k ≤ t.mail.length ∧ i = .int .i64 k ∧ s = .int .i64 (sumTo (fun x => x.2) t.procs t.procs.length + sumTo (fun x => x.2.2) t.mail k) ∧ Below W0.heap.size W0 wr) (fun _ i _ => t.mail.length - (intOf i).toNat)
      case atStart => exact ⟨0, Nat.zero_le _, rfl, by rw [sumTo_zero, Int.add_zero], HB.out⟩
      case round =>
        obtain ⟨k, hk, rfl, rfl, hB⟩ := hrel
        have gg3 := (hB.cell (p := ⟨w.heap.size, 3, none⟩) hsz).trans G3.out
        have HB := Lib.hid hB; clear hB
        have hsb := sumTo_bd (fun x : Int × Int × Int => x.2.2) t.mail 1099511627776 (by omega) Hw.out.m k hk
        have ht0 : 0 ≤ sumTo (fun x => x.2.2) t.mail k := hsb.1
        have ht1 : sumTo (fun x => x.2.2) t.mail k ≤ 4398046511104000 := by omega
        clear hsb
        by_cases hlt : k < t.mail.length
        · obtain ⟨x, hx⟩ : ∃ x, t.mail[k]? = some x := ⟨_, List.getElem?_eq_getElem hlt⟩
          obtain ⟨g, off, rfl, e0, e1, e2⟩ := Rd.atL (Hr2.out.below HB.out (Nat.le_refl _)) hx
          have hx0 := (Hw.out.m x (List.mem_of_getElem? hx)).1
          have hx1 := (Hw.out.m x (List.mem_of_getElem? hx)).2
          have Hx := Lib.hid hx; clear hx
          go_wp2
          go_roundw
          case rel => exact ⟨k + 1, by omega, by go_num, by rw [sumTo_succ _ _ _ _ Hx.out, Int.add_assoc], by first | exact HB.out | exact HB.out.alloc HB.out.size _⟩
          case measure => simp [intOf]; omega
        · have hke : k = t.mail.length := by omega
          subst hke
          go_wp2
          go_ret
          exact ⟨by rw [Thr.wsum, wsumL, ← sumTo_all (fun x => x.2) t.procs _ rfl, ← sumTo_all (fun x => x.2.2) t.mail _ rfl]; rfl, HB0.out.trans (HB.out.mono (Nat.le_of_lt hsz))⟩

set_option maxHeartbeats 1000000 in
theorem lawWeights_calls (t : Thr) (v : Value) (w : World) (hv : ThrV w v t) (hw : t.Wts) :
    Calls Try.prog 30 #[v] w fun e w' => e = .returned (.int .i64 t.wsum) ∧ Below w.heap.size w w' := by
  obtain ⟨A1, c1, A2, c2, rfl, h1, h2, h3, h4, h5, h6⟩ := hv
  have hlp := hw.lp
  have hlm := hw.lm
  have Hw := Lib.hid hw; clear hw
  obtain ⟨W0, hW0⟩ : ∃ W0, W0 = w.alloc (.cells #[.int .i64 t.grain, .int .i64 t.out, .slice A1 t.procs.length c1, .slice A2 t.mail.length c2, .bool t.ended] 25) := ⟨_, rfl⟩
  have hB0 : Below w.heap.size w W0 := by rw [hW0]; exact (Below.refl _ _).alloc (Nat.le_refl _) _
  have Hr1 := Lib.hid (h3.below hB0 (Nat.le_refl _)); clear h3
  have Hr2 := Lib.hid (h6.below hB0 (Nat.le_refl _)); clear h6
  have g2 : W0.cell? ⟨w.heap.size, 2, none⟩ = some (.slice A1 t.procs.length c1) := by rw [hW0]; go_simp
  have g3 : W0.cell? ⟨w.heap.size, 3, none⟩ = some (.slice A2 t.mail.length c2) := by rw [hW0]; go_simp
  have hsz : w.heap.size < W0.heap.size := by rw [hW0]; simp
  have HB0 := Lib.hid hB0; clear hB0
  have G2 := Lib.hid g2; clear g2
  have G3 := Lib.hid g3; clear g3
  have HW := Lib.hid hW0; clear hW0
  clear h1 h2 h4 h5
  go_enter Try.func30, Try.ntmps30
  go_wp2
  go_loopw [3, 11] (fun s i wr => ∃ k : Nat, k ≤ t.procs.length ∧ i = .int .i64 k ∧ s = .int .i64 (sumTo (fun x => x.2) t.procs k) ∧ Below W0.heap.size W0 wr) (fun _ i _ => t.procs.length - (intOf i).toNat)
  case atStart => exact ⟨0, Nat.zero_le _, rfl, by rw [sumTo_zero], by rw [HW.out]; exact Below.refl _ _⟩
  case round =>
    obtain ⟨k, hk, rfl, rfl, hB⟩ := hrel
    have gg2 := (hB.cell (p := ⟨w.heap.size, 2, none⟩) hsz).trans G2.out
    have gg3 := (hB.cell (p := ⟨w.heap.size, 3, none⟩) hsz).trans G3.out
    have HB := Lib.hid hB; clear hB
    have hsb := sumTo_bd (fun x : Int × Int => x.2) t.procs 1099511627776 (by omega) Hw.out.p k hk
    have hs0 : 0 ≤ sumTo (fun x => x.2) t.procs k := hsb.1
    have hs1 : sumTo (fun x => x.2) t.procs k ≤ 17592186044416 := by omega
    clear hsb
    by_cases hlt : k < t.procs.length
    · obtain ⟨x, hx⟩ : ∃ x, t.procs[k]? = some x := ⟨_, List.getElem?_eq_getElem hlt⟩
      obtain ⟨g, off, rfl, e0, e1⟩ := Rd.atH (Hr1.out.below HB.out (Nat.le_refl _)) hx
      have hx0 := (Hw.out.p x (List.mem_of_getElem? hx)).1
      have hx1 := (Hw.out.p x (List.mem_of_getElem? hx)).2
      have Hx := Lib.hid hx; clear hx
      go_wp2
      go_roundw
      case rel => exact ⟨k + 1, by omega, by go_num, by rw [sumTo_succ _ _ _ _ Hx.out], by first | exact HB.out | exact HB.out.alloc HB.out.size _⟩
      case measure => simp [intOf]; omega
    · have hke : k = t.procs.length := by omega
      subst hke
      go_wp2
      obtain ⟨W1, hW1⟩ : ∃ W1 : World, W1 = wr := ⟨_, rfl⟩
      have HW1 := Lib.hid hW1; clear hW1
      clear gg2 gg3
      go_loopw [3, 23] (fun s i wr => ∃ k : Nat, k ≤ t.mail.length ∧ i = .int .i64 k ∧ s = .int .i64 (sumTo (fun x => x.2) t.procs t.procs.length + sumTo (fun x => x.2.2) t.mail k) ∧ Below W0.heap.size W0 wr) (fun _ i _ => t.mail.length - (intOf i).toNat)
      case atStart => exact ⟨0, Nat.zero_le _, rfl, by rw [sumTo_zero, Int.add_zero], HB.out⟩
      case round =>
        obtain ⟨k, hk, rfl, rfl, hB⟩ := hrel
        have gg3 := (hB.cell (p := ⟨w.heap.size, 3, none⟩) hsz).trans G3.out
        have HB := Lib.hid hB; clear hB
        have hsb := sumTo_bd (fun x : Int × Int × Int => x.2.2) t.mail 1099511627776 (by omega) Hw.out.m k hk
        have ht0 : 0 ≤ sumTo (fun x => x.2.2) t.mail k := hsb.1
        have ht1 : sumTo (fun x => x.2.2) t.mail k ≤ 4398046511104000 := by omega
        clear hsb
        by_cases hlt : k < t.mail.length
        · obtain ⟨x, hx⟩ : ∃ x, t.mail[k]? = some x := ⟨_, List.getElem?_eq_getElem hlt⟩
          obtain ⟨g, off, rfl, e0, e1, e2⟩ := Rd.atL (Hr2.out.below HB.out (Nat.le_refl _)) hx
          have hx0 := (Hw.out.m x (List.mem_of_getElem? hx)).1
          have hx1 := (Hw.out.m x (List.mem_of_getElem? hx)).2
          have Hx := Lib.hid hx; clear hx
          go_wp2
          go_roundw
          case rel => exact ⟨k + 1, by omega, by go_num, by rw [sumTo_succ _ _ _ _ Hx.out, Int.add_assoc], by first | exact HB.out | exact HB.out.alloc HB.out.size _⟩
          case measure => simp [intOf]; omega
        · have hke : k = t.mail.length := by omega
          subst hke
          go_wp2
          go_ret
          exact ⟨by rw [Thr.wsum, wsumL, ← sumTo_all (fun x => x.2) t.procs _ rfl, ← sumTo_all (fun x => x.2.2) t.mail _ rfl]; rfl, HB0.out.trans (HB.out.mono (Nat.le_of_lt hsz))⟩

set_option maxHeartbeats 1000000 in
theorem refWeights_calls (t : Thr) (v : Value) (w : World) (hv : ThrV w v t) (hw : t.Wts) :
    Calls Try.prog 59 #[v] w fun e w' => e = .returned (.int .i64 t.wsum) ∧ Below w.heap.size w w' := by
  obtain ⟨A1, c1, A2, c2, rfl, h1, h2, h3, h4, h5, h6⟩ := hv
  have hlp := hw.lp
  have hlm := hw.lm
  have Hw := Lib.hid hw; clear hw
  obtain ⟨W0, hW0⟩ : ∃ W0, W0 = w.alloc (.cells #[.int .i64 t.grain, .int .i64 t.out, .slice A1 t.procs.length c1, .slice A2 t.mail.length c2, .bool t.ended] 25) := ⟨_, rfl⟩
  have hB0 : Below w.heap.size w W0 := by rw [hW0]; exact (Below.refl _ _).alloc (Nat.le_refl _) _
  have Hr1 := Lib.hid (h3.below hB0 (Nat.le_refl _)); clear h3
  have Hr2 := Lib.hid (h6.below hB0 (Nat.le_refl _)); clear h6
  have g2 : W0.cell? ⟨w.heap.size, 2, none⟩ = some (.slice A1 t.procs.length c1) := by rw [hW0]; go_simp
  have g3 : W0.cell? ⟨w.heap.size, 3, none⟩ = some (.slice A2 t.mail.length c2) := by rw [hW0]; go_simp
  have hsz : w.heap.size < W0.heap.size := by rw [hW0]; simp
  have HB0 := Lib.hid hB0; clear hB0
  have G2 := Lib.hid g2; clear g2
  have G3 := Lib.hid g3; clear g3
  have HW := Lib.hid hW0; clear hW0
  clear h1 h2 h4 h5
  go_enter Try.func59, Try.ntmps59
  go_wp2
  go_loopw [3, 4] (fun s i wr => ∃ k : Nat, k ≤ t.procs.length ∧ i = .int .i64 k ∧ s = .int .i64 (sumTo (fun x => x.2) t.procs k) ∧ Below W0.heap.size W0 wr) (fun _ i _ => t.procs.length - (intOf i).toNat)
  case atStart => exact ⟨0, Nat.zero_le _, rfl, by rw [sumTo_zero], by rw [HW.out]; exact Below.refl _ _⟩
  case round =>
    obtain ⟨k, hk, rfl, rfl, hB⟩ := hrel
    have gg2 := (hB.cell (p := ⟨w.heap.size, 2, none⟩) hsz).trans G2.out
    have gg3 := (hB.cell (p := ⟨w.heap.size, 3, none⟩) hsz).trans G3.out
    have HB := Lib.hid hB; clear hB
    have hsb := sumTo_bd (fun x : Int × Int => x.2) t.procs 1099511627776 (by omega) Hw.out.p k hk
    have hs0 : 0 ≤ sumTo (fun x => x.2) t.procs k := hsb.1
    have hs1 : sumTo (fun x => x.2) t.procs k ≤ 17592186044416 := by omega
    clear hsb
    by_cases hlt : k < t.procs.length
    · obtain ⟨x, hx⟩ : ∃ x, t.procs[k]? = some x := ⟨_, List.getElem?_eq_getElem hlt⟩
      obtain ⟨g, off, rfl, e0, e1⟩ := Rd.atH (Hr1.out.below HB.out (Nat.le_refl _)) hx
      have hx0 := (Hw.out.p x (List.mem_of_getElem? hx)).1
      have hx1 := (Hw.out.p x (List.mem_of_getElem? hx)).2
      have Hx := Lib.hid hx; clear hx
      go_wp2
      go_roundw
      case rel => exact ⟨k + 1, by omega, by go_num, by rw [sumTo_succ _ _ _ _ Hx.out], by first | exact HB.out | exact HB.out.alloc HB.out.size _⟩
      case measure => simp [intOf]; omega
    · have hke : k = t.procs.length := by omega
      subst hke
      go_wp2
      obtain ⟨W1, hW1⟩ : ∃ W1 : World, W1 = wr := ⟨_, rfl⟩
      have HW1 := Lib.hid hW1; clear hW1
      clear gg2 gg3
      go_loopw [3, 5] (fun s i wr => ∃ k : Nat, k ≤ t.mail.length ∧ i = .int .i64 k ∧ s = .int .i64 (sumTo (fun x => x.2) t.procs t.procs.length + sumTo (fun x => x.2.2) t.mail k) ∧ Below W0.heap.size W0 wr) (fun _ i _ => t.mail.length - (intOf i).toNat)
      case atStart => exact ⟨0, Nat.zero_le _, rfl, by rw [sumTo_zero, Int.add_zero], HB.out⟩
      case round =>
        obtain ⟨k, hk, rfl, rfl, hB⟩ := hrel
        have gg3 := (hB.cell (p := ⟨w.heap.size, 3, none⟩) hsz).trans G3.out
        have HB := Lib.hid hB; clear hB
        have hsb := sumTo_bd (fun x : Int × Int × Int => x.2.2) t.mail 1099511627776 (by omega) Hw.out.m k hk
        have ht0 : 0 ≤ sumTo (fun x => x.2.2) t.mail k := hsb.1
        have ht1 : sumTo (fun x => x.2.2) t.mail k ≤ 4398046511104000 := by omega
        clear hsb
        by_cases hlt : k < t.mail.length
        · obtain ⟨x, hx⟩ : ∃ x, t.mail[k]? = some x := ⟨_, List.getElem?_eq_getElem hlt⟩
          obtain ⟨g, off, rfl, e0, e1, e2⟩ := Rd.atL (Hr2.out.below HB.out (Nat.le_refl _)) hx
          have hx0 := (Hw.out.m x (List.mem_of_getElem? hx)).1
          have hx1 := (Hw.out.m x (List.mem_of_getElem? hx)).2
          have Hx := Lib.hid hx; clear hx
          go_wp2
          go_roundw
          case rel => exact ⟨k + 1, by omega, by go_num, by rw [sumTo_succ _ _ _ _ Hx.out, Int.add_assoc], by first | exact HB.out | exact HB.out.alloc HB.out.size _⟩
          case measure => simp [intOf]; omega
        · have hke : k = t.mail.length := by omega
          subst hke
          go_wp2
          go_ret
          exact ⟨by rw [Thr.wsum, wsumL, ← sumTo_all (fun x => x.2) t.procs _ rfl, ← sumTo_all (fun x => x.2.2) t.mail _ rfl]; rfl, HB0.out.trans (HB.out.mono (Nat.le_of_lt hsz))⟩
end Go.Proofs.Ythdlmnkefheliaa
