import Derived.Test.YthdlmnkefheliaaP3
set_option linter.unusedVariables false
set_option linter.unusedSimpArgs false
namespace Go.Proofs.Ythdlmnkefheliaa
open Go.RowKit
/-- Goals are in their range. -/
structure Thr.Gls (t : Thr) : Prop where
  p : ∀ x ∈ t.procs, 0 ≤ x.1 ∧ x.1 ≤ 1000000
  lp : t.procs.length ≤ 16
  lm : t.mail.length ≤ 4000
theorem Thr.Good.gls {t : Thr} (h : t.Good) : t.Gls := ⟨fun x hx => ((holder_iff _).1 (h.pr x hx)).1, h.pl1, h.ml⟩
theorem gl_bd (l : Int × Int × Int) : 0 ≤ gl l ∧ gl l ≤ 1 := by unfold gl; split <;> omega
set_option maxHeartbeats 1000000 in
theorem goals_calls (t : Thr) (v : Value) (w : World) (hv : ThrV w v t) (hw : t.Gls) :
    Calls Try.prog 33 #[v] w fun e w' => e = .returned (.int .i64 t.goals) ∧ Below w.heap.size w w' := by
  obtain ⟨A1, c1, A2, c2, rfl, h1, h2, h3, h4, h5, h6⟩ := hv
  have hlp := hw.lp
  have hlm := hw.lm
  have Hw := Lib.hid hw; clear hw
  obtain ⟨W0, hW0⟩ : ∃ W0, W0 = w.alloc (.cells #[.int .i64 t.grain, .int .i64 t.out, .slice A1 t.procs.length c1, .slice A2 t.mail.length c2, .bool t.ended] 25) := ⟨_, rfl⟩
  have hB0 : Below w.heap.size w W0 := by rw [hW0]; exact (Below.refl _ _).alloc (Nat.le_refl _) _
  have Hr1 := Lib.hid (h3.below hB0 (Nat.le_refl _)); clear h3
  have Hr2 := Lib.hid (h6.below hB0 (Nat.le_refl _)); clear h6
  have g2 : W0.cell? ⟨w.heap.size, 2, none⟩ = some (.slice A1 t.procs.length c1) := by rw [hW0]; go_simp
  have g3 : W0.cell? ⟨w.heap.size, 3, none⟩ = some (.slice A2 t.mail.length c2) := by rw [hW0]; go_simp
  have hsz : w.heap.size < W0.heap.size := by rw [hW0]; simp
  have HB0 := Lib.hid hB0; clear hB0
  have G2 := Lib.hid g2; clear g2
  have G3 := Lib.hid g3; clear g3
  have HW := Lib.hid hW0; clear hW0
  clear h1 h2 h4 h5
  go_enter Try.func33, Try.ntmps33
  go_wp2
  go_loopw [3, 11] (fun s i wr => ∃ k : Nat, k ≤ t.procs.length ∧ i = .int .i64 k ∧ s = .int .i64 (sumTo (fun x => x.1) t.procs k) ∧ Below W0.heap.size W0 wr) (fun _ i _ => t.procs.length - (intOf i).toNat)
  case atStart => exact ⟨0, Nat.zero_le _, rfl, by rw [sumTo_zero], by rw [HW.out]; exact Below.refl _ _⟩
  case round =>
    obtain ⟨k, hk, rfl, rfl, hB⟩ := hrel
    have gg2 := (hB.cell (p := ⟨w.heap.size, 2, none⟩) hsz).trans G2.out
    have gg3 := (hB.cell (p := ⟨w.heap.size, 3, none⟩) hsz).trans G3.out
    have HB := Lib.hid hB; clear hB
    have hsb := sumTo_bd (fun x : Int × Int => x.1) t.procs 1000000 (by omega) Hw.out.p k hk
    have hs0 : 0 ≤ sumTo (fun x => x.1) t.procs k := hsb.1
    have hs1 : sumTo (fun x => x.1) t.procs k ≤ 16000000 := by omega
    clear hsb
    by_cases hlt : k < t.procs.length
    · obtain ⟨x, hx⟩ : ∃ x, t.procs[k]? = some x := ⟨_, List.getElem?_eq_getElem hlt⟩
      obtain ⟨g, off, rfl, e0, e1⟩ := Rd.atH (Hr1.out.below HB.out (Nat.le_refl _)) hx
      have hx0 := (Hw.out.p x (List.mem_of_getElem? hx)).1
      have hx1 := (Hw.out.p x (List.mem_of_getElem? hx)).2
      have Hx := Lib.hid hx; clear hx
      go_wp2
      go_roundw
      case rel => exact ⟨k + 1, by omega, by go_num, by rw [sumTo_succ _ _ _ _ Hx.out], by first | exact HB.out | exact HB.out.alloc HB.out.size _⟩
      case measure => simp [intOf]; omega
    · have hke : k = t.procs.length := by omega
      subst hke
      go_wp2
      obtain ⟨W1, hW1⟩ : ∃ W1 : World, W1 = wr := ⟨_, rfl⟩
      have HW1 := Lib.hid hW1; clear hW1
      clear gg2 gg3
      go_loopw [3, 23] (fun s i wr => ∃ k : Nat, k ≤ t.mail.length ∧ i = .int .i64 k ∧ s = .int .i64 (sumTo (fun x => x.1) t.procs t.procs.length + sumTo gl t.mail k) ∧ Below W0.heap.size W0 wr) (fun _ i _ => t.mail.length - (intOf i).toNat)
      case atStart => exact ⟨0, Nat.zero_le _, rfl, by rw [sumTo_zero, Int.add_zero], HB.out⟩
      case round =>
        obtain ⟨k, hk, rfl, rfl, hB⟩ := hrel
        have gg3 := (hB.cell (p := ⟨w.heap.size, 3, none⟩) hsz).trans G3.out
        have HB := Lib.hid hB; clear hB
        have hsb := sumTo_bd gl t.mail 1 (by omega) (fun x _ => gl_bd x) k hk
        have ht0 : 0 ≤ sumTo gl t.mail k := hsb.1
        have ht1 : sumTo gl t.mail k ≤ 4000 := by omega
        clear hsb
        by_cases hlt : k < t.mail.length
        · obtain ⟨x, hx⟩ : ∃ x, t.mail[k]? = some x := ⟨_, List.getElem?_eq_getElem hlt⟩
          obtain ⟨g, off, rfl, e0, e1, e2⟩ := Rd.atL (Hr2.out.below HB.out (Nat.le_refl _)) hx
          have hss := sumTo_succ gl _ _ _ hx
          by_cases hone : x.1 = 1
          · rw [gl, if_pos hone] at hss
            have Hss := Lib.hid hss; clear hss hx
            have hb1 : (x.1 == 1) = true := by simpa using hone
            clear hone
            go_wp2
            go_roundw
            case rel => exact ⟨k + 1, by omega, by go_num, by rw [Hss.out, Int.add_assoc], by first | exact HB.out | exact HB.out.alloc HB.out.size _⟩
            case measure => simp [intOf]; omega
          · rw [gl, if_neg hone] at hss
            have Hss := Lib.hid hss; clear hss hx
            have hb1 : (x.1 == 1) = false := by simpa using hone
            clear hone
            go_wp2
            go_roundw
            case rel => exact ⟨k + 1, by omega, by go_num, by rw [Hss.out, Int.add_zero], by first | exact HB.out | exact HB.out.alloc HB.out.size _⟩
            case measure => simp [intOf]; omega
        · have hke : k = t.mail.length := by omega
          subst hke
          go_wp2
          go_ret
          exact ⟨by rw [Thr.goals, ← sumTo_all (fun x => x.1) t.procs _ rfl, ← sumTo_all gl t.mail _ rfl]; rfl, HB0.out.trans (HB.out.mono (Nat.le_of_lt hsz))⟩
end Go.Proofs.Ythdlmnkefheliaa
