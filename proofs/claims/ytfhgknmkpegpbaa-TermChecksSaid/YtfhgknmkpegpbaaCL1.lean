import Derived.Test.YtfhgknmkpegpbaaM3
import Derived.Test.YtfhgknmkpegpbaaM1
import Derived.Test.YtfhgknmkpegpbaaM8
import Derived.IntWalk
set_option linter.unusedVariables false
set_option linter.unusedSimpArgs false
namespace Go.Proofs.Ytfhgknmkpegpbaa
open Go.RowKit


set_option maxRecDepth 100000 in
set_option maxHeartbeats 8000000 in
theorem checks_calls (l : List Tm) (P : Nat → Prop) (A : Option Addr) (c : Nat) (w : World) (hc : TmC P w A c l) : Calls Try.prog 3 #[.slice A l.length c] w fun e w' => e = .returned (.bool true) ∧ Below w.heap.size w w' := by
  have hlc := hc.len.1
  have hlm := hc.len.2.1
  have Hc := Lib.hid (hc.inside.mono (Q := (· < w.heap.size)) (fun g h => h.2)); clear hc
  go_enter Try.func3, Try.ntmps3
  go_wp2_with fail
  refine (sane_calls w).mono ?_
  rintro e w1 ⟨rfl, hb1⟩
  have HB1 := Lib.hid hb1; clear hb1
  have hw1 := HB1.out.size
  obtain ⟨b, hb⟩ : ∃ b, b = w1.heap.size := ⟨_, rfl⟩
  obtain ⟨W2, hW2⟩ : ∃ W2, W2 = w1.alloc (.cells #[.int .i64 6000] 3) := ⟨_, rfl⟩
  have HK2 := Lib.hid (show Blk W2 b 3 #[.int .i64 6000] from by rw [hW2, hb]; exact Blk.new _ _ _)
  have HB2 := Lib.hid (show Below w.heap.size w W2 from by rw [hW2]; exact HB1.out.alloc hw1 _)
  have hwb : w.heap.size ≤ b := by rw [hb]; exact hw1
  go_wp2_with fail
  rw [← hb]
  rw [← hW2]
  have Hb := Lib.hid hb; clear hb hW2
  go_wp2
  go_loopw [16] (fun i wr => ∃ (k : Nat) (L : Int), k ≤ l.length ∧ i = .int .i64 k ∧ Hid (0 ≤ L ∧ (L = 6000 - Tm.sizes (l.take k))) ∧ Hid (Blk wr b 3 #[.int .i64 L]) ∧ Hid (Below w.heap.size w wr)) (fun i _ => l.length - (intOf i).toNat)
  case atStart => exact ⟨0, 6000, Nat.zero_le _, rfl, Lib.hid ⟨by omega, by simp [Tm.sizes]⟩, HK2, HB2⟩
  case round =>
    obtain ⟨k, L, hk, rfl, HL, HK, HB⟩ := hrel
    by_cases hlt : k < l.length
    · obtain ⟨x, hx⟩ : ∃ x, l[k]? = some x := ⟨_, List.getElem?_eq_getElem hlt⟩
      obtain ⟨g, off, Ai, ci, rfl, hPg, ⟨e0, e1, e2, e3⟩, hxs, hxc⟩ := (Hc.out.stay HB.out (Nat.le_refl _)).at_ hx
      have Hts := Lib.hid (take_snoc hx)
      have hbl := HK.out.lt
      have hbb : Below wr.heap.size wr (wr.alloc (.cells #[.int .i64 x.k, .int .i64 x.n, .string x.s, .slice Ai x.l.length ci] 25)) := (Below.refl _ _).alloc (Nat.le_refl _) _
      have hcall := count_calls x (· < w.heap.size) _ _ b L 1 ⟨Ai, ci, rfl, hxs, hxc.stay hbb (Nat.le_refl _)⟩ (HK.out.below hbb hbl) (fun g hg => by omega) HL.out.1 (by have := HL.out.2; omega) (by omega) (by omega)
      have htr := (Tm.cnt_true x.size).1 x L 1 (Nat.le_refl _)
      obtain ⟨r, hr⟩ : ∃ r, r = x.cnt L 1 := ⟨_, rfl⟩
      rw [← hr] at hcall htr
      have Htr := Lib.hid htr; clear htr hr hxc hx
      have Hcall := Lib.hid hcall; clear hcall
      have HBB := Lib.hid hbb; clear hbb
      go_wp2_with fail
      refine Hcall.out.mono ?_
      rintro e w3 ⟨rfl, hk3, hb3⟩
      have HK3 := Lib.hid hk3; clear hk3
      have HB3 := Lib.hid (HB.out.trans ((HBB.out.mono HB.out.size).trans (hb3.below hwb (by have := HB.out.size; simp; omega)))); clear hb3
      obtain ⟨r1, r2⟩ := r
      cases r2
      · go_wp2
        go_ret
        exact ⟨rfl, HB3.out⟩
      · have HL3 := Lib.hid (show 0 ≤ r1 ∧ r1 = 6000 - Tm.sizes (l.take (k + 1)) from by
          have h1 := Htr.out rfl
          rw [Hts.out, sizes_append]
          have := HL.out
          simp only [Tm.sizes] at h1 ⊢
          omega)
        go_wp2
        go_roundw
        case rel => exact ⟨k + 1, r1, by omega, by go_num, HL3, HK3, HB3⟩
        case measure => simp [intOf]; omega
    · have hke : k = l.length := by omega
      subst hke
      have hsz : Tm.sizes l ≤ 6000 := by have := HL.out; rw [List.take_length] at this; omega
      have hcc := Hc.out.stay HB.out (Nat.le_refl _)
      have hcall := checkAll_calls l _ A c wr hcc
      obtain ⟨er, her⟩ : ∃ er, er = errT (allB l) := ⟨_, rfl⟩
      rw [← her] at hcall
      have Her := Lib.hid her; clear her
      have Hcall := Lib.hid hcall; clear hcall hcc
      have Hsz := Lib.hid hsz; clear hsz HL HK
      go_wp2_with fail
      refine Hcall.out.mono ?_
      rintro e w3 ⟨rfl, hb3⟩
      have HB3 := Lib.hid (HB.out.trans (hb3.mono HB.out.size)); clear hb3
      have hcall := refCheckAll_calls l _ A c w3 (Hc.out.stay HB3.out (Nat.le_refl _)) (by have := Hsz.out; omega)
      rw [← Her.out] at hcall
      have Hcall2 := Lib.hid hcall; clear hcall
      go_wp2_with fail
      refine Hcall2.out.mono ?_
      rintro e w4 ⟨rfl, hb4⟩
      have HB4 := Lib.hid (HB3.out.trans (hb4.mono HB3.out.size)); clear hb4
      have hne : (er != er) = false := by simp
      go_wp2
      go_loopw [31] (fun i wr => ∃ k : Nat, k ≤ l.length ∧ i = .int .i64 k ∧ Hid (Below w.heap.size w wr)) (fun i _ => l.length - (intOf i).toNat)
      case atStart => exact ⟨0, Nat.zero_le _, rfl, HB4⟩
      case round =>
        obtain ⟨k, hk, rfl, HB⟩ := hrel
        by_cases hlt : k < l.length
        · obtain ⟨x, hx⟩ : ∃ x, l[k]? = some x := ⟨_, List.getElem?_eq_getElem hlt⟩
          have hxm := List.mem_of_getElem? hx
          have hxz : x.size ≤ 1000000 := by have := Tm.size_mem hxm; have := Hsz.out; omega
          obtain ⟨g, off, Ai, ci, rfl, hPg, ⟨e0, e1, e2, e3⟩, hxs, hxc⟩ := (Hc.out.stay HB.out (Nat.le_refl _)).at_ hx
          obtain ⟨WX, hWX⟩ : ∃ WX, WX = wr.alloc (.cells #[.int .i64 x.k, .int .i64 x.n, .string x.s, .slice Ai x.l.length ci] 25) := ⟨_, rfl⟩
          have hbX : Below wr.heap.size wr WX := by rw [hWX]; exact (Below.refl _ _).alloc (Nat.le_refl _) _
          have HX := Lib.hid (show Blk WX wr.heap.size 25 #[.int .i64 x.k, .int .i64 x.n, .string x.s, .slice Ai x.l.length ci] from by rw [hWX]; exact Blk.new _ _ _)
          have HBX := Lib.hid (show Below w.heap.size w WX from HB.out.trans (hbX.mono HB.out.size))
          have HcX := Lib.hid (hxc.stay hbX (Nat.le_refl _))
          clear hbX hxc
          have Hx := Lib.hid hx; clear hx
          have Hcall3 := Lib.hid (size_calls x _ WX _ ⟨Ai, ci, rfl, hxs, HcX.out⟩ hxz)
          go_wp2_with fail
          rw [← hWX]
          refine Hcall3.out.mono ?_
          rintro e w5 ⟨rfl, hb5⟩
          have HX5 := Lib.hid (HX.out.below hb5 HX.out.lt)
          have HB5 := Lib.hid (HBX.out.trans (hb5.mono HBX.out.size))
          have Hc5 := Lib.hid (HcX.out.stay hb5 (Nat.le_refl _)); clear hb5
          have Hcall4 := Lib.hid (refSize_calls x _ w5 _ ⟨Ai, ci, rfl, hxs, Hc5.out⟩ hxz)
          obtain ⟨⟨x0, x1, x2, x3⟩, -⟩ := HX5.out.four
          have hlx := HX5.out.lt
          clear hWX
          go_wp2_with fail
          refine Hcall4.out.mono ?_
          rintro e w6 ⟨rfl, hb6⟩
          have HX6 := Lib.hid (HX5.out.below hb6 HX5.out.lt)
          have HB6 := Lib.hid (HB5.out.trans (hb6.mono HB5.out.size))
          have Hc6 := Lib.hid (Hc5.out.stay hb6 (Nat.le_refl _)); clear hb6 x0 x1 x2 x3 hlx
          obtain ⟨q, hq⟩ : ∃ q : Nat, (k : Int).tdiv 2 = (q : Int) ∧ q = k / 2 := ⟨k / 2, by rw [Int.tdiv_eq_ediv_of_nonneg (by omega)]; omega, rfl⟩
          obtain ⟨hq, hqd⟩ := hq
          obtain ⟨y, hy⟩ : ∃ y, l[0]? = some y := ⟨_, List.getElem?_eq_getElem (by omega)⟩
          obtain ⟨z, hz⟩ : ∃ z, l[q]? = some z := ⟨_, List.getElem?_eq_getElem (by omega)⟩
          have hyc : ∃ Ay cy, (∀ W, Below w6.heap.size w6 W → W.cell? ⟨g, off, none⟩ = some (.int .i64 y.k) ∧ W.cell? ⟨g, off + 1, none⟩ = some (.int .i64 y.n) ∧ W.cell? ⟨g, off + 2, none⟩ = some (.string y.s) ∧ W.cell? ⟨g, off + 3, none⟩ = some (.slice Ay y.l.length cy)) ∧ y.s.size ≤ 9223372036854775807 ∧ TmC (· < w.heap.size) w6 Ay cy y.l := by
            obtain ⟨g', off', Ay, cy, he, -, ⟨f0, f1, f2, f3⟩, hys, hyc⟩ := (Hc.out.stay HB6.out (Nat.le_refl _)).at_ hy
            injection he with he; injection he with he1 he2; subst he1; subst he2
            exact ⟨Ay, cy, fun W hb => ⟨keep_cell hb f0, keep_cell hb f1, keep_cell hb f2, keep_cell hb f3⟩, hys, hyc⟩
          have hzc : ∃ Az cz, (∀ W, Below w6.heap.size w6 W → W.cell? ⟨g, off + q * 4, none⟩ = some (.int .i64 z.k) ∧ W.cell? ⟨g, off + q * 4 + 1, none⟩ = some (.int .i64 z.n) ∧ W.cell? ⟨g, off + q * 4 + 2, none⟩ = some (.string z.s) ∧ W.cell? ⟨g, off + q * 4 + 3, none⟩ = some (.slice Az z.l.length cz)) ∧ z.s.size ≤ 9223372036854775807 ∧ TmC (· < w.heap.size) w6 Az cz z.l := by
            obtain ⟨g', off', Ay, cy, he, -, ⟨f0, f1, f2, f3⟩, hys, hyc⟩ := (Hc.out.stay HB6.out (Nat.le_refl _)).at_ hz
            injection he with he; injection he with he1 he2; subst he1; subst he2
            exact ⟨Ay, cy, fun W hb => ⟨keep_cell hb f0, keep_cell hb f1, keep_cell hb f2, keep_cell hb f3⟩, hys, hyc⟩
          obtain ⟨Ay, cy, hyw, hys, hyc⟩ := hyc
          obtain ⟨Az, cz, hzw, hzs, hzc⟩ := hzc
          have hxw : ∀ W, Below w6.heap.size w6 W → W.cell? ⟨wr.heap.size, 0, none⟩ = some (.int .i64 x.k) ∧ W.cell? ⟨wr.heap.size, 1, none⟩ = some (.int .i64 x.n) ∧ W.cell? ⟨wr.heap.size, 2, none⟩ = some (.string x.s) ∧ W.cell? ⟨wr.heap.size, 3, none⟩ = some (.slice Ai x.l.length ci) := fun W hb => (HX6.out.below hb HX6.out.lt).four.1
          have HS := Lib.hid (show ∀ W, Below w6.heap.size w6 W → Hid (Below w6.heap.size w6 W) ∧ W.cell? ⟨wr.heap.size, 0, none⟩ = some (.int .i64 x.k) ∧ W.cell? ⟨wr.heap.size, 1, none⟩ = some (.int .i64 x.n) ∧ W.cell? ⟨wr.heap.size, 2, none⟩ = some (.string x.s) ∧ W.cell? ⟨wr.heap.size, 3, none⟩ = some (.slice Ai x.l.length ci) ∧ W.cell? ⟨g, off, none⟩ = some (.int .i64 y.k) ∧ W.cell? ⟨g, off + 1, none⟩ = some (.int .i64 y.n) ∧ W.cell? ⟨g, off + 2, none⟩ = some (.string y.s) ∧ W.cell? ⟨g, off + 3, none⟩ = some (.slice Ay y.l.length cy) ∧ W.cell? ⟨g, off + q * 4, none⟩ = some (.int .i64 z.k) ∧ W.cell? ⟨g, off + q * 4 + 1, none⟩ = some (.int .i64 z.n) ∧ W.cell? ⟨g, off + q * 4 + 2, none⟩ = some (.string z.s) ∧ W.cell? ⟨g, off + q * 4 + 3, none⟩ = some (.slice Az z.l.length cz) from fun W hb => by
            obtain ⟨a0, a1, a2, a3⟩ := hxw W hb; obtain ⟨b0, b1, b2, b3⟩ := hyw W hb; obtain ⟨c0, c1, c2, c3⟩ := hzw W hb
            exact ⟨Lib.hid hb, a0, a1, a2, a3, b0, b1, b2, b3, c0, c1, c2, c3⟩)
          clear hxw hyw hzw
          have HcY := Lib.hid hyc; have HcZ := Lib.hid hzc; clear hyc hzc hy hz
          have A22 := Lib.hid (show ∀ W, Below w6.heap.size w6 W → Calls Try.prog 22 #[.agg #[.int .i64 x.k, .int .i64 x.n, .string x.s, .slice Ai x.l.length ci]] W (RetN W (errT (isB x))) from fun W hb => check_calls x _ W _ ⟨Ai, ci, rfl, hxs, Hc6.out.stay hb (Nat.le_refl _)⟩)
          have A23 := Lib.hid (show ∀ W, Below w6.heap.size w6 W → Calls Try.prog 23 #[.agg #[.int .i64 x.k, .int .i64 x.n, .string x.s, .slice Ai x.l.length ci]] W (RetN W (errT (isB x))) from fun W hb => refCheck_calls x _ W _ ⟨Ai, ci, rfl, hxs, Hc6.out.stay hb (Nat.le_refl _)⟩ hxz)
          have A24 := Lib.hid (show ∀ W, Below w6.heap.size w6 W → Calls Try.prog 24 #[.agg #[.int .i64 x.k, .int .i64 x.n, .string x.s, .slice Ai x.l.length ci], .agg #[.int .i64 y.k, .int .i64 y.n, .string y.s, .slice Ay y.l.length cy]] W (RetB W (sameB x y)) from fun W hb => by exact same_calls x _ _ W _ _ y ⟨Ai, ci, rfl, hxs, Hc6.out.stay hb (Nat.le_refl _)⟩ ⟨Ay, cy, rfl, hys, HcY.out.stay hb (Nat.le_refl _)⟩)
          have A25 := Lib.hid (show ∀ W, Below w6.heap.size w6 W → Calls Try.prog 25 #[.agg #[.int .i64 x.k, .int .i64 x.n, .string x.s, .slice Ai x.l.length ci], .agg #[.int .i64 y.k, .int .i64 y.n, .string y.s, .slice Ay y.l.length cy]] W (RetB W (sameB x y)) from fun W hb => by exact refSame_calls x _ _ W _ _ y ⟨Ai, ci, rfl, hxs, Hc6.out.stay hb (Nat.le_refl _)⟩ ⟨Ay, cy, rfl, hys, HcY.out.stay hb (Nat.le_refl _)⟩)
          have B24 := Lib.hid (show ∀ W, Below w6.heap.size w6 W → Calls Try.prog 24 #[.agg #[.int .i64 x.k, .int .i64 x.n, .string x.s, .slice Ai x.l.length ci], .agg #[.int .i64 z.k, .int .i64 z.n, .string z.s, .slice Az z.l.length cz]] W (RetB W (sameB x z)) from fun W hb => by exact same_calls x _ _ W _ _ z ⟨Ai, ci, rfl, hxs, Hc6.out.stay hb (Nat.le_refl _)⟩ ⟨Az, cz, rfl, hzs, HcZ.out.stay hb (Nat.le_refl _)⟩)
          have B25 := Lib.hid (show ∀ W, Below w6.heap.size w6 W → Calls Try.prog 25 #[.agg #[.int .i64 x.k, .int .i64 x.n, .string x.s, .slice Ai x.l.length ci], .agg #[.int .i64 z.k, .int .i64 z.n, .string z.s, .slice Az z.l.length cz]] W (RetB W (sameB x z)) from fun W hb => by exact refSame_calls x _ _ W _ _ z ⟨Ai, ci, rfl, hxs, Hc6.out.stay hb (Nat.le_refl _)⟩ ⟨Az, cz, rfl, hzs, HcZ.out.stay hb (Nat.le_refl _)⟩)
          have C24 := Lib.hid (show ∀ W, Below w6.heap.size w6 W → Calls Try.prog 24 #[.agg #[.int .i64 x.k, .int .i64 x.n, .string x.s, .slice Ai x.l.length ci], .agg #[.int .i64 x.k, .int .i64 x.n, .string x.s, .slice Ai x.l.length ci]] W (RetB W true) from fun W hb => by rw [← sameB_refl x]; exact same_calls x _ _ W _ _ x ⟨Ai, ci, rfl, hxs, Hc6.out.stay hb (Nat.le_refl _)⟩ ⟨Ai, ci, rfl, hxs, Hc6.out.stay hb (Nat.le_refl _)⟩)
          obtain ⟨eX, heX⟩ : ∃ e, e = errT (isB x) := ⟨_, rfl⟩
          rw [← heX] at A22 A23
          obtain ⟨sy, hsy⟩ : ∃ e, e = sameB x y := ⟨_, rfl⟩
          rw [← hsy] at A24 A25
          obtain ⟨sz, hsz⟩ : ∃ e, e = sameB x z := ⟨_, rfl⟩
          rw [← hsz] at B24 B25
          clear heX hsy hsz
          have hnX : (eX != eX) = false := by simp
          have hsY : (sy != sy) = false := by simp
          have hsZ : (sz != sz) = false := by simp
          have hn1 : ((x.size : Int) != x.size) = false := by simp
          have hn2 : ((x.depth : Int) != x.depth) = false := by simp
          have hl0 : 0 < l.length := by omega
          have hk2 : q < l.length := by omega
          have hqw : IntKind.i64.wrap (q : Int) = (q : Int) := IntWalk.i64_in _ (by omega)
          have hq0 : (0 : Int) ≤ (q : Int) := by omega
          have hqn : (q : Int).toNat = q := by omega
          have hql : (q : Int) < (l.length : Int) := by omega
          have hqk : (q : Int) ≤ (k : Int) := by omega
          clear hqd
          go_wp2_with fail
          refine wp_region_noPanic ?_
          refine wp_region_held_drew (S := SW w6 [(⟨wr.heap.size, 0, none⟩, .int .i64 x.k), (⟨wr.heap.size, 1, none⟩, .int .i64 x.n), (⟨wr.heap.size, 2, none⟩, .string x.s), (⟨wr.heap.size, 3, none⟩, .slice Ai x.l.length ci), (⟨g, off, none⟩, .int .i64 y.k), (⟨g, off + 1, none⟩, .int .i64 y.n), (⟨g, off + 2, none⟩, .string y.s), (⟨g, off + 3, none⟩, .slice Ay y.l.length cy), (⟨g, off + q * 4, none⟩, .int .i64 z.k), (⟨g, off + q * 4 + 1, none⟩, .int .i64 z.n), (⟨g, off + q * 4 + 2, none⟩, .string z.s), (⟨g, off + q * 4 + 3, none⟩, .slice Az z.l.length cz)]) (by kernel_rfl) ?_ (fun hHeld => ?_)
          · exact SW.start (fun p hp => by obtain ⟨-, a0, a1, a2, a3, b0, b1, b2, b3, c0, c1, c2, c3⟩ := HS.out _ (Below.refl _ _); simp only [List.mem_cons, List.not_mem_nil, or_false] at hp; rcases hp with rfl | rfl | rfl | rfl | rfl | rfl | rfl | rfl | rfl | rfl | rfl | rfl <;> assumption)
          refine takeH (i := 0) (d := 46) (.agg #[.int .i64 x.k, .int .i64 x.n, .string x.s, .slice Ai x.l.length ci]) (by kernel_rfl) (by kernel_rfl) (by kernel_rfl) (by kernel_rfl) (fun _ _ _ _ h => h) (fun o ho => ?_) hHeld ?_
          · simp only [List.getElem?_toArray, List.getElem?_cons_zero, List.getElem?_cons_succ, Option.some.injEq] at ho
            subst ho
            refine Or.inl ⟨by rfl, fun w hSw => ?_⟩
            have s0 := hSw.at 0 rfl
            have s1 := hSw.at 1 rfl
            have s2 := hSw.at 2 rfl
            have s3 := hSw.at 3 rfl
            go_simp
          simp only [Act.put, List.setIfInBounds_toArray, List.set_cons_zero, List.set_cons_succ]
          refine takeH (i := 2) (d := 48) (.agg #[.int .i64 x.k, .int .i64 x.n, .string x.s, .slice Ai x.l.length ci]) (by kernel_rfl) (by kernel_rfl) (by kernel_rfl) (by kernel_rfl) (fun _ _ _ _ h => h) (fun o ho => ?_) hHeld ?_
          · simp only [List.getElem?_toArray, List.getElem?_cons_zero, List.getElem?_cons_succ, Option.some.injEq] at ho
            subst ho
            refine Or.inl ⟨by rfl, fun w hSw => ?_⟩
            have s0 := hSw.at 0 rfl
            have s1 := hSw.at 1 rfl
            have s2 := hSw.at 2 rfl
            have s3 := hSw.at 3 rfl
            go_simp
          simp only [Act.put, List.setIfInBounds_toArray, List.set_cons_zero, List.set_cons_succ]
          refine stepH (i := 1) (by kernel_rfl) (by kernel_rfl) (fun o ho K2 hK => ?_)
          simp only [List.getElem?_toArray, List.getElem?_cons_zero, List.getElem?_cons_succ, Option.some.injEq] at ho
          subst ho
          go_simp
          refine (A22.out _ hHeld.1.out).mono ?_
          rintro e wx ⟨rfl, hb⟩
          dsimp only
          refine hK.out _ _ (hHeld.below hb) (fun hHeld => ?_)
          clear hK K2 hb
          try simp only [Act.put, List.setIfInBounds_toArray, List.set_cons_zero, List.set_cons_succ]
          refine stepH (i := 3) (by kernel_rfl) (by kernel_rfl) (fun o ho K2 hK => ?_)
          simp only [List.getElem?_toArray, List.getElem?_cons_zero, List.getElem?_cons_succ, Option.some.injEq] at ho
          subst ho
          go_simp
          refine (A23.out _ hHeld.1.out).mono ?_
          rintro e wx ⟨rfl, hb⟩
          dsimp only
          refine hK.out _ _ (hHeld.below hb) (fun hHeld => ?_)
          clear hK K2 hb
          try simp only [Act.put, List.setIfInBounds_toArray, List.set_cons_zero, List.set_cons_succ]
          refine takeH (i := 4) (d := 50) (.bool false) (by kernel_rfl) (by kernel_rfl) (by kernel_rfl) (by kernel_rfl) (fun _ _ _ _ h => h) (fun o ho => ?_) hHeld ?_
          · simp only [List.getElem?_toArray, List.getElem?_cons_zero, List.getElem?_cons_succ, Option.some.injEq] at ho
            subst ho
            refine Or.inl ⟨by rfl, fun w hSw => ?_⟩
            go_simp
          simp only [Act.put, List.setIfInBounds_toArray, List.set_cons_zero, List.set_cons_succ]
          refine takeH (i := 5) (d := 51) (.bool false) (by kernel_rfl) (by kernel_rfl) (by kernel_rfl) (by kernel_rfl) (fun _ _ _ _ h => h) (fun o ho => ?_) hHeld ?_
          · simp only [List.getElem?_toArray, List.getElem?_cons_zero, List.getElem?_cons_succ, Option.some.injEq] at ho
            subst ho
            refine Or.inl ⟨by rfl, fun w hSw => ?_⟩
            go_simp
          simp only [Act.put, List.setIfInBounds_toArray, List.set_cons_zero, List.set_cons_succ]
          refine takeH (i := 6) (d := 52) (.int .i64 x.size) (by kernel_rfl) (by kernel_rfl) (by kernel_rfl) (by kernel_rfl) (fun _ _ _ _ h => h) (fun o ho => ?_) hHeld ?_
          · simp only [List.getElem?_toArray, List.getElem?_cons_zero, List.getElem?_cons_succ, Option.some.injEq] at ho
            subst ho
            refine Or.inl ⟨by rfl, fun w hSw => ?_⟩
            go_simp
          simp only [Act.put, List.setIfInBounds_toArray, List.set_cons_zero, List.set_cons_succ]
          refine takeH (i := 7) (d := 53) (.int .i64 x.size) (by kernel_rfl) (by kernel_rfl) (by kernel_rfl) (by kernel_rfl) (fun _ _ _ _ h => h) (fun o ho => ?_) hHeld ?_
          · simp only [List.getElem?_toArray, List.getElem?_cons_zero, List.getElem?_cons_succ, Option.some.injEq] at ho
            subst ho
            refine Or.inl ⟨by rfl, fun w hSw => ?_⟩
            go_simp
          simp only [Act.put, List.setIfInBounds_toArray, List.set_cons_zero, List.set_cons_succ]
          refine takeH (i := 8) (d := 54) (.bool false) (by kernel_rfl) (by kernel_rfl) (by kernel_rfl) (by kernel_rfl) (fun _ _ _ _ h => h) (fun o ho => ?_) hHeld ?_
          · simp only [List.getElem?_toArray, List.getElem?_cons_zero, List.getElem?_cons_succ, Option.some.injEq] at ho
            subst ho
            refine Or.inl ⟨by rfl, fun w hSw => ?_⟩
            go_simp
          simp only [Act.put, List.setIfInBounds_toArray, List.set_cons_zero, List.set_cons_succ]
          refine takeH (i := 9) (d := 55) (.bool false) (by kernel_rfl) (by kernel_rfl) (by kernel_rfl) (by kernel_rfl) (fun _ _ _ _ h => h) (fun o ho => ?_) hHeld ?_
          · simp only [List.getElem?_toArray, List.getElem?_cons_zero, List.getElem?_cons_succ, Option.some.injEq] at ho
            subst ho
            refine Or.inl ⟨by rfl, fun w hSw => ?_⟩
            go_simp
          simp only [Act.put, List.setIfInBounds_toArray, List.set_cons_zero, List.set_cons_succ]
          refine takeH (i := 10) (d := 56) (.bool false) (by kernel_rfl) (by kernel_rfl) (by kernel_rfl) (by kernel_rfl) (fun _ _ _ _ h => h) (fun o ho => ?_) hHeld ?_
          · simp only [List.getElem?_toArray, List.getElem?_cons_zero, List.getElem?_cons_succ, Option.some.injEq] at ho
            subst ho
            refine Or.inl ⟨by rfl, fun w hSw => ?_⟩
            go_simp
          simp only [Act.put, List.setIfInBounds_toArray, List.set_cons_zero, List.set_cons_succ]
          refine takeH (i := 11) (d := 57) (.int .i64 x.depth) (by kernel_rfl) (by kernel_rfl) (by kernel_rfl) (by kernel_rfl) (fun _ _ _ _ h => h) (fun o ho => ?_) hHeld ?_
          · simp only [List.getElem?_toArray, List.getElem?_cons_zero, List.getElem?_cons_succ, Option.some.injEq] at ho
            subst ho
            refine Or.inl ⟨by rfl, fun w hSw => ?_⟩
            go_simp
          simp only [Act.put, List.setIfInBounds_toArray, List.set_cons_zero, List.set_cons_succ]
          refine takeH (i := 12) (d := 58) (.int .i64 x.depth) (by kernel_rfl) (by kernel_rfl) (by kernel_rfl) (by kernel_rfl) (fun _ _ _ _ h => h) (fun o ho => ?_) hHeld ?_
          · simp only [List.getElem?_toArray, List.getElem?_cons_zero, List.getElem?_cons_succ, Option.some.injEq] at ho
            subst ho
            refine Or.inl ⟨by rfl, fun w hSw => ?_⟩
            go_simp
          simp only [Act.put, List.setIfInBounds_toArray, List.set_cons_zero, List.set_cons_succ]
          refine takeH (i := 13) (d := 59) (.bool false) (by kernel_rfl) (by kernel_rfl) (by kernel_rfl) (by kernel_rfl) (fun _ _ _ _ h => h) (fun o ho => ?_) hHeld ?_
          · simp only [List.getElem?_toArray, List.getElem?_cons_zero, List.getElem?_cons_succ, Option.some.injEq] at ho
            subst ho
            refine Or.inl ⟨by rfl, fun w hSw => ?_⟩
            go_simp
          simp only [Act.put, List.setIfInBounds_toArray, List.set_cons_zero, List.set_cons_succ]
          refine takeH (i := 14) (d := 60) (.bool false) (by kernel_rfl) (by kernel_rfl) (by kernel_rfl) (by kernel_rfl) (fun _ _ _ _ h => h) (fun o ho => ?_) hHeld ?_
          · simp only [List.getElem?_toArray, List.getElem?_cons_zero, List.getElem?_cons_succ, Option.some.injEq] at ho
            subst ho
            refine Or.inl ⟨by rfl, fun w hSw => ?_⟩
            go_simp
          simp only [Act.put, List.setIfInBounds_toArray, List.set_cons_zero, List.set_cons_succ]
          refine takeH (i := 15) (d := 61) (.bool false) (by kernel_rfl) (by kernel_rfl) (by kernel_rfl) (by kernel_rfl) (fun _ _ _ _ h => h) (fun o ho => ?_) hHeld ?_
          · simp only [List.getElem?_toArray, List.getElem?_cons_zero, List.getElem?_cons_succ, Option.some.injEq] at ho
            subst ho
            refine Or.inl ⟨by rfl, fun w hSw => ?_⟩
            go_simp
          simp only [Act.put, List.setIfInBounds_toArray, List.set_cons_zero, List.set_cons_succ]
          refine takeH (i := 16) (d := 62) (.agg #[.int .i64 x.k, .int .i64 x.n, .string x.s, .slice Ai x.l.length ci]) (by kernel_rfl) (by kernel_rfl) (by kernel_rfl) (by kernel_rfl) (fun _ _ _ _ h => h) (fun o ho => ?_) hHeld ?_
          · simp only [List.getElem?_toArray, List.getElem?_cons_zero, List.getElem?_cons_succ, Option.some.injEq] at ho
            subst ho
            refine Or.inl ⟨by rfl, fun w hSw => ?_⟩
            have s0 := hSw.at 0 rfl
            have s1 := hSw.at 1 rfl
            have s2 := hSw.at 2 rfl
            have s3 := hSw.at 3 rfl
            go_simp
          simp only [Act.put, List.setIfInBounds_toArray, List.set_cons_zero, List.set_cons_succ]
          refine takeH (i := 17) (d := 63) (.slice (some ⟨g, off, none⟩) l.length c) (by kernel_rfl) (by kernel_rfl) (by kernel_rfl) (by kernel_rfl) (fun _ _ _ _ h => h) (fun o ho => ?_) hHeld ?_
          · simp only [List.getElem?_toArray, List.getElem?_cons_zero, List.getElem?_cons_succ, Option.some.injEq] at ho
            subst ho
            refine Or.inl ⟨by rfl, fun w hSw => ?_⟩
            go_simp
          simp only [Act.put, List.setIfInBounds_toArray, List.set_cons_zero, List.set_cons_succ]
          refine takeH (i := 18) (d := 64) (.pointer (some ⟨g, off, none⟩)) (by kernel_rfl) (by kernel_rfl) (by kernel_rfl) (by kernel_rfl) (fun _ _ _ _ h => h) (fun o ho => ?_) hHeld ?_
          · simp only [List.getElem?_toArray, List.getElem?_cons_zero, List.getElem?_cons_succ, Option.some.injEq] at ho
            subst ho
            refine Or.inl ⟨by rfl, fun w hSw => ?_⟩
            go_simp
          simp only [Act.put, List.setIfInBounds_toArray, List.set_cons_zero, List.set_cons_succ]
          refine takeH (i := 19) (d := 65) (.agg #[.int .i64 y.k, .int .i64 y.n, .string y.s, .slice Ay y.l.length cy]) (by kernel_rfl) (by kernel_rfl) (by kernel_rfl) (by kernel_rfl) (fun _ _ _ _ h => h) (fun o ho => ?_) hHeld ?_
          · simp only [List.getElem?_toArray, List.getElem?_cons_zero, List.getElem?_cons_succ, Option.some.injEq] at ho
            subst ho
            refine Or.inl ⟨by rfl, fun w hSw => ?_⟩
            have s0 := hSw.at 4 rfl
            have s1 := hSw.at 5 rfl
            have s2 := hSw.at 6 rfl
            have s3 := hSw.at 7 rfl
            go_simp
          simp only [Act.put, List.setIfInBounds_toArray, List.set_cons_zero, List.set_cons_succ]
          refine takeH (i := 21) (d := 67) (.agg #[.int .i64 x.k, .int .i64 x.n, .string x.s, .slice Ai x.l.length ci]) (by kernel_rfl) (by kernel_rfl) (by kernel_rfl) (by kernel_rfl) (fun _ _ _ _ h => h) (fun o ho => ?_) hHeld ?_
          · simp only [List.getElem?_toArray, List.getElem?_cons_zero, List.getElem?_cons_succ, Option.some.injEq] at ho
            subst ho
            refine Or.inl ⟨by rfl, fun w hSw => ?_⟩
            have s0 := hSw.at 0 rfl
            have s1 := hSw.at 1 rfl
            have s2 := hSw.at 2 rfl
            have s3 := hSw.at 3 rfl
            go_simp
          simp only [Act.put, List.setIfInBounds_toArray, List.set_cons_zero, List.set_cons_succ]
          refine takeH (i := 22) (d := 68) (.slice (some ⟨g, off, none⟩) l.length c) (by kernel_rfl) (by kernel_rfl) (by kernel_rfl) (by kernel_rfl) (fun _ _ _ _ h => h) (fun o ho => ?_) hHeld ?_
          · simp only [List.getElem?_toArray, List.getElem?_cons_zero, List.getElem?_cons_succ, Option.some.injEq] at ho
            subst ho
            refine Or.inl ⟨by rfl, fun w hSw => ?_⟩
            go_simp
          simp only [Act.put, List.setIfInBounds_toArray, List.set_cons_zero, List.set_cons_succ]
          refine takeH (i := 23) (d := 69) (.pointer (some ⟨g, off, none⟩)) (by kernel_rfl) (by kernel_rfl) (by kernel_rfl) (by kernel_rfl) (fun _ _ _ _ h => h) (fun o ho => ?_) hHeld ?_
          · simp only [List.getElem?_toArray, List.getElem?_cons_zero, List.getElem?_cons_succ, Option.some.injEq] at ho
            subst ho
            refine Or.inl ⟨by rfl, fun w hSw => ?_⟩
            go_simp
          simp only [Act.put, List.setIfInBounds_toArray, List.set_cons_zero, List.set_cons_succ]
          refine takeH (i := 24) (d := 70) (.agg #[.int .i64 y.k, .int .i64 y.n, .string y.s, .slice Ay y.l.length cy]) (by kernel_rfl) (by kernel_rfl) (by kernel_rfl) (by kernel_rfl) (fun _ _ _ _ h => h) (fun o ho => ?_) hHeld ?_
          · simp only [List.getElem?_toArray, List.getElem?_cons_zero, List.getElem?_cons_succ, Option.some.injEq] at ho
            subst ho
            refine Or.inl ⟨by rfl, fun w hSw => ?_⟩
            have s0 := hSw.at 4 rfl
            have s1 := hSw.at 5 rfl
            have s2 := hSw.at 6 rfl
            have s3 := hSw.at 7 rfl
            go_simp
          simp only [Act.put, List.setIfInBounds_toArray, List.set_cons_zero, List.set_cons_succ]
          refine stepH (i := 20) (by kernel_rfl) (by kernel_rfl) (fun o ho K2 hK => ?_)
          simp only [List.getElem?_toArray, List.getElem?_cons_zero, List.getElem?_cons_succ, Option.some.injEq] at ho
          subst ho
          go_simp
          refine (A24.out _ hHeld.1.out).mono ?_
          rintro e wx ⟨rfl, hb⟩
          dsimp only
          refine hK.out _ _ (hHeld.below hb) (fun hHeld => ?_)
          clear hK K2 hb
          try simp only [Act.put, List.setIfInBounds_toArray, List.set_cons_zero, List.set_cons_succ]
          refine stepH (i := 25) (by kernel_rfl) (by kernel_rfl) (fun o ho K2 hK => ?_)
          simp only [List.getElem?_toArray, List.getElem?_cons_zero, List.getElem?_cons_succ, Option.some.injEq] at ho
          subst ho
          go_simp
          refine (A25.out _ hHeld.1.out).mono ?_
          rintro e wx ⟨rfl, hb⟩
          dsimp only
          refine hK.out _ _ (hHeld.below hb) (fun hHeld => ?_)
          clear hK K2 hb
          try simp only [Act.put, List.setIfInBounds_toArray, List.set_cons_zero, List.set_cons_succ]
          refine takeH (i := 26) (d := 72) (.bool false) (by kernel_rfl) (by kernel_rfl) (by kernel_rfl) (by kernel_rfl) (fun _ _ _ _ h => h) (fun o ho => ?_) hHeld ?_
          · simp only [List.getElem?_toArray, List.getElem?_cons_zero, List.getElem?_cons_succ, Option.some.injEq] at ho
            subst ho
            refine Or.inl ⟨by rfl, fun w hSw => ?_⟩
            go_simp
          simp only [Act.put, List.setIfInBounds_toArray, List.set_cons_zero, List.set_cons_succ]
          refine takeH (i := 27) (d := 73) (.bool false) (by kernel_rfl) (by kernel_rfl) (by kernel_rfl) (by kernel_rfl) (fun _ _ _ _ h => h) (fun o ho => ?_) hHeld ?_
          · simp only [List.getElem?_toArray, List.getElem?_cons_zero, List.getElem?_cons_succ, Option.some.injEq] at ho
            subst ho
            refine Or.inl ⟨by rfl, fun w hSw => ?_⟩
            go_simp
          simp only [Act.put, List.setIfInBounds_toArray, List.set_cons_zero, List.set_cons_succ]
          refine takeH (i := 28) (d := 74) (.bool false) (by kernel_rfl) (by kernel_rfl) (by kernel_rfl) (by kernel_rfl) (fun _ _ _ _ h => h) (fun o ho => ?_) hHeld ?_
          · simp only [List.getElem?_toArray, List.getElem?_cons_zero, List.getElem?_cons_succ, Option.some.injEq] at ho
            subst ho
            refine Or.inl ⟨by rfl, fun w hSw => ?_⟩
            go_simp
          simp only [Act.put, List.setIfInBounds_toArray, List.set_cons_zero, List.set_cons_succ]
          refine takeH (i := 29) (d := 75) (.agg #[.int .i64 x.k, .int .i64 x.n, .string x.s, .slice Ai x.l.length ci]) (by kernel_rfl) (by kernel_rfl) (by kernel_rfl) (by kernel_rfl) (fun _ _ _ _ h => h) (fun o ho => ?_) hHeld ?_
          · simp only [List.getElem?_toArray, List.getElem?_cons_zero, List.getElem?_cons_succ, Option.some.injEq] at ho
            subst ho
            refine Or.inl ⟨by rfl, fun w hSw => ?_⟩
            have s0 := hSw.at 0 rfl
            have s1 := hSw.at 1 rfl
            have s2 := hSw.at 2 rfl
            have s3 := hSw.at 3 rfl
            go_simp
          simp only [Act.put, List.setIfInBounds_toArray, List.set_cons_zero, List.set_cons_succ]
          refine takeH (i := 30) (d := 76) (.slice (some ⟨g, off, none⟩) l.length c) (by kernel_rfl) (by kernel_rfl) (by kernel_rfl) (by kernel_rfl) (fun _ _ _ _ h => h) (fun o ho => ?_) hHeld ?_
          · simp only [List.getElem?_toArray, List.getElem?_cons_zero, List.getElem?_cons_succ, Option.some.injEq] at ho
            subst ho
            refine Or.inl ⟨by rfl, fun w hSw => ?_⟩
            go_simp
          simp only [Act.put, List.setIfInBounds_toArray, List.set_cons_zero, List.set_cons_succ]
          refine takeH (i := 31) (d := 77) (.int .i64 k) (by kernel_rfl) (by kernel_rfl) (by kernel_rfl) (by kernel_rfl) (fun _ _ _ _ h => h) (fun o ho => ?_) hHeld ?_
          · simp only [List.getElem?_toArray, List.getElem?_cons_zero, List.getElem?_cons_succ, Option.some.injEq] at ho
            subst ho
            refine Or.inl ⟨by rfl, fun w hSw => ?_⟩
            go_simp
          simp only [Act.put, List.setIfInBounds_toArray, List.set_cons_zero, List.set_cons_succ]
          refine takeH (i := 32) (d := 78) (.int .i64 q) (by kernel_rfl) (by kernel_rfl) (by kernel_rfl) (by kernel_rfl) (fun _ _ _ _ h => h) (fun o ho => ?_) hHeld ?_
          · simp only [List.getElem?_toArray, List.getElem?_cons_zero, List.getElem?_cons_succ, Option.some.injEq] at ho
            subst ho
            refine Or.inl ⟨by rfl, fun w hSw => ?_⟩
            go_simp
          simp only [Act.put, List.setIfInBounds_toArray, List.set_cons_zero, List.set_cons_succ]
          refine takeH (i := 33) (d := 79) (.pointer (some ⟨g, off + q * 4, none⟩)) (by kernel_rfl) (by kernel_rfl) (by kernel_rfl) (by kernel_rfl) (fun _ _ _ _ h => h) (fun o ho => ?_) hHeld ?_
          · simp only [List.getElem?_toArray, List.getElem?_cons_zero, List.getElem?_cons_succ, Option.some.injEq] at ho
            subst ho
            refine Or.inl ⟨by rfl, fun w hSw => ?_⟩
            go_simp
          simp only [Act.put, List.setIfInBounds_toArray, List.set_cons_zero, List.set_cons_succ]
          refine takeH (i := 34) (d := 80) (.agg #[.int .i64 z.k, .int .i64 z.n, .string z.s, .slice Az z.l.length cz]) (by kernel_rfl) (by kernel_rfl) (by kernel_rfl) (by kernel_rfl) (fun _ _ _ _ h => h) (fun o ho => ?_) hHeld ?_
          · simp only [List.getElem?_toArray, List.getElem?_cons_zero, List.getElem?_cons_succ, Option.some.injEq] at ho
            subst ho
            refine Or.inl ⟨by rfl, fun w hSw => ?_⟩
            have s0 := hSw.at 8 rfl
            have s1 := hSw.at 9 rfl
            have s2 := hSw.at 10 rfl
            have s3 := hSw.at 11 rfl
            go_simp
          simp only [Act.put, List.setIfInBounds_toArray, List.set_cons_zero, List.set_cons_succ]
          refine takeH (i := 36) (d := 82) (.agg #[.int .i64 x.k, .int .i64 x.n, .string x.s, .slice Ai x.l.length ci]) (by kernel_rfl) (by kernel_rfl) (by kernel_rfl) (by kernel_rfl) (fun _ _ _ _ h => h) (fun o ho => ?_) hHeld ?_
          · simp only [List.getElem?_toArray, List.getElem?_cons_zero, List.getElem?_cons_succ, Option.some.injEq] at ho
            subst ho
            refine Or.inl ⟨by rfl, fun w hSw => ?_⟩
            have s0 := hSw.at 0 rfl
            have s1 := hSw.at 1 rfl
            have s2 := hSw.at 2 rfl
            have s3 := hSw.at 3 rfl
            go_simp
          simp only [Act.put, List.setIfInBounds_toArray, List.set_cons_zero, List.set_cons_succ]
          refine takeH (i := 37) (d := 83) (.slice (some ⟨g, off, none⟩) l.length c) (by kernel_rfl) (by kernel_rfl) (by kernel_rfl) (by kernel_rfl) (fun _ _ _ _ h => h) (fun o ho => ?_) hHeld ?_
          · simp only [List.getElem?_toArray, List.getElem?_cons_zero, List.getElem?_cons_succ, Option.some.injEq] at ho
            subst ho
            refine Or.inl ⟨by rfl, fun w hSw => ?_⟩
            go_simp
          simp only [Act.put, List.setIfInBounds_toArray, List.set_cons_zero, List.set_cons_succ]
          refine takeH (i := 38) (d := 84) (.int .i64 k) (by kernel_rfl) (by kernel_rfl) (by kernel_rfl) (by kernel_rfl) (fun _ _ _ _ h => h) (fun o ho => ?_) hHeld ?_
          · simp only [List.getElem?_toArray, List.getElem?_cons_zero, List.getElem?_cons_succ, Option.some.injEq] at ho
            subst ho
            refine Or.inl ⟨by rfl, fun w hSw => ?_⟩
            go_simp
          simp only [Act.put, List.setIfInBounds_toArray, List.set_cons_zero, List.set_cons_succ]
          refine takeH (i := 39) (d := 85) (.int .i64 q) (by kernel_rfl) (by kernel_rfl) (by kernel_rfl) (by kernel_rfl) (fun _ _ _ _ h => h) (fun o ho => ?_) hHeld ?_
          · simp only [List.getElem?_toArray, List.getElem?_cons_zero, List.getElem?_cons_succ, Option.some.injEq] at ho
            subst ho
            refine Or.inl ⟨by rfl, fun w hSw => ?_⟩
            go_simp
          simp only [Act.put, List.setIfInBounds_toArray, List.set_cons_zero, List.set_cons_succ]
          refine takeH (i := 40) (d := 86) (.pointer (some ⟨g, off + q * 4, none⟩)) (by kernel_rfl) (by kernel_rfl) (by kernel_rfl) (by kernel_rfl) (fun _ _ _ _ h => h) (fun o ho => ?_) hHeld ?_
          · simp only [List.getElem?_toArray, List.getElem?_cons_zero, List.getElem?_cons_succ, Option.some.injEq] at ho
            subst ho
            refine Or.inl ⟨by rfl, fun w hSw => ?_⟩
            go_simp
          simp only [Act.put, List.setIfInBounds_toArray, List.set_cons_zero, List.set_cons_succ]
          refine takeH (i := 41) (d := 87) (.agg #[.int .i64 z.k, .int .i64 z.n, .string z.s, .slice Az z.l.length cz]) (by kernel_rfl) (by kernel_rfl) (by kernel_rfl) (by kernel_rfl) (fun _ _ _ _ h => h) (fun o ho => ?_) hHeld ?_
          · simp only [List.getElem?_toArray, List.getElem?_cons_zero, List.getElem?_cons_succ, Option.some.injEq] at ho
            subst ho
            refine Or.inl ⟨by rfl, fun w hSw => ?_⟩
            have s0 := hSw.at 8 rfl
            have s1 := hSw.at 9 rfl
            have s2 := hSw.at 10 rfl
            have s3 := hSw.at 11 rfl
            go_simp
          simp only [Act.put, List.setIfInBounds_toArray, List.set_cons_zero, List.set_cons_succ]
          refine stepH (i := 35) (by kernel_rfl) (by kernel_rfl) (fun o ho K2 hK => ?_)
          simp only [List.getElem?_toArray, List.getElem?_cons_zero, List.getElem?_cons_succ, Option.some.injEq] at ho
          subst ho
          go_simp
          refine (B24.out _ hHeld.1.out).mono ?_
          rintro e wx ⟨rfl, hb⟩
          dsimp only
          refine hK.out _ _ (hHeld.below hb) (fun hHeld => ?_)
          clear hK K2 hb
          try simp only [Act.put, List.setIfInBounds_toArray, List.set_cons_zero, List.set_cons_succ]
          refine stepH (i := 42) (by kernel_rfl) (by kernel_rfl) (fun o ho K2 hK => ?_)
          simp only [List.getElem?_toArray, List.getElem?_cons_zero, List.getElem?_cons_succ, Option.some.injEq] at ho
          subst ho
          go_simp
          refine (B25.out _ hHeld.1.out).mono ?_
          rintro e wx ⟨rfl, hb⟩
          dsimp only
          refine hK.out _ _ (hHeld.below hb) (fun hHeld => ?_)
          clear hK K2 hb
          try simp only [Act.put, List.setIfInBounds_toArray, List.set_cons_zero, List.set_cons_succ]
          refine takeH (i := 43) (d := 89) (.bool false) (by kernel_rfl) (by kernel_rfl) (by kernel_rfl) (by kernel_rfl) (fun _ _ _ _ h => h) (fun o ho => ?_) hHeld ?_
          · simp only [List.getElem?_toArray, List.getElem?_cons_zero, List.getElem?_cons_succ, Option.some.injEq] at ho
            subst ho
            refine Or.inl ⟨by rfl, fun w hSw => ?_⟩
            go_simp
          simp only [Act.put, List.setIfInBounds_toArray, List.set_cons_zero, List.set_cons_succ]
          refine takeH (i := 44) (d := 90) (.bool false) (by kernel_rfl) (by kernel_rfl) (by kernel_rfl) (by kernel_rfl) (fun _ _ _ _ h => h) (fun o ho => ?_) hHeld ?_
          · simp only [List.getElem?_toArray, List.getElem?_cons_zero, List.getElem?_cons_succ, Option.some.injEq] at ho
            subst ho
            refine Or.inl ⟨by rfl, fun w hSw => ?_⟩
            go_simp
          simp only [Act.put, List.setIfInBounds_toArray, List.set_cons_zero, List.set_cons_succ]
          refine takeH (i := 45) (d := 91) (.bool false) (by kernel_rfl) (by kernel_rfl) (by kernel_rfl) (by kernel_rfl) (fun _ _ _ _ h => h) (fun o ho => ?_) hHeld ?_
          · simp only [List.getElem?_toArray, List.getElem?_cons_zero, List.getElem?_cons_succ, Option.some.injEq] at ho
            subst ho
            refine Or.inl ⟨by rfl, fun w hSw => ?_⟩
            go_simp
          simp only [Act.put, List.setIfInBounds_toArray, List.set_cons_zero, List.set_cons_succ]
          refine takeH (i := 46) (d := 92) (.agg #[.int .i64 x.k, .int .i64 x.n, .string x.s, .slice Ai x.l.length ci]) (by kernel_rfl) (by kernel_rfl) (by kernel_rfl) (by kernel_rfl) (fun _ _ _ _ h => h) (fun o ho => ?_) hHeld ?_
          · simp only [List.getElem?_toArray, List.getElem?_cons_zero, List.getElem?_cons_succ, Option.some.injEq] at ho
            subst ho
            refine Or.inl ⟨by rfl, fun w hSw => ?_⟩
            have s0 := hSw.at 0 rfl
            have s1 := hSw.at 1 rfl
            have s2 := hSw.at 2 rfl
            have s3 := hSw.at 3 rfl
            go_simp
          simp only [Act.put, List.setIfInBounds_toArray, List.set_cons_zero, List.set_cons_succ]
          refine takeH (i := 47) (d := 93) (.agg #[.int .i64 x.k, .int .i64 x.n, .string x.s, .slice Ai x.l.length ci]) (by kernel_rfl) (by kernel_rfl) (by kernel_rfl) (by kernel_rfl) (fun _ _ _ _ h => h) (fun o ho => ?_) hHeld ?_
          · simp only [List.getElem?_toArray, List.getElem?_cons_zero, List.getElem?_cons_succ, Option.some.injEq] at ho
            subst ho
            refine Or.inl ⟨by rfl, fun w hSw => ?_⟩
            have s0 := hSw.at 0 rfl
            have s1 := hSw.at 1 rfl
            have s2 := hSw.at 2 rfl
            have s3 := hSw.at 3 rfl
            go_simp
          simp only [Act.put, List.setIfInBounds_toArray, List.set_cons_zero, List.set_cons_succ]
          refine stepH (i := 48) (by kernel_rfl) (by kernel_rfl) (fun o ho K2 hK => ?_)
          simp only [List.getElem?_toArray, List.getElem?_cons_zero, List.getElem?_cons_succ, Option.some.injEq] at ho
          subst ho
          go_simp
          refine (C24.out _ hHeld.1.out).mono ?_
          rintro e wx ⟨rfl, hb⟩
          dsimp only
          refine hK.out _ _ (hHeld.below hb) (fun hHeld => ?_)
          clear hK K2 hb
          try simp only [Act.put, List.setIfInBounds_toArray, List.set_cons_zero, List.set_cons_succ]
          refine takeH (i := 49) (d := 95) (.bool false) (by kernel_rfl) (by kernel_rfl) (by kernel_rfl) (by kernel_rfl) (fun _ _ _ _ h => h) (fun o ho => ?_) hHeld ?_
          · simp only [List.getElem?_toArray, List.getElem?_cons_zero, List.getElem?_cons_succ, Option.some.injEq] at ho
            subst ho
            refine Or.inl ⟨by rfl, fun w hSw => ?_⟩
            go_simp
          simp only [Act.put, List.setIfInBounds_toArray, List.set_cons_zero, List.set_cons_succ]
          refine takeH (i := 50) (d := 96) (.bool false) (by kernel_rfl) (by kernel_rfl) (by kernel_rfl) (by kernel_rfl) (fun _ _ _ _ h => h) (fun o ho => ?_) hHeld ?_
          · simp only [List.getElem?_toArray, List.getElem?_cons_zero, List.getElem?_cons_succ, Option.some.injEq] at ho
            subst ho
            refine Or.inl ⟨by rfl, fun w hSw => ?_⟩
            go_simp
          simp only [Act.put, List.setIfInBounds_toArray, List.set_cons_zero, List.set_cons_succ]
          refine wpAnyH_done (by kernel_rfl) ?_ _
          refine NoPanic.normal ?_
          have HB7 := Lib.hid (HB6.out.trans (hHeld.1.out.mono HB6.out.size))
          clear hHeld HS A22 A23 A24 A25 B24 B25 C24
          go_wp2
          go_roundw
          case rel => exact ⟨k + 1, by omega, by go_num, HB7⟩
          case measure => simp [intOf]; omega
        · have hke : k = l.length := by omega
          go_wp2
          go_ret
          exact ⟨rfl, HB.out⟩
end Go.Proofs.Ytfhgknmkpegpbaa
