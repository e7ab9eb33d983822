/- The walk of TermItems. -/
import Derived.Test.YtfhgknmkpegpbaaM8
import Derived.Test.YtfhgknmkpegpbaaCT51
import Derived.Test.YtfhgknmkpegpbaaCP2
set_option linter.unusedVariables false
set_option linter.unusedSimpArgs false
namespace Go.Proofs.Ytfhgknmkpegpbaa
open Go.RowKit

set_option maxRecDepth 100000 in
set_option maxHeartbeats 8000000 in
theorem itemsLaw_calls (l : List Tm) (y z : Tm) (P : Nat → Prop) (A : Option Addr) (c : Nat) (v1 v2 : Value) (w : World) (hl : TmC P w A c l) (hy : TmV P w v1 y) (hz : TmV P w v2 z) (hlen : l.length * 56 ≤ 140737488351232) :
    Calls Try.prog 13 #[.slice A l.length c, v1, v2] w fun e w' => e = .returned (.bool true) ∧ Below w.heap.size w w' := by
  obtain ⟨B, b, rfl, hys, hyc⟩ := hy
  obtain ⟨C, d, rfl, hzs, hzc⟩ := hz
  obtain ⟨i0, hi0⟩ := info25
  have Hi := Lib.hid hi0; clear hi0
  have hlm := hl.len.2.1
  have hlc := hl.len.1
  obtain ⟨W0, hW0⟩ : ∃ W0, W0 = (w.alloc (.cells #[.int .i64 y.k, .int .i64 y.n, .string y.s, .slice B y.l.length b] 25)).alloc (.cells #[.int .i64 z.k, .int .i64 z.n, .string z.s, .slice C z.l.length d] 25) := ⟨_, rfl⟩
  have HB := Lib.hid (show Below w.heap.size w W0 from by rw [hW0]; exact ((Below.refl _ _).alloc (Nat.le_refl _) _).alloc (by simp) _)
  have Hbx := Lib.hid (show Blk W0 w.heap.size 25 #[.int .i64 y.k, .int .i64 y.n, .string y.s, .slice B y.l.length b] from by rw [hW0]; exact (Blk.new' rfl).alloc _)
  have Hby := Lib.hid (show Blk W0 (w.heap.size + 1) 25 #[.int .i64 z.k, .int .i64 z.n, .string z.s, .slice C z.l.length d] from by rw [hW0]; exact Blk.new' (by simp))
  have Hl := Lib.hid ((hl.inside.mono (Q := (· < w.heap.size)) (fun g h => h.2)).stay HB.out (Nat.le_refl _)); clear hl
  have Hyc := Lib.hid ((hyc.inside.mono (Q := (· < w.heap.size)) (fun g h => h.2)).stay HB.out (Nat.le_refl _)); clear hyc
  have Hzc := Lib.hid ((hzc.inside.mono (Q := (· < w.heap.size)) (fun g h => h.2)).stay HB.out (Nat.le_refl _)); clear hzc
  have HW := Lib.hid hW0; clear hW0
  go_enter Try.func13, Try.ntmps13
  go_wp2_with fail
  rw [← HW.out]
  clear HW
  refine (sane_calls W0).mono ?_
  rintro e w1 ⟨rfl, hb⟩
  replace HB := Lib.hid (HB.out.trans (hb.mono HB.out.size))
  replace Hbx := Lib.hid (Hbx.out.below hb Hbx.out.lt)
  replace Hby := Lib.hid (Hby.out.below hb Hby.out.lt)
  replace Hl := Lib.hid (Hl.out.stay hb (Nat.le_refl _))
  replace Hyc := Lib.hid (Hyc.out.stay hb (Nat.le_refl _))
  replace Hzc := Lib.hid (Hzc.out.stay hb (Nat.le_refl _))
  clear hb
  obtain ⟨⟨bx0, bx1, bx2, bx3⟩, -⟩ := Hbx.out.four
  have bxl := Hbx.out.lt
  obtain ⟨⟨by0, by1, by2, by3⟩, -⟩ := Hby.out.four
  have byl := Hby.out.lt
  obtain ⟨W2, hW2⟩ : ∃ W2, W2 = w1.alloc (.cells #[.int .i64 y.k, .int .i64 y.n, .string y.s, .slice B y.l.length b, .int .i64 z.k, .int .i64 z.n, .string z.s, .slice C z.l.length d] 25) := ⟨_, rfl⟩
  have hb : Below w1.heap.size w1 W2 := by rw [hW2]; exact (Below.refl _ _).alloc (Nat.le_refl _) _
  have hlit : Blk W2 w1.heap.size 25 (([(y, B, b), (z, C, d)] : List EV).flatMap encE).toArray := by rw [hW2]; exact Blk.new _ _ _
  have hsw := HB.out.size
  have hok1 : ∀ e ∈ ([(y, B, b), (z, C, d)] : List EV), e.1.s.size ≤ 9223372036854775807 ∧ TmC (· < w.heap.size) W2 e.2.1 e.2.2 e.1.l := fun e he => by
    simp only [List.mem_cons, List.not_mem_nil, or_false] at he
    rcases he with rfl | rfl
    · exact ⟨hys, Hyc.out.stay hb (Nat.le_refl _)⟩
    · exact ⟨hzs, Hzc.out.stay hb (Nat.le_refl _)⟩
  obtain ⟨es, hes, hrd, hok2⟩ := terms_reads (Hl.out.stay hb (Nat.le_refl _))
  have hel : es.length = l.length := by rw [hes, List.length_map]
  have HW2 := Lib.hid hW2; have Hlit := Lib.hid hlit; have Hok1 := Lib.hid hok1; have Hok2 := Lib.hid hok2; have Hrd := Lib.hid hrd; have Hes := Lib.hid hes; have Hel := Lib.hid hel
  replace HB := Lib.hid (HB.out.trans (hb.mono HB.out.size))
  replace Hbx := Lib.hid (Hbx.out.below hb Hbx.out.lt)
  replace Hby := Lib.hid (Hby.out.below hb Hby.out.lt)
  replace Hl := Lib.hid (Hl.out.stay hb (Nat.le_refl _))
  replace Hyc := Lib.hid (Hyc.out.stay hb (Nat.le_refl _))
  replace Hzc := Lib.hid (Hzc.out.stay hb (Nat.le_refl _))
  have HSZ := Lib.hid (show w.heap.size + 1 < w1.heap.size ∧ w1.heap.size < W2.heap.size from ⟨by have := byl; omega, hlit.lt⟩)
  clear hW2 hlit hok1 hok2 hrd hes hel hb hsw
  go_wp2_with (at_builtin; rw [← HW2.out]; refine wpList_append_any _ rfl (.tmp 17) (.tmp 18) 22 rfl w1.heap.size 25 i0 _ 4 56 Try.underlying22 Hi.out.1 Hi.out.2.1 Hi.out.2.2.1 Hi.out.2.2.2 rfl (by decide) (.slice (some ⟨w1.heap.size, 0, none⟩) 2 2) 2 (([(y, B, b), (z, C, d)] : List EV).flatMap encE) rfl (lit_owns (es := [(y, B, b), (z, C, d)]) Hlit.out (Nat.le_refl _) (by simp)) W2.heap.size A l.length c (es.flatMap encE) rfl Hrd.out (one_encE es) (by simp only [maxLen]; omega) (by omega) (by have := HSZ.out; omega) ?_; intro v3 w3 hown hg hv3)
  clear bx0 bx1 bx2 bx3 bxl by0 by1 by2 by3 byl
  obtain ⟨A3, c3, rfl, h3⟩ := append_terms (es1 := [(y, B, b), (z, C, d)]) (es := es) Hlit.out Hok1.out Hok2.out (fun x hx => by have : x < w.heap.size := hx; have := HSZ.out; omega) (by rw [Hel.out]; exact hown) hg (by simpa [Value.ownBlock] using hv3)
  replace hg : W2.grownBy w3 (some w1.heap.size) := hg
  have hsz3 := hg.size
  have hb : Below w1.heap.size W2 w3 := ⟨hg.os, hg.tape, hg.output, hg.size, fun k hk => hg.block k (by have := HSZ.out; omega) (fun e => by injection e with e; omega)⟩
  have HB3 := Lib.hid (HB.out.trans (hb.mono (by have := HSZ.out; omega))); clear HB
  have Hbx3 := Lib.hid (Hbx.out.below hb (by have := HSZ.out; omega)); clear Hbx
  have Hby3 := Lib.hid (Hby.out.below hb (by have := HSZ.out; omega)); clear Hby
  have Hl3 := Lib.hid (Hl.out.belowP hb (fun g hg => by have : g < w.heap.size := hg; have := HSZ.out; omega)); clear Hl
  have Hyc3 := Lib.hid (Hyc.out.belowP hb (fun g hg => by have : g < w.heap.size := hg; have := HSZ.out; omega)); clear Hyc
  have Hzc3 := Lib.hid (Hzc.out.belowP hb (fun g hg => by have : g < w.heap.size := hg; have := HSZ.out; omega)); clear Hzc
  have HB := HB3; clear HB3
  have Hbx := Hbx3; clear Hbx3
  have Hby := Hby3; clear Hby3
  have Hl := Hl3; clear Hl3
  have Hyc := Hyc3; clear Hyc3
  have Hzc := Hzc3; clear Hzc3
  have hll : (([(y, B, b), (z, C, d)] : List EV).map (fun e => e.1) ++ es.map (fun e => e.1)) = [y, z] ++ l := by rw [← Hes.out]; rfl
  rw [hll] at h3 ⊢
  have H3 := Lib.hid h3; clear h3 hb hg hown hv3 hll Hlit Hok1 Hok2 Hrd Hes Hel HW2
  obtain ⟨r, hr⟩ : ∃ r, r = rightB ([y, z] ++ l) := ⟨_, rfl⟩
  have hcall := right_calls ([y, z] ++ l) _ A3 c3 w3 H3.out
  rw [← hr] at hcall
  have Hcall := Lib.hid hcall; clear hcall
  have Hr := Lib.hid hr; clear hr H3
  go_wp2_with fail
  refine (Hcall.out).mono ?_
  rintro e w4 ⟨rfl, hb⟩
  replace HB := Lib.hid (HB.out.trans (hb.mono HB.out.size))
  replace Hbx := Lib.hid (Hbx.out.below hb Hbx.out.lt)
  replace Hby := Lib.hid (Hby.out.below hb Hby.out.lt)
  replace Hl := Lib.hid (Hl.out.stay hb (Nat.le_refl _))
  replace Hyc := Lib.hid (Hyc.out.stay hb (Nat.le_refl _))
  replace Hzc := Lib.hid (Hzc.out.stay hb (Nat.le_refl _))
  clear hb
  clear Hcall
  cases r
  case false =>
    go_wp2
    go_ret
    exact ⟨rfl, HB.out⟩
  have hall := (rightB_iff.1 Hr.out.symm).2
  have HIy := Lib.hid (hall y (by simp)); have HIz := Lib.hid (hall z (by simp)); clear hall
  have HAl := Lib.hid (right_part Hr.out.symm); clear Hr
  obtain ⟨hlk, hlt, hlr⟩ := items_law HIz.out
  have hcall := items_calls z _ w4 _ ⟨C, d, rfl, hzs, Hzc.out⟩
  obtain ⟨its, hits⟩ : ∃ its, its = z.items := ⟨_, rfl⟩
  rw [itR, HIz.out, if_pos rfl, ← hits, show errT true = 0 from rfl] at hcall
  rw [← hits] at hlk hlt hlr
  have Hlr := Lib.hid hlr; have Hlk := Lib.hid hlk; clear hlk hlt hlr hits
  have Hcall := Lib.hid hcall; clear hcall
  obtain ⟨⟨by0, by1, by2, by3⟩, -⟩ := Hby.out.four
  have byl := Hby.out.lt
  go_wp2_with fail
  refine Hcall.out.mono ?_
  rintro e w5 ⟨A5, c5, B5, d5, rfl, hi5, hs5, hr5, hb⟩
  clear by0 by1 by2 by3 byl
  replace HB := Lib.hid (HB.out.trans (hb.mono HB.out.size))
  replace Hbx := Lib.hid (Hbx.out.below hb Hbx.out.lt)
  replace Hby := Lib.hid (Hby.out.below hb Hby.out.lt)
  replace Hl := Lib.hid (Hl.out.stay hb (Nat.le_refl _))
  replace Hyc := Lib.hid (Hyc.out.stay hb (Nat.le_refl _))
  replace Hzc := Lib.hid (Hzc.out.stay hb (Nat.le_refl _))
  have BYL := Lib.hid Hby.out.lt
  have Hi5 := Lib.hid (hi5.mono (Q := fun _ => True) (fun _ _ => trivial)); have Hr5 := Lib.hid (hr5.mono (Q := fun _ => True) (fun _ _ => trivial))
  clear hi5 hr5 hb Hcall
  obtain ⟨xs, rest⟩ := its
  obtain ⟨W6, hW6⟩ : ∃ W6, W6 = w5.alloc (.cells #[.int .i64 rest.k, .int .i64 rest.n, .string rest.s, .slice B5 rest.l.length d5] 25) := ⟨_, rfl⟩
  have hb : Below w5.heap.size w5 W6 := by rw [hW6]; exact (Below.refl _ _).alloc (Nat.le_refl _) _
  have Hb8 := Lib.hid (show Blk W6 w5.heap.size 25 #[.int .i64 rest.k, .int .i64 rest.n, .string rest.s, .slice B5 rest.l.length d5] from by rw [hW6]; exact Blk.new _ _ _)
  replace HB := Lib.hid (HB.out.trans (hb.mono HB.out.size))
  replace Hbx := Lib.hid (Hbx.out.below hb Hbx.out.lt)
  replace Hby := Lib.hid (Hby.out.below hb Hby.out.lt)
  replace Hl := Lib.hid (Hl.out.stay hb (Nat.le_refl _))
  replace Hyc := Lib.hid (Hyc.out.stay hb (Nat.le_refl _))
  replace Hzc := Lib.hid (Hzc.out.stay hb (Nat.le_refl _))
  replace Hi5 := Lib.hid (Hi5.out.stay hb (Nat.le_refl _))
  replace Hr5 := Lib.hid (Hr5.out.stay hb (Nat.le_refl _))
  have HSZ5 := Lib.hid (show w.heap.size + 1 < w5.heap.size from BYL.out)
  have HS6 := Lib.hid (show w5.heap.size < W6.heap.size from Hb8.out.lt)
  clear hb
  have HW6 := Lib.hid hW6; clear hW6
  have hcall := list_calls xs rest _ _ W6 _ A5 c5 Hi5.out ⟨B5, d5, rfl, hs5, Hr5.out⟩
  rw [Hlr.out, Hlk.out, if_pos rfl] at hcall
  have Hcall := Lib.hid hcall; clear hcall
  go_wp2_with fail
  rw [← HW6.out]
  refine Hcall.out.mono ?_
  rintro e w7 ⟨A7, c7, rfl, hs7, hc7, hb⟩
  simp only [Option.getD_some] at hs7 hc7
  replace HB := Lib.hid (HB.out.trans (hb.mono HB.out.size))
  replace Hbx := Lib.hid (Hbx.out.below hb Hbx.out.lt)
  replace Hby := Lib.hid (Hby.out.below hb Hby.out.lt)
  replace Hb8 := Lib.hid (Hb8.out.below hb Hb8.out.lt)
  replace Hl := Lib.hid (Hl.out.stay hb (Nat.le_refl _))
  replace Hyc := Lib.hid (Hyc.out.stay hb (Nat.le_refl _))
  replace Hzc := Lib.hid (Hzc.out.stay hb (Nat.le_refl _))
  replace Hi5 := Lib.hid (Hi5.out.stay hb (Nat.le_refl _))
  replace Hr5 := Lib.hid (Hr5.out.stay hb (Nat.le_refl _))
  have Hc7 := Lib.hid hc7; clear hc7 hb Hcall HW6
  obtain ⟨W8, hW8⟩ : ∃ W8, W8 = w7.alloc (.cells #[.int .i64 z.k, .int .i64 z.n, .string z.s, .slice A7 z.l.length c7] 25) := ⟨_, rfl⟩
  have hb : Below w7.heap.size w7 W8 := by rw [hW8]; exact (Below.refl _ _).alloc (Nat.le_refl _) _
  have Hb10 := Lib.hid (show Blk W8 w7.heap.size 25 #[.int .i64 z.k, .int .i64 z.n, .string z.s, .slice A7 z.l.length c7] from by rw [hW8]; exact Blk.new _ _ _)
  replace HB := Lib.hid (HB.out.trans (hb.mono HB.out.size))
  replace Hbx := Lib.hid (Hbx.out.below hb Hbx.out.lt)
  replace Hby := Lib.hid (Hby.out.below hb Hby.out.lt)
  replace Hb8 := Lib.hid (Hb8.out.below hb Hb8.out.lt)
  replace Hl := Lib.hid (Hl.out.stay hb (Nat.le_refl _))
  replace Hyc := Lib.hid (Hyc.out.stay hb (Nat.le_refl _))
  replace Hzc := Lib.hid (Hzc.out.stay hb (Nat.le_refl _))
  replace Hi5 := Lib.hid (Hi5.out.stay hb (Nat.le_refl _))
  replace Hr5 := Lib.hid (Hr5.out.stay hb (Nat.le_refl _))
  replace Hc7 := Lib.hid (Hc7.out.stay hb (Nat.le_refl _))
  clear hb
  have HW8 := Lib.hid hW8; clear hW8
  have hcall := refSame_calls z _ _ W8 _ _ z ⟨A7, c7, rfl, hs7, Hc7.out⟩ ⟨C, d, rfl, hzs, Hzc.out⟩
  rw [sameB_refl] at hcall
  have Hcall := Lib.hid hcall; clear hcall
  go_upto_region 7 with (fail)
  rw [← HW8.out]
  obtain ⟨⟨by0, by1, by2, by3⟩, -⟩ := Hby.out.four
  have byl := Hby.out.lt
  obtain ⟨⟨b100, b101, b102, b103⟩, -⟩ := Hb10.out.four
  have b10l := Hb10.out.lt
  have i1 : ((some z).isSome = true) := rfl
  go_wp2_with fail
  refine (Hcall.out).mono ?_
  rintro e w9 ⟨rfl, hb⟩
  clear by0 by1 by2 by3 byl b100 b101 b102 b103 b10l
  replace HB := Lib.hid (HB.out.trans (hb.mono HB.out.size))
  replace Hbx := Lib.hid (Hbx.out.below hb Hbx.out.lt)
  replace Hby := Lib.hid (Hby.out.below hb Hby.out.lt)
  replace Hb8 := Lib.hid (Hb8.out.below hb Hb8.out.lt)
  replace Hb10 := Lib.hid (Hb10.out.below hb Hb10.out.lt)
  replace Hl := Lib.hid (Hl.out.stay hb (Nat.le_refl _))
  replace Hyc := Lib.hid (Hyc.out.stay hb (Nat.le_refl _))
  replace Hzc := Lib.hid (Hzc.out.stay hb (Nat.le_refl _))
  replace Hi5 := Lib.hid (Hi5.out.stay hb (Nat.le_refl _))
  replace Hr5 := Lib.hid (Hr5.out.stay hb (Nat.le_refl _))
  replace Hc7 := Lib.hid (Hc7.out.stay hb (Nat.le_refl _))
  clear hb
  clear Hcall
  have hlk2 : lstOk l y = true := by unfold lstOk; rw [HAl.out, HIy.out]; rfl
  have hcall := list_calls l y _ _ w9 _ A c Hl.out ⟨B, b, rfl, hys, Hyc.out⟩
  obtain ⟨R, hR⟩ : ∃ R, R = listR l y := ⟨_, rfl⟩
  rw [hlk2, if_pos rfl, ← hR] at hcall
  have Hcall := Lib.hid hcall; clear hcall
  rw [listR, hlk2] at hR
  have HR := Lib.hid hR; clear hR hlk2
  obtain ⟨⟨bx0, bx1, bx2, bx3⟩, -⟩ := Hbx.out.four
  have bxl := Hbx.out.lt
  go_wp2_with fail
  refine Hcall.out.mono ?_
  rintro e w10 ⟨A10, c10, rfl, hs10, hc10, hb⟩
  clear bx0 bx1 bx2 bx3 bxl
  replace HB := Lib.hid (HB.out.trans (hb.mono HB.out.size))
  replace Hbx := Lib.hid (Hbx.out.below hb Hbx.out.lt)
  replace Hby := Lib.hid (Hby.out.below hb Hby.out.lt)
  replace Hb8 := Lib.hid (Hb8.out.below hb Hb8.out.lt)
  replace Hb10 := Lib.hid (Hb10.out.below hb Hb10.out.lt)
  replace Hl := Lib.hid (Hl.out.stay hb (Nat.le_refl _))
  replace Hyc := Lib.hid (Hyc.out.stay hb (Nat.le_refl _))
  replace Hzc := Lib.hid (Hzc.out.stay hb (Nat.le_refl _))
  replace Hi5 := Lib.hid (Hi5.out.stay hb (Nat.le_refl _))
  replace Hr5 := Lib.hid (Hr5.out.stay hb (Nat.le_refl _))
  replace Hc7 := Lib.hid (Hc7.out.stay hb (Nat.le_refl _))
  have Hc10 := Lib.hid hc10; clear hc10 hb Hcall
  by_cases hbig : isB (listT l y) = true
  case neg =>
    have hrr : R = none := by rw [HR.out, if_neg (fun h => hbig h.2)]
    subst hrr
    have i2 : ((none : Option Tm).isSome = true) = False := by simp
    clear hs10 Hc10 HR hbig
    go_wp2
    go_ret
    exact ⟨rfl, HB.out.alloc HB.out.size _⟩
  have hrr : R = some (listT l y) := by rw [HR.out]; simp [hbig]
  subst hrr
  simp only [Option.getD_some] at hs10 Hc10
  have HIu := Lib.hid hbig; clear HR hbig
  obtain ⟨u, hu⟩ : ∃ u, u = listT l y := ⟨_, rfl⟩
  have hit : cellB y = false → u.items = (l, y) := fun h => by rw [hu, list_items h l]
  rw [← hu] at hs10 Hc10 HIu ⊢
  have Hit := Lib.hid hit; clear hit hu
  simp only [Option.getD_some, Option.isSome_some, if_true]
  obtain ⟨W11, hW11⟩ : ∃ W11, W11 = w10.alloc (.cells #[.int .i64 u.k, .int .i64 u.n, .string u.s, .slice A10 u.l.length c10] 25) := ⟨_, rfl⟩
  have hb : Below w10.heap.size w10 W11 := by rw [hW11]; exact (Below.refl _ _).alloc (Nat.le_refl _) _
  have Hb12 := Lib.hid (show Blk W11 w10.heap.size 25 #[.int .i64 u.k, .int .i64 u.n, .string u.s, .slice A10 u.l.length c10] from by rw [hW11]; exact Blk.new _ _ _)
  replace HB := Lib.hid (HB.out.trans (hb.mono HB.out.size))
  replace Hbx := Lib.hid (Hbx.out.below hb Hbx.out.lt)
  replace Hby := Lib.hid (Hby.out.below hb Hby.out.lt)
  replace Hb8 := Lib.hid (Hb8.out.below hb Hb8.out.lt)
  replace Hb10 := Lib.hid (Hb10.out.below hb Hb10.out.lt)
  replace Hl := Lib.hid (Hl.out.stay hb (Nat.le_refl _))
  replace Hyc := Lib.hid (Hyc.out.stay hb (Nat.le_refl _))
  replace Hzc := Lib.hid (Hzc.out.stay hb (Nat.le_refl _))
  replace Hi5 := Lib.hid (Hi5.out.stay hb (Nat.le_refl _))
  replace Hr5 := Lib.hid (Hr5.out.stay hb (Nat.le_refl _))
  replace Hc7 := Lib.hid (Hc7.out.stay hb (Nat.le_refl _))
  replace Hc10 := Lib.hid (Hc10.out.stay hb (Nat.le_refl _))
  clear hb
  have HW11 := Lib.hid hW11; clear hW11
  have HSZ11 := Lib.hid (show w5.heap.size < W11.heap.size from Hb8.out.lt)
  have hcall := items_calls u _ W11 _ ⟨A10, c10, rfl, hs10, Hc10.out⟩
  obtain ⟨its2, hits2⟩ : ∃ its, its = u.items := ⟨_, rfl⟩
  rw [itR, HIu.out, if_pos rfl, ← hits2, show errT true = 0 from rfl] at hcall
  have Hits2 := Lib.hid hits2; clear hits2
  have Hcall := Lib.hid hcall; clear hcall
  go_upto_region 12 with (fail)
  rw [← HW11.out]
  obtain ⟨⟨b120, b121, b122, b123⟩, -⟩ := Hb12.out.four
  have b12l := Hb12.out.lt
  go_wp2_with fail
  refine Hcall.out.mono ?_
  rintro e w12 ⟨A12, c12, B12, d12, rfl, hi12, hs12, hr12, hb⟩
  clear b120 b121 b122 b123 b12l
  replace HB := Lib.hid (HB.out.trans (hb.mono HB.out.size))
  replace Hbx := Lib.hid (Hbx.out.below hb Hbx.out.lt)
  replace Hby := Lib.hid (Hby.out.below hb Hby.out.lt)
  replace Hb8 := Lib.hid (Hb8.out.below hb Hb8.out.lt)
  replace Hb10 := Lib.hid (Hb10.out.below hb Hb10.out.lt)
  replace Hb12 := Lib.hid (Hb12.out.below hb Hb12.out.lt)
  replace Hl := Lib.hid (Hl.out.stay hb (Nat.le_refl _))
  replace Hyc := Lib.hid (Hyc.out.stay hb (Nat.le_refl _))
  replace Hzc := Lib.hid (Hzc.out.stay hb (Nat.le_refl _))
  replace Hi5 := Lib.hid (Hi5.out.stay hb (Nat.le_refl _))
  replace Hr5 := Lib.hid (Hr5.out.stay hb (Nat.le_refl _))
  replace Hc7 := Lib.hid (Hc7.out.stay hb (Nat.le_refl _))
  replace Hc10 := Lib.hid (Hc10.out.stay hb (Nat.le_refl _))
  have Hi12 := Lib.hid (hi12.mono (Q := (W11.heap.size ≤ ·)) (fun _ h => h)); have Hr12 := Lib.hid hr12
  clear hi12 hr12 hb Hcall HW11 HW8
  obtain ⟨xs2, rest2⟩ := its2
  simp only at hs12 Hi12 Hr12 ⊢
  have hz1 : w.heap.size + 1 < w5.heap.size := by have := HSZ5.out; exact this
  have hz2 : w5.heap.size < W11.heap.size := by have := HSZ11.out; exact this
  obtain ⟨W13, hW13⟩ : ∃ W13, W13 = (((w12.setCell ⟨w5.heap.size, 0, none⟩ (.int .i64 rest2.k)).setCell ⟨w5.heap.size, 1, none⟩ (.int .i64 rest2.n)).setCell ⟨w5.heap.size, 2, none⟩ (.string rest2.s)).setCell ⟨w5.heap.size, 3, none⟩ (.slice B12 rest2.l.length d12) := ⟨_, rfl⟩
  have hbut : But w5.heap.size w12 W13 := by rw [hW13]; exact ((((But.refl _ _).setCell 0 _).setCell 1 _).setCell 2 _).setCell 3 _
  have Hb8n := Lib.hid (show Blk W13 w5.heap.size 25 #[.int .i64 rest2.k, .int .i64 rest2.n, .string rest2.s, .slice B12 rest2.l.length d12] from by rw [hW13]; exact set4_at w12 w5.heap.size _ 25 Hb8.out rfl _ _ _ _)
  obtain ⟨⟨k0, k1, k2, k3⟩, ⟨m0, m1, m2, m3⟩⟩ := Hb8.out.four
  have kl := Hb8.out.lt
  have Hbxn := Lib.hid (show Blk W13 w.heap.size 25 #[.int .i64 y.k, .int .i64 y.n, .string y.s, .slice B y.l.length b] from (hbut.block _ Hbx.out.lt (by omega)).trans Hbx.out)
  have Hln := Lib.hid (Hl.out.but hbut (fun g hg => by have : g < w.heap.size := hg; omega)); have Hycn := Lib.hid (Hyc.out.but hbut (fun g hg => by have : g < w.heap.size := hg; omega))
  have Hin := Lib.hid (Hi12.out.but hbut (fun g hg => by omega)); have Hrn := Lib.hid (Hr12.out.but hbut (fun g hg => by omega))
  have HBn := Lib.hid (HB.out.trans (hbut.below (by omega) (by have := HB.out.size; omega) : Below w.heap.size w12 W13))
  have HW13 := Lib.hid hW13
  clear hbut hW13 Hb8 Hbx Hby Hb10 Hb12 Hl Hyc Hzc Hi12 Hr12 Hi5 Hr5 Hc7 Hc10 HB hz1 hz2
  go_upto_region 13 with (fail)
  rw [← HW13.out]
  clear k0 k1 k2 k3 m0 m1 m2 m3 kl HW13
  have Hq := isCell_calls y _ W13 _ ⟨B, b, rfl, hys, Hycn.out⟩
  obtain ⟨q, hq⟩ : ∃ q, q = cellB y := ⟨_, rfl⟩
  rw [← hq] at Hq Hit
  have Hcall := Lib.hid Hq; clear Hq hq
  obtain ⟨⟨bx0, bx1, bx2, bx3⟩, -⟩ := Hbxn.out.four
  have bxl := Hbxn.out.lt
  go_wp2_with fail
  refine Hcall.out.mono ?_
  rintro e w14 ⟨rfl, hb⟩
  have HB14 := Lib.hid (HBn.out.trans (hb.mono HBn.out.size))
  cases q
  case true =>
    go_wp2
    go_ret
    exact ⟨rfl, HB14.out⟩
  have hii := Hit.out rfl
  rw [← Hits2.out] at hii
  injection hii with h1 h2; subst h1; subst h2
  have Hx14 := Lib.hid (Hbxn.out.below hb Hbxn.out.lt); have H814 := Lib.hid (Hb8n.out.below hb Hb8n.out.lt)
  have hcall := sameAll_calls xs2 xs2 A12 c12 A c _ _ w14 (Hin.out.stay hb (Nat.le_refl _)) (Hln.out.stay hb (Nat.le_refl _))
  rw [sameL_iff.2 rfl] at hcall
  have Hcall3 := Lib.hid hcall; clear hcall
  have Hy14 := Lib.hid (Hycn.out.stay hb (Nat.le_refl _)); have Hr14 := Lib.hid (Hrn.out.stay hb (Nat.le_refl _))
  clear hb bx0 bx1 bx2 bx3 bxl Hcall Hbxn Hb8n Hycn Hrn Hin Hln Hits2 Hit
  go_wp2_with fail
  refine Hcall3.out.mono ?_
  rintro e w15 ⟨rfl, hb⟩
  have HB15 := Lib.hid (HB14.out.trans (hb.mono HB14.out.size))
  have Hx15 := Lib.hid (Hx14.out.below hb Hx14.out.lt); have H815 := Lib.hid (H814.out.below hb H814.out.lt)
  have hcall := refSame_calls rest2 _ _ w15 _ _ rest2 ⟨B12, d12, rfl, hs12, Hr14.out.stay hb (Nat.le_refl _)⟩ ⟨B, b, rfl, hys, Hy14.out.stay hb (Nat.le_refl _)⟩
  rw [sameB_refl] at hcall
  have Hcall4 := Lib.hid hcall; clear hcall
  obtain ⟨⟨x0, x1, x2, x3⟩, -⟩ := Hx15.out.four
  have xl := Hx15.out.lt
  obtain ⟨⟨y0, y1, y2, y3⟩, -⟩ := H815.out.four
  have yl := H815.out.lt
  clear hb Hcall3
  go_wp2_with fail
  refine Hcall4.out.mono ?_
  rintro e w16 ⟨rfl, hb⟩
  have HB16 := Lib.hid (HB15.out.trans (hb.mono HB15.out.size)); clear hb
  go_wp2
  go_ret
  exact ⟨rfl, HB16.out⟩
end Go.Proofs.Ytfhgknmkpegpbaa
