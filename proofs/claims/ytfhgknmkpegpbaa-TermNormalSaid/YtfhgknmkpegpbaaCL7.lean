/- The walk of TermNormal. -/
import Derived.Test.YtfhgknmkpegpbaaM8
import Derived.Test.YtfhgknmkpegpbaaM1
import Derived.Test.YtfhgknmkpegpbaaCT64
set_option linter.unusedVariables false
set_option linter.unusedSimpArgs false
namespace Go.Proofs.Ytfhgknmkpegpbaa
open Go.RowKit

set_option maxRecDepth 100000 in
set_option maxHeartbeats 8000000 in
theorem normalLaw_calls (l : List Tm) (A : Option Addr) (c : Nat) (by_ : Int) (P : Nat → Prop) (w : World) (hl : TmC P w A c l) :
    Calls Try.prog 8 #[.slice A l.length c, .int .i64 by_] w fun e w' => e = .returned (.bool true) ∧ Below w.heap.size w w' := by
  obtain ⟨i0, hi0⟩ := info25
  have Hi := Lib.hid hi0; clear hi0
  have hll := hl.len.1; have hlc := hl.len.2.1
  have Hl := Lib.hid (hl.inside.mono (Q := (· < w.heap.size)) (fun g h => h.2)); clear hl
  go_enter Try.func8, Try.ntmps8
  go_wp2_with fail
  refine (sane_calls w).mono ?_
  rintro e w1 ⟨rfl, hb⟩
  have HB := Lib.hid hb; clear hb
  have hcall := small_calls l _ A c w1 (Hl.out.stay HB.out (Nat.le_refl _))
  obtain ⟨s, hs⟩ : ∃ s, s = smallB l := ⟨_, rfl⟩
  rw [← hs] at hcall
  have Hcall := Lib.hid hcall; have Hs := Lib.hid hs; clear hcall hs
  go_wp2_with fail
  refine Hcall.out.mono ?_
  rintro e w2 ⟨rfl, hb⟩
  replace HB := Lib.hid (HB.out.trans (hb.mono HB.out.size))
  clear hb Hcall
  cases s
  case false =>
    go_wp2
    go_ret
    exact ⟨rfl, HB.out⟩
  have hcall := refTogether_calls l _ A c w2 (Hl.out.stay HB.out (Nat.le_refl _)) (by have := (smallB_sizes Hs.out.symm).1; omega)
  obtain ⟨s, hs⟩ : ∃ s, s = allB l := ⟨_, rfl⟩
  rw [← hs] at hcall
  clear Hs
  have Hcall := Lib.hid hcall; have Hs := Lib.hid hs; clear hcall hs
  go_wp2_with fail
  refine Hcall.out.mono ?_
  rintro e w3 ⟨rfl, hb⟩
  replace HB := Lib.hid (HB.out.trans (hb.mono HB.out.size))
  clear hb Hcall
  cases s
  case false =>
    go_wp2
    go_ret
    exact ⟨rfl, HB.out⟩
  have Ha := Lib.hid (show allB l = true from Hs.out.symm); clear Hs
  obtain ⟨n1, n2, n3⟩ := norm_law Ha.out
  have nl := normR_len l
  have hat := fun (i : Nat) (t : Tm) (h : l[i]? = some t) => normR_at Ha.out h
  have hback := fun (t : Tm) (h : t ∈ l) => norm_back_law Ha.out h
  have hmoved := fun (hs : ∀ t ∈ l, shB by_ t = true) => moved_law Ha.out hs
  have hcall := normal_ok l _ A c w3 (Hl.out.stay HB.out (Nat.le_refl _)) Ha.out
  obtain ⟨n, hn⟩ : ∃ n, n = normR l := ⟨_, rfl⟩
  obtain ⟨vs, hvs⟩ : ∃ v, v = varsL l := ⟨_, rfl⟩
  have hvl : vs.length ≤ 4000 := by rw [hvs]; have h1 := varsL_len l; have h2 := (allB_iff.1 Ha.out).2.1; omega
  have hllt : l.length ≤ 4000 := by have h1 := Tm.len_le_sizes l; have h2 := (allB_iff.1 Ha.out).2.1; omega
  have hok := fun (t : Tm) (h : t ∈ l) => isB_of_all Ha.out h
  rw [← hn] at n1 n2 n3 nl hcall hmoved
  rw [← hvs] at n2 hcall hback
  simp only [← hn] at hat
  have hcall2 := fun (W : World) (A2 : Option Addr) (c2 : Nat) (h : TmC (fun _ => True) W A2 c2 n) => normal_ok n _ A2 c2 W h n1
  rw [n2, n3] at hcall2
  obtain ⟨ow, how⟩ : ∃ o, o = (List.range vs.length).map Int.ofNat := ⟨_, rfl⟩
  rw [← how] at hcall2
  have Hcall := Lib.hid hcall; have Hcall2 := Lib.hid hcall2; have Hat := Lib.hid hat; have Hback := Lib.hid hback; have Hmoved := Lib.hid hmoved; have How := Lib.hid how; have Nl := Lib.hid nl; have Hok := Lib.hid hok
  clear hcall hcall2 hat hback hmoved how nl hn hvs n1 n2 n3 hok
  have hne : ((n.length : Int) != (l.length : Int)) = false := by rw [Nl.out]; simp
  have hne2 : ((ow.length : Int) != (vs.length : Int)) = false := by rw [How.out]; simp
  go_wp2_with fail
  refine Hcall.out.mono ?_
  rintro e w4 ⟨An, cn, Av, cv, rfl, hnc, hvr, hv1, hv2, hb⟩
  have Hnc := Lib.hid hnc; have Hvr := Lib.hid hvr; clear hnc hvr
  replace HB := Lib.hid (HB.out.trans (hb.mono HB.out.size))
  clear hb Hcall
  have Hcall := Lib.hid (Hcall2.out w4 An cn Hnc.out); clear Hcall2
  go_wp2_with fail
  refine Hcall.out.mono ?_
  rintro e w5 ⟨Am, cm, Ao, co, rfl, hmc, hor, ho1, ho2, hb⟩
  have Hmc := Lib.hid hmc; have Hor := Lib.hid hor; clear hmc hor; replace Hnc := Lib.hid (Hnc.out.stay hb (Nat.le_refl _)); replace Hvr := Lib.hid (Hvr.out.below hb (Nat.le_refl _))
  replace HB := Lib.hid (HB.out.trans (hb.mono HB.out.size))
  clear hb Hcall
  have hcall := sameAll_calls n n An cn Am cm _ _ w5 Hnc.out Hmc.out
  rw [sameL_iff.2 rfl] at hcall
  have Hcall := Lib.hid hcall; clear hcall
  go_wp2_with fail
  refine Hcall.out.mono ?_
  rintro e w6 ⟨rfl, hb⟩
  replace Hnc := Lib.hid (Hnc.out.stay hb (Nat.le_refl _)); replace Hvr := Lib.hid (Hvr.out.below hb (Nat.le_refl _)); replace Hor := Lib.hid (Hor.out.below hb (Nat.le_refl _)); clear Hmc
  replace HB := Lib.hid (HB.out.trans (hb.mono HB.out.size))
  clear hb Hcall
  go_wp2
  obtain ⟨N0, hN0⟩ : ∃ N, N = w6.heap.size := ⟨_, rfl⟩
  have HN0 := Lib.hid hN0; clear hN0
  go_loopw [10, 68] (fun v10 i wr => ∃ k : Nat, k ≤ vs.length ∧ i = .int .i64 k ∧ Hid (RowT N0 (N0 ≤ ·) wr v10 ((vs.take k).map Tm.va)) ∧ Hid (Below w6.heap.size w6 wr)) (fun _ i _ => vs.length - (intOf i).toNat)
  case atStart => exact ⟨0, Nat.zero_le _, rfl, Lib.hid (RowT.nil _ _ _), Lib.hid (Below.refl _ _)⟩
  case round =>
    obtain ⟨k, hk, rfl, Hrw, HL⟩ := hrel
    by_cases hlt : k < vs.length
    case pos =>
      obtain ⟨x, hx⟩ : ∃ x, vs[k]? = some x := ⟨_, List.getElem?_eq_getElem hlt⟩
      have hox : ow[k]? = some (k : Int) := by rw [How.out, List.getElem?_map, List.getElem?_range hlt]; rfl
      obtain ⟨gv, ov, hAv, x0⟩ := (Hvr.out.below HL.out (Nat.le_refl _)).atI hx
      obtain ⟨go_, oo, hAo, y0⟩ := (Hor.out.below HL.out (Nat.le_refl _)).atI hox
      have Hts := Lib.hid (take_snoc hx)
      have hol : (k : Int) < (ow.length : Int) := by rw [How.out]; simp; omega
      have hk0 : (0 : Int) ≤ (k : Int) := by omega
      have hkv : (k : Int) < (vs.length : Int) := by omega
      clear hx hox
      subst hAv hAo
      go_wp2_with fail
      refine (v_calls x wr).mono ?_
      rintro e w7 ⟨rfl, hb⟩
      unfold vV
      have hbr2 : Below wr.heap.size wr (w7.alloc (.cells #[.int .i64 1, .int .i64 x, .string ⟨#[]⟩, .slice none 0 0] 25)) := hb.alloc hb.size _
      have hrw2 := Hrw.out.below hbr2 (Nat.le_refl _)
      obtain ⟨es, hes, hrow, hch⟩ := hrw2
      have hel : es.length = k := by rw [← List.length_map (f := fun e : EV => e.1), ← hes, List.length_map, List.length_take]; omega
      have HL2 := Lib.hid (HL.out.trans (hbr2.mono HL.out.size))
      have Hch := Lib.hid hch; have Hrow := Lib.hid hrow; have Hes := Lib.hid hes; have Hel := Lib.hid hel; have Hsz7 := Lib.hid hb.size; clear hrow hch hes hel hb hbr2 x0 y0
      go_wp2_with (at_builtin; refine wpList_append_own_at _ rfl (.tmp 79) (.tmp 82) 22 rfl N0 25 i0 _ 4 56 Try.underlying22 Hi.out.1 Hi.out.2.1 Hi.out.2.2.1 Hi.out.2.2.2 rfl (by decide) u10 es.length (es.flatMap encE) rfl Hrow.out ⟨w7.heap.size, 0, none⟩ 1 1 [.int .i64 1, .int .i64 x, .string ⟨#[]⟩, .slice none 0 0] rfl rfl ?c1 ?c2 ?c3 ?c4 ?c5 ?_)
      case c1 =>
        intro j u hu
        rw [add_lit0, (Blk.new w7 25 _).cell j]
        simpa using hu
      case c2 => simp [Value.oneCell']
      case c3 => rw [Hel.out]; simp only [maxLen]; omega
      case c4 => rw [Hel.out]; omega
      case c5 => have := HL2.out.size; rw [HN0.out]; exact this
      intro v' w8 hown hg _ hbk
      have hnew : RowT N0 (N0 ≤ ·) w8 v' ((vs.take (k + 1)).map Tm.va) := by
        rw [Hts.out, List.map_append, List.map_singleton]
        exact RowT.push (P' := fun _ => False) (t := Tm.va x) (A := none) (c := 0) es Hes.out Hch.out (by show (0 : Nat) ≤ _; omega) (TmC.nil _ _ (by omega) (fun _ => rfl)) (fun g hg' => hg'.elim) hown hg (by simpa using hbk)
      have HL3 := Lib.hid (HL2.out.grown hg HL2.out.size (fun k hk => by have := (Hrow.out.lt k hk).1; rw [HN0.out] at this; exact this))
      have Hnew := Lib.hid hnew
      obtain ⟨A', c', rfl⟩ := own_slice hown
      clear hown hg hbk hnew
      go_wp2
      go_roundw
      case rel => exact ⟨k + 1, by omega, by go_num, Hnew, HL3⟩
      case measure => simp [intOf]; omega
    have hke : k = vs.length := by omega
    subst hke
    have hrt := Hrw.out; rw [List.take_length] at hrt
    obtain ⟨Ab, cb, rfl, hbc⟩ := hrt.toC
    have Hbc := Lib.hid (hbc.mono (Q := fun _ => True) (fun _ _ => trivial)); clear hbc hrt Hrw
    have HBL := Lib.hid (HB.out.trans (HL.out.mono HB.out.size)); have Hnc2 := Lib.hid (Hnc.out.stay HL.out (Nat.le_refl _))
    clear Hvr Hor HN0 HL HB Hnc
    obtain ⟨bk, hbk⟩ : ∃ b, b = vs.map Tm.va := ⟨_, rfl⟩
    rw [← hbk] at Hbc Hback ⊢
    clear hbk
    obtain ⟨WL, hWL⟩ : ∃ W, W = wr := ⟨_, rfl⟩
    rw [← hWL] at Hbc HBL Hnc2 ⊢
    clear hWL
    go_wp2
    obtain ⟨N1, hN1⟩ : ∃ N, N = WL.heap.size := ⟨_, rfl⟩
    have HN1 := Lib.hid hN1; clear hN1
    go_loopw [11, 87] (fun v11 i wr => ∃ k : Nat, k ≤ n.length ∧ i = .int .i64 k ∧ Hid (RowT N1 (N1 ≤ ·) wr v11 ((l.take k).map (shT by_))) ∧ Hid (∀ t ∈ l.take k, shB by_ t = true) ∧ Hid (Below WL.heap.size WL wr)) (fun _ i _ => n.length - (intOf i).toNat)
    case atStart => exact ⟨0, Nat.zero_le _, rfl, Lib.hid (RowT.nil _ _ _), Lib.hid (fun t h => by cases h), Lib.hid (Below.refl _ _)⟩
    case round =>
      obtain ⟨k, hk, rfl, Hrw, Hsh, HL⟩ := hrel
      by_cases hlt : k < n.length
      case neg =>
        have hke : k = l.length := by have := Nl.out; omega
        subst hke
        have hrt := Hrw.out; rw [List.take_length] at hrt
        obtain ⟨Aq, cq, rfl, hqc⟩ := hrt.toC
        obtain ⟨m1, m2⟩ := Hmoved.out (by have := Hsh.out; rwa [List.take_length] at this)
        obtain ⟨mv, hmv⟩ : ∃ m, m = l.map (shT by_) := ⟨_, rfl⟩
        rw [← hmv] at m1 m2 hqc ⊢
        have hcall := normal_ok mv _ Aq cq wr hqc m1
        rw [m2] at hcall
        have Hcall := Lib.hid hcall; clear hcall hqc hrt m1 m2 hmv
        have HBF := Lib.hid (HBL.out.trans (HL.out.mono HBL.out.size)); have Hnc3 := Lib.hid (Hnc2.out.stay HL.out (Nat.le_refl _))
        go_wp2_with fail
        refine Hcall.out.mono ?_
        rintro e w8 ⟨Ax, cx, Ay, cy, rfl, hxc, -, -, -, hb⟩
        have hcall := sameAll_calls n n Ax cx An cn _ _ w8 hxc (Hnc3.out.stay hb (Nat.le_refl _))
        rw [sameL_iff.2 rfl] at hcall
        have HBF2 := Lib.hid (HBF.out.trans (hb.mono HBF.out.size)); clear hb hxc
        have Hcall2 := Lib.hid hcall; clear hcall
        go_wp2_with fail
        refine Hcall2.out.mono ?_
        rintro e w9 ⟨rfl, hb⟩
        have HBF3 := Lib.hid (HBF2.out.trans (hb.mono HBF2.out.size)); clear hb
        go_wp2
        go_ret
        exact ⟨rfl, HBF3.out⟩
      have hkl : k < l.length := by have := Nl.out; omega
      obtain ⟨x, hx⟩ : ∃ x, l[k]? = some x := ⟨_, List.getElem?_eq_getElem hkl⟩
      have hxm := List.mem_of_getElem? hx
      obtain ⟨hyb, hsb, hsub⟩ := Hback.out x hxm
      have hy := Hat.out k x hx
      obtain ⟨y, hyy⟩ : ∃ y, y = x.sub (fun v => Tm.va (ixL l v)) := ⟨_, rfl⟩
      rw [← hyy] at hyb hsub hy
      have Hts := Lib.hid (take_snoc hx)
      obtain ⟨gn, on, Ay, cy, hAn, -, ⟨y0, y1, y2, y3⟩, hys, hyc⟩ := (Hnc2.out.stay HL.out (Nat.le_refl _)).at_ hy
      have hBr := HBL.out.trans (HL.out.mono HBL.out.size)
      obtain ⟨gl, ol, Ax, cx, hAl, hPg, ⟨x0, x1, x2, x3⟩, hxs, hxc⟩ := (Hl.out.stay hBr (Nat.le_refl _)).at_ hx
      have hcall := subst_ok _ _ wr _ Ab cb ⟨Ay, cy, rfl, hys, hyc⟩ (Hbc.out.stay HL.out (Nat.le_refl _)) hsub
      have Hcall := Lib.hid hcall; have Hxm := Lib.hid hxm; have Hxc := Lib.hid hxc; have Ix := Lib.hid (Hok.out x hxm); clear hcall hyc hxc hyy hyb hsb hsub hy hx hxm hBr
      have hk0 : (0 : Int) ≤ (k : Int) := by omega
      have hkn : (k : Int) < (n.length : Int) := by omega
      have hkl2 : (k : Int) < (l.length : Int) := by omega
      subst hAn hAl
      go_wp2_with fail
      refine Hcall.out.mono ?_
      rintro e w7 ⟨Az, cz, rfl, hzs, hzc, hb⟩
      clear y0 y1 y2 y3 Hcall
      obtain ⟨V7, hV7⟩ : ∃ V, V = w7.alloc (.cells #[.int .i64 x.k, .int .i64 x.n, .string x.s, .slice Az x.l.length cz] 25) := ⟨_, rfl⟩
      have hb2 : Below w7.heap.size w7 V7 := by rw [hV7]; exact (Below.refl _ _).alloc (Nat.le_refl _) _
      have HZ := Lib.hid (show Blk V7 w7.heap.size 25 #[.int .i64 x.k, .int .i64 x.n, .string x.s, .slice Az x.l.length cz] from by rw [hV7]; exact Blk.new _ _ _)
      have hb3 : Below wr.heap.size wr V7 := hb.trans (hb2.mono hb.size)
      have HL2 := Lib.hid (HL.out.trans (hb3.mono HL.out.size)); have Hzc := Lib.hid (hzc.stay hb2 (Nat.le_refl _)); have Hrw2 := Lib.hid (Hrw.out.below hb3 (Nat.le_refl _)); have Hxc2 := Lib.hid (Hxc.out.stay hb3 (Nat.le_refl _))
      replace x0 := keep_cell hb3 x0; replace x1 := keep_cell hb3 x1; replace x2 := keep_cell hb3 x2; replace x3 := keep_cell hb3 x3
      have HV7 := Lib.hid hV7; clear hV7 hb hb2 hb3 hzc HL Hrw Hxc
      go_upto_region 23 with (fail)
      rw [← HV7.out]
      clear HV7
      obtain ⟨⟨z0, z1, z2, z3⟩, -⟩ := HZ.out.four; have zl := HZ.out.lt
      have hcall := fun (W : World) (hb : Hid (Below V7.heap.size V7 W)) => refSame_calls x _ _ W _ _ x ⟨Az, cz, rfl, hzs, Hzc.out.stay hb.out (Nat.le_refl _)⟩ ⟨Ax, cx, rfl, hxs, Hxc2.out.stay hb.out (Nat.le_refl _)⟩
      simp only [sameB_refl] at hcall
      have Hcall := Lib.hid hcall; clear hcall
      go_wp2_with fail
      refine wp_region_noPanic ?_
      refine wp_region_held_drew (S := SW V7 [(⟨w7.heap.size, 0, none⟩, .int .i64 x.k), (⟨w7.heap.size, 1, none⟩, .int .i64 x.n), (⟨w7.heap.size, 2, none⟩, .string x.s), (⟨w7.heap.size, 3, none⟩, .slice Az x.l.length cz), (⟨gl, ol + k * 4, none⟩, .int .i64 x.k), (⟨gl, ol + k * 4 + 1, none⟩, .int .i64 x.n), (⟨gl, ol + k * 4 + 2, none⟩, .string x.s), (⟨gl, ol + k * 4 + 3, none⟩, .slice Ax x.l.length cx)]) (by kernel_rfl) ?_ (fun hHeld => ?_)
      · exact SW.start (fun p hp => by simp only [List.mem_cons, List.not_mem_nil, or_false] at hp; rcases hp with rfl | rfl | rfl | rfl | rfl | rfl | rfl | rfl <;> assumption)
      refine takeH (i := 0) (d := 99) (.int .i64 0) (by kernel_rfl) (by kernel_rfl) (by kernel_rfl) (by kernel_rfl) (fun _ _ _ _ h => h) (fun o ho => ?_) hHeld ?_
      · simp only [List.getElem?_toArray, List.getElem?_cons_zero, List.getElem?_cons_succ, Option.some.injEq] at ho
        subst ho
        refine Or.inl ⟨by rfl, fun w hSw => ?_⟩
        go_simp
      simp only [Act.put, List.setIfInBounds_toArray, List.set_cons_zero, List.set_cons_succ]
      refine takeH (i := 1) (d := 100) (.bool false) (by kernel_rfl) (by kernel_rfl) (by kernel_rfl) (by kernel_rfl) (fun _ _ _ _ h => h) (fun o ho => ?_) hHeld ?_
      · simp only [List.getElem?_toArray, List.getElem?_cons_zero, List.getElem?_cons_succ, Option.some.injEq] at ho
        subst ho
        refine Or.inl ⟨by rfl, fun w hSw => ?_⟩
        go_simp
      simp only [Act.put, List.setIfInBounds_toArray, List.set_cons_zero, List.set_cons_succ]
      refine takeH (i := 2) (d := 101) (.bool false) (by kernel_rfl) (by kernel_rfl) (by kernel_rfl) (by kernel_rfl) (fun _ _ _ _ h => h) (fun o ho => ?_) hHeld ?_
      · simp only [List.getElem?_toArray, List.getElem?_cons_zero, List.getElem?_cons_succ, Option.some.injEq] at ho
        subst ho
        refine Or.inl ⟨by rfl, fun w hSw => ?_⟩
        go_simp
      simp only [Act.put, List.setIfInBounds_toArray, List.set_cons_zero, List.set_cons_succ]
      refine takeH (i := 3) (d := 102) (.agg #[.int .i64 x.k, .int .i64 x.n, .string x.s, .slice Az x.l.length cz]) (by kernel_rfl) (by kernel_rfl) (by kernel_rfl) (by kernel_rfl) (fun _ _ _ _ h => h) (fun o ho => ?_) hHeld ?_
      · simp only [List.getElem?_toArray, List.getElem?_cons_zero, List.getElem?_cons_succ, Option.some.injEq] at ho
        subst ho
        refine Or.inl ⟨by rfl, fun w hSw => ?_⟩
        have s0 := hSw.at 0 rfl
        have s1 := hSw.at 1 rfl
        have s2 := hSw.at 2 rfl
        have s3 := hSw.at 3 rfl
        go_simp
      simp only [Act.put, List.setIfInBounds_toArray, List.set_cons_zero, List.set_cons_succ]
      refine takeH (i := 4) (d := 103) (.slice (some ⟨gl, ol, none⟩) l.length c) (by kernel_rfl) (by kernel_rfl) (by kernel_rfl) (by kernel_rfl) (fun _ _ _ _ h => h) (fun o ho => ?_) hHeld ?_
      · simp only [List.getElem?_toArray, List.getElem?_cons_zero, List.getElem?_cons_succ, Option.some.injEq] at ho
        subst ho
        refine Or.inl ⟨by rfl, fun w hSw => ?_⟩
        go_simp
      simp only [Act.put, List.setIfInBounds_toArray, List.set_cons_zero, List.set_cons_succ]
      refine takeH (i := 5) (d := 104) (.int .i64 (k : Int)) (by kernel_rfl) (by kernel_rfl) (by kernel_rfl) (by kernel_rfl) (fun _ _ _ _ h => h) (fun o ho => ?_) hHeld ?_
      · simp only [List.getElem?_toArray, List.getElem?_cons_zero, List.getElem?_cons_succ, Option.some.injEq] at ho
        subst ho
        refine Or.inl ⟨by rfl, fun w hSw => ?_⟩
        go_simp
      simp only [Act.put, List.setIfInBounds_toArray, List.set_cons_zero, List.set_cons_succ]
      refine takeH (i := 6) (d := 105) (.pointer (some ⟨gl, ol + k * 4, none⟩)) (by kernel_rfl) (by kernel_rfl) (by kernel_rfl) (by kernel_rfl) (fun _ _ _ _ h => h) (fun o ho => ?_) hHeld ?_
      · simp only [List.getElem?_toArray, List.getElem?_cons_zero, List.getElem?_cons_succ, Option.some.injEq] at ho
        subst ho
        refine Or.inl ⟨by rfl, fun w hSw => ?_⟩
        go_simp
      simp only [Act.put, List.setIfInBounds_toArray, List.set_cons_zero, List.set_cons_succ]
      refine takeH (i := 7) (d := 106) (.agg #[.int .i64 x.k, .int .i64 x.n, .string x.s, .slice Ax x.l.length cx]) (by kernel_rfl) (by kernel_rfl) (by kernel_rfl) (by kernel_rfl) (fun _ _ _ _ h => h) (fun o ho => ?_) hHeld ?_
      · simp only [List.getElem?_toArray, List.getElem?_cons_zero, List.getElem?_cons_succ, Option.some.injEq] at ho
        subst ho
        refine Or.inl ⟨by rfl, fun w hSw => ?_⟩
        have s0 := hSw.at 4 rfl
        have s1 := hSw.at 5 rfl
        have s2 := hSw.at 6 rfl
        have s3 := hSw.at 7 rfl
        go_simp
      simp only [Act.put, List.setIfInBounds_toArray, List.set_cons_zero, List.set_cons_succ]
      refine stepH (i := 8) (by kernel_rfl) (by kernel_rfl) (fun o ho K2 hK => ?_)
      simp only [List.getElem?_toArray, List.getElem?_cons_zero, List.getElem?_cons_succ, Option.some.injEq] at ho
      subst ho
      go_simp
      refine (Hcall.out _ hHeld.1).mono ?_
      rintro e wx ⟨rfl, hb⟩
      dsimp only
      refine hK.out _ _ (hHeld.below hb) (fun hHeld => ?_)
      clear hK K2 hb
      try simp only [Act.put, List.setIfInBounds_toArray, List.set_cons_zero, List.set_cons_succ]
      refine takeH (i := 9) (d := 108) (.bool false) (by kernel_rfl) (by kernel_rfl) (by kernel_rfl) (by kernel_rfl) (fun _ _ _ _ h => h) (fun o ho => ?_) hHeld ?_
      · simp only [List.getElem?_toArray, List.getElem?_cons_zero, List.getElem?_cons_succ, Option.some.injEq] at ho
        subst ho
        refine Or.inl ⟨by rfl, fun w hSw => ?_⟩
        go_simp
      simp only [Act.put, List.setIfInBounds_toArray, List.set_cons_zero, List.set_cons_succ]
      refine takeH (i := 10) (d := 109) (.bool false) (by kernel_rfl) (by kernel_rfl) (by kernel_rfl) (by kernel_rfl) (fun _ _ _ _ h => h) (fun o ho => ?_) hHeld ?_
      · simp only [List.getElem?_toArray, List.getElem?_cons_zero, List.getElem?_cons_succ, Option.some.injEq] at ho
        subst ho
        refine Or.inl ⟨by rfl, fun w hSw => ?_⟩
        go_simp
      simp only [Act.put, List.setIfInBounds_toArray, List.set_cons_zero, List.set_cons_succ]
      refine wpAnyH_done (by kernel_rfl) ?_ _
      refine NoPanic.normal ?_
      have hb := hHeld.1.out
      clear hHeld Hcall z0 z1 z2 z3 zl
      replace HL2 := Lib.hid (HL2.out.trans (hb.mono HL2.out.size)); replace Hrw2 := Lib.hid (Hrw2.out.below hb (Nat.le_refl _)); replace Hxc2 := Lib.hid (Hxc2.out.stay hb (Nat.le_refl _))
      replace x0 := keep_cell hb x0; replace x1 := keep_cell hb x1; replace x2 := keep_cell hb x2; replace x3 := keep_cell hb x3
      clear hb HZ Hzc
      obtain ⟨sb, hsb⟩ : ∃ s, s = shB by_ x := ⟨_, rfl⟩
      cases sb
      case false =>
        have hcall := shift_err (n := by_) _ wx _ ⟨Ax, cx, rfl, hxs, Hxc2.out⟩ Ix.out hsb.symm
        have Hcall := Lib.hid hcall; clear hcall hsb
        go_wp2_with fail
        refine Hcall.out.mono ?_
        rintro e w8 ⟨Ae, ce, rfl, -, -, hb⟩
        have HBF := HBL.out.trans ((HL2.out.trans (hb.mono HL2.out.size)).mono HBL.out.size)
        clear hb
        have HBF2 := Lib.hid HBF; clear HBF
        go_wp2
        go_ret
        exact ⟨rfl, HBF2.out.alloc HBF2.out.size _⟩
      have hcall := shift_ok (n := by_) _ wx _ ⟨Ax, cx, rfl, hxs, Hxc2.out⟩ Ix.out hsb.symm
      have Hcall := Lib.hid hcall; have Hsb := Lib.hid hsb; clear hcall hsb
      obtain ⟨m, hm⟩ : ∃ m, m = shT by_ x := ⟨_, rfl⟩
      rw [← hm] at Hcall
      have Hm := Lib.hid hm; clear hm
      go_wp2_with fail
      refine Hcall.out.mono ?_
      rintro e w8 ⟨Ae, ce, rfl, hms, hmc, hb⟩
      clear x0 x1 x2 x3 Hcall
      obtain ⟨W5, hW5⟩ : ∃ W5, W5 = w8.alloc (.cells #[.int .i64 m.k, .int .i64 m.n, .string m.s, .slice Ae m.l.length ce] 25) := ⟨_, rfl⟩
      have hB5 : Below wx.heap.size wx W5 := by rw [hW5]; exact hb.alloc hb.size _
      have hY5 : Blk W5 w8.heap.size 25 #[.int .i64 m.k, .int .i64 m.n, .string m.s, .slice Ae m.l.length ce] := by rw [hW5]; exact Blk.new _ _ _
      have hs5 : W5.heap.size = w8.heap.size + 1 := by rw [hW5]; simp
      have hm5 := hmc.stay (show Below w8.heap.size w8 W5 from by rw [hW5]; exact (Below.refl _ _).alloc (Nat.le_refl _) _) (Nat.le_refl _)
      have hbr2 : Below wx.heap.size wx (W5.alloc (.cells #[.int .i64 m.k, .int .i64 m.n, .string m.s, .slice Ae m.l.length ce] 25)) := hB5.alloc hB5.size _
      have hrw2 := Hrw2.out.below hbr2 (Nat.le_refl _)
      have hm3 := hm5.stay ((Below.refl _ _).alloc (Nat.le_refl _) (.cells #[.int .i64 m.k, .int .i64 m.n, .string m.s, .slice Ae m.l.length ce] 25)) (Nat.le_refl _)
      have hob : ∀ g, wx.heap.size ≤ g → N1 ≤ g ∧ some g ≠ u11.ownBlock := fun g hg => by
        have hNw : N1 ≤ wx.heap.size := by rw [HN1.out]; exact HL2.out.size
        refine ⟨by omega, fun e => ?_⟩
        obtain ⟨es, h1, h2, h3⟩ := Hrw2.out
        have := (h2.lt g e.symm).2
        omega
      obtain ⟨es, hes, hrow, hch⟩ := hrw2
      have hel : es.length = k := by rw [← List.length_map (f := fun e : EV => e.1), ← hes, List.length_map, List.length_take]; omega
      have HL3 := Lib.hid (HL2.out.trans (hbr2.mono HL2.out.size))
      have Hm3 := Lib.hid hm3; have Hob := Lib.hid hob; have Hch := Lib.hid hch; have Hrow := Lib.hid hrow; have Hes := Lib.hid hes; have Hel := Lib.hid hel; have HY5 := Lib.hid hY5
      have Hs5 := Lib.hid hs5; have HW5 := Lib.hid hW5
      clear hm3 hm5 hob hch hrow hes hel hbr2 hB5 hb hmc hW5 hs5
      obtain ⟨⟨q0, q1, q2, q3⟩, -⟩ := hY5.four; have ql := hY5.lt; clear hY5
      go_upto_region 28 with (fail)
      rw [← HW5.out]
      go_wp2_with (at_builtin; refine wpList_append_own_at _ rfl (.tmp 123) (.tmp 125) 22 rfl N1 25 i0 _ 4 56 Try.underlying22 Hi.out.1 Hi.out.2.1 Hi.out.2.2.1 Hi.out.2.2.2 rfl (by decide) u11 es.length (es.flatMap encE) rfl Hrow.out ⟨W5.heap.size, 0, none⟩ 1 1 [.int .i64 m.k, .int .i64 m.n, .string m.s, .slice Ae m.l.length ce] rfl rfl ?c1 ?c2 ?c3 ?c4 ?c5 ?_)
      case c1 =>
        intro j u hu
        rw [add_lit0, (Blk.new W5 25 _).cell j]
        simpa using hu
      case c2 => simp [Value.oneCell']
      case c3 => rw [Hel.out]; simp only [maxLen]; omega
      case c4 => rw [Hel.out]; omega
      case c5 => have := HL3.out.size; rw [HN1.out]; exact this
      intro v' w9 hown hg _ hbk
      have hnew : RowT N1 (N1 ≤ ·) w9 v' ((l.take (k + 1)).map (shT by_)) := by
        rw [Hts.out, List.map_append, List.map_singleton, ← Hm.out]
        exact RowT.push es Hes.out Hch.out hms Hm3.out (fun g hg' => Hob.out g (by have : wx.heap.size ≤ g := hg'; exact this)) hown hg (by simpa using hbk)
      have HL4 := Lib.hid (HL3.out.grown hg HL3.out.size (fun k hk => by have := (Hrow.out.lt k hk).1; rw [HN1.out] at this; exact this))
      have Hsh2 := Lib.hid (show ∀ t ∈ l.take (k + 1), shB by_ t = true from fun t ht => by rw [Hts.out] at ht; rcases List.mem_append.1 ht with h | h; exact Hsh.out t h; rw [List.mem_singleton.1 h]; exact Hsb.out.symm)
      have Hnew := Lib.hid hnew
      obtain ⟨A', c', rfl⟩ := own_slice hown
      clear hown hg hbk hnew
      go_wp2
      go_roundw
      case rel => exact ⟨k + 1, by omega, by go_num, Hnew, Hsh2, HL4⟩
      case measure => simp [intOf]; omega
end Go.Proofs.Ytfhgknmkpegpbaa
