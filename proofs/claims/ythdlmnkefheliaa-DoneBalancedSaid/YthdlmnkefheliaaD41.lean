import Derived.Test.YthdlmnkefheliaaD40
set_option linter.unusedVariables false
set_option linter.unusedSimpArgs false
namespace Go.Proofs.Ythdlmnkefheliaa
open Go.RowKit
theorem take_sum_bd : ∀ (l : List Int) (k : Nat), (∀ x ∈ l, 0 ≤ x ∧ x ≤ 1000) → 0 ≤ (l.take k).sum ∧ (l.take k).sum ≤ 1000 * k
  | _, 0, _ => by simp
  | [], k + 1, _ => by simp; omega
  | x :: xs, k + 1, h => by
    have h1 := take_sum_bd xs k (fun y hy => h y (List.mem_cons_of_mem _ hy))
    have h2 := h x (List.mem_cons_self ..)
    simp only [List.take_succ_cons, List.sum_cons]
    omega
theorem take_sum_succ (l : List Int) (k : Nat) (x : Int) (h : l[k]? = some x) : (l.take (k + 1)).sum = (l.take k).sum + x := by
  obtain ⟨h1, h2⟩ := List.getElem?_eq_some_iff.1 h
  rw [List.take_succ_eq_append_getElem h1, h2]
  simp
theorem needF_cons (q m : Int) (s : List Int) (k : Nat) (x : Int) (h : s[k]? = some x) : needF q (m - k) (s.drop k) = max 0 (x - (if (k : Int) < m then q + 1 else q)) + needF q (m - (k + 1 : Nat)) (s.drop (k + 1)) := by
  obtain ⟨h1, h2⟩ := List.getElem?_eq_some_iff.1 h
  rw [List.drop_eq_getElem_cons h1, h2, needF]
  have e : (0 < m - (k : Int)) = ((k : Int) < m) := by apply propext; omega
  simp only [e]
  rw [show m - (k : Int) - 1 = m - ((k + 1 : Nat) : Int) from by omega]
theorem lev_bnd {l : List Int} {r : List (Int × Int)} (h : Lev l r) : ∀ x ∈ l, 0 ≤ x ∧ x ≤ 1000 := h.2.1

set_option maxRecDepth 100000 in
set_option maxHeartbeats 4000000 in
theorem balanced_calls (ls : List Int) (A : Option Addr) (c : Nat) (w : World) (hr : Rd w A (ls.flatMap encI)) (hlc : ls.length ≤ c) (hAc : A = none → c = 0) (hl63 : ls.length ≤ 9223372036854775807) :
    Calls Try.prog 14 #[.slice A ls.length c] w fun e w' => e = .returned (.bool true) ∧ Below w.heap.size w w' := by
  have HR := Lib.hid hr; clear hr
  have HAc := Lib.hid hAc; clear hAc
  have Hsane := Lib.hid (sane_calls w)
  by_cases h1 : ls.length < 1
  · have hd0 : decide ((ls.length : Int) < 1) = true := decide_eq_true (by omega)
    have hd1 : decide (ls.length < 1) = true := decide_eq_true h1
    go_enter Try.func14, Try.ntmps14
    go_wp2_with fail
    refine Hsane.out.mono ?_
    rintro e w1 ⟨rfl, hb⟩
    have Hb := Lib.hid hb; clear hb
    go_wp2
    go_ret
    exact ⟨rfl, Hb.out⟩
  have hd0 : decide ((ls.length : Int) < 1) = false := decide_eq_false (by omega)
  have hd1 : decide (ls.length < 1) = false := decide_eq_false h1
  by_cases h2 : 16 < ls.length
  · have hd2 : decide ((16 : Int) < (ls.length : Int)) = true := decide_eq_true (by omega)
    have hd3 : decide (16 < ls.length) = true := decide_eq_true h2
    go_enter Try.func14, Try.ntmps14
    go_wp2_with fail
    refine Hsane.out.mono ?_
    rintro e w1 ⟨rfl, hb⟩
    have Hb := Lib.hid hb; clear hb
    go_wp2
    go_ret
    exact ⟨rfl, Hb.out⟩
  have hd2 : decide ((16 : Int) < (ls.length : Int)) = false := decide_eq_false (by omega)
  have hd3 : decide (16 < ls.length) = false := decide_eq_false h2
  have hl1 : 1 ≤ ls.length := by omega
  have hl16 : ls.length ≤ 16 := by omega
  clear h1 h2 hl63
  have hany := fun W (hW : Rd W A (ls.flatMap encI)) => containsFuncI 43 #[] (fun x => !bd 0 1000 x) ls A c W (by omega) hW (fun args w => by kernel_rfl) (fun w1 x _ _ => f43_calls x w1)
  obtain ⟨b, hb⟩ : ∃ b, (ls.any fun x => !bd 0 1000 x) = b := ⟨_, rfl⟩
  rw [hb] at hany
  have Hany := Lib.hid hany; clear hany
  go_enter Try.func14, Try.ntmps14
  go_wp2_with fail
  refine Hsane.out.mono ?_
  rintro e w1 ⟨rfl, hbl⟩
  have HB1 := Lib.hid hbl; clear hbl
  go_wp2_with fail
  refine (Hany.out _ (HR.out.below HB1.out (Nat.le_refl _))).mono ?_
  rintro e w2 ⟨rfl, hbl⟩
  have HB2 := Lib.hid (HB1.out.trans (hbl.mono HB1.out.size)); clear hbl
  cases b
  case true =>
    clear hb
    go_wp2
    go_ret
    exact ⟨rfl, HB2.out⟩
  have hbnd : ∀ x ∈ ls, 0 ≤ x ∧ x ≤ 1000 := fun x hx => by
    have := List.any_eq_false.1 hb x hx
    exact (bd_iff _ _ _).1 (by simpa using this)
  clear hb hd0 hd1 hd2 hd3
  obtain ⟨q, hq⟩ : ∃ q, q = planM ls := ⟨_, rfl⟩
  obtain ⟨hp0, hlev⟩ := planM_lev hl1 hl16 hbnd
  rw [← hq] at hp0 hlev
  have Hq := Lib.hid hq; clear hq
  have hmean := Mean.of hl1
  have hls := take_sum_bd ls ls.length hbnd
  rw [List.take_length] at hls
  obtain ⟨mq, hmq⟩ : ∃ mq : Int, mq = ls.sum / ls.length := ⟨_, rfl⟩
  obtain ⟨mr, hmr⟩ : ∃ mr : Int, mr = ls.sum % ls.length := ⟨_, rfl⟩
  rw [← hmq, ← hmr] at hmean
  have hmq0 : 0 ≤ mq := by rw [hmq]; exact Int.ediv_nonneg hls.1 (by omega)
  have hmq1 : mq ≤ 16000 := by
    have h1 : mq ≤ ls.sum := by rw [hmq]; exact Int.ediv_le_self _ hls.1
    have h2 := hls.2
    omega
  have Hmq := Lib.hid hmq; clear hmq
  have Hmr := Lib.hid hmr; clear hmr
  have hlen := hlev.len hmean
  have hov := ovrS_le hmq0 hbnd
  have hin := indS_nonneg mq ls
  have hneed : needM mq mr ls ≤ 16000 := by unfold needM; have := hmean.m0; omega
  obtain ⟨pl, pe⟩ := q
  simp only at hp0 hlev hlen
  subst hp0
  have hpl : pl.length ≤ 16000 := by omega
  have Hlen := Lib.hid hlen; clear hlen
  have Hlev := Lib.hid hlev; clear hlev
  have Hmean := Lib.hid hmean; clear hmean
  have Hbnd := Lib.hid hbnd; clear hbnd
  clear hov hin hneed hls
  go_wp2_with fail
  refine (planr_calls (pl, 0) ls.length ls A c w2 Hq.out rfl (by omega) hlc HAc.out (HR.out.below HB2.out (Nat.le_refl _))).mono ?_
  rintro e w3 ⟨v3, rfl, hp, hbl⟩
  simp only at hp
  obtain ⟨P1, p1, rfl⟩ := own_slice hp
  have HP3 := Lib.hid (own_lower hp HB2.out.size); clear hp
  have HB3 := Lib.hid (HB2.out.trans (hbl.mono HB2.out.size)); clear hbl
  have hd4 : decide ((16000 : Int) < (pl.length : Int)) = false := decide_eq_false (by omega)
  have hd5 : decide (16000 < pl.length) = false := decide_eq_false (by omega)
  go_wp2_with fail
  refine (cloneI_calls ls A c w3 (by omega) hlc HAc.out (HR.out.below HB3.out (Nat.le_refl _))).mono ?_
  rintro e w4 ⟨v4, rfl, ho, hbl⟩
  obtain ⟨N0, nc, rfl⟩ := own_slice ho
  obtain ⟨ng, rfl⟩ : ∃ g, N0 = some ⟨g, 0, none⟩ := by
    obtain ⟨g, c', hg, -⟩ := ho.form (show 0 < ls.length by omega)
    injection hg with hg
    exact ⟨g, hg⟩
  have HN4 := Lib.hid (own_lower ho HB3.out.size); clear ho
  have HP4 := Lib.hid (own_below HP3.out hbl (Nat.le_refl _))
  have HB4 := Lib.hid (HB3.out.trans (hbl.mono HB3.out.size)); clear hbl
  have HRd4 := Lib.hid (HR.out.below HB4.out (Nat.le_refl _))
  clear hd4 hd5
  go_wp2_with fail
  go_loop [6, 48] (fun s i => ∃ k : Nat, k ≤ ls.length ∧ i = .int .i64 k ∧ s = .int .i64 (ls.take k).sum) (fun _ i => ls.length - (intOf i).toNat)
  case atStart => exact ⟨0, Nat.zero_le _, rfl, by simp⟩
  case round =>
    obtain ⟨k, hk, rfl, rfl⟩ := hrel
    have hsb := take_sum_bd ls k Hbnd.out
    have hs0 := hsb.1
    have hs1 : (ls.take k).sum ≤ 16000 := by omega
    clear hsb
    by_cases hlt : k < ls.length
    · obtain ⟨x, hx⟩ : ∃ x, ls[k]? = some x := ⟨_, List.getElem?_eq_getElem hlt⟩
      obtain ⟨g, off, rfl, e0⟩ := Rd.atI HRd4.out hx
      have hxb := Hbnd.out x (List.mem_of_getElem? hx)
      have hx0 := hxb.1
      have hx1 := hxb.2
      have hsucc := Lib.hid (take_sum_succ ls k x hx)
      clear hxb hx
      go_wp2
      go_round
      case rel => exact ⟨k + 1, by omega, by go_num, by rw [hsucc.out]⟩
      case measure => simp [intOf]; omega
    · have hke : k = ls.length := by omega
      subst hke
      rw [List.take_length] at hs0 hs1 ⊢
      obtain ⟨sm, hsm⟩ : ∃ sm, sm = ls.sum := ⟨_, rfl⟩
      rw [← hsm] at hs0 hs1 ⊢
      have Hsm := Lib.hid hsm; clear hsm hk
      have hwlt : w.heap.size ≤ w4.heap.size := HB4.out.size
      go_wp2_with fail
      go_loopw [58] (fun i wr => ∃ (k : Nat) (l : List Int), k ≤ pl.length ∧ i = .int .i64 k ∧ Lev l (pl.drop k) ∧ l.length = ls.length ∧
        wr.ownsRow w.heap.size 3 1 (.slice (some ⟨ng, 0, none⟩) ls.length nc) ls.length (l.flatMap encI) ∧ wr.ownsRow w.heap.size 42 2 (.slice P1 pl.length p1) pl.length (pl.flatMap encH) ∧ Below w.heap.size w wr) (fun i _ => pl.length - (intOf i).toNat)
      case atStart => exact ⟨0, ls, Nat.zero_le _, rfl, Hlev.out, rfl, HN4.out, HP4.out, HB4.out⟩
      case round =>
        obtain ⟨k, l, hk, rfl, hlev, hll, hn, hp, hbr⟩ := hrel
        have Hlev' := Lib.hid hlev
        have Hn := Lib.hid hn
        have Hp := Lib.hid hp
        have Hbr := Lib.hid hbr
        clear hlev hn hp hbr
        by_cases hlt : k < pl.length
        · obtain ⟨x, hx⟩ : ∃ x, pl[k]? = some x := ⟨_, List.getElem?_eq_getElem hlt⟩
          have hdrop : pl.drop k = x :: pl.drop (k + 1) := by
            obtain ⟨h1, h2⟩ := List.getElem?_eq_some_iff.1 hx
            rw [List.drop_eq_getElem_cons h1, h2]
          have hlc' := Hlev'.out
          rw [hdrop] at hlc'
          obtain ⟨hd, f, t, hft, hpa, hlev2⟩ := hlc'.cons
          subst hft
          obtain ⟨g, off, rfl, c0, c1⟩ := Rd.atH (own_rd Hp.out) hx
          simp only at c0 c1
          have hne := hpa.ne hd
          have hfl : f < ls.length := by have := (List.getElem?_eq_some_iff.1 hpa.f_).1; omega
          have htl : t < ls.length := by have := (List.getElem?_eq_some_iff.1 hpa.t_).1; omega
          obtain ⟨mx, hmx⟩ : ∃ mx, mx = maxI l := ⟨_, rfl⟩
          obtain ⟨mn, hmn⟩ : ∃ mn, mn = minI l := ⟨_, rfl⟩
          have hf_ := hpa.f_
          have ht_ := hpa.t_
          have hst := hpa.step
          have hta := hpa.step_at hd
          have hmb := lev_bnd Hlev'.out _ (List.mem_of_getElem? hf_)
          have hnb := lev_bnd Hlev'.out _ (List.mem_of_getElem? ht_)
          rw [← hmx] at hf_ hst hta hd hmb
          rw [← hmn] at ht_ hst hta hd hnb
          have hmx1 : 2 ≤ mx := by omega
          have hmx2 : mx ≤ 1000 := hmb.2
          have hmn1 : 0 ≤ mn := hnb.1
          have hmn2 : mn ≤ 998 := by omega
          obtain ⟨n0, n0'⟩ := own_cell_in Hn.out f _ (getI hf_)
          obtain ⟨n1, n1'⟩ := own_cell_in Hn.out t _ (getI ht_)
          have hngl := Hn.out.lt ng rfl
          have hngle := hngl.1
          have hnglt := hngl.2
          have hset1 := own_set_in Hn.out f (.int .i64 (mx - 1)) (by omega)
          have hset2 := own_set_in hset1 t (.int .i64 (mn + 1)) (by omega)
          have hcells : ((l.flatMap encI).set f (.int .i64 (mx - 1))).set t (.int .i64 (mn + 1)) = (planStep l).flatMap encI := by
            have h1 := flatMap_set encI 1 (fun _ => rfl) l f 0 _ (mx - 1) (.int .i64 (mx - 1)) hf_ (by omega) rfl
            have h2 := flatMap_set encI 1 (fun _ => rfl) (l.set f (mx - 1)) t 0 _ (mn + 1) (.int .i64 (mn + 1)) hta (by omega) rfl
            rw [Nat.mul_one, Nat.add_zero] at h1 h2
            rw [h1, h2, ← hst]
          rw [hcells] at hset2
          obtain ⟨cur6, hcur6⟩ := own_blk Hn.out
          have hpp := own_set_far (own_set_far Hp.out hcur6 (by decide) f (.int .i64 (mx - 1))) (hcur6.set_ f (.int .i64 (mx - 1))) (by decide) t (.int .i64 (mn + 1))
          have hb7 := (Hbr.out.setCell (p := ⟨ng, f, none⟩) hngle (.int .i64 (mx - 1))).setCell (p := ⟨ng, t, none⟩) hngle (.int .i64 (mn + 1))
          have HN8 := Lib.hid (hset2.alloc (.cells #[.int .i64 f, .int .i64 t] 42))
          have HP8 := Lib.hid (hpp.alloc (.cells #[.int .i64 f, .int .i64 t] 42))
          have HB8 := Lib.hid (hb7.alloc hb7.size (.cells #[.int .i64 f, .int .i64 t] 42))
          have Hlev2 := Lib.hid hlev2
          have hll2 : (planStep l).length = ls.length := by rw [planStep_len]; exact hll
          have Hll2 := Lib.hid hll2
          have hz : (mx == 0) = false := by simp; omega
          clear hset1 hset2 hcells hcur6 hpp hb7 hlev2 hll2 hst hta hf_ ht_ hd hmb hnb hpa hlc' hdrop hx hmx hmn hngl hll
          go_wp2
          go_roundw
          case rel => exact ⟨k + 1, _, by omega, by go_num, Hlev2.out, Hll2.out, HN8.out, HP8.out, HB8.out⟩
          case measure => simp [intOf]; omega
        · have hke : k = pl.length := by omega
          subst hke
          have hlv := Hlev'.out
          rw [List.drop_length] at hlv
          have hfin := hlv.nil
          obtain ⟨mx, hmx⟩ : ∃ mx, mx = maxI l := ⟨_, rfl⟩
          obtain ⟨mn, hmn⟩ : ∃ mn, mn = minI l := ⟨_, rfl⟩
          have hmb := lev_bnd hlv _ (maxI_mem hlv.1)
          have hnb := lev_bnd hlv _ (minI_mem hlv.1)
          rw [← hmx] at hfin hmb
          rw [← hmn] at hfin hnb
          have hmx0 := hmb.1
          have hmx1 := hmb.2
          have hmn0 := hnb.1
          have hmn1 := hnb.2
          have Hmx := Lib.hid hmx
          have Hmn := Lib.hid hmn
          have Hll := Lib.hid hll
          have hfd : decide (1 < mx - mn) = false := decide_eq_false (by omega)
          clear hmx hmn hmb hnb hlv hll
          go_wp2_with fail
          refine (maxr_calls mx ls.length l _ nc wr Hmx.out Hll.out.symm (by rw [Hll.out]; omega) (by rw [Hll.out]; omega) (own_rd Hn.out)).mono ?_
          rintro e w5 ⟨rfl, hbl⟩
          have HN5 := Lib.hid (own_below Hn.out hbl (Nat.le_refl _))
          have HB5 := Lib.hid (Hbr.out.trans (hbl.mono Hbr.out.size)); clear hbl
          go_wp2_with fail
          refine (minr_calls mn ls.length l _ nc w5 Hmn.out Hll.out.symm (by rw [Hll.out]; omega) (by rw [Hll.out]; omega) (own_rd HN5.out)).mono ?_
          rintro e w6 ⟨rfl, hbl⟩
          have HB6 := Lib.hid (HB5.out.trans (hbl.mono HB5.out.size)); clear hbl
          go_wp2_with fail
          refine (cloneI_calls ls A c w6 (by omega) hlc HAc.out (HR.out.below HB6.out (Nat.le_refl _))).mono ?_
          rintro e w7 ⟨v7, rfl, ho, hbl⟩
          obtain ⟨S0, sc, rfl⟩ := own_slice ho
          obtain ⟨sg, rfl⟩ : ∃ g, S0 = some ⟨g, 0, none⟩ := by
            obtain ⟨g, c', hg, -⟩ := ho.form (show 0 < ls.length by omega)
            injection hg with hg
            exact ⟨g, hg⟩
          have HS7 := Lib.hid (own_lower ho HB6.out.size); clear ho
          have HB7 := Lib.hid (HB6.out.trans (hbl.mono HB6.out.size)); clear hbl
          clear hfd hfin hmx0 hmx1 hmn0 hmn1
          go_wp2_with fail
          refine (sortI_calls sg sc ls.length w.heap.size ls w7 HS7.out rfl (by omega)).mono ?_
          rintro e w8 ⟨rfl, hH, hbl, hslt⟩
          have HB8 := Lib.hid (HB7.out.trans hbl); clear hbl
          obtain ⟨srt, hsrt⟩ : ∃ srt, srt = ls.mergeSort fun x y => decide (x ≤ y) := ⟨_, rfl⟩
          have hsr := sorted_rev ls
          have hsl : srt.length = ls.length := by rw [hsrt]; simp
          rw [← hsrt] at hH hsr
          have HH8 := Lib.hid hH; clear hH hsrt
          have Hsl := Lib.hid hsl; clear hsl
          have hsge := (HS7.out.lt sg rfl).1
          go_wp2_with fail
          refine (revI_calls sg sc ls.length w.heap.size srt w8 HH8.out hsge HB8.out.size Hsl.out.symm (by rw [Hsl.out]; omega)).mono ?_
          rintro e w9 ⟨rfl, hH, hbl⟩
          have HB9 := Lib.hid (HB8.out.trans hbl); clear hbl
          have HRs := Lib.hid (rd_holds hH); clear hH
          obtain ⟨ds, hds⟩ : ∃ ds, ds = srt.reverse := ⟨_, rfl⟩
          have hdl : ds.length = ls.length := by rw [hds, List.length_reverse]; exact Hsl.out
          rw [← hds] at hsr HRs
          have hdn := needF_perm (q := mq) hsr.1 hsr.2 Hmean.out.m0
          have hdb : ∀ x ∈ ds, 0 ≤ x ∧ x ≤ 1000 := fun x hx => Hbnd.out x (hsr.1.mem_iff.2 hx)
          have Hdn := Lib.hid hdn
          have Hdb := Lib.hid hdb
          have Hdl := Lib.hid hdl
          have hmr0 := Hmean.out.m0
          have hmr1 : mr ≤ 16 := by have := Hmean.out.m1; omega
          have hq1 : sm / (ls.length : Int) = mq := by rw [Hmq.out, Hsm.out]
          have hq2 : sm % (ls.length : Int) = mr := by rw [Hmr.out, Hsm.out]
          have Hq1 := Lib.hid hq1
          have Hq2 := Lib.hid hq2
          have hlnz : (0 : Int) < (ls.length : Int) := by omega
          clear hsr hdn hdb hdl hds hq1 hq2
          go_wp2_with fail
          go_quiet (fail)
          rw [Hq1.out, Hq2.out]
          go_wp2_with fail
          go_loop [14, 129] (fun nd i => ∃ (k : Nat) (acc : Int), k ≤ ls.length ∧ i = .int .i64 k ∧ acc + needF mq (mr - k) (ds.drop k) = needF mq mr ds ∧ 0 ≤ acc ∧ acc ≤ 1000 * k ∧ nd = .int .i64 acc) (fun _ i => ls.length - (intOf i).toNat)
          case atStart => exact ⟨0, 0, Nat.zero_le _, rfl, by simp, by omega, by omega, rfl⟩
          case round =>
            obtain ⟨k, acc, hk, rfl, hacc, ha0, ha1, rfl⟩ := hrel
            have Hacc := Lib.hid hacc; clear hacc
            by_cases hlt : k < ls.length
            · obtain ⟨x, hx⟩ : ∃ x, ds[k]? = some x := ⟨_, List.getElem?_eq_getElem (by rw [Hdl.out]; exact hlt)⟩
              obtain ⟨g', off', hg', e0⟩ := Rd.atI HRs.out hx
              injection hg' with hg'
              injection hg' with hg1 hg2 _
              subst hg1 hg2
              rw [Nat.zero_add] at e0
              have hxb := Hdb.out x (List.mem_of_getElem? hx)
              have hx0 := hxb.1
              have hx1 := hxb.2
              have hcons := needF_cons mq mr ds k x hx
              clear hxb hx
              by_cases hkm : (k : Int) < mr
              · have hdk : decide ((k : Int) < mr) = true := decide_eq_true hkm
                rw [if_pos hkm] at hcons
                have Hcons := Lib.hid hcons; clear hcons hkm
                go_wp2
                go_round
                case rel => exact ⟨k + 1, acc + max 0 (x - (mq + 1)), by omega, by go_num, by rw [← Hacc.out, Hcons.out]; omega, by omega, by omega, by go_num⟩
                case measure => simp [intOf]; omega
              · have hdk : decide ((k : Int) < mr) = false := decide_eq_false hkm
                rw [if_neg hkm] at hcons
                have Hcons := Lib.hid hcons; clear hcons hkm
                go_wp2
                go_round
                case rel => exact ⟨k + 1, acc + max 0 (x - mq), by omega, by go_num, by rw [← Hacc.out, Hcons.out]; omega, by omega, by omega, by go_num⟩
                case measure => simp [intOf]; omega
            · have hke : k = ls.length := by omega
              subst hke
              have hac := Hacc.out
              rw [← Hdl.out, List.drop_length, Hdn.out, ← Hlen.out, needF] at hac
              have hacc : acc = (pl.length : Int) := by omega
              have hfin : ((pl.length : Int) == acc) = true := by rw [hacc]; simp
              clear hac hacc Hacc
              go_wp2
              go_ret
              exact ⟨rfl, below_drewN HB9.out _⟩
end Go.Proofs.Ythdlmnkefheliaa
