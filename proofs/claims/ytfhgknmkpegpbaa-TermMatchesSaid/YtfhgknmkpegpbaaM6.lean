/- Part 6 of the base: the walks and plain facts that the statement rests on. -/
import Derived.Test.YtfhgknmkpegpbaaM4
import Derived.Test.YtfhgknmkpegpbaaM5
import Derived.Test.YtfhgknmkpegpbaaRows
import Derived.WalkKit
import Derived.ProofKit
import Derived.OpenShut
import Derived.ShutString
import Derived.ChangeOld
import Derived.Below
import Derived.SizedLaws
import Derived.Deep.Slices
import Derived.Deep.Fields
import Derived.ChangeSame
import Derived.Lib.SmallJoins
import Derived.Outline
import Derived.Laws.BitsLemmas
import Derived.ArgAppend
import Derived.WideLaws
import Derived.KernelRfl
import Derived.Laws.Slices
import Derived.Tactics
import Derived.Laws.BytesArg
import Derived.Laws.OwnMore
import Derived.Laws.Rows
import Derived.Maps.AppendAt
import Derived.RegionTactic
import Derived.OwnWalk
import Derived.Laws.MakeOwn
import Derived.Laws.Entries
import Derived.Laws.CopyRow
import Derived.Laws.Tables
import Derived.Laws.Cells

set_option linter.unusedVariables false
set_option linter.unusedSimpArgs false
namespace Go.Proofs.Ytfhgknmkpegpbaa
open Go.RowKit
theorem MapN.below {w w' : World} {b n B : Nat} {m : Int → Int} (h : MapN w b n m) (hb : Below B w w') (hB : w.heap.size ≤ B) : MapN w' b n m :=
 h.kept (row := none) ⟨hb.os, hb.tape, hb.output, hb.size, fun k hk _ => hb.block k (Nat.lt_of_lt_of_le hk hB)⟩ (by simp)
theorem MapN.but {w w' : World} {b n g : Nat} {m : Int → Int} (h : MapN w b n m) (hb : But g w w') (hne : b ≠ g) : MapN w' b n m :=
 h.kept (row := some g) ⟨hb.os, hb.tape, hb.output, hb.size, fun k hk he => hb.block k hk (fun e => he (by rw [e]))⟩ (by simpa using hne)
def RetNo (w : World) (ts : List Tm) (xs : List Int) (er : Int) (e : Ending) (w' : World) : Prop :=
 ∃ A c v, e = .returned (.tuple #[.slice A ts.length c, v, .int .i64 er]) ∧ TmC (w.heap.size ≤ ·) w' A c ts ∧ w'.ownsRow w.heap.size 3 1 v xs.length (xs.map (Value.int .i64)) ∧ (v = .slice none 0 0 ↔ xs = []) ∧ Below w.heap.size w w'
def normR (l : List Tm) : List Tm := l.map (normT (nowOf (varsL l) (varsL l).length))
theorem varsL_nodup (l : List Tm) : (varsL l).Nodup := varsFrom_nodup List.nodup_nil
theorem nodup_get {xs : List Int} (h : xs.Nodup) {k : Nat} {x : Int} (hx : xs[k]? = some x) : x ∉ xs.take k := by
 intro hm
 have h1 := List.take_append_drop k xs
 have h2 : (xs.take k ++ xs.drop k).Nodup := by rw [h1]; exact h
 rw [List.nodup_append] at h2
 have h3 : x ∈ xs.drop k := List.mem_of_getElem? (i := 0) (by rw [List.getElem?_drop, Nat.add_zero]; exact hx)
 exact h2.2.2 x hm x h3 rfl
theorem okBs_var {l : List Tm} (h : Tm.okBs l = true) {x : Int} (hx : x ∈ varsL l) : 0 ≤ x ∧ x < 100000 := by
 rcases varsFrom_mem hx with h1 | ⟨y, hy, hk, rfl⟩
 ·simp at h1
 ·have : ∀ (l : List Tm), Tm.okBs l = true → ∀ y ∈ Tm.pres l, y.k = 1 → 0 ≤ y.n ∧ y.n < 100000 := fun l => by
   induction l with
   | nil => intro _ y hy; simp [Tm.pres] at hy
   | cons a l ih =>
    intro h y hy hk
    rw [Tm.okBs, Bool.and_eq_true] at h
    rw [Tm.pres] at hy
    rcases List.mem_append.1 hy with hy | hy
    ·exact var_bd (okB_pre a h.1 y hy) hk
    ·exact ih h.2 y hy hk
  exact this l h y hy hk
set_option maxRecDepth 100000 in
set_option maxHeartbeats 4000000 in
theorem normal_calls (l : List Tm) (P : Nat → Prop) (A : Option Addr) (c : Nat) (w : World) (hc : TmC P w A c l) :
  Calls Try.prog 29 #[.slice A l.length c] w (RetNo w (if allB l = true then normR l else []) (if allB l = true then varsL l else []) (errT (allB l))) := by
 have hcall := varsTop_calls l P A c w hc
 obtain ⟨i0, hi0⟩ := info25
 have Hi := Lib.hid hi0; clear hi0
 have hmm := @run_makeMap Try.prog
 have hlc := hc.len.1
 have hlm := hc.len.2.1
 obtain ⟨b, hb⟩ : ∃ b, b = allB l := ⟨_, rfl⟩
 rw [← hb] at hcall ⊢
 obtain ⟨xs, hxs⟩ : ∃ xs, xs = (if b = true then varsL l else []) := ⟨_, rfl⟩
 obtain ⟨ts, hts⟩ : ∃ ts, ts = (if b = true then normR l else []) := ⟨_, rfl⟩
 rw [← hxs] at hcall ⊢
 rw [← hts]
 have Hxs := Lib.hid hxs; clear hxs
 have Hts := Lib.hid hts; clear hts
 have Hb := Lib.hid hb; clear hb
 have Hcall := Lib.hid hcall; clear hcall
 have Hc := Lib.hid hc.inside; clear hc
 go_enter Try.func29, Try.ntmps29
 go_wp2_with fail
 refine Hcall.out.mono ?_
 rintro e w1 ⟨v, rfl, hrow, hnil, hb1⟩
 have Hc1 := Lib.hid (Hc.out.stay hb1 (Nat.le_refl _))
 have HB1 := Lib.hid hb1; clear hb1
 cases b
 ·have he : (errT false != 0) = true := rfl
  have hx : xs = [] := by have := Hxs.out; simpa using this
  have ht : ts = [] := by have := Hts.out; simpa using this
  subst hx ht
  clear hrow hnil
  go_wp2
  exact bodyPost_ret (v := .tuple #[.slice none 0 0, .slice none 0 0, .int .i64 (errT false)]) (by simp [results, Try.results29, go_sem]) rfl (R := RetNo w [] [] _) ⟨none, 0, _, rfl, TmC.nil _ _ (by omega) (fun _ => rfl), World.ownsRow_nil _ _ _ _, by simp, HB1.out⟩
 have he : (errT true != 0) = false := rfl
 have hall := allB_iff.1 Hb.out.symm
 have hx : xs = varsL l := by have := Hxs.out; simpa using this
 have ht : ts = normR l := by have := Hts.out; simpa using this
 have hxl : xs.length ≤ 1000000 := by
  have h1 := varsFrom_len [] (Tm.pres l)
  rw [Tm.pres_len] at h1
  have h3 : xs.length = (varsFrom [] (Tm.pres l)).length := by rw [hx]; rfl
  simp at h1
  omega
 have Hvr := Lib.hid (show ∀ x ∈ xs, 0 ≤ x ∧ x < 100000 from fun x hxm => okBs_var hall.1 (by rw [← hx]; exact hxm))
 have Hnd := Lib.hid (show xs.Nodup from by rw [hx]; exact varsL_nodup l)
 have Hx := Lib.hid hx; clear hx
 have Ht := Lib.hid ht; clear ht
 have Hall := Lib.hid hall; clear hall
 obtain ⟨As, cs, rfl⟩ := own_slice hrow
 have hrd := own_rd hrow
 have Hrd := Lib.hid (show Rd w1 As (xs.flatMap encI) from by rw [flatMap_encI]; exact hrd)
 have Hrow := Lib.hid hrow
 have Hnil := Lib.hid hnil
 clear hrow hnil hrd
 obtain ⟨W2, hW2⟩ : ∃ W2, W2 = (w1.alloc (.map #[] 0)).alloc (.cells #[.map (some w1.heap.size)] 98) := ⟨_, rfl⟩
 have hB2 : Below w1.heap.size w1 W2 := by rw [hW2]; exact ((Below.refl _ _).alloc (Nat.le_refl _) _).alloc (by simp) _
 have hM2 : MapN W2 w1.heap.size 0 (nowOf xs 0) := by rw [hW2, nowOf_zero]; exact (MapN.made w1).kept (World.grownBy_alloc _ _ none) (by simp)
 have hK2 : Blk W2 (w1.heap.size + 1) 98 #[.map (some w1.heap.size)] := by
  rw [hW2]
  have := Blk.new (w1.alloc (.map #[] 0)) 98 #[.map (some w1.heap.size)]
  rwa [World.size_alloc] at this
 have HB2 := Lib.hid hB2; clear hB2
 have HM2 := Lib.hid hM2; clear hM2
 have HK2 := Lib.hid hK2; clear hK2
 have HW2 := Lib.hid hW2; clear hW2
 go_wp2_with fail
 rw [← HW2.out]
 go_wp2
 obtain ⟨G, hG⟩ : ∃ G, G = w1.heap.size := ⟨_, rfl⟩
 rw [← hG] at HM2 HK2 HB2 ⊢
 have HG := Lib.hid hG; clear hG
 go_loopw [26] (fun i wr => ∃ k : Nat, k ≤ xs.length ∧ i = .int .i64 k ∧ Hid (MapN wr G k (nowOf xs k)) ∧ Hid (Blk wr (G + 1) 98 #[.map (some G)]) ∧ Hid (Below G w1 wr)) (fun i _ => xs.length - (intOf i).toNat)
 case atStart => exact ⟨0, Nat.zero_le _, rfl, HM2, HK2, HB2⟩
 case round =>
  obtain ⟨k, hk, rfl, HM, HK, HB⟩ := hrel
  by_cases hlt : k < xs.length
  ·obtain ⟨x, hx⟩ : ∃ x, xs[k]? = some x := ⟨_, List.getElem?_eq_getElem hlt⟩
   obtain ⟨g, off, rfl, c0⟩ := Hrd.out.atI hx
   have hgl := World.block_lt_of_cell? w1 _ c0
   have e0 := (HB.out.cell (p := ⟨g, off + k, none⟩) (by rw [HG.out]; exact hgl)).trans c0
   have hxb := Hvr.out x (List.mem_of_getElem? hx)
   have hwf := int_wf hxb.1 hxb.2
   have hwk : (Lit.int .i64 (k : Int)).wf = true := by
    unfold Lit.wf
    simp [IntKind.min, IntKind.max, IntKind.bits, IntKind.signed]
    omega
   have Hsu := Lib.hid (nowOf_succ hx (nodup_get Hnd.out hx))
   obtain ⟨D, hown, hDm, hat⟩ := HM.out
   obtain ⟨k0, -⟩ := Blk.one HK.out
   have hlt1 := HK.out.lt
   clear c0 hgl hxb hx
   go_wp2_with (at_mapUpdate; refine wpList_mapUpdate_own _ rfl _ _ _ 98 rfl 3 3 (Maps.int_keyed Try.underlying3) Try.underlying98 _ G k _ rfl hown (by simp [maxLen]; omega) _ _ _ rfl rfl (Maps.keyOf_int_mk Try.underlying3 hwf) _ [] (plainElem_int Try.underlying3 hwk) ?_; intro w3 hown3 hg3)
   have HM3 := Lib.hid (show MapN w3 G (k + 1) (nowOf xs (k + 1)) from by rw [Hsu.out]; exact MapN.put hown3 hDm hat)
   have HK3 := Lib.hid (HK.out.grown hg3 (by simp))
   have HB3 := Lib.hid (HB.out.grown hg3 (by omega) (fun r hr => by injection hr with hr; omega))
   clear hown3 hg3 hown hDm hat
   go_wp2
   go_roundw
   case rel => exact ⟨k + 1, by omega, by go_num, HM3, HK3, HB3⟩
   case measure => simp [intOf]; omega
  ·have hke : k = xs.length := by omega
   subst hke
   have HB1' := Lib.hid (HB1.out.trans (HB.out.mono (by rw [HG.out]; exact HB1.out.size)))
   have Hc2 := Lib.hid (Hc1.out.stay HB.out (by rw [HG.out]; exact Nat.le_refl _))
   have hsz0 : w.heap.size ≤ wr.heap.size := HB1'.out.size
   have Hval := Lib.hid (show nowOf xs xs.length = nowOf (varsL l) (varsL l).length from by rw [Hx.out])
   obtain ⟨val, hval⟩ : ∃ val, val = nowOf xs xs.length := ⟨_, rfl⟩
   rw [← hval] at HM
   have Hv := Lib.hid hval; clear hval
   obtain ⟨N0, hN0⟩ : ∃ N0, N0 = wr.heap.size := ⟨_, rfl⟩
   obtain ⟨WB, hWB⟩ : ∃ WB, WB = wr := ⟨_, rfl⟩
   rw [← hWB] at HM HK HB HB1' Hc2 hsz0 hN0 ⊢
   clear hWB
   have hgn : G + 1 < N0 := by rw [hN0]; exact HK.out.lt
   have hwn : w.heap.size ≤ N0 := by rw [hN0]; exact hsz0
   have HN0 := Lib.hid hN0; clear hN0 hsz0
   go_wp2
   go_loopw [10, 37] (fun v10 i wr => ∃ k : Nat, k ≤ l.length ∧ i = .int .i64 k ∧ Hid (RowT N0 (N0 ≤ ·) wr v10 ((l.take k).map (normT val))) ∧ Hid (Below N0 WB wr)) (fun _ i _ => l.length - (intOf i).toNat)
   case atStart => exact ⟨0, Nat.zero_le _, rfl, Lib.hid (RowT.nil _ _ _), Lib.hid (by rw [HN0.out]; exact Below.refl _ _)⟩
   case round =>
    obtain ⟨k, hk, rfl, Hrw, HB5⟩ := hrel
    by_cases hlt : k < l.length
    ·obtain ⟨x, hx⟩ : ∃ x, l[k]? = some x := ⟨_, List.getElem?_eq_getElem hlt⟩
     have hcr := Hc2.out.stay HB5.out (by rw [HN0.out]; exact Nat.le_refl _)
     obtain ⟨g, off, Ai, ci, rfl, hPg, ⟨e0, e1, e2, e3⟩, hxs, hxc⟩ := hcr.at_ hx
     have hxm := List.mem_of_getElem? hx
     have Htk := Lib.hid (take_snoc hx)
     have hxz : x.size ≤ 1000000 := by have := Tm.size_mem hxm; have := Hall.out.2.1; omega
     have hvar : ∀ y ∈ x.pre, y.k = 1 → 0 ≤ y.n ∧ y.n < 100000 := fun y hy hk => var_bd (okB_pre x (Tm.okBs_mem Hall.out.1 hxm) y hy) hk
     have hbb : Below wr.heap.size wr (wr.alloc (.cells #[.int .i64 x.k, .int .i64 x.n, .string x.s, .slice Ai x.l.length ci] 25)) := (Below.refl _ _).alloc (Nat.le_refl _) _
     have hNr : N0 ≤ wr.heap.size := by rw [HN0.out]; exact HB5.out.size
     have hEr : Blk wr (G + 1) 98 #[.map (some G)] ∧ MapN wr G xs.length val := ⟨HK.out.below HB5.out (by omega), HM.out.below HB5.out (by rw [HN0.out]; exact Nat.le_refl _)⟩
     have hcall := replaced_calls 86 (G + 1) (nowF val) (fun _ => False) (fun W => Blk W (G + 1) 98 #[.map (some G)] ∧ MapN W G xs.length val) (wr.alloc (.cells #[.int .i64 x.k, .int .i64 x.n, .string x.s, .slice Ai x.l.length ci] 25))
      (fun b W W' h1 h2 h3 => ⟨h2.1.but h3 (by simp at h1; omega), h2.2.but h3 (by simp at h1; omega)⟩) (fun g hg => hg.elim) (fun _ _ => rfl) (fun n x hx => by unfold nowF at hx; injection hx with hx; rw [← hx]; show (1 : Nat) + 0 ≤ _; omega)
      (fun W n h1 h2 h3 => normal1_calls _ (G + 1) G xs.length val W n h1.1 h1.2 h2 h3) x P _ ⟨Ai, ci, rfl, hxs, (hxc.stay hbb (Nat.le_refl _)).mono (fun g h => h.1)⟩ ⟨hEr.1.below hbb (by omega), hEr.2.below hbb (Nat.le_refl _)⟩ hxz hvar
     have Hcall2 := Lib.hid hcall; clear hcall hxc hx hvar hEr hcr
     have HBB := Lib.hid hbb; clear hbb
     go_wp2_with fail
     refine Hcall2.out.mono ?_
     rintro e w4 ⟨A2, c2, rfl, hs2, hx2, hb2⟩
     generalize hz : (if (repT (nowF val) x).isSome = true then (0 : Int) else 2) = er2
     clear hz
     obtain ⟨y, hy⟩ : ∃ y, y = normT val x := ⟨_, rfl⟩
     have hyy : (repT (nowF val) x).getD Tm.zero = y := by rw [hy]; rfl
     rw [hyy] at hs2 hx2 ⊢
     have Hy := Lib.hid hy; clear hy hyy
     have hbr : Below wr.heap.size wr w4 := HBB.out.trans (hb2.mono HBB.out.size)
     obtain ⟨W5, hW5⟩ : ∃ W5, W5 = w4.alloc (.cells #[.int .i64 y.k, .int .i64 y.n, .string y.s, .slice A2 y.l.length c2] 25) := ⟨_, rfl⟩
     have hB5 : Below wr.heap.size wr W5 := by rw [hW5]; exact hbr.alloc hbr.size _
     have hY5 : Blk W5 w4.heap.size 25 #[.int .i64 y.k, .int .i64 y.n, .string y.s, .slice A2 y.l.length c2] := by rw [hW5]; exact Blk.new _ _ _
     have hx5 := hx2.stay (show Below w4.heap.size w4 W5 from by rw [hW5]; exact (Below.refl _ _).alloc (Nat.le_refl _) _) (Nat.le_refl _)
     obtain ⟨⟨y0, y1, y2, y3⟩, -⟩ := hY5.four
     have hbr2 : Below wr.heap.size wr (W5.alloc (.cells #[.int .i64 y.k, .int .i64 y.n, .string y.s, .slice A2 y.l.length c2] 25)) := hB5.alloc hB5.size _
     have hrw2 := Hrw.out.below hbr2 (Nat.le_refl _)
     have hx3 := hx5.stay ((Below.refl _ _).alloc (Nat.le_refl _) (.cells #[.int .i64 y.k, .int .i64 y.n, .string y.s, .slice A2 y.l.length c2] 25)) (Nat.le_refl _)
     have hob : ∀ g, wr.heap.size + 1 ≤ g → N0 ≤ g ∧ some g ≠ u10.ownBlock := fun g hg => by
      refine ⟨by omega, fun e => ?_⟩
      obtain ⟨es, h1, h2, h3⟩ := Hrw.out
      have := (h2.lt g e.symm).2
      omega
     obtain ⟨es, hes, hrow, hch⟩ := hrw2
     have hel : es.length = k := by rw [← List.length_map (f := fun e : EV => e.1), ← hes, List.length_map, List.length_take]; omega
     have Hx3 := Lib.hid hx3; clear hx3 hx2 hx5
     have Hob := Lib.hid hob; clear hob
     have Hch := Lib.hid hch
     have Hrow2 := Lib.hid hrow
     have HB6 := Lib.hid (HB5.out.trans (hbr2.mono (by rw [HN0.out] at hNr ⊢; exact HB5.out.size))); clear hbr2 hbr hb2
     have Hes := Lib.hid hes
     have Hel := Lib.hid hel
     have HY5 := Lib.hid hY5
     have HB7 := Lib.hid hB5
     clear hrow hch hes hel hY5 hB5
     subst hW5
     have hnb := Blk.new (w4.alloc (.cells #[.int .i64 y.k, .int .i64 y.n, .string y.s, .slice A2 y.l.length c2] 25)) 25 #[.int .i64 y.k, .int .i64 y.n, .string y.s, .slice A2 y.l.length c2]
     rw [World.size_alloc] at hnb
     have Hnb := Lib.hid hnb; clear hnb
     go_wp2_with (at_builtin; refine wpList_append_own_at _ rfl (.tmp 47) (.tmp 49) 22 rfl N0 25 i0 _ 4 56 Try.underlying22 Hi.out.1 Hi.out.2.1 Hi.out.2.2.1 Hi.out.2.2.2 rfl (by decide) u10 es.length (es.flatMap encE) rfl Hrow2.out ⟨w4.heap.size + 1, 0, none⟩ 1 1 [.int .i64 y.k, .int .i64 y.n, .string y.s, .slice A2 y.l.length c2] rfl rfl ?c1 ?c2 ?c3 ?c4 ?c5 ?_)
     case c1 =>
      intro j u hu
      rw [add_lit0, Hnb.out.cell j]
      simpa using hu
     case c2 => simp [Value.oneCell']
     case c3 => rw [Hel.out]; simp only [maxLen]; omega
     case c4 => have := len_le_sizes l; have := Hall.out.2.1; rw [Hel.out]; omega
     case c5 => have := HB7.out.size; simp at this ⊢; omega
     intro v' w6 hown hg _ hbk
     have hnew : RowT N0 (N0 ≤ ·) w6 v' ((l.take (k + 1)).map (normT val)) := by
      rw [Htk.out, List.map_append, List.map_singleton, ← Hy.out]
      exact RowT.push es Hes.out Hch.out hs2 Hx3.out (fun g hg' => Hob.out g (by simpa using hg')) hown hg (by simpa using hbk)
     have HB8 := Lib.hid (HB6.out.grown hg (by have := HB7.out.size; simp at this ⊢; omega) (fun k hk => (Hrow2.out.lt k hk).1))
     have Hnew := Lib.hid hnew
     obtain ⟨A', c', rfl⟩ := own_slice hown
     clear hown hg hbk hnew
     go_wp2
     go_roundw
     case rel => exact ⟨k + 1, by omega, by go_num, Hnew, HB8⟩
     case measure => simp [intOf]; omega
    ·have hke : k = l.length := by omega
     subst hke
     obtain ⟨A2, c2, rfl, h2⟩ := Hrw.out.toC
     rw [List.take_length] at h2 ⊢
     have hob : ∀ g, (N0 ≤ g ∨ some g = (Value.slice A2 (l.map (normT val)).length c2).ownBlock) → w.heap.size ≤ g := fun g hg => by
      rcases hg with h | h
      ·omega
      ·obtain ⟨es, h3, h4, h5⟩ := Hrw.out
       rw [List.take_length] at h4
       have := (h4.lt g h.symm).1
       omega
     have H2 := Lib.hid (h2.mono hob); clear h2 hob
     have HBF := Lib.hid (HB1'.out.trans (HB5.out.mono hwn))
     have hts : ts = l.map (normT val) := by rw [Ht.out, Hv.out, Hval.out]; rfl
     have HrowF := Lib.hid (own_below Hrow.out (HB.out.trans (HB5.out.mono (by omega))) (by rw [HG.out]; exact Nat.le_refl _))
     go_wp2
     exact bodyPost_ret (v := .tuple #[.slice A2 (l.map (normT val)).length c2, .slice As xs.length cs, .int .i64 0]) (by simp [results, Try.results29, go_sem]) rfl (R := RetNo w ts xs _) ⟨A2, c2, _, by rw [hts]; rfl, by rw [hts]; exact H2.out, HrowF.out, Hnil.out, HBF.out⟩
end Go.Proofs.Ytfhgknmkpegpbaa
set_option linter.unusedVariables false
set_option linter.unusedSimpArgs false
namespace Go.Proofs.Ytfhgknmkpegpbaa
open Go.RowKit Go.Shelf
attribute [local go_sem] Oper.semAt_some
theorem info39 : ∃ i0 : TypeInfo, Try.prog.info? 39 = some i0 ∧ i0.zero = some (.slice none 0 0) ∧ i0.size = 1 ∧ i0.bytes = 24 := info_parts (by kernel_rfl)
theorem run_append39 (base : Nat) (w : World) (ty : TypeId) (v : Value) (k : Nat) (xs : List Value) (u : Value) (hown : w.ownsRow base 39 1 v k xs) (hk : k = 0 → v = .slice none 0 0) (ad : Addr) (hc : w.cell? ad = some u) (hu : u.oneCell' = true) (b1 : k + 1 ≤ 1000001) (hb : base ≤ w.heap.size) :
  ∃ v' w', (Builtin.append_ #[76, 76] ty #[v, .slice (some ad) 1 1]).run Try.prog w = .ok v' w' ∧ w'.ownsRow base 39 1 v' (k + 1) (xs ++ [u]) ∧ w.grownBy w' v.ownBlock ∧ ∀ g x, Blk w g 39 #[x] → Blk w' g 39 #[x] := by
 obtain ⟨i0, h1, h2, h3, h4⟩ := info39
 have hn : ∀ j u', [u][j]? = some u' → w.cell? (ad.add j) = some u' := fun j u' h => by
  match j, h with
  | 0, h => simp at h; subst h; simpa [Addr.add] using hc
 have hone : ∀ u' ∈ [u], u'.oneCell' = true := fun u' h => by rw [List.mem_singleton.1 h]; exact hu
 rcases hown.2 with ⟨hv, h0⟩ | ⟨g, cap, cur, hv, hbg, hg, hnc, hcm, hcs, htake⟩
 ·obtain ⟨v', w', hr, r1, r2, -⟩ := run_append_own (P := Try.prog) w base 76 ty 39 i0 _ 1 24 Try.underlying76 h1 h2 h3 h4 rfl (by decide) v k xs hown ad 1 1 [u] rfl hn hone (by simp only [maxLen]; omega) (by omega) hb
  refine ⟨v', w', hr, r1, r2, fun g x hbk => hbk.grown r2 ?_⟩
  rw [hv]; simp [Value.ownBlock]
 ·have hk0 : k ≠ 0 := fun e => by rw [hk e] at hv; cases hv
  subst hv
  by_cases hroom : k + 1 ≤ cap
  ·obtain ⟨w', hr, r1, r2⟩ := run_append_fits (P := Try.prog) w base 76 ty 39 i0 1 Try.underlying76 h1 h3 g k cap xs hown ad 1 1 [u] rfl hn hone hroom
   refine ⟨_, w', hr, r1, r2, fun g' x hbk => hbk.grown r2 (fun e => ?_)⟩
   injection e with e
   subst e
   rw [show w.heap[g']? = _ from hbk] at hg
   injection hg with hg
   injection hg with hg
   rw [← hg] at hcs
   simp at hcs
   omega
  ·have holds : ∀ j u', xs[j]? = some u' → w.cell? ((⟨g, 0, none⟩ : Addr).add j) = some u' := fun j u' h => hown.cells (g := g) rfl j u' h
   obtain ⟨v', w', hr, r1, r2⟩ := run_append_arg_grows (P := Try.prog) w 76 ty 39 i0 _ 1 24 Try.underlying76 h1 h2 h3 h4 rfl (by decide) ⟨g, 0, none⟩ k cap xs hown.1 holds ad 1 1 [u] rfl hn (by omega) (by simp only [maxLen]; omega) (by omega)
   exact ⟨v', w', hr, own_lower r1 hb, ⟨r2.os, r2.tape, r2.output, r2.size, fun j hj _ => r2.block j hj (by simp)⟩, fun g' x hbk => hbk.grown r2 (by simp)⟩
theorem wpListIn_append39 {F : Fence} {n : Nat} (w : World) {ops : Array Oper} {rest : List Oper} {o : Oper} {a : Act} {Q : Exit → Act → World → Prop} (hgd : o.guard = none) (s x : Operand)
  (ho : o.op = .call { callee := .builtin .append, args := #[s, x], argTypes := #[76, 76] }) (base : Nat) (v : Value) (k : Nat) (xs : List Value) (u : Value) (hs : a.eval s = v) (hown : w.ownsRow base 39 1 v k xs) (hk : k = 0 → v = .slice none 0 0) (ad : Addr)
  (hx : a.eval x = .slice (some ad) 1 1) (hc : w.cell? ad = some u) (hu : u.oneCell' = true) (b1 : k + 1 ≤ 1000001) (hb : base ≤ w.heap.size)
  (h : ∀ v' w', w'.ownsRow base 39 1 v' (k + 1) (xs ++ [u]) → w.grownBy w' v.ownBlock → (∀ g x, Blk w g 39 #[x] → Blk w' g 39 #[x]) → wpListIn F n Try.prog ops Q rest (a.put o.dst v') w') :
  wpListIn F n Try.prog ops Q (o :: rest) a w := by
 refine wpListIn_plain hgd fun K hK => ?_
 obtain ⟨v', w', hr, h2, h3, h4⟩ := run_append39 base w o.type v k xs u hown hk ad hc hu b1 hb
 unfold Oper.wpIn
 refine ⟨by simp [Oper.about, ho, resolve, Target.leads, Sem.run_pure], ?_⟩
 rw [Oper.semAt_plain F _ _ (by rw [ho]; intro c hc'; cases hc')]
 simp [execOp, ho, resolve, invoke, builtin, hs, hx, hr, Result.andThen]
 exact hK _ _ (h v' w' h2 h3 h4)
def PW.sv {n₀ : Nat} {w0 : World} (x : PW n₀ w0) : Value := .slice x.1.1.2.1 x.1.1.1.length x.1.1.2.2
def RetPs (w : World) (ls : List (List Int)) (er : Int) (e : Ending) (w' : World) : Prop :=
 ∃ A c, e = .returned (.tuple #[.slice A ls.length c, .int .i64 er]) ∧ SlC (w.heap.size ≤ ·) w' A c ls ∧ Below w.heap.size w w'
theorem slC_of {n₀ N c n : Nat} {w0 W : World} {A : Option Addr} {ys : List (PW n₀ w0)} (h : W.ownsRow N 39 1 (.slice A n c) n (ys.map PW.sv)) (hn : n = ys.length) (hnN : n₀ ≤ N) (hok : ∀ y ∈ ys, y.ok W) : SlC (n₀ ≤ ·) W A c (ys.map (fun y => y.1.1.1)) := by
 subst hn
 refine ⟨ys.map (fun y => y.1.1), by rw [List.map_map]; rfl, ?_, ?_, ?_, ?_, ?_, fun e he => ?_⟩
 ·rw [List.length_map]
  rcases h.2 with ⟨hv, h0⟩ | ⟨g, cap, cur, hv, hg, hb, h1, h2, h3, h4⟩
  ·injection hv; omega
  ·injection hv; omega
 ·rcases h.2 with ⟨hv, h0⟩ | ⟨g, cap, cur, hv, hg, hb, h1, h2, h3, h4⟩
  ·injection hv; omega
  ·injection hv with _ _ hv; subst hv; simpa [maxLen] using h2
 ·intro e
  rcases h.2 with ⟨hv, h0⟩ | ⟨g, cap, cur, hv, hg, hb, h1, h2, h3, h4⟩
  ·injection hv
  ·injection hv with hv; rw [e] at hv; cases hv
 ·intro hne
  rcases h.2 with ⟨hv, h0⟩ | ⟨g, cap, cur, hv, hg, hb, h1, h2, h3, h4⟩
  ·exact absurd (by rw [List.length_eq_zero_iff.1 h0]; rfl) hne
  ·injection hv with hv
   exact ⟨g, 0, hv, by omega⟩
 ·have h5 := own_rd h
  have h6 : (ys.map (fun y => y.1.1)).flatMap encS = ys.map PW.sv := by
   clear h h5 hok
   induction ys with
   | nil => rfl
   | cons y ys ih => rw [List.map_cons, List.flatMap_cons, ih]; rfl
  rw [h6]; exact h5
 ·obtain ⟨y, hy, rfl⟩ := List.mem_map.1 he
  have h7 := hok y hy
  have h8 := h7.len
  refine ⟨h8.1, h8.2.1, fun hne => ?_, ?_⟩
  ·rcases h7 with ⟨h1, _⟩ | ⟨h1, h2, h3, g, cs, h4, h5, _⟩
   ·exact absurd h1 hne
   ·exact ⟨g, 0, h4, h5⟩
  ·rcases h7 with ⟨h1, _⟩ | ⟨h1, h2, h3, g, cs, h4, h5, h6, h9⟩
   ·rw [h1]; exact rd_nil _ _
   ·intro _
    refine ⟨g, 0, h4, fun j v hj => ?_⟩
    rw [flatMap_encI, List.getElem?_map] at hj
    cases hx : y.1.1.1[j]? with
    | none => rw [hx] at hj; cases hj
    | some u =>
     rw [hx] at hj
     rw [Nat.zero_add, h6.cell j, h9 j u hx]
     exact hj
theorem slC_put {P : Nat → Prop} {W : World} {A : Option Addr} {c D : Nat} {ls : List (List Int)} (h : SlC P W A c ls) (hD : W.heap[D]? = some (.deferred (some []))) : SlC P (W.putObj D (.deferred none)) A c ls := by
 have key : ∀ (p : Addr) v, W.cell? p = some v → (W.putObj D (.deferred none)).cell? p = some v := fun p v hv => by
  rw [World.cell?_of_block (World.putObj_heap_other (fun e => ?_))]
  ·exact hv
  ·rw [← e] at hD
   simp [World.cell?, hD] at hv
 have rd : ∀ {B : Option Addr} {xs : List Value}, Rd W B xs → Rd (W.putObj D (.deferred none)) B xs := fun hr hne => by
  obtain ⟨g, off, h1, h2⟩ := hr hne
  exact ⟨g, off, h1, fun j v hj => key _ _ (h2 j v hj)⟩
 obtain ⟨es, h1, h2, h3, h4, h5, h6, h7⟩ := h
 exact ⟨es, h1, h2, h3, h4, h5, rd h6, fun e he => ⟨(h7 e he).1, (h7 e he).2.1, (h7 e he).2.2.1, rd (h7 e he).2.2.2⟩⟩
set_option maxRecDepth 100000 in
set_option maxHeartbeats 4000000 in
theorem pathsTop_calls (t : Tm) (P : Nat → Prop) (w : World) (v : Value) (hv : TmV P w v t) : Calls Try.prog 63 #[v] w (RetPs w (if isB t = true then (t.plc []).map Prod.fst else []) (errT (isB t))) := by
 refine (callsIn_wide (n := 5)).1 ?_
 obtain ⟨A, c, rfl, hs, hc⟩ := hv
 obtain ⟨b, hb⟩ : ∃ b, b = isB t := ⟨_, rfl⟩
 have hB0 : Below w.heap.size w (w.alloc (.cells #[.int .i64 t.k, .int .i64 t.n, .string t.s, .slice A t.l.length c] 25)) := (Below.refl _ _).alloc (Nat.le_refl _) _
 have hX0 : Blk (w.alloc (.cells #[.int .i64 t.k, .int .i64 t.n, .string t.s, .slice A t.l.length c] 25)) w.heap.size 25 #[.int .i64 t.k, .int .i64 t.n, .string t.s, .slice A t.l.length c] := Blk.new _ _ _
 have hc0 : TmC (· < w.heap.size) w A c t.l := hc.inside.mono (fun g h => h.2)
 have hcall := (callsIn_wide (n := 4)).2 (check_calls t _ _ _ ⟨A, c, rfl, hs, hc0.stay hB0 (Nat.le_refl _)⟩)
 rw [← hb] at hcall ⊢
 obtain ⟨ls, hls⟩ : ∃ ls, ls = if b = true then (t.plc []).map Prod.fst else [] := ⟨_, rfl⟩
 rw [← hls]
 have Hls := Lib.hid hls; clear hls
 have Hcall := Lib.hid hcall; clear hcall
 have Hb := Lib.hid hb; clear hb
 have HX0 := Lib.hid hX0; clear hX0
 have HB0 := Lib.hid hB0; clear hB0
 have Hc0 := Lib.hid hc0; clear hc0 hc
 refine callsIn_of_wp_marks Try.func63 rfl trivial ?_ rfl
 simp only [Try.ntmps63, List.size_toArray, List.length_cons, List.length_nil, Nat.reduceAdd, Nat.reduceSub, Array.replicate_succ, Array.replicate_zero, List.push_toArray, List.append_toArray, List.nil_append, List.cons_append]
 gi_wp2_with fail
 refine ⟨trivial, ?_⟩
 refine Hcall.out.mono ?_
 rintro e w1 ⟨rfl, hb1⟩
 have HB1 := Lib.hid (HB0.out.trans (hb1.mono HB0.out.size))
 have hX1 := HX0.out.below hb1 HX0.out.lt
 have hl1 := hX1.lt
 obtain ⟨⟨a0, a1, a2, a3⟩, -⟩ := hX1.four
 have HX1 := Lib.hid hX1; clear hX1 hb1
 cases b
 ·have he : (errT false != 0) = true := rfl
  have hl : ls = [] := by have := Hls.out; simpa using this
  subst hl
  gi_wp2
  refine leaves_marks (N := w.heap.size) (fun W' => Below w.heap.size w W') ?_ ?_ [] w1 trivial HB1.out
  ·rintro W5 D5 h1 hD5 hk5
   exact h1.trans (Below.putObj_ (Nat.le_refl _) _ _ (.deferred none) _ hD5)
  ·rintro W5 h1
   exact ⟨.tuple #[.slice none 0 0, .int .i64 (errT false)], by simp [results, Try.results63, go_sem], none, 0, rfl, ⟨[], rfl, by simp, by omega, fun _ => rfl, fun h => absurd rfl h, rd_nil _ _, fun e he => by simp at he⟩, h1⟩
 have he : (errT true != 0) = false := rfl
 have hl : ls = (t.plc []).map Prod.fst := by have := Hls.out; simpa using this
 have Hl := Lib.hid hl; clear hl Hls
 gi_wp2_with fail
 refine ⟨trivial, ?_⟩
 refine ((callsIn_wide (n := 4)).2 (places_calls _ _ _ _ _ _ _ _ _ _)).mono ?_
 rintro e w2 ⟨rfl, rfl⟩
 gi_wp2_with fail
 obtain ⟨Wz, hWz⟩ : ∃ Wz, Wz = ((w1.alloc (.cells #[.slice none 0 0] 76)).alloc (.cells #[.int .i64 t.k, .int .i64 t.n, .string t.s, .slice A t.l.length c] 25)).alloc (.cells #[.slice none 0 0] 39) := ⟨_, rfl⟩
 rw [← hWz]
 have hsw1 : w.heap.size < w1.heap.size := HX1.out.lt
 have hb2 : Below w1.heap.size w1 Wz := by rw [hWz]; exact (((Below.refl _ _).alloc (Nat.le_refl _) _).alloc (by simp) _).alloc (by simp; omega) _
 have hob : Boxed Wz w1.heap.size 76 (.slice none 0 0) := by rw [hWz]; exact ((Boxed.new w1 76 (.slice none 0 0)).alloc _).alloc _
 have hbt : Blk Wz (w1.heap.size + 1) 25 #[.int .i64 t.k, .int .i64 t.n, .string t.s, .slice A t.l.length c] := by
  rw [hWz]
  have := Blk.new (w1.alloc (.cells #[.slice none 0 0] 76)) 25 #[.int .i64 t.k, .int .i64 t.n, .string t.s, .slice A t.l.length c]
  rw [World.size_alloc] at this
  exact this.alloc _
 have hbp : Blk Wz (w1.heap.size + 1 + 1) 39 #[.slice none 0 0] := by
  rw [hWz]
  have := Blk.new ((w1.alloc (.cells #[.slice none 0 0] 76)).alloc (.cells #[.int .i64 t.k, .int .i64 t.n, .string t.s, .slice A t.l.length c] 25)) 39 #[.slice none 0 0]
  rwa [World.size_alloc, World.size_alloc] at this
 have hszz : Wz.heap.size = w1.heap.size + 3 := by rw [hWz]; simp
 have hot := isB_iff.1 Hb.out.symm
 obtain ⟨xe, hxe⟩ : ∃ xe : PW w.heap.size w, xe.1 = (([], none, 0), t, A, c) := ⟨⟨(([], none, 0), t, A, c), hot.1, hs, Hc0.out⟩, rfl⟩
 have hBz : Below w.heap.size w Wz := HB1.out.trans (hb2.mono (by omega))
 have hseq := places1_seq w.heap.size w t (5 - 1) xe (w1.heap.size + 1 + 1) (w1.heap.size + 1) Wz (by rw [hxe]) (by omega) hBz (by rw [hxe]; exact hbp) (by rw [hxe]; exact hbt) (by unfold PW.ok; rw [hxe]; exact PathOk.nil _ _) (by rw [hxe]; have := hot.2.1; simp; omega)
 have hpt : xe.1.1.1 = [] := by rw [hxe]
 rw [hpt] at hseq
 clear hWz hbt hbp hxe hb2
 have hts : t.size ≤ 4000 := hot.2.1
 clear a0 a1 a2 a3 hot
 refine wpIn_rangeW rfl (fun _ => by decide) (gf := 137) (lb := #[.pointer (some ⟨w1.heap.size + 1 + 1, 0, none⟩), .pointer (some ⟨w1.heap.size + 1, 0, none⟩)]) rfl trivial (enters_of Try.func137 (by kernel_rfl) rfl) (n₀ := w.heap.size) (by omega) hseq
  (fun s X Y row hs hg hr => ⟨hs.1, fun y hy => (hs.2 y hy).keep (fun g cs hb => (hg.block g hb.lt (fun e => by obtain ⟨-, o, ho, hc⟩ := hr g e.symm; rw [show X.heap[g]? = _ from hb] at ho; injection ho with ho; subst ho; simp [Obj.isCells] at hc)).trans hb)⟩)
  (fun s X Y row hs hg hr => ⟨hs.1, fun y hy => (hs.2 y hy).keep (fun g cs hb => (hg.block g hb.lt (fun e => by obtain ⟨-, o, ho, hc⟩ := hr g e.symm; rw [show X.heap[g]? = _ from hb] at ho; injection ho with ho; subst ho; simp [Obj.isCells] at hc)).trans hb)⟩)
  (Below.refl _ _) (fun _ => rfl)
  (fun pre W' => (∃ v, Boxed W' w1.heap.size 76 v ∧ W'.ownsRow w1.heap.size 39 1 v pre.length (pre.map PW.sv) ∧ (v = .slice none 0 0 ↔ pre = [])) ∧ Below w.heap.size w W' ∧ Wz.heap.size ≤ W'.heap.size)
  (fun _ _ _ => False)
  (fun s X Y row hs hg hr => ⟨holdsRow_own w1.heap.size w1.heap.size 76 39 1 (fun (pre : List (PW w.heap.size w)) => pre.length) (fun pre => pre.map PW.sv) (fun pre v => (v = .slice none 0 0 ↔ pre = [])) s X Y row hs.1 hg (fun r e => (hr r e).2), ⟨(hs.2.1.grown hg (Nat.le_trans hs.2.1.size (Nat.le_refl _)) (fun r e => by have := (hr r e).1; omega)), Nat.le_trans hs.2.2 hg.size⟩⟩)
  (fun _ _ _ _ _ hs _ _ => hs) ⟨⟨_, hob, World.ownsRow_nil _ _ _ _, by simp⟩, hBz, Nat.le_refl _⟩
  (fun y a' W' => a' = { tmps := #[.agg #[.int .i64 t.k, .int .i64 t.n, .string t.s, .slice A t.l.length c], .pointer (some ⟨w.heap.size, 0, none⟩), .slice none 0 0, .int .i64 0, .int .i64 (errT true), .pointer (some ⟨w1.heap.size, 0, none⟩), .slice y.1.1.2.1 y.1.1.1.length y.1.1.2.2, .agg #[.int .i64 t.k, .int .i64 t.n, .string t.s, .slice A t.l.length c], .int .i64 (errT true), .int .i64 (errT true), .bool false, undef, .agg #[.int .i64 t.k, .int .i64 t.n, .string t.s, .slice A t.l.length c], .func (.func 137) #[] #[.pointer (some ⟨w1.heap.size + 1 + 1, 0, none⟩), .pointer (some ⟨w1.heap.size + 1, 0, none⟩)], .slice y.1.1.2.1 y.1.1.1.length y.1.1.2.2, .agg #[.int .i64 y.1.2.1.k, .int .i64 y.1.2.1.n, .string y.1.2.1.s, .slice y.1.2.2.1 y.1.2.1.l.length y.1.2.2.2], undef, undef, undef, undef, undef], defers := [] })
  (fun _ _ _ _ _ _ hs _ _ => hs)
  ?assign ?body ?done ?stop
 case assign =>
  rintro l2 pre y W' K hi hK
  simp only [PW.encs]
  gi_wp2
  exact hK _ _ (KeepsFrom.refl _ _) (KpP.refl _ _) hi rfl
 case body =>
  rintro l2 pre y a' W' hl ⟨r, hr⟩ ⟨⟨v, hv, hrow, hnil⟩, hB, hS⟩ rfl hlen
  have cv := hv.cell
  have hB2 := hB.size
  have hvl := hv.lt
  have hvf := hv.frozen
  have hl4 : pre.length ≤ 4000 := by omega
  have Hrow := Lib.hid hrow; clear hrow
  have Hv := Lib.hid hv; clear hv
  have HB := Lib.hid hB; clear hB
  have Hnil := Lib.hid hnil; clear hnil
  gi_wp2_with (gi_at_builtin; refine wpListIn_append39 _ rfl _ _ rfl w1.heap.size v pre.length (pre.map PW.sv) (.slice y.1.1.2.1 y.1.1.1.length y.1.1.2.2) rfl (Hrow.out.alloc _) (fun h => Hnil.out.2 (List.length_eq_zero_iff.1 h)) ⟨W'.heap.size, 0, none⟩ rfl (by simp) (by rfl) (by omega) (by simp; omega) ?_; intro v' w2 hown' hgrow hkp; obtain ⟨g', cap', rfl⟩ := ownsRow_succ hown'; obtain ⟨hv2, hv3, hr3, hk3, hb3⟩ := Hv.out.appended (by decide) Hrow.out (by omega) (Nat.le_refl _) hown' hgrow; have hc2 := hv2.cell; have hf2 := hv2.frozen)
  have keep : ∀ g T cs, T ≠ 39 → T ≠ 76 → Blk W' g T cs → Blk (w2.setCell ⟨w1.heap.size, 0, none⟩ (.slice (some ⟨g', 0, none⟩) (pre.length + 1) cap')) g T cs := fun g T cs h39 h76 hb => by
   have h1 := (hb.alloc (.cells #[.slice y.1.1.2.1 y.1.1.1.length y.1.1.2.2] 39)).grown hgrow (fun e => own_blk_ne Hrow.out hb (Ne.symm h39) e.symm)
   exact h1.far (p := ⟨w1.heap.size, 0, none⟩) (fun e => Blk.ne_ h1 (show Blk w2 w1.heap.size 76 #[v] from hv2) h76 e) _
  refine ⟨hk3.from _, ⟨hb3.mono (by omega), fun g cs hb => keep g 25 cs (by decide) (by decide) hb, fun g cs hb => keep g 155 cs (by decide) (by decide) hb, fun g cs hb => keep g 3 cs (by decide) (by decide) hb, fun g x hb => ?_⟩, ⟨_, hv3, by simpa [PW.sv] using hr3, by simp⟩, HB.out.trans (hb3.mono (by omega)), Nat.le_trans hS hb3.size⟩
  have h1 := hkp g x (hb.alloc _)
  exact h1.far (p := ⟨w1.heap.size, 0, none⟩) (fun e => Blk.ne_ h1 (show Blk w2 w1.heap.size 76 #[v] from hv2) (by decide) e) _
 case done =>
  rintro D ys W' hD ⟨hys, hyo⟩ ⟨⟨v, hv, hrow, hnil⟩, hB, hS⟩ hDk
  have cv := hv.cell
  obtain ⟨A2, c2, rfl⟩ := own_slice hrow
  have hll : ls = ys.map (fun y => y.1.1.1) := by rw [Hl.out, ← hys, List.map_map]; rfl
  have hfin := slC_of hrow rfl (by omega) hyo
  have hM : Marks w.heap.size W' [{ target := .collected D, args := #[] }] := ⟨⟨D, rfl, by omega, hDk, fun e he => by simp at he⟩, trivial⟩
  have Hfin := Lib.hid hfin; clear hfin
  have Hll := Lib.hid hll; clear hll
  have HB := Lib.hid hB; clear hB
  have HM := Lib.hid hM; clear hM
  have Hnl := Lib.hid (show ys.length = ls.length from by rw [Hll.out, List.length_map])
  have hgr : W'.heap[D]? = some (.deferred (some [])) := hDk
  have Hmk := Lib.hid (HM.out)
  gi_wp2
  refine leaves_marks (N := Wz.heap.size) (fun W5 => SlC (w.heap.size ≤ ·) W5 A2 c2 (ys.map (fun y => y.1.1.1)) ∧ Below w.heap.size w W5 ∧ Wz.heap.size ≤ W5.heap.size) ?_ ?_ _ W' ⟨⟨D, rfl, hD, hgr, fun e he => by simp at he⟩, trivial⟩ ⟨Hfin.out, HB.out, hS⟩
  ·rintro W5 D5 ⟨h1, h2, h3⟩ hD5 hk5
   exact ⟨slC_put h1 hk5, h2.trans (Below.putObj_ (Nat.le_refl _) _ _ (.deferred none) _ (by omega)), by simpa using h3⟩
  ·rintro W5 ⟨h1, h2, h3⟩
   exact ⟨.tuple #[.slice A2 ys.length c2, .int .i64 0], by simp [results, Try.results63, go_sem], A2, c2, by rw [← Hnl.out]; rfl, by rw [Hll.out]; exact h1, h2⟩
 case stop =>
  rintro D c2 pre W' _ _ h _
  exact h.elim
end Go.Proofs.Ytfhgknmkpegpbaa
set_option linter.unusedVariables false
set_option linter.unusedSimpArgs false
namespace Go.Proofs.Ytfhgknmkpegpbaa
open Go.RowKit
abbrev sa : ByteArray := ⟨#[97]⟩
abbrev sb : ByteArray := ⟨#[98]⟩
abbrev sc : ByteArray := ⟨#[99]⟩
abbrev sf : ByteArray := ⟨#[102]⟩
abbrev sg : ByteArray := ⟨#[103]⟩
abbrev sd : ByteArray := ⟨#[46]⟩
abbrev se : ByteArray := ⟨#[91, 93]⟩
theorem va_ok {n : Int} (h0 : 0 ≤ n) (h1 : n < 100000) : (Tm.va n).okB = true := by
 rw [Tm.okB_eq]
 have : nodeB (Tm.va n) = true := by
  unfold nodeB
  rw [if_pos (show (Tm.va n).k = 1 from rfl)]
  have h2 : bareB (Tm.va n) true false false = true := by
   unfold bareB
   show ((true && (false || decide ((⟨#[]⟩ : ByteArray).toList = []))) && true) = true
   rw [show (⟨#[]⟩ : ByteArray).toList = [] from empty_toList]; rfl
  rw [h2]
  show ((true && decide (0 ≤ n)) && decide (n < 100000)) = true
  simp [h0, h1]
 rw [this]; rfl
theorem at_ok {s : ByteArray} (h : nameB s = true) : (Tm.at' s).okB = true := by
 rw [Tm.okB_eq]
 have : nodeB (Tm.at' s) = true := by
  unfold nodeB
  rw [if_neg (by show (3 : Int) ≠ 1; decide), if_neg (by show (3 : Int) ≠ 2; decide), if_pos (show (Tm.at' s).k = 3 from rfl)]
  show (bareB (Tm.at' s) false true false && nameB s) = true
  rw [h]; rfl
 rw [this]; rfl
theorem fn_ok {s : ByteArray} {l : List Tm} (h : nameB s = true) (h1 : 1 ≤ l.length) (h2 : l.length ≤ 16) (hl : Tm.okBs l = true) : (Tm.fn s l).okB = true := by
 rw [Tm.okB_eq]
 have : nodeB (Tm.fn s l) = true := by
  unfold nodeB
  rw [if_neg (by show (5 : Int) ≠ 1; decide), if_neg (by show (5 : Int) ≠ 2; decide), if_neg (by show (5 : Int) ≠ 3; decide), if_neg (by show (5 : Int) ≠ 4; decide), if_pos (show (Tm.fn s l).k = 5 from rfl)]
  show (((bareB (Tm.fn s l) false true true && nameB s) && decide (1 ≤ l.length)) && decide (l.length ≤ 16)) = true
  rw [h, decide_eq_true h1, decide_eq_true h2]; rfl
 rw [this]
 show (true && Tm.okBs l) = true
 rw [hl]; rfl
theorem nm_a : nameB sa = true := by decide
theorem nm_b : nameB sb = true := by decide
theorem nm_c : nameB sc = true := by decide
theorem nm_f : nameB sf = true := by decide
theorem nm_g : nameB sg = true := by decide
theorem nm_d : nameB sd = true := by decide
theorem nm_e : nameB se = true := by decide
theorem va_n (n : Int) : (Tm.va n).n = n := rfl
theorem fn_l (s : ByteArray) (l : List Tm) : (Tm.fn s l).l = l := rfl
def sX : Tm := Tm.fn sf [Tm.va 0, Tm.fn sd [Tm.at' sa, Tm.at' se]]
theorem sX_ok : isB sX = true := isB_iff.2 ⟨fn_ok nm_f (by decide) (by decide) (by rw [Tm.okBs, va_ok (by decide) (by decide), Tm.okBs, fn_ok nm_d (by decide) (by decide) (by rw [Tm.okBs, at_ok nm_a, Tm.okBs, at_ok nm_e]; rfl)]; rfl), by decide, by decide⟩
theorem sX_size : sX.size = 5 := by rfl
theorem sX_depth : sX.depth = 3 := by rfl
theorem s_cmp : (if allIs [Tm.fn sg [Tm.at' sa], Tm.fn sf [Tm.at' sa, Tm.at' sb]] = true then Tm.ord (Tm.fn sg [Tm.at' sa]) (Tm.fn sf [Tm.at' sa, Tm.at' sb]) else 0) = -1 ∧ errT (allIs [Tm.fn sg [Tm.at' sa], Tm.fn sf [Tm.at' sa, Tm.at' sb]]) = 0 := by
 have h : allIs [Tm.fn sg [Tm.at' sa], Tm.fn sf [Tm.at' sa, Tm.at' sb]] = true := by
  simp only [allIs, List.all_cons, List.all_nil, Bool.and_true, Bool.and_eq_true]
  exact ⟨isB_iff.2 ⟨fn_ok nm_g (by decide) (by decide) (by rw [Tm.okBs, at_ok nm_a]; rfl), by decide, by decide⟩, isB_iff.2 ⟨fn_ok nm_f (by decide) (by decide) (by rw [Tm.okBs, at_ok nm_a, Tm.okBs, at_ok nm_b]; rfl), by decide, by decide⟩⟩
 rw [h]
 refine ⟨?_, rfl⟩
 rw [if_pos rfl, Tm.ord_eq]
 rw [if_pos (by rfl)]
 decide
theorem s_paths : (sX.plc []).map Prod.fst = [[], [0], [1], [1, 0], [1, 1]] := by rfl
theorem fb_at (s : ByteArray) : freeB (Tm.at' s) = false := by unfold freeB; rw [if_neg (fun h => absurd h.1 (by show (3 : Int) ≠ 0; decide))]
theorem fb_fn (s : ByteArray) (l : List Tm) : freeB (Tm.fn s l) = false := by unfold freeB; rw [if_neg (fun h => absurd h.1 (by show (5 : Int) ≠ 0; decide))]
theorem fb_zero : freeB Tm.zero = true := freeB_iff.2 rfl
theorem rep_va {F : Int → Option Tm} {n : Int} {x : Tm} (L : Int) (h : F n = some x) : (Tm.va n).rep F L = (x, L - x.size) := Tm.rep_hit F (Tm.va n) L rfl h
theorem rep_fn {F : Int → Option Tm} (s : ByteArray) (l : List Tm) (L : Int) : (Tm.fn s l).rep F L = (Tm.fn s (Tm.reps F l (L - 1)).1, (Tm.reps F l (L - 1)).2) := by
 rw [Tm.rep_def F (Tm.fn s l) L (fun x h => absurd h (by show (5 : Int) ≠ 1; decide))]; rfl
theorem one_ok {x : Tm} (h : x.okB = true) : Tm.okBs [x] = true := by rw [Tm.okBs, h]; rfl
theorem two_ok {x y : Tm} (h : x.okB = true) (h2 : y.okB = true) : Tm.okBs [x, y] = true := by rw [Tm.okBs, h, Tm.okBs, h2]; rfl
theorem three_ok {x y z : Tm} (h : x.okB = true) (h2 : y.okB = true) (h3 : z.okB = true) : Tm.okBs [x, y, z] = true := by rw [Tm.okBs, h, two_ok h2 h3]; rfl
def sP : Tm := Tm.fn sf [Tm.va 0, Tm.va 1]
def sQ : List Tm := [Tm.fn sg [Tm.va 1], Tm.at' sa]
def sR : Tm := Tm.fn sf [Tm.fn sg [Tm.va 1], Tm.at' sa]
theorem va0 : (Tm.va 0).okB = true := va_ok (by decide) (by decide)
theorem va1 : (Tm.va 1).okB = true := va_ok (by decide) (by decide)
theorem va2 : (Tm.va 2).okB = true := va_ok (by decide) (by decide)
theorem sP_ok : isB sP = true := isB_iff.2 ⟨fn_ok nm_f (by decide) (by decide) (two_ok va0 va1), by decide, by decide⟩
theorem sR_ok : isB sR = true := isB_iff.2 ⟨fn_ok nm_f (by decide) (by decide) (two_ok (fn_ok nm_g (by decide) (by decide) (one_ok va1)) (at_ok nm_a)), by decide, by decide⟩
theorem sQ_sub : subB sQ = true := by
 have h1 : isB (Tm.fn sg [Tm.va 1]) = true := isB_iff.2 ⟨fn_ok nm_g (by decide) (by decide) (one_ok va1), by decide, by decide⟩
 have h2 : isB (Tm.at' sa) = true := isB_iff.2 ⟨at_ok nm_a, by decide, by decide⟩
 unfold subB sQ
 simp only [List.any_cons, List.any_nil, badB, h1, h2, fb_fn, fb_at]
 rfl
theorem pick0 : pickF sQ 0 = some (Tm.fn sg [Tm.va 1]) := by
 show (if freeB (Tm.fn sg [Tm.va 1]) = true then none else some _) = _
 rw [fb_fn]; rfl
theorem pick1 : pickF sQ 1 = some (Tm.at' sa) := by
 show (if freeB (Tm.at' sa) = true then none else some _) = _
 rw [fb_at]; rfl
theorem s_subst : substR sP sQ = some sR ∧ substE sP sQ = 2 := by
 have hr : sP.rep (pickF sQ) 4000 = (sR, 3996) := by
  unfold sP sR
  rw [rep_fn, Tm.reps_cons, if_neg (by decide), rep_va _ pick0]
  simp only
  rw [Tm.reps_cons, if_neg (by decide), rep_va _ pick1]
  simp only
  rw [Tm.reps_nil]
  rfl
 unfold substR substE
 rw [sP_ok, sQ_sub, if_pos ⟨rfl, rfl⟩]
 refine ⟨?_, rfl⟩
 unfold repT
 rw [hr, if_neg (by decide), sR_ok]; rfl
def sM : Tm := Tm.fn sf [Tm.va 0, Tm.va 0]
def sM1 : Tm := Tm.fn sf [Tm.at' sa, Tm.at' sa]
def sM2 : Tm := Tm.fn sf [Tm.at' sa, Tm.at' sb]
theorem sM_all : allIs [sM, sM1] = true ∧ allIs [sM, sM2] = true := by
 have h0 : isB sM = true := isB_iff.2 ⟨fn_ok nm_f (by decide) (by decide) (two_ok va0 va0), by decide, by decide⟩
 have h1 : isB sM1 = true := isB_iff.2 ⟨fn_ok nm_f (by decide) (by decide) (two_ok (at_ok nm_a) (at_ok nm_a)), by decide, by decide⟩
 have h2 : isB sM2 = true := isB_iff.2 ⟨fn_ok nm_f (by decide) (by decide) (two_ok (at_ok nm_a) (at_ok nm_b)), by decide, by decide⟩
 simp [allIs, h0, h1, h2]
theorem sM_vars : varsL [sM] = [0] := by rfl
theorem mat_va (n : Int) (u : Tm) (sub : List Tm) {x : Tm} (h : sub[n.toNat]? = some x) : (Tm.va n).mat u sub = if freeB x = true then (sub.set n.toNat u, true) else (sub, sameB x u) := by
 rw [Tm.mat_eq, if_pos (show (Tm.va n).k = 1 from rfl), va_n, h]
theorem mat_fn (s : ByteArray) (l : List Tm) (u : Tm) (sub : List Tm) : (Tm.fn s l).mat u sub = if 5 = u.k ∧ 0 = u.n ∧ s.toList = u.s.toList ∧ l.length = u.l.length then Tm.mats l u.l sub else (sub, false) := by
 rw [Tm.mat_eq, if_neg (by show (5 : Int) ≠ 1; decide)]; rfl
theorem s_match1 : matchR sM sM1 = some [Tm.at' sa] := by
 have h : sM.mat sM1 [Tm.zero] = ([Tm.at' sa], true) := by
  unfold sM sM1
  rw [mat_fn, if_pos ⟨rfl, rfl, rfl, rfl⟩, fn_l, Tm.mats_cons, mat_va 0 _ _ (x := Tm.zero) rfl, fb_zero]
  rw [if_pos (show (if true = true then (([Tm.zero] : List Tm).set (Int.toNat 0) (Tm.at' sa), true) else ([Tm.zero], sameB Tm.zero (Tm.at' sa))).2 = true from rfl)]
  show Tm.mats [Tm.va 0] [Tm.at' sa] [Tm.at' sa] = _
  rw [Tm.mats_cons, mat_va 0 _ _ (x := Tm.at' sa) rfl, fb_at]
  rw [if_pos (show (if false = true then (([Tm.at' sa] : List Tm).set (Int.toNat 0) (Tm.at' sa), true) else ([Tm.at' sa], sameB (Tm.at' sa) (Tm.at' sa))).2 = true from sameB_refl _)]
  rw [Tm.mats_nil]; rfl
 unfold matchR
 rw [sM_vars]
 show (if (sM.mat sM1 [Tm.zero]).2 = true then some (sM.mat sM1 [Tm.zero]).1 else none) = _
 rw [h]; rfl
theorem s_match2 : matchR sM sM2 = none := by
 have h : (sM.mat sM2 [Tm.zero]).2 = false := by
  unfold sM sM2
  rw [mat_fn, if_pos ⟨rfl, rfl, rfl, rfl⟩, fn_l, Tm.mats_cons, mat_va 0 _ _ (x := Tm.zero) rfl, fb_zero]
  rw [if_pos (show (if true = true then (([Tm.zero] : List Tm).set (Int.toNat 0) (Tm.at' sa), true) else ([Tm.zero], sameB Tm.zero (Tm.at' sa))).2 = true from rfl)]
  show (Tm.mats [Tm.va 0] [Tm.at' sb] [Tm.at' sa]).2 = _
  have hne : sameB (Tm.at' sa) (Tm.at' sb) = false := sameB_false.2 (fun e => by
   have h1 := congrArg (fun t => t.s.data) e
   exact absurd h1 (by decide))
  rw [Tm.mats_cons, mat_va 0 _ _ (x := Tm.at' sa) rfl, fb_at]
  rw [if_neg (show ¬ (if false = true then (([Tm.at' sa] : List Tm).set (Int.toNat 0) (Tm.at' sb), true) else ([Tm.at' sa], sameB (Tm.at' sa) (Tm.at' sb))).2 = true from by show ¬ sameB (Tm.at' sa) (Tm.at' sb) = true; rw [hne]; decide)]
 unfold matchR
 rw [sM_vars]
 show (if (sM.mat sM2 [Tm.zero]).2 = true then some (sM.mat sM2 [Tm.zero]).1 else none) = _
 rw [h]; rfl
theorem s_check0 : isB Tm.zero = false := by
 rw [← Bool.not_eq_true]
 intro h
 have h1 := (node_fit (okB_node (isB_iff.1 h).1)).1.1
 exact absurd h1 (by show ¬ (1 : Int) ≤ 0; decide)
theorem s_ne {a b : ByteArray} (h : a.data ≠ b.data) : a.toList ≠ b.toList := fun e => h (by rw [bytes_ext e])
theorem gen_leaf {t u : Tm} (p : List (Tm × Tm)) (h : t.s.data ≠ u.s.data) : t.gen u p = (Tm.va (pidx p (t, u)), padd p (t, u)) := by
 rw [Tm.gen_eq, if_neg (fun e => s_ne h e.2.2.2.1)]
theorem gen_fn (s : ByteArray) (l l' : List Tm) (p : List (Tm × Tm)) (hl : l.length = l'.length) : (Tm.fn s l).gen (Tm.fn s l') p = (Tm.fn s (Tm.gens l l' p).1, (Tm.gens l l' p).2) := by
 rw [Tm.gen_eq, if_pos ⟨rfl, by show (5 : Int) ≠ 1; decide, rfl, rfl, hl⟩]; rfl
theorem at_ne {a b : ByteArray} (h : a.data ≠ b.data) : Tm.at' a ≠ Tm.at' b := fun e => h (congrArg (fun t => t.s.data) e)
def sG1 : Tm := Tm.fn sf [Tm.at' sa, Tm.fn sg [Tm.at' sa], Tm.at' sa]
def sG2 : Tm := Tm.fn sf [Tm.at' sb, Tm.fn sg [Tm.at' sb], Tm.at' sc]
def sG : Tm := Tm.fn sf [Tm.va 0, Tm.fn sg [Tm.va 0], Tm.va 1]
theorem sG_all : allIs [sG1, sG2] = true := by
 have h1 : isB sG1 = true := isB_iff.2 ⟨fn_ok nm_f (by decide) (by decide) (three_ok (at_ok nm_a) (fn_ok nm_g (by decide) (by decide) (one_ok (at_ok nm_a))) (at_ok nm_a)), by decide, by decide⟩
 have h2 : isB sG2 = true := isB_iff.2 ⟨fn_ok nm_f (by decide) (by decide) (three_ok (at_ok nm_b) (fn_ok nm_g (by decide) (by decide) (one_ok (at_ok nm_b))) (at_ok nm_c)), by decide, by decide⟩
 simp [allIs, h1, h2]
theorem s_gen : genR sG1 sG2 = sG := by
 have p1 : pidx [] (Tm.at' sa, Tm.at' sb) = 0 := pidx_not (by simp)
 have d1 : padd [] (Tm.at' sa, Tm.at' sb) = [(Tm.at' sa, Tm.at' sb)] := by unfold padd; rw [if_neg (by simp)]; rfl
 have p2 : pidx [(Tm.at' sa, Tm.at' sb)] (Tm.at' sa, Tm.at' sb) = 0 := by have := pidx_lt (p := [(Tm.at' sa, Tm.at' sb)]) (q := (Tm.at' sa, Tm.at' sb)) (by simp); simp at this; exact this
 have d2 : padd [(Tm.at' sa, Tm.at' sb)] (Tm.at' sa, Tm.at' sb) = [(Tm.at' sa, Tm.at' sb)] := by unfold padd; rw [if_pos (by simp)]
 have hn : (Tm.at' sa, Tm.at' sc) ∉ [(Tm.at' sa, Tm.at' sb)] := by
  intro h
  rw [List.mem_singleton] at h
  exact at_ne (a := sc) (b := sb) (by decide) (congrArg Prod.snd h)
 have p3 : pidx [(Tm.at' sa, Tm.at' sb)] (Tm.at' sa, Tm.at' sc) = 1 := pidx_not hn
 have g1 : ∀ p, Tm.gen (Tm.at' sa) (Tm.at' sb) p = _ := fun p => gen_leaf p (by show sa.data ≠ sb.data; decide)
 have g2 : ∀ p, Tm.gen (Tm.at' sa) (Tm.at' sc) p = _ := fun p => gen_leaf p (by show sa.data ≠ sc.data; decide)
 unfold genR sG1 sG2 sG
 rw [gen_fn sf [Tm.at' sa, Tm.fn sg [Tm.at' sa], Tm.at' sa] [Tm.at' sb, Tm.fn sg [Tm.at' sb], Tm.at' sc] [] rfl]
 simp only
 rw [Tm.gens_cons, g1, p1, d1]
 simp only
 rw [Tm.gens_cons, gen_fn sg [Tm.at' sa] [Tm.at' sb] _ rfl, Tm.gens_cons, g1, p2, d2]
 simp only
 rw [Tm.gens_nil]
 simp only
 rw [Tm.gens_cons, g2, p3]
 simp only
 rw [Tm.gens_nil]
 rfl
def sN : List Tm := [Tm.fn sf [Tm.va 2, Tm.va 0], Tm.va 2]
def sN' : List Tm := [Tm.fn sf [Tm.va 0, Tm.va 1], Tm.va 0]
theorem sN_all : allB sN = true := allB_iff.2 ⟨two_ok (fn_ok nm_f (by decide) (by decide) (two_ok va2 va0)) va2, by decide, by decide⟩
theorem sN_vars : varsL sN = [2, 0] := by rfl
theorem s_norm : normR sN = sN' := by
 have v2 : nowOf [2, 0] 2 2 = 0 := by decide
 have v0 : nowOf [2, 0] 2 0 = 1 := by decide
 have f2 : nowF (nowOf [2, 0] 2) 2 = some (Tm.va 0) := by unfold nowF; rw [v2]
 have f0 : nowF (nowOf [2, 0] 2) 0 = some (Tm.va 1) := by unfold nowF; rw [v0]
 have h1 : (Tm.fn sf [Tm.va 2, Tm.va 0]).rep (nowF (nowOf [2, 0] 2)) 4000 = (Tm.fn sf [Tm.va 0, Tm.va 1], 3997) := by
  rw [rep_fn, Tm.reps_cons, if_neg (by decide), rep_va _ f2]
  simp only
  rw [Tm.reps_cons, if_neg (by decide), rep_va _ f0]
  simp only
  rw [Tm.reps_nil]
  rfl
 have h2 : (Tm.va 2).rep (nowF (nowOf [2, 0] 2)) 4000 = (Tm.va 0, 3999) := by rw [rep_va _ f2]; rfl
 have i1 : isB (Tm.fn sf [Tm.va 0, Tm.va 1]) = true := sP_ok
 have i2 : isB (Tm.va 0) = true := isB_iff.2 ⟨va0, by decide, by decide⟩
 unfold normR
 rw [sN_vars]
 show [normT (nowOf [2, 0] 2) (Tm.fn sf [Tm.va 2, Tm.va 0]), normT (nowOf [2, 0] 2) (Tm.va 2)] = _
 have n1 : repT (nowF (nowOf [2, 0] 2)) (Tm.fn sf [Tm.va 2, Tm.va 0]) = some (Tm.fn sf [Tm.va 0, Tm.va 1]) := by
  unfold repT
  rw [h1]
  show (if (3997 : Int) < 0 then none else if isB (Tm.fn sf [Tm.va 0, Tm.va 1]) = true then some (Tm.fn sf [Tm.va 0, Tm.va 1]) else none) = _
  rw [i1]; rfl
 have n2 : repT (nowF (nowOf [2, 0] 2)) (Tm.va 2) = some (Tm.va 0) := by
  unfold repT
  rw [h2]
  show (if (3999 : Int) < 0 then none else if isB (Tm.va 0) = true then some (Tm.va 0) else none) = _
  rw [i2]; rfl
 unfold normT
 rw [n1, n2]
 rfl
end Go.Proofs.Ytfhgknmkpegpbaa
set_option linter.unusedVariables false
set_option linter.unusedSimpArgs false
namespace Go.Proofs.Ytfhgknmkpegpbaa
open Go.ChangeShapes Go.WideShapes Go.Deep Go.RowKit Go.Joins Go.ChangeAt
section
variable {H : Type} {enc : TypeId × Value → H} {w : World}
theorem addr_spot {a : Addr} {v : Value} (h : w.cell? a = some v) : a = ⟨a.block, a.off, none⟩ := by
 obtain ⟨b, o, s⟩ := a
 cases s with
 | none => rfl
 | some s =>
  unfold World.cell? at h
  cases hh : w.heap[b]? with
  | none => rw [hh] at h; cases h
  | some o => cases o <;> rw [hh] at h <;> simp at h
theorem add_spot {a : Addr} (n : Nat) (h : a = ⟨a.block, a.off, none⟩) : a.add n = ⟨a.block, a.off + n, none⟩ := by
 unfold Addr.add
 split
 ·rename_i h0; subst h0; exact h
 ·rfl
theorem rd_of {T : Type} (encT : T → List Value) (R : T → Prop) (k : Nat) (hk : ∀ x, (encT x).length = k) (h0 : 0 < k) {a : Addr} {len : Nat} (hlen : len ≠ 0)
  (H : ∀ i, i < len → ∃ x : T, R x ∧ ∀ j u, (encT x)[j]? = some u → w.cell? (a.add (i * k + j)) = some u) : ∃ xs : List T, xs.length = len ∧ (∀ x ∈ xs, R x) ∧ a = ⟨a.block, a.off, none⟩ ∧ Rd w (some a) (xs.flatMap encT) := by
 classical
 obtain ⟨x0, hr0, hx0⟩ := H 0 (by omega)
 let f : Nat → T := fun i => if h : i < len then Classical.choose (H i h) else x0
 have hf : ∀ i, i < len → R (f i) ∧ ∀ j u, (encT (f i))[j]? = some u → w.cell? (a.add (i * k + j)) = some u := by
  intro i hi
  have : f i = Classical.choose (H i hi) := dif_pos hi
  rw [this]
  exact Classical.choose_spec (H i hi)
 have hsp : a = ⟨a.block, a.off, none⟩ := by
  have h1 : ∃ u, (encT x0)[0]? = some u := ⟨_, List.getElem?_eq_getElem (by rw [hk]; exact h0)⟩
  obtain ⟨u, hu⟩ := h1
  have := hx0 0 u hu
  rw [show 0 * k + 0 = 0 by omega] at this
  exact addr_spot (a := a) (by simpa [Addr.add] using this)
 have hll : ((List.range len).map f).length = len := by simp
 refine ⟨(List.range len).map f, hll, fun x hx => ?_, hsp, fun _ => ⟨a.block, a.off, congrArg some hsp, fun j v hj => ?_⟩⟩
 ·obtain ⟨i, hi, rfl⟩ := List.mem_map.1 hx
  exact (hf i (List.mem_range.1 hi)).1
 have hjl : j < (((List.range len).map f).flatMap encT).length := (List.getElem?_eq_some_iff.1 hj).1
 rw [flatMap_len encT k hk, hll] at hjl
 have hi : j / k < len := Nat.div_lt_of_lt_mul (by rw [Nat.mul_comm]; exact hjl)
 have hjm : j % k < k := Nat.mod_lt _ h0
 have hdm : j / k * k + j % k = j := by rw [Nat.mul_comm]; exact Nat.div_add_mod j k
 have hget : ((List.range len).map f)[j / k]? = some (f (j / k)) := by simp [hi]
 have h2 := flatMap_get encT k hk _ _ (j % k) _ hget hjm
 rw [hdm, hj] at h2
 have := (hf _ hi).2 (j % k) v h2.symm
 rw [hdm, add_spot _ hsp] at this
 exact this
set_option maxRecDepth 100000 in
theorem trod_terms (n : Nat) : ∀ (fuel : Nat) (cs : List Value) (x : DataW H × List MemPlace), fuel ≤ n → DataW.trod enc Try.prog w 0 (fun _ => true) true fuel 22 cs = some x → ∃ A c l, cs = [.slice A l.length c] ∧ TmC (fun _ => True) w A c l := by
  induction n with
  | zero => intro fuel cs x hf h; have : fuel = 0 := by omega
            subst this; simp [DataW.trod] at h
  | succ n ih =>
    intro fuel cs x hf h
    have hC : Try.prog.cellsOf 25 = 4 := by kernel_rfl
    rcases DataW.trod_slice Try.underlying22 h with h0 | ⟨a, len, cap, elems, rest, m, rfl, rfl, hx, hb, hl, hm, hlen, hel, -, -⟩
    · exact ⟨none, 0, [], h0.1, TmC.nil _ _ (by omega) (fun _ => rfl)⟩
    · rw [hC] at hel
      have hcap : cap ≤ 9223372036854775807 := by simpa [maxLen] using hm
      by_cases hz : len = 0
      · subst hz
        exact ⟨some a, cap, [], rfl, TmC.nil _ _ hcap (fun e => by cases e)⟩
      obtain ⟨es, hes, hR, hsp, hrd⟩ := rd_of (w := w) encE (fun e : EV => e.1.s.size ≤ 9223372036854775807 ∧ TmC (fun _ => True) w e.2.1 e.2.2 e.1.l) 4 (fun _ => rfl) (by omega) (a := a) hz (fun i hi => by
        have h1 := hel i hi
        have h2 : ∃ y, elems[i]? = some y := ⟨_, List.getElem?_eq_getElem (by omega)⟩
        obtain ⟨y, hy⟩ := h2
        rw [hy] at h1
        cases hc : w.cells? 0 (a.add (i * 4)) 4 with
        | none => rw [hc] at h1; cases h1
        | some cs' =>
          rw [hc] at h1
          have h1' : DataW.trod enc Try.prog w 0 (fun _ => true) true m 25 cs' = some y := h1
          obtain ⟨-, hcl, hcell⟩ := World.cells?_some hc
          obtain ⟨xs, m', rfl, hxy, hcsl, hxl, hfld⟩ := DataW.trod_struct Try.underlying25 h1'
          match cs', hcl with
          | [v0, v1, v2, v3], _ =>
            have hf0 : DataW.trod enc Try.prog w 0 (fun _ => true) true m' 3 (([v0, v1, v2, v3].drop 0).take (Try.prog.cellsOf 3)) = xs[0]? := hfld 0 _ rfl
            have hf1 : DataW.trod enc Try.prog w 0 (fun _ => true) true m' 3 (([v0, v1, v2, v3].drop 1).take (Try.prog.cellsOf 3)) = xs[1]? := hfld 1 _ rfl
            have hf2 : DataW.trod enc Try.prog w 0 (fun _ => true) true m' 9 (([v0, v1, v2, v3].drop 2).take (Try.prog.cellsOf 9)) = xs[2]? := hfld 2 _ rfl
            have hf3 : DataW.trod enc Try.prog w 0 (fun _ => true) true m' 22 (([v0, v1, v2, v3].drop 3).take (Try.prog.cellsOf 22)) = xs[3]? := hfld 3 _ rfl
            have c1 : Try.prog.cellsOf 3 = 1 := by kernel_rfl
            have c9 : Try.prog.cellsOf 9 = 1 := by kernel_rfl
            have c22 : Try.prog.cellsOf 22 = 1 := by kernel_rfl
            rw [c1] at hf0 hf1
            rw [c9] at hf2
            rw [c22] at hf3
            have hxs : xs.length = 4 := hxl
            match xs, hxs with
            | [y0, y1, y2, y3], _ =>
              obtain ⟨z0, q0, _, _⟩ := DataW.trod_int (x := y0) Try.underlying3 hf0
              obtain ⟨z1, q1, _, _⟩ := DataW.trod_int (x := y1) Try.underlying3 hf1
              obtain ⟨s, q2, _, hss⟩ := DataW.trod_string (x := y2) Try.underlying9 hf2
              obtain ⟨A', c', l', q3, hT⟩ := ih m' _ y3 (by omega) hf3
              simp only [List.drop_zero, List.drop_succ_cons, List.take_succ_cons, List.take_zero, List.cons.injEq, and_true] at q0 q1 q2 q3
              subst q0 q1 q2 q3
              have hs9 : s.size ≤ 9223372036854775807 := by simpa [maxLen] using hss
              refine ⟨(.mk z0 z1 s l', A', c'), ⟨hs9, hT⟩, fun j u hu => ?_⟩
              have hj : j < 4 := (List.getElem?_eq_some_iff.1 hu).1
              rw [← Go.Deep.add_add, hcell j hj]
              exact hu)
      refine ⟨some a, cap, es.map (fun e => e.1), by rw [List.length_map, hes], .mk es rfl (by rw [List.length_map, hes]; exact hl) hcap (fun e => by cases e) (fun _ => ⟨a.block, a.off, congrArg some hsp, trivial⟩) hrd (fun e he => (hR e he).1) (fun e he => (hR e he).2)⟩
end
set_option maxRecDepth 100000 in
theorem view_terms {H : Type} {enc : TypeId × Value → H} {w : World} {v : Value} {d : DataW H} {p : List MemPlace} {r : Reach} {b0 : Nat} (hv : Value.okWide Try.prog w r b0 22 v) (h : DataW.Trod enc Try.prog w 0 (fun _ => true) true 22 v d p) :
  ∃ A c l, v = .slice A l.length c ∧ TmC (fun _ => True) w A c l := by
 obtain ⟨a, n, c, rfl⟩ := okWide_slice Try.underlying22 hv
 obtain ⟨fuel, hf⟩ := h
 obtain ⟨A, c', l, hcs, hT⟩ := trod_terms fuel fuel _ _ (Nat.le_refl _) hf
 simp [Value.cells] at hcs
 obtain ⟨rfl, rfl, rfl⟩ := hcs
 exact ⟨_, _, l, rfl, hT⟩
set_option maxRecDepth 100000 in
theorem view_term {H : Type} {enc : TypeId × Value → H} {w : World} {v : Value} {d : DataW H} {p : List MemPlace} {r : Reach} {b0 : Nat} (hv : Value.okWide Try.prog w r b0 25 v) (h : DataW.Trod enc Try.prog w 0 (fun _ => true) true 25 v d p) :
  ∃ t, TmV (fun _ => True) w v t := by
 obtain ⟨cs, rfl, hsz⟩ := okWide_struct Try.underlying25 hv
 obtain ⟨l⟩ := cs
 have hC : Try.prog.cellsOf 25 = 4 := by kernel_rfl
 match l, hsz.trans hC with
 | [v0, v1, v2, v3], _ =>
  obtain ⟨fuel, hf⟩ := h
  obtain ⟨xs, m', rfl, hxy, hcsl, hxl, hfld⟩ := DataW.trod_struct Try.underlying25 hf
  have hxs : xs.length = 4 := hxl
  match xs, hxs with
  | [y0, y1, y2, y3], _ =>
   have hf0 : DataW.trod enc Try.prog w 0 (fun _ => true) true m' 3 (([v0, v1, v2, v3].drop 0).take (Try.prog.cellsOf 3)) = some y0 := hfld 0 _ rfl
   have hf1 : DataW.trod enc Try.prog w 0 (fun _ => true) true m' 3 (([v0, v1, v2, v3].drop 1).take (Try.prog.cellsOf 3)) = some y1 := hfld 1 _ rfl
   have hf2 : DataW.trod enc Try.prog w 0 (fun _ => true) true m' 9 (([v0, v1, v2, v3].drop 2).take (Try.prog.cellsOf 9)) = some y2 := hfld 2 _ rfl
   have hf3 : DataW.trod enc Try.prog w 0 (fun _ => true) true m' 22 (([v0, v1, v2, v3].drop 3).take (Try.prog.cellsOf 22)) = some y3 := hfld 3 _ rfl
   rw [show Try.prog.cellsOf 3 = 1 from by kernel_rfl] at hf0 hf1
   rw [show Try.prog.cellsOf 9 = 1 from by kernel_rfl] at hf2
   rw [show Try.prog.cellsOf 22 = 1 from by kernel_rfl] at hf3
   obtain ⟨z0, q0, _, _⟩ := DataW.trod_int Try.underlying3 hf0
   obtain ⟨z1, q1, _, _⟩ := DataW.trod_int Try.underlying3 hf1
   obtain ⟨s, q2, _, hss⟩ := DataW.trod_string Try.underlying9 hf2
   obtain ⟨A', c', l', q3, hT⟩ := trod_terms m' m' _ _ (Nat.le_refl _) hf3
   simp only [List.drop_zero, List.drop_succ_cons, List.take_succ_cons, List.take_zero, List.cons.injEq, and_true] at q0 q1 q2 q3
   subst q0 q1 q2 q3
   have hs9 : s.size ≤ 9223372036854775807 := by simpa [maxLen] using hss
   exact ⟨.mk z0 z1 s l', A', c', rfl, hs9, hT⟩
end Go.Proofs.Ytfhgknmkpegpbaa
set_option linter.unusedVariables false
set_option linter.unusedSimpArgs false
namespace Go.Abs
inductive FC where
 | v (x : Value)
 | fz (sz : Nat) (l : List (List FC))
inductive AC where
 | f (c : FC)
 | ptr (b off : Nat)
 | row (b n : Nat)
 | ep (b n sz i off : Nat)
 | fp (l : List FC)
 | fn (f : Fn) (caps : List AC)
 | mp (b : Nat)
inductive BT where
 | int (k : IntKind)
 | str
 | bl
 deriving DecidableEq
inductive KT where
 | one (b : BT)
 | st (l : List BT)
 deriving DecidableEq
def hasB : BT → Value → Bool
 | .int k, .int k' _ => k == k'
 | .str, .string _ => true
 | .bl, .bool _ => true
 | _, _ => false
def hasBs : List BT → List Value → Bool
 | [], [] => true
 | b :: r, v :: s => hasB b v && hasBs r s
 | _, _ => false
def hasK : KT → Value → Bool
 | .one b, v => hasB b v
 | .st l, .agg cs => hasBs l cs.toList
 | _, _ => false
inductive OC where
 | c (a : AC)
 | box (ty : Nat) (l : List OC)
 | row (ty sz n : Nat) (l : List OC)
 | map (kt : KT) (ks : List Value) (l : List OC)
inductive AV where
 | one (c : AC)
 | agg (l : List AC)
 | tup (l : List AV)
inductive AB where
 | box (ty : Nat) (l : List AC)
 | row (ty sz : Nat) (l : List (List FC))
 | obj (x : OC)
 | dead
structure En where
 F : Nat → Prop
 m : Nat → Nat → Option Value
 ft : Nat → Nat → Prop
def okV : Value → Bool
 | .agg _ => false
 | .tuple _ => false
 | .string s => decide (s.size ≤ maxLen)
 | _ => true
theorem okV_one {x : Value} (h : okV x = true) : x.oneCell' = true := by
 cases x <;> first | rfl | (simp [okV] at h)
inductive Rf (w : World) (F : Nat → Prop) : FC → Value → Prop
 | v (x : Value) (h : okV x = true) : Rf w F (.v x) x
 | fz (sz : Nat) (l : List (List FC)) (A : Option Addr) (cap g off : Nat) (vals : Nat → Nat → Value)
   (hl : l.length ≤ cap) (hc : cap ≤ maxLen) (hn : A = none → cap = 0)
   (hA : l ≠ [] → A = some ⟨g, off, none⟩ ∧ F g)
   (hsz : ∀ (i : Nat) (e : List FC), l[i]? = some e → e.length = sz)
   (hcell : ∀ (i : Nat) (e : List FC) (j : Nat) (c : FC), l[i]? = some e → e[j]? = some c → w.cell? ⟨g, off + i * sz + j, none⟩ = some (vals i j))
   (hr : ∀ (i : Nat) (e : List FC) (j : Nat) (c : FC), l[i]? = some e → e[j]? = some c → Rf w F c (vals i j)) : Rf w F (.fz sz l) (.slice A l.length cap)
inductive Rc (w : World) (E : En) : AC → Value → Prop
 | f {c : FC} {v : Value} (h : Rf w E.F c v) : Rc w E (.f c) v
 | ptr {b off g : Nat} (h : E.m b 0 = some (.pointer (some ⟨g, 0, none⟩))) : Rc w E (.ptr b off) (.pointer (some ⟨g, off, none⟩))
 | row {b n c : Nat} {A : Option Addr} (h : E.m b n = some (.slice A n c)) : Rc w E (.row b n) (.slice A n c)
 | ep {b n sz i off g o c : Nat} (h : E.m b n = some (.slice (some ⟨g, o, none⟩) n c)) : Rc w E (.ep b n sz i off) (.pointer (some ⟨g, o + (i * sz + off), none⟩))
 | fp {l : List FC} {g off : Nat} (vals : Nat → Value) (hF : l ≠ [] → E.F g) (hcell : ∀ j c, l[j]? = some c → w.cell? ⟨g, off + j, none⟩ = some (vals j))
   (hr : ∀ j c, l[j]? = some c → Rf w E.F c (vals j)) : Rc w E (.fp l) (.pointer (some ⟨g, off, none⟩))
 | fn {f : Fn} {caps : List AC} {vs : Array Value} (vals : Nat → Value) (hs : vs.size = caps.length) (hv : ∀ j c, caps[j]? = some c → vs[j]? = some (vals j))
   (hr : ∀ j c, caps[j]? = some c → Rc w E c (vals j)) : Rc w E (.fn f caps) (.func f #[] vs)
 | mp {b g : Nat} (h : E.m b 0 = some (.map (some g))) : Rc w E (.mp b) (.map (some g))
mutual
def Ro (w : World) (E : En) : OC → Value → (Nat → Prop) → Prop
  | .c a, u, G => Rc w E a u ∧ ∀ g, ¬ G g
  | .box ty l, u, G => ∃ (g : Nat) (vs : Array Value) (Gc : Nat → Prop), u = .pointer (some ⟨g, 0, none⟩) ∧ w.heap[g]? = some (.cells vs ty (0, 0)) ∧ Ros w E l vs.toList Gc ∧ ¬ Gc g ∧ ∀ k, G k ↔ k = g ∨ Gc k
  | .row ty sz n l, u, G => (u = .slice none 0 0 ∧ n = 0 ∧ l = [] ∧ ∀ g, ¬ G g) ∨
      ∃ (g off cap : Nat) (cur : Array Value) (Gc : Nat → Prop), u = .slice (some ⟨g, off, none⟩) n cap ∧ w.heap[g]? = some (.cells cur ty (0, 0)) ∧ n ≤ cap ∧ cap ≤ maxLen ∧ off + cap * sz ≤ cur.size ∧
        Ros w E l ((cur.toList.drop off).take (n * sz)) Gc ∧ ¬ Gc g ∧ ∀ k, G k ↔ k = g ∨ Gc k
  | .map kt ks l, u, G => (∀ k ∈ ks, hasK kt k = true) ∧ ∃ (g : Nat) (es : Array MapEntry) (clock : Nat) (Gc : Nat → Prop), u = .map (some g) ∧ w.heap[g]? = some (.map es clock) ∧ es.toList.map (·.key) = ks ∧ Ros w E l (es.toList.map (·.val)) Gc ∧
        (es.toList.map (·.born)).Nodup ∧ (∀ e ∈ es.toList, e.born < clock) ∧ ¬ Gc g ∧ ∀ k, G k ↔ k = g ∨ Gc k
def Ros (w : World) (E : En) : List OC → List Value → (Nat → Prop) → Prop
 | [], vs, G => vs = [] ∧ ∀ g, ¬ G g
 | c :: r, vs, G => ∃ (u : Value) (us : List Value) (G1 G2 : Nat → Prop), vs = u :: us ∧ Ro w E c u G1 ∧ Ros w E r us G2 ∧ (∀ g, G1 g → ¬ G2 g) ∧ ∀ g, G g ↔ G1 g ∨ G2 g
end
def OC.len : OC → Nat
 | .row _ _ n _ => n
 | _ => 0
inductive Rv (w : World) (E : En) : AV → Value → Prop
 | one {c : AC} {v : Value} (h : Rc w E c v) : Rv w E (.one c) v
 | agg {l : List AC} {vs : Array Value} (hs : vs.size = l.length) (hr : ∀ (j : Nat) (c : AC), l[j]? = some c → ∃ u, vs[j]? = some u ∧ Rc w E c u) : Rv w E (.agg l) (.agg vs)
 | tup {l : List AV} {vs : Array Value} (vals : Nat → Value) (hs : vs.size = l.length) (hv : ∀ j c, l[j]? = some c → vs[j]? = some (vals j))
   (hr : ∀ j c, l[j]? = some c → Rv w E c (vals j)) : Rv w E (.tup l) (.tuple vs)
def Agree (F : Nat → Prop) (w w' : World) : Prop := ∀ g, F g → w'.heap[g]? = w.heap[g]?
theorem Agree.refl (F : Nat → Prop) (w : World) : Agree F w w := fun _ _ => rfl
theorem Agree.trans {F : Nat → Prop} {a b c : World} (h : Agree F a b) (k : Agree F b c) : Agree F a c := fun g hg => (k g hg).trans (h g hg)
theorem cell_agree {w w' : World} {g : Nat} (h : w'.heap[g]? = w.heap[g]?) (o : Nat) : w'.cell? ⟨g, o, none⟩ = w.cell? ⟨g, o, none⟩ := by
 simp only [World.cell?, h]
structure En.le (E E' : En) : Prop where
 F : ∀ g, E.F g → E'.F g
 m : ∀ b n v, E.m b n = some v → E'.m b n = some v
theorem En.le.refl (E : En) : E.le E := ⟨fun _ h => h, fun _ _ _ h => h⟩
theorem En.le.trans {A B C : En} (h : A.le B) (k : B.le C) : A.le C := ⟨fun g x => k.F g (h.F g x), fun b n v x => k.m b n v (h.m b n v x)⟩
theorem Rf.mono {w w' : World} {F F' : Nat → Prop} {c : FC} {v : Value} (h : Rf w F c v) (hF : ∀ g, F g → F' g) (ha : Agree F w w') : Rf w' F' c v := by
 induction h with
 | v x h => exact .v x h
 | fz sz l A cap g off vals hl hc hn hA hsz hcell hr ih =>
  refine .fz sz l A cap g off vals hl hc hn (fun h => ⟨(hA h).1, hF g (hA h).2⟩) hsz (fun i e j c hi hj => ?_) ih
  have hne : l ≠ [] := by intro e; rw [e] at hi; simp at hi
  rw [cell_agree (ha g (hA hne).2)]
  exact hcell i e j c hi hj
theorem Rc.mono {w w' : World} {E E' : En} {c : AC} {v : Value} (h : Rc w E c v) (hE : E.le E') (ha : Agree E.F w w') : Rc w' E' c v := by
 induction h with
 | f h => exact .f (h.mono hE.F ha)
 | ptr h => exact .ptr (hE.m _ _ _ h)
 | row h => exact .row (hE.m _ _ _ h)
 | ep h => exact .ep (hE.m _ _ _ h)
 | @fp l g off vals hF hcell hr =>
  refine .fp vals (fun h => hE.F _ (hF h)) (fun j c hj => ?_) (fun j c hj => (hr j c hj).mono hE.F ha)
  have hne : l ≠ [] := by intro e; rw [e] at hj; simp at hj
  rw [cell_agree (ha g (hF hne))]
  exact hcell j c hj
 | fn vals hs hv hr ih => exact .fn vals hs hv ih
 | mp h => exact .mp (hE.m _ _ _ h)
mutual
theorem Ro.mono {w w' : World} {E E' : En} (hE : E.le E') (ha : Agree E.F w w') : ∀ (x : OC) {u : Value} {G : Nat → Prop}, (∀ g, G g → w'.heap[g]? = w.heap[g]?) → Ro w E x u G → Ro w' E' x u G
 | .c a, u, G, hg, h => by
  simp only [Ro] at h ⊢
  exact ⟨h.1.mono hE ha, h.2⟩
 | .box ty l, u, G, hg, h => by
  simp only [Ro] at h ⊢
  obtain ⟨g, vs, Gc, h1, h2, h3, h4, h5⟩ := h
  exact ⟨g, vs, Gc, h1, (hg g ((h5 g).2 (.inl rfl))).trans h2, Ros.mono hE ha l (fun k hk => hg k ((h5 k).2 (.inr hk))) h3, h4, h5⟩
 | .row ty sz n l, u, G, hg, h => by
  simp only [Ro] at h ⊢
  rcases h with h | ⟨g, off, cap, cur, Gc, h1, h2, h3, h4, h5, h6, h7, h8⟩
  ·exact .inl h
  ·exact .inr ⟨g, off, cap, cur, Gc, h1, (hg g ((h8 g).2 (.inl rfl))).trans h2, h3, h4, h5, Ros.mono hE ha l (fun k hk => hg k ((h8 k).2 (.inr hk))) h6, h7, h8⟩
 | .map kt ks l, u, G, hg, h => by
  simp only [Ro] at h ⊢
  obtain ⟨h0, g, es, clock, Gc, h1, h2, h3, h4, h5, h6, h7, h8⟩ := h
  exact ⟨h0, g, es, clock, Gc, h1, (hg g ((h8 g).2 (.inl rfl))).trans h2, h3, Ros.mono hE ha l (fun k hk => hg k ((h8 k).2 (.inr hk))) h4, h5, h6, h7, h8⟩
theorem Ros.mono {w w' : World} {E E' : En} (hE : E.le E') (ha : Agree E.F w w') : ∀ (l : List OC) {vs : List Value} {G : Nat → Prop}, (∀ g, G g → w'.heap[g]? = w.heap[g]?) → Ros w E l vs G → Ros w' E' l vs G
 | [], vs, G, hg, h => by simp only [Ros] at h ⊢; exact h
 | c :: r, vs, G, hg, h => by
  simp only [Ros] at h ⊢
  obtain ⟨u, us, G1, G2, h1, h2, h3, h4, h5⟩ := h
  exact ⟨u, us, G1, G2, h1, Ro.mono hE ha c (fun k hk => hg k ((h5 k).2 (.inl hk))) h2, Ros.mono hE ha r (fun k hk => hg k ((h5 k).2 (.inr hk))) h3, h4, h5⟩
end
theorem Rv.mono {w w' : World} {E E' : En} {c : AV} {v : Value} (h : Rv w E c v) (hE : E.le E') (ha : Agree E.F w w') : Rv w' E' c v := by
 induction h with
 | one h => exact .one (h.mono hE ha)
 | agg hs hr => exact .agg hs fun j c hj => let ⟨u, h1, h2⟩ := hr j c hj; ⟨u, h1, h2.mono hE ha⟩
 | tup vals hs hv hr ih => exact .tup vals hs hv ih
theorem Rf.one {w : World} {F : Nat → Prop} {c : FC} {v : Value} (h : Rf w F c v) : v.oneCell' = true := by
 cases h with
 | v x h => exact okV_one h
 | fz => rfl
theorem Rc.one_ {w : World} {E : En} {c : AC} {v : Value} (h : Rc w E c v) : v.oneCell' = true := by
 cases h with
 | f h => exact h.one
 | _ => rfl
def look {α : Type} : List (Nat × α) → Nat → Option α
 | [], _ => none
 | p :: r, i => if p.1 == i then some p.2 else look r i
theorem look_cons {α : Type} (k : Nat) (x : α) (r : List (Nat × α)) (i : Nat) : look ((k, x) :: r) i = if k == i then some x else look r i := rfl
theorem look_nil {α : Type} (i : Nat) : look ([] : List (Nat × α)) i = none := rfl
def put {α : Type} : List (Nat × α) → Nat → α → List (Nat × α)
 | [], i, x => [(i, x)]
 | p :: r, i, x => if p.1 == i then (i, x) :: r else p :: put r i x
theorem look_put {α : Type} (l : List (Nat × α)) (i j : Nat) (x : α) : look (put l i x) j = if i = j then some x else look l j := by
 induction l with
 | nil => simp [put, look]
 | cons p r ih =>
  unfold put
  split
  ·rename_i h
   simp only [beq_iff_eq] at h
   simp only [look, beq_iff_eq, h]
   split <;> rfl
  ·rename_i h
   simp only [beq_iff_eq] at h
   simp only [look, beq_iff_eq, ih]
   split
   ·rename_i h2; rw [if_neg (by omega)]
   ·rfl
def owns (E : En) (b : Nat) : AB → Nat → Prop
 | .box _ _, g => E.m b 0 = some (.pointer (some ⟨g, 0, none⟩))
 | .row _ _ l, g => ∃ n c, E.m b l.length = some (.slice (some ⟨g, 0, none⟩) n c)
 | .obj _, g => E.ft b g
 | .dead, _ => False
def Rb (w : World) (E : En) (b : Nat) : AB → Prop
 | .box ty l => ∃ (g : Nat) (vs : Array Value), E.m b 0 = some (.pointer (some ⟨g, 0, none⟩)) ∧ w.heap[g]? = some (.cells vs ty (0, 0)) ∧ vs.size = l.length ∧ ∀ (j : Nat) (c : AC), l[j]? = some c → ∃ u, vs[j]? = some u ∧ Rc w E c u
 | .row ty sz l => ∃ (v : Value) (vals : List Value), E.m b l.length = some v ∧ w.ownsRow 0 ty sz v l.length vals ∧ (∀ (i : Nat) (e : List FC), l[i]? = some e → e.length = sz) ∧
   (∀ (i : Nat) (e : List FC) (j : Nat) (c : FC), l[i]? = some e → e[j]? = some c → ∃ u, vals[i * sz + j]? = some u ∧ Rf w E.F c u) ∧ ∀ n, l.length < n → E.m b n = none
 | .obj x => ∃ u, E.m b x.len = some u ∧ Ro w E x u (E.ft b)
 | .dead => True
structure Fr where
 w0 : World
 F : Nat → Prop
 O : Nat → Prop
 nt : Nat
 m0 : Nat → Nat → Option Value
 k : Nat
structure R (fr : Fr) (E : En) (t : Nat → Option AV) (h : Nat → Option AB) (nx : Nat) (a : Act) (w : World) : Prop where
 defers : a.defers = []
 size : a.tmps.size = fr.nt
 tmps : ∀ i x, t i = some x → ∃ v, a.tmps[i]? = some v ∧ Rv w E x v
 blk : ∀ b x, h b = some x → Rb w E b x
 sep : ∀ b b' x x' g, h b = some x → h b' = some x' → owns E b x g → owns E b' x' g → b = b'
 own : ∀ b x g, h b = some x → owns E b x g → (fr.w0.heap.size ≤ g ∨ fr.O g) ∧ ¬ E.F g ∧ g < w.heap.size
 fresh : ∀ b n, nx ≤ b → h b = none → E.m b n = none
 os : w.os = fr.w0.os
 tape : w.tape = fr.w0.tape
 output : w.output = fr.w0.output
 grow : fr.w0.heap.size ≤ w.heap.size
 kept : ∀ g, g < fr.w0.heap.size → ¬ fr.O g → w.heap[g]? = fr.w0.heap[g]?
 hF : ∀ g, fr.F g → E.F g
 hF2 : ∀ g, E.F g → g < w.heap.size ∧ (fr.F g ∨ fr.w0.heap.size ≤ g ∨ fr.O g)
 old : ∀ b n v, fr.m0 b n = some v → E.m b n = some v
 oldk : ∀ b n v, fr.m0 b n = some v → b < fr.k
end Go.Abs
set_option linter.unusedVariables false
set_option linter.unusedSimpArgs false
namespace Go.Abs
theorem Rb.mono {w w' : World} {E E' : En} {b : Nat} {x : AB} (h : Rb w E b x) (hE : E.le E') (hm : ∀ n, E'.m b n = E.m b n) (hft : E'.ft b = E.ft b) (ha : Agree E.F w w')
  (hg : ∀ g, owns E b x g → w'.heap[g]? = w.heap[g]?) : Rb w' E' b x := by
 cases x with
 | box ty l =>
  obtain ⟨g, vs, h1, h2, h3, h4⟩ := h
  exact ⟨g, vs, hE.m _ _ _ h1, (hg g h1).trans h2, h3, fun j c hj => let ⟨u, h5, h6⟩ := h4 j c hj; ⟨u, h5, h6.mono hE ha⟩⟩
 | row ty sz l =>
  obtain ⟨v, vals, h1, h2, h3, h4, h5⟩ := h
  refine ⟨v, vals, hE.m _ _ _ h1, ?_, h3, fun i e j c hi hj => let ⟨u, h6, h7⟩ := h4 i e j c hi hj; ⟨u, h6, h7.mono hE.F ha⟩, fun n hn => (hm n).trans (h5 n hn)⟩
  refine ⟨h2.1, ?_⟩
  rcases h2.2 with h6 | ⟨g, cap, cur, hv, h7, h8, h9⟩
  ·exact .inl h6
  ·exact .inr ⟨g, cap, cur, hv, h7, (hg g ⟨_, _, by rw [h1, hv]⟩).trans h8, h9⟩
 | obj x =>
  obtain ⟨u, h1, h2⟩ := h
  exact ⟨u, hE.m _ _ _ h1, by rw [hft]; exact Ro.mono hE ha x (fun g hx => hg g hx) h2⟩
 | dead => exact trivial
structure Upd (E : En) (h : Nat → Option AB) (w : World) (W : List Nat) (E' : En) (h' : Nat → Option AB) (w' : World) : Prop where
 le : E.le E'
 F : ∀ g, E'.F g → E.F g ∨ (w.heap.size ≤ g ∧ g < w'.heap.size) ∨ (g < w'.heap.size ∧ ∃ b ∈ W, ∃ x, h b = some x ∧ owns E b x g)
 os : w'.os = w.os
 tape : w'.tape = w.tape
 output : w'.output = w.output
 grow : w.heap.size ≤ w'.heap.size
 kept : ∀ g, g < w.heap.size → (∀ b ∈ W, ∀ x, h b = some x → ¬ owns E b x g) → w'.heap[g]? = w.heap[g]?
 same : ∀ b, b ∉ W → h' b = h b
 out : ∀ b n, b ∉ W → E'.m b n = E.m b n
 fto : ∀ b, b ∉ W → E'.ft b = E.ft b
 blk : ∀ b ∈ W, ∀ x, h' b = some x → Rb w' E' b x
 own : ∀ b ∈ W, ∀ x g, h' b = some x → owns E' b x g → (w.heap.size ≤ g ∨ ∃ b' ∈ W, ∃ x', h b' = some x' ∧ owns E b' x' g) ∧ ¬ E'.F g ∧ g < w'.heap.size
 sep : ∀ b ∈ W, ∀ b' ∈ W, ∀ x x' g, h' b = some x → h' b' = some x' → owns E' b x g → owns E' b' x' g → b = b'
 live : ∀ b ∈ W, h' b ≠ none
theorem R.agree {fr : Fr} {E E' : En} {t : Nat → Option AV} {h h' : Nat → Option AB} {nx : Nat} {a : Act} {w w' : World} {W : List Nat} (r : R fr E t h nx a w) (u : Upd E h w W E' h' w') : Agree E.F w w' :=
 fun g hg => u.kept g (r.hF2 g hg).1 fun b hb x hx ho => (r.own b x g hx ho).2.1 hg
theorem owns_out {E E' : En} {b : Nat} (hm : ∀ n, E'.m b n = E.m b n) (hft : E'.ft b = E.ft b) (x : AB) (g : Nat) : owns E' b x g ↔ owns E b x g := by
 cases x <;> simp only [owns, hm, hft]
theorem R.upd {fr : Fr} {E E' : En} {t : Nat → Option AV} {h h' : Nat → Option AB} {nx : Nat} {a : Act} {w w' : World} {W : List Nat} (r : R fr E t h nx a w) (u : Upd E h w W E' h' w') :
  R fr E' t h' nx a w' := by
 have ha := r.agree u
 have hout : ∀ b, b ∉ W → ∀ x, h b = some x → ∀ g, owns E b x g → w'.heap[g]? = w.heap[g]? := fun b hb x hx g hg =>
  u.kept g (r.own b x g hx hg).2.2 fun b' hb' x' hx' ho => hb (by rw [r.sep b b' x x' g hx hx' hg ho]; exact hb')
 have hOw : ∀ g b x, h b = some x → owns E b x g → fr.w0.heap.size ≤ g ∨ fr.O g := fun g b x hx ho => (r.own b x g hx ho).1
 refine ⟨r.defers, r.size, fun i x hi => ?_, fun b x hx => ?_, fun b b' x x' g hx hx' ho ho' => ?_, fun b x g hx ho => ?_, fun b n hb hn => ?_, u.os.trans r.os, u.tape.trans r.tape, u.output.trans r.output,
  Nat.le_trans r.grow u.grow, fun g hg hO => ?_, fun g hg => u.le.F g (r.hF g hg), fun g hg => ?_, fun b n v hb => u.le.m b n v (r.old b n v hb), r.oldk⟩
 ·obtain ⟨v, h1, h2⟩ := r.tmps i x hi
  exact ⟨v, h1, h2.mono u.le ha⟩
 ·by_cases hb : b ∈ W
  ·exact u.blk b hb x hx
  ·rw [u.same b hb] at hx
   exact (r.blk b x hx).mono u.le (fun n => u.out b n hb) (u.fto b hb) ha (hout b hb x hx)
 ·by_cases hb : b ∈ W <;> by_cases hb' : b' ∈ W
  ·exact u.sep b hb b' hb' x x' g hx hx' ho ho'
  ·rw [u.same b' hb'] at hx'
   rw [owns_out (fun n => u.out b' n hb') (u.fto b' hb')] at ho'
   rcases (u.own b hb x g hx ho).1 with h1 | ⟨c, hc, y, hy, hyo⟩
   ·have := (r.own b' x' g hx' ho').2.2; omega
   ·exact absurd (r.sep c b' y x' g hy hx' hyo ho') (fun e => hb' (e ▸ hc))
  ·rw [u.same b hb] at hx
   rw [owns_out (fun n => u.out b n hb) (u.fto b hb)] at ho
   rcases (u.own b' hb' x' g hx' ho').1 with h1 | ⟨c, hc, y, hy, hyo⟩
   ·have := (r.own b x g hx ho).2.2; omega
   ·exact absurd (r.sep b c x y g hx hy ho hyo) (fun e => hb (e ▸ hc))
  ·rw [u.same b hb] at hx; rw [u.same b' hb'] at hx'
   rw [owns_out (fun n => u.out b n hb) (u.fto b hb)] at ho; rw [owns_out (fun n => u.out b' n hb') (u.fto b' hb')] at ho'
   exact r.sep b b' x x' g hx hx' ho ho'
 ·by_cases hb : b ∈ W
  ·obtain ⟨h1, h2, h3⟩ := u.own b hb x g hx ho
   refine ⟨?_, h2, h3⟩
   rcases h1 with h1 | ⟨c, hc, y, hy, hyo⟩
   ·exact .inl (Nat.le_trans r.grow h1)
   ·exact hOw g c y hy hyo
  ·rw [u.same b hb] at hx
   rw [owns_out (fun n => u.out b n hb) (u.fto b hb)] at ho
   obtain ⟨h1, h2, h3⟩ := r.own b x g hx ho
   refine ⟨h1, fun hF => ?_, Nat.lt_of_lt_of_le h3 u.grow⟩
   rcases u.F g hF with h4 | h4 | ⟨-, c, hc, y, hy, hyo⟩
   ·exact h2 h4
   ·omega
   ·exact hb (by rw [r.sep b c x y g hx hy ho hyo]; exact hc)
 ·by_cases hbW : b ∈ W
  ·exact absurd hn (u.live b hbW)
  ·rw [u.same b hbW] at hn; rw [u.out b n hbW]; exact r.fresh b n hb hn
 ·rw [u.kept g (Nat.lt_of_lt_of_le hg r.grow) (fun b hb x hx ho => by
   rcases hOw g b x hx ho with h1 | h1
   ·omega
   ·exact hO h1)]
  exact r.kept g hg hO
 ·rcases u.F g hg with h1 | h1 | ⟨h0, c, hc, y, hy, hyo⟩
  ·exact ⟨Nat.lt_of_lt_of_le (r.hF2 g h1).1 u.grow, (r.hF2 g h1).2⟩
  ·exact ⟨h1.2, .inr (.inl (Nat.le_trans r.grow h1.1))⟩
  ·exact ⟨h0, .inr (hOw g c y hy hyo)⟩
def up {α : Type} (t : Nat → Option α) (d : Nat) (x : α) : Nat → Option α := fun i => if d = i then some x else t i
theorem R.put {fr : Fr} {E : En} {t : Nat → Option AV} {h : Nat → Option AB} {nx : Nat} {a : Act} {w : World} (r : R fr E t h nx a w) {d : Nat} {x : AV} {v : Value} (hd : d < fr.nt) (hv : Rv w E x v) :
  R fr E (up t d x) h nx (a.put (some d) v) w := by
 refine ⟨r.defers, by simp [Act.put, r.size], fun i y hi => ?_, r.blk, r.sep, r.own, r.fresh, r.os, r.tape, r.output, r.grow, r.kept, r.hF, r.hF2, r.old, r.oldk⟩
 unfold up at hi
 split at hi
 ·rename_i e; subst e
  injection hi with hi; subst hi
  exact ⟨v, by simp [Act.put, r.size, hd], hv⟩
 ·rename_i e
  obtain ⟨u, h1, h2⟩ := r.tmps i y hi
  exact ⟨u, by simp only [Act.put]; rw [Array.getElem?_setIfInBounds_ne e]; exact h1, h2⟩
theorem R.forget {fr : Fr} {E : En} {t t' : Nat → Option AV} {h : Nat → Option AB} {nx : Nat} {a : Act} {w : World} (r : R fr E t h nx a w) {d : Option Nat} (v : Value) (ht : ∀ i x, t' i = some x → t i = some x ∧ d ≠ some i) :
  R fr E t' h nx (a.put d v) w := by
 refine ⟨by cases d <;> exact r.defers, by cases d <;> simp [Act.put, r.size], fun i y hi => ?_, r.blk, r.sep, r.own, r.fresh, r.os, r.tape, r.output, r.grow, r.kept, r.hF, r.hF2, r.old, r.oldk⟩
 obtain ⟨h0, hne⟩ := ht i y hi
 obtain ⟨u, h1, h2⟩ := r.tmps i y h0
 cases d with
 | none => exact ⟨u, h1, h2⟩
 | some d => exact ⟨u, by simp only [Act.put]; rw [Array.getElem?_setIfInBounds_ne (fun e => hne (by rw [e]))]; exact h1, h2⟩
theorem R.eval {fr : Fr} {E : En} {t : Nat → Option AV} {h : Nat → Option AB} {nx : Nat} {a : Act} {w : World} (r : R fr E t h nx a w) {i : Nat} {x : AV} (hi : t i = some x) : Rv w E x (a.eval (.tmp i)) := by
 obtain ⟨v, h1, h2⟩ := r.tmps i x hi
 have : a.eval (.tmp i) = v := by simp [Act.eval, Array.getD_eq_getD_getElem?, h1]
 rw [this]; exact h2
theorem Upd.refl (E : En) (h : Nat → Option AB) (w : World) : Upd E h w [] E h w :=
 ⟨.refl E, fun g hg => .inl hg, rfl, rfl, rfl, Nat.le_refl _, fun _ _ _ => rfl, fun _ _ => rfl, fun _ _ _ => rfl, fun _ _ => rfl, fun b hb => absurd hb (by simp), fun b hb => absurd hb (by simp), fun b hb => absurd hb (by simp), fun b hb => absurd hb (by simp)⟩
theorem R.drew {fr : Fr} {E : En} {t : Nat → Option AV} {h : Nat → Option AB} {nx : Nat} {a : Act} {w : World} (r : R fr E t h nx a w) (n : Nat) : R fr E t h nx a { w with drawn := n } := by
 have hag : Agree E.F w { w with drawn := n } := fun _ _ => rfl
 refine ⟨r.defers, r.size, fun i x hi => let ⟨v, h1, h2⟩ := r.tmps i x hi; ⟨v, h1, h2.mono (.refl E) hag⟩, fun b x hb => (r.blk b x hb).mono (.refl E) (fun _ => rfl) rfl hag (fun _ _ => rfl), r.sep, r.own, r.fresh, r.os, r.tape, r.output, r.grow, r.kept, r.hF, r.hF2, r.old, r.oldk⟩
end Go.Abs
set_option linter.unusedVariables false
set_option linter.unusedSimpArgs false
namespace Go.Abs
open Go.RowKit
def En.set (E : En) (b n : Nat) (v : Value) : En := ⟨E.F, fun b' n' => if b' = b ∧ n' = n then some v else E.m b' n', E.ft⟩
theorem En.set_le {E : En} {b n : Nat} {v : Value} (h : E.m b n = none) : E.le (E.set b n v) :=
 ⟨fun _ h => h, fun b' n' u hu => by
  unfold En.set
  by_cases e : b' = b ∧ n' = n
  ·obtain ⟨rfl, rfl⟩ := e; rw [h] at hu; cases hu
  ·simp only [if_neg e]; exact hu⟩
theorem En.set_at (E : En) (b n : Nat) (v : Value) : (E.set b n v).m b n = some v := by simp [En.set]
theorem En.set_out (E : En) {b b' : Nat} (n n' : Nat) (v : Value) (h : b' ≠ b) : (E.set b n v).m b' n' = E.m b' n' := by
 show (if b' = b ∧ n' = n then some v else E.m b' n') = _
 rw [if_neg (fun e => h e.1)]
theorem En.set_ne (E : En) (b : Nat) {n n' : Nat} (v : Value) (h : n' ≠ n) : (E.set b n v).m b n' = E.m b n' := by
 show (if b = b ∧ n' = n then some v else E.m b n') = _
 rw [if_neg (fun e => h e.2)]
theorem up_at {α : Type} (t : Nat → Option α) (d : Nat) (x : α) : up t d x d = some x := by simp [up]
theorem up_out {α : Type} (t : Nat → Option α) {d i : Nat} (x : α) (h : d ≠ i) : up t d x i = t i := by simp [up, h]
theorem Upd.single {E E' : En} {h : Nat → Option AB} {w w' : World} {b : Nat} {x' : AB} (le : E.le E') (hF : ∀ g, E'.F g → E.F g) (os : w'.os = w.os) (tape : w'.tape = w.tape) (output : w'.output = w.output) (grow : w.heap.size ≤ w'.heap.size)
  (kept : ∀ g, g < w.heap.size → (∀ x, h b = some x → ¬ owns E b x g) → w'.heap[g]? = w.heap[g]?) (out : ∀ b' n, b' ≠ b → E'.m b' n = E.m b' n) (fto : ∀ b', b' ≠ b → E'.ft b' = E.ft b') (blk : Rb w' E' b x')
  (own : ∀ g, owns E' b x' g → (w.heap.size ≤ g ∨ ∃ x, h b = some x ∧ owns E b x g) ∧ ¬ E.F g ∧ g < w'.heap.size) : Upd E h w [b] E' (up h b x') w' :=
 ⟨le, fun g hg => .inl (hF g hg), os, tape, output, grow, fun g hg hk => kept g hg fun x hx => hk b (by simp) x hx, fun b' hb' => up_out _ _ (by simp at hb'; exact fun e => hb' e.symm),
  fun b' n hb' => out b' n (by simpa using hb'), fun b' hb' => fto b' (by simpa using hb'),
  fun b' hb' x hx => by
   have hb' : b' = b := by simpa using hb'
   subst hb'; rw [up_at] at hx; injection hx with hx; subst hx; exact blk,
  fun b' hb' x g hx ho => by
   have hb' : b' = b := by simpa using hb'
   subst hb'; rw [up_at] at hx; injection hx with hx; subst hx
   obtain ⟨h1, h2, h3⟩ := own g ho
   refine ⟨?_, fun hh => h2 (hF g hh), h3⟩
   rcases h1 with h1 | ⟨y, hy, hyo⟩
   ·exact .inl h1
   ·exact .inr ⟨b', by simp, y, hy, hyo⟩,
  fun b1 h1 b2 h2 _ _ _ _ _ _ _ => by rw [show b1 = b from by simpa using h1, show b2 = b from by simpa using h2],
  fun b' hb' => by rw [show b' = b from by simpa using hb', up_at]; simp⟩
theorem Upd.box {E : En} {h : Nat → Option AB} {w : World} {b : Nat} (ty : Nat) (l : List AC) (vs : Array Value) (hm : ∀ n, E.m b n = none) (hb : h b = none) (hFF : ∀ g, E.F g → g < w.heap.size) (hs : vs.size = l.length)
  (hc : ∀ (j : Nat) (c : AC), l[j]? = some c → ∃ u, vs[j]? = some u ∧ Rc w E c u) :
  Upd E h w [b] (E.set b 0 (.pointer (some ⟨w.heap.size, 0, none⟩))) (up h b (.box ty l)) (w.alloc (.cells vs ty)) := by
 have le := En.set_le (v := .pointer (some ⟨w.heap.size, 0, none⟩)) (hm 0)
 have hag : Agree E.F w (w.alloc (.cells vs ty)) := fun g hg => Below.heap_alloc w _ g (hFF g hg)
 refine Upd.single le (fun _ h => h) rfl rfl rfl (by simp) (fun g hg _ => Below.heap_alloc w _ g hg) (fun b' n hne => En.set_out _ _ _ _ hne) (fun _ _ => rfl) ⟨w.heap.size, vs, En.set_at _ _ _ _, heap_alloc_new w _, hs, fun j c hj => ?_⟩ (fun g hg => ?_)
 ·obtain ⟨u, h1, h2⟩ := hc j c hj
  exact ⟨u, h1, h2.mono le hag⟩
 ·have hg' : (E.set b 0 (.pointer (some ⟨w.heap.size, 0, none⟩))).m b 0 = some (.pointer (some ⟨g, 0, none⟩)) := hg
  rw [En.set_at] at hg'
  simp at hg'
  subst hg'
  exact ⟨.inl (Nat.le_refl _), fun hF => by have := hFF _ hF; omega, by simp⟩
theorem Upd.newRow {E : En} {h : Nat → Option AB} {w : World} {b : Nat} (ty sz : Nat) (l : List (List FC)) (vs : Array Value) (hm : ∀ n, E.m b n = none) (hb : h b = none) (hFF : ∀ g, E.F g → g < w.heap.size) (hs : vs.size = l.length * sz) (hlm : l.length ≤ maxLen)
  (hsz : ∀ (i : Nat) (e : List FC), l[i]? = some e → e.length = sz)
  (hc : ∀ (i : Nat) (e : List FC) (j : Nat) (c : FC), l[i]? = some e → e[j]? = some c → ∃ u, vs[i * sz + j]? = some u ∧ Rf w E.F c u) :
  Upd E h w [b] (E.set b l.length (.slice (some ⟨w.heap.size, 0, none⟩) l.length l.length)) (up h b (.row ty sz l)) (w.alloc (.cells vs ty)) := by
 have le := En.set_le (v := .slice (some ⟨w.heap.size, 0, none⟩) l.length l.length) (hm l.length)
 have hag : Agree E.F w (w.alloc (.cells vs ty)) := fun g hg => Below.heap_alloc w _ g (hFF g hg)
 refine Upd.single le (fun _ h => h) rfl rfl rfl (by simp) (fun g hg _ => Below.heap_alloc w _ g hg) (fun b' n hne => En.set_out _ _ _ _ hne) (fun _ _ => rfl) ⟨_, vs.toList, En.set_at _ _ _ _, ⟨by simpa using hs, .inr ⟨w.heap.size, l.length, vs, rfl, Nat.zero_le _, heap_alloc_new w _, Nat.le_refl _, hlm, hs, ?_⟩⟩, hsz, fun i e j c hi hj => ?_, fun n hn => ?_⟩ (fun g hg => ?_)
 ·rw [List.take_of_length_le (by simp [hs])]
 ·obtain ⟨u, h1, h2⟩ := hc i e j c hi hj
  exact ⟨u, by simpa using h1, h2.mono (fun _ h => h) hag⟩
 ·rw [En.set_ne _ _ _ (by omega)]; exact hm n
 ·obtain ⟨n, c, hg'⟩ := hg
  rw [En.set_at] at hg'
  simp at hg'
  obtain ⟨rfl, -, -⟩ := hg'
  exact ⟨.inl (Nat.le_refl _), fun hF => by have := hFF _ hF; omega, by simp⟩
theorem Upd.store {E : En} {h : Nat → Option AB} {w w' : World} {b g : Nat} {ty : Nat} {l l' : List AC} {vs' : Array Value} (hb : h b = some (.box ty l)) (hm : E.m b 0 = some (.pointer (some ⟨g, 0, none⟩)))
  (hgF : ¬ E.F g) (hgl : g < w.heap.size)
  (os : w'.os = w.os) (tape : w'.tape = w.tape) (output : w'.output = w.output) (hsz : w'.heap.size = w.heap.size) (hoth : ∀ k, k ≠ g → w'.heap[k]? = w.heap[k]?) (hg : w'.heap[g]? = some (.cells vs' ty (0, 0)))
  (hs : vs'.size = l'.length) (hc : ∀ (j : Nat) (c : AC), l'[j]? = some c → ∃ u, vs'[j]? = some u ∧ Rc w E c u) : Upd E h w [b] E (up h b (.box ty l')) w' := by
 have hag : Agree E.F w w' := fun k hk => hoth k (fun e => hgF (e ▸ hk))
 refine Upd.single (.refl E) (fun _ h => h) os tape output (by omega) (fun k hk hno => hoth k fun e => hno _ hb (by rw [e]; exact hm)) (fun _ _ _ => rfl) (fun _ _ => rfl) ⟨g, vs', hm, hg, hs, fun j c hj => ?_⟩ (fun k hk => ?_)
 ·obtain ⟨u, h1, h2⟩ := hc j c hj
  exact ⟨u, h1, h2.mono (.refl E) hag⟩
 ·have hk' : E.m b 0 = some (.pointer (some ⟨k, 0, none⟩)) := hk
  have : k = g := by rw [hm] at hk'; simp at hk'; exact hk'.symm
  subst this
  exact ⟨.inr ⟨_, hb, hm⟩, hgF, by omega⟩
theorem Upd.append {E : En} {h : Nat → Option AB} {w w' : World} {b : Nat} {ty sz : Nat} {l m : List (List FC)} {v v' : Value} {vals news : List Value} (hb : h b = some (.row ty sz l)) (hm : E.m b l.length = some v)
  (hnone : ∀ n, l.length < n → E.m b n = none) (hsz : ∀ (i : Nat) (e : List FC), l[i]? = some e → e.length = sz) (hszm : ∀ (i : Nat) (e : List FC), m[i]? = some e → e.length = sz)
  (hvl : vals.length = l.length * sz) (hne : m ≠ [])
  (hown : w'.ownsRow 0 ty sz v' (l.length + m.length) (vals ++ news)) (hgr : w.grownBy w' v.ownBlock) (hat : v'.ownBlock = v.ownBlock ∨ v'.ownBlock = some w.heap.size)
  (hgF : ∀ g, v.ownBlock = some g → ¬ E.F g ∧ g < w.heap.size) (hFF : ∀ g, E.F g → g < w.heap.size) (hv : ∀ g, v.ownBlock = some g → ∃ n c, v = .slice (some ⟨g, 0, none⟩) n c)
  (hcl : ∀ (i : Nat) (e : List FC) (j : Nat) (c : FC), l[i]? = some e → e[j]? = some c → ∃ u, vals[i * sz + j]? = some u ∧ Rf w E.F c u)
  (hcm : ∀ (i : Nat) (e : List FC) (j : Nat) (c : FC), m[i]? = some e → e[j]? = some c → ∃ u, news[i * sz + j]? = some u ∧ Rf w E.F c u) :
  Upd E h w [b] (E.set b (l.length + m.length) v') (up h b (.row ty sz (l ++ m))) w' := by
 have hml : 0 < m.length := List.length_pos_iff.2 hne
 have le := En.set_le (v := v') (hnone (l.length + m.length) (by omega))
 have hag : Agree E.F w w' := fun k hk => hgr.block k (hFF k hk) (fun e => (hgF k e.symm).1 hk)
 have hsl : ∃ g c, v' = .slice (some ⟨g, 0, none⟩) (l.length + m.length) c := by
  rcases hown.2 with ⟨-, h2⟩ | ⟨g, c, cur, h1, -⟩
  ·omega
  ·exact ⟨g, c, h1⟩
 have hsome : ∃ g, v'.ownBlock = some g ∧ g < w'.heap.size := by
  rcases hown.2 with ⟨-, h2⟩ | ⟨g, c, cur, h1, -, h2, -⟩
  ·omega
  ·refine ⟨g, by rw [h1]; rfl, ?_⟩
   rcases Nat.lt_or_ge g w'.heap.size with hlt | hge
   ·exact hlt
   ·rw [Array.getElem?_eq_none hge] at h2; cases h2
 refine Upd.single le (fun _ h => h) hgr.os hgr.tape hgr.output hgr.size (fun k hk hno => hgr.block k hk fun e => ?_) (fun b' n hne => En.set_out _ _ _ _ hne) (fun _ _ => rfl)
  ⟨v', vals ++ news, by rw [List.length_append]; exact En.set_at _ _ _ _, by rw [List.length_append]; exact hown, fun i e hi => ?_, fun i e j c hi hj => ?_, fun n hn => ?_⟩ (fun g hg => ?_)
 ·obtain ⟨n, c, e2⟩ := hv k e.symm
  exact hno _ hb ⟨n, c, by rw [hm, e2]⟩
 ·rcases Nat.lt_or_ge i l.length with hlt | hge
  ·rw [List.getElem?_append_left hlt] at hi; exact hsz i e hi
  ·rw [List.getElem?_append_right hge] at hi; exact hszm _ e hi
 ·have hjl : j < sz := by
   have h1 := (List.getElem?_eq_some_iff.1 hj).1
   have h2 : e.length = sz := by
    rcases Nat.lt_or_ge i l.length with hlt | hge
    ·rw [List.getElem?_append_left hlt] at hi; exact hsz i e hi
    ·rw [List.getElem?_append_right hge] at hi; exact hszm _ e hi
   omega
  rcases Nat.lt_or_ge i l.length with hlt | hge
  ·rw [List.getElem?_append_left hlt] at hi
   obtain ⟨u, h1, h2⟩ := hcl i e j c hi hj
   have hlt2 : i * sz + j < vals.length := (List.getElem?_eq_some_iff.1 h1).1
   exact ⟨u, by rw [List.getElem?_append_left hlt2]; exact h1, h2.mono (fun _ h => h) hag⟩
  ·rw [List.getElem?_append_right hge] at hi
   obtain ⟨u, h1, h2⟩ := hcm _ e j c hi hj
   have hle : l.length * sz ≤ i * sz := Nat.mul_le_mul_right _ hge
   refine ⟨u, ?_, h2.mono (fun _ h => h) hag⟩
   rw [List.getElem?_append_right (by omega), hvl, ← h1, Nat.sub_mul]
   congr 1; omega
 ·rw [List.length_append] at hn
  rw [En.set_ne _ _ _ (by omega)]; exact hnone n (by omega)
 ·obtain ⟨n, c, hg'⟩ := hg
  rw [List.length_append, En.set_at] at hg'
  simp at hg'
  obtain ⟨g0, h1, h2⟩ := hsome
  have hgg : g0 = g := by rw [hg'] at h1; simpa [Value.ownBlock] using h1.symm
  subst hgg
  rcases hat with h3 | h3
  ·rw [h3] at h1
   obtain ⟨n', c', e2⟩ := hv _ h1
   exact ⟨.inr ⟨_, hb, ⟨n', c', by rw [hm, e2]⟩⟩, (hgF _ h1).1, h2⟩
  ·rw [h3] at h1
   simp at h1
   subst h1
   exact ⟨.inl (Nat.le_refl _), fun hF => by have := hFF _ hF; omega, h2⟩
theorem Upd.setElem {E : En} {h : Nat → Option AB} {w w' : World} {b g : Nat} {ty sz : Nat} {l l' : List (List FC)} {n cap : Nat} {cur' : Array Value} (hb : h b = some (.row ty sz l)) (hm : E.m b l.length = some (.slice (some ⟨g, 0, none⟩) n cap))
  (hnone : ∀ n, l.length < n → E.m b n = none) (hgF : ¬ E.F g) (hgl : g < w.heap.size) (hll : l'.length = l.length) (hn : n = l.length)
  (os : w'.os = w.os) (tape : w'.tape = w.tape) (output : w'.output = w.output) (hsz : w'.heap.size = w.heap.size) (hoth : ∀ k, k ≠ g → w'.heap[k]? = w.heap[k]?) (hg : w'.heap[g]? = some (.cells cur' ty (0, 0)))
  (hcap : l.length ≤ cap) (hcm : cap ≤ maxLen) (hcs : cur'.size = cap * sz) (hes : ∀ (i : Nat) (e : List FC), l'[i]? = some e → e.length = sz)
  (hc : ∀ (i : Nat) (e : List FC) (j : Nat) (c : FC), l'[i]? = some e → e[j]? = some c → ∃ u, cur'[i * sz + j]? = some u ∧ Rf w E.F c u) : Upd E h w [b] E (up h b (.row ty sz l')) w' := by
 have hag : Agree E.F w w' := fun k hk => hoth k (fun e => hgF (e ▸ hk))
 have hle : l.length * sz ≤ cap * sz := Nat.mul_le_mul_right _ hcap
 have h0 : cur'.toList.length = cap * sz := by simpa using hcs
 refine Upd.single (.refl E) (fun _ h => h) os tape output (by omega) (fun k hk hno => hoth k fun e => hno _ hb ⟨n, cap, by rw [hm, e]⟩) (fun _ _ _ => rfl) (fun _ _ => rfl)
  ⟨_, cur'.toList.take (l.length * sz), by rw [hll]; exact hm, ⟨by rw [hll, List.length_take, h0]; omega, .inr ⟨g, cap, cur', by rw [hll, hn], Nat.zero_le _, hg, by omega, hcm, hcs, by rw [hll]⟩⟩, hes, fun i e j c hi hj => ?_, fun n hn => hnone n (by omega)⟩ (fun k hk => ?_)
 ·obtain ⟨u, h1, h2⟩ := hc i e j c hi hj
  have h3 := (List.getElem?_eq_some_iff.1 hi).1
  have h4 := (List.getElem?_eq_some_iff.1 hj).1
  have h5 := hes i e hi
  have h6 : i * sz + j < l.length * sz := by
   have : (i + 1) * sz ≤ l.length * sz := Nat.mul_le_mul_right _ (by omega)
   rw [Nat.succ_mul] at this; omega
  exact ⟨u, by rw [List.getElem?_take_of_lt h6]; simpa using h1, h2.mono (fun _ h => h) hag⟩
 ·obtain ⟨n', c', hk'⟩ := hk
  rw [hll, hm] at hk'
  simp at hk'
  obtain ⟨rfl, -, -⟩ := hk'
  exact ⟨.inr ⟨_, hb, ⟨n, cap, hm⟩⟩, hgF, by omega⟩
theorem Upd.nilRow {E : En} {h : Nat → Option AB} {w : World} {b : Nat} (ty sz : Nat) (hm : ∀ n, E.m b n = none) (hb : h b = none) :
  Upd E h w [b] (E.set b 0 (.slice none 0 0)) (up h b (.row ty sz [])) w := by
 refine Upd.single (En.set_le (hm 0)) (fun _ h => h) rfl rfl rfl (Nat.le_refl _) (fun _ _ _ => rfl) (fun b' n hne => En.set_out _ _ _ _ hne) (fun _ _ => rfl)
  ⟨_, [], En.set_at _ _ _ _, ⟨by simp, .inl ⟨rfl, rfl⟩⟩, by simp, by simp, fun n hn => by rw [En.set_ne _ _ _ (by simp at hn; omega)]; exact hm n⟩ (fun g hg => ?_)
 obtain ⟨n, c, hg'⟩ := hg
 rw [List.length_nil, En.set_at] at hg'
 simp at hg'
end Go.Abs
set_option linter.unusedVariables false
set_option linter.unusedSimpArgs false
namespace Go.Abs
open Go.RowKit
inductive TK where
 | struct (fs : List (Nat × Nat × Nat))
 | slice (e : Nat)
 | int (k : IntKind)
 | bool | string
 | pointer (e : Nat)
 | map (k e : Nat)
 | array (n e : Nat)
 | other
structure TI where
 kind : TK
 size : Nat
 bytes : Nat
 zero : List Value
def TK.agg : TK → Bool
 | .struct _ => true
 | .array _ _ => true
 | _ => false
def fieldsOf (P : Program) : List Field → Option (List (Nat × Nat × Nat))
 | [] => some []
 | f :: r => match P.info? f.type, fieldsOf P r with | some i, some l => some ((f.type, f.offset, i.size) :: l) | _, _ => none
theorem fieldsOf_get {P : Program} : ∀ {fs : List Field} {l : List (Nat × Nat × Nat)}, fieldsOf P fs = some l → ∀ {j : Nat} {q : Nat × Nat × Nat}, l[j]? = some q →
  ∃ f i, fs[j]? = some f ∧ P.info? f.type = some i ∧ q = (f.type, f.offset, i.size)
 | [], l, h, j, q, hq => by simp only [fieldsOf, Option.some.injEq] at h; subst h; simp at hq
 | f :: r, l, h, j, q, hq => by
  unfold fieldsOf at h
  split at h
  ·rename_i i l' hi hl
   injection h with h; subst h
   cases j with
   | zero => simp at hq; exact ⟨f, i, rfl, hi, hq.symm⟩
   | succ j => exact fieldsOf_get hl (by simpa using hq)
  ·cases h
theorem fieldsOf_places {P : Program} : ∀ {fs : List Field} {l : List (Nat × Nat × Nat)}, fieldsOf P fs = some l → (fs.mapM fun f => (P.info? f.type).map fun i => (f.offset, i.size)) = some (l.map (·.2))
 | [], l, h => by simp only [fieldsOf, Option.some.injEq] at h; subst h; rfl
 | f :: r, l, h => by
  unfold fieldsOf at h
  split at h
  ·rename_i i l' hi hl
   injection h with h; subst h
   simp [List.mapM_cons, hi, fieldsOf_places hl]
  ·cases h
def kindOf (P : Program) : TypeDesc → Option TK
 | .struct fs => (fieldsOf P fs.toList).map .struct
 | .slice e => some (.slice e)
 | .int k => some (.int k)
 | .bool => some .bool
 | .string => some .string
 | .pointer e => some (.pointer e)
 | .map k e => some (.map k e)
 | .array n e => some (.array n e)
 | _ => some .other
def tyOf (P : Program) (t : Nat) : Option TI :=
 match P.info? t, P.underlying t with
 | some i, some d =>
  match i.zero, kindOf P d with
  | some z, some k => if z.cells.toList.all okV then some ⟨k, i.size, i.bytes, z.cells.toList⟩ else none
  | _, _ => none
 | _, _ => none
theorem tyOf_spec {P : Program} {t : Nat} {ti : TI} (h : tyOf P t = some ti) : ∃ i d z, P.info? t = some i ∧ P.underlying t = some d ∧ i.zero = some z ∧ kindOf P d = some ti.kind ∧ ti.size = i.size ∧ ti.bytes = i.bytes ∧ ti.zero = z.cells.toList ∧ ∀ u ∈ ti.zero, okV u = true := by
 unfold tyOf at h
 split at h
 ·rename_i i d hi hd
  split at h
  ·rename_i z k hz hk
   split at h
   ·rename_i ha
    injection h with h
    subst h
    exact ⟨i, d, z, hi, hd, hz, hk, rfl, rfl, rfl, fun u hu => List.all_eq_true.1 ha u hu⟩
   ·cases h
  ·cases h
 ·cases h
theorem sizeOf_run {P : Program} {t : Nat} {ti : TI} (h : tyOf P t = some ti) (w : World) : (sizeOf t).run P w = .ok ti.size w := by
 obtain ⟨i, d, z, hi, hd, hz, h1, h2, h3, h4, h5⟩ := tyOf_spec h
 simp [sizeOf, typeInfo, hi, h2]
theorem isAgg_run {P : Program} {t : Nat} {ti : TI} (h : tyOf P t = some ti) (w : World) : (isAgg t).run P w = .ok ti.kind.agg w := by
 obtain ⟨i, d, z, hi, hd, hz, h1, h2, h3, h4, h5⟩ := tyOf_spec h
 cases d <;> simp only [kindOf, Option.some.injEq, Option.map_eq_some_iff] at h1 <;> first | (obtain ⟨l, -, h1⟩ := h1; rw [← h1]; simp [isAgg, run_underlying hd, TK.agg]) | (rw [← h1]; simp [isAgg, run_underlying hd, TK.agg])
theorem add_lit (g o j : Nat) : (⟨g, o, none⟩ : Addr).add j = ⟨g, o + j, none⟩ := by
 unfold Addr.add; split <;> simp_all
theorem loadVar_run {P : Program} {t : Nat} {ti : TI} (h : tyOf P t = some ti) (w : World) (g o : Nat) (cs : List Value) (hl : cs.length = if ti.kind.agg then ti.size else 1)
  (hc : ∀ j u, cs[j]? = some u → w.cell? ⟨g, o + j, none⟩ = some u) :
  (loadVar t ⟨g, o, none⟩).run P w = .ok (if ti.kind.agg then .agg cs.toArray else cs.headD undef) w := by
 unfold loadVar
 simp only [Sem.run_bind, isAgg_run h, Result.andThen_ok]
 cases hk : ti.kind.agg
 ·simp only [hk] at hl
  obtain ⟨u, rfl⟩ : ∃ u, cs = [u] := by
   match cs, hl with
   | [u], _ => exact ⟨u, rfl⟩
  have := hc 0 u rfl
  rw [Nat.add_zero] at this
  simp [run_load, this]
 ·simp only [hk, if_true] at hl
  simp only [if_true, Sem.run_bind, sizeOf_run h, Result.andThen_ok]
  rw [← hl, run_loadCells_list w ⟨g, o, none⟩ cs (fun j v hj => by rw [add_lit]; exact hc j v hj)]
  rfl
theorem storeVar_run {P : Program} {t : Nat} {ti : TI} (h : tyOf P t = some ti) (w : World) (g o ty : Nat) (cur : Array Value) (v : Value) (hv : v.cells.size = ti.size) (h1 : ∀ u ∈ v.cells.toList, u.oneCell' = true)
  (hg : w.heap[g]? = some (.cells cur ty (0, 0))) (ho : o + ti.size ≤ cur.size) :
  (storeVar t ⟨g, o, none⟩ v).run P w = .ok () (w.setRow g (cur.toList.take o ++ v.cells.toList ++ cur.toList.drop (o + ti.size)).toArray) := by
 have h2 : v.cells.toList.length = ti.size := by simpa using hv
 have := run_storeCells_at (P := P) g o ty v.cells.toList 0 cur w hg (by rw [h2]; omega) h1
 rw [h2] at this
 unfold storeVar
 simp only [Sem.run_bind, sizeOf_run h, Result.andThen_ok, hv, ne_eq, not_true, if_false]
 simpa using this
theorem setRow_facts {w : World} {g ty : Nat} {cur cs : Array Value} (hg : w.heap[g]? = some (.cells cur ty (0, 0))) :
  (w.setRow g cs).os = w.os ∧ (w.setRow g cs).tape = w.tape ∧ (w.setRow g cs).output = w.output ∧ (w.setRow g cs).heap.size = w.heap.size ∧ (∀ k, k ≠ g → (w.setRow g cs).heap[k]? = w.heap[k]?) ∧ (w.setRow g cs).heap[g]? = some (.cells cs ty (0, 0)) := by
 refine ⟨rfl, rfl, rfl, by simp [World.setRow], fun k hk => ?_, setRow_heap w g cur cs ty (0, 0) hg⟩
 simp only [World.setRow, Array.getElem?_modify]
 rw [if_neg (by omega)]
def splice {α : Type} (l : List α) (o : Nat) (cs : List α) : List α := l.take o ++ cs ++ l.drop (o + cs.length)
theorem splice_len {α : Type} {l cs : List α} {o : Nat} (h : o + cs.length ≤ l.length) : (splice l o cs).length = l.length := by
 simp [splice]; omega
theorem splice_get {α : Type} {l cs : List α} {o : Nat} (h : o + cs.length ≤ l.length) (j : Nat) : (splice l o cs)[j]? = if j < o then l[j]? else if j < o + cs.length then cs[j - o]? else l[j]? := by
 unfold splice
 have h1 : (l.take o).length = o := by simp; omega
 split
 ·rename_i hj
  rw [List.append_assoc, List.getElem?_append_left (by omega), List.getElem?_take_of_lt hj]
 ·split
  ·rename_i hj hj2
   rw [List.append_assoc, List.getElem?_append_right (by omega), h1, List.getElem?_append_left (by omega)]
  ·rename_i hj hj2
   rw [List.getElem?_append_right (by simp; omega)]
   simp only [List.length_append, h1, List.getElem?_drop]
   congr 1; omega
def All2 {α β : Type} (r : α → β → Prop) (l : List α) (m : List β) : Prop := m.length = l.length ∧ ∀ (j : Nat) (x : α), l[j]? = some x → ∃ u, m[j]? = some u ∧ r x u
theorem All2.splice {α β : Type} {r : α → β → Prop} {l cs : List α} {m ds : List β} {o : Nat} (h : All2 r l m) (k : All2 r cs ds) (ho : o + cs.length ≤ l.length) : All2 r (splice l o cs) (splice m o ds) := by
 have hm := h.1; have hd := k.1
 refine ⟨by rw [splice_len ho, splice_len (by omega), hm], fun j x hj => ?_⟩
 rw [splice_get ho] at hj
 rw [splice_get (by omega), hd]
 split at hj
 ·rename_i h1; rw [if_pos h1]; exact h.2 j x hj
 ·rename_i h1
  rw [if_neg h1]
  split at hj
  ·rename_i h2; rw [if_pos h2]; exact k.2 _ x hj
  ·rename_i h2; rw [if_neg h2]; exact h.2 j x hj
theorem All2.nil {α β : Type} (r : α → β → Prop) : All2 r [] [] := ⟨rfl, fun j x h => by simp at h⟩
theorem All2.cons {α β : Type} {r : α → β → Prop} {x : α} {u : β} {l : List α} {m : List β} (h : r x u) (k : All2 r l m) : All2 r (x :: l) (u :: m) :=
 ⟨by simp [k.1], fun j y hj => by
  cases j with
  | zero => simp at hj; subst hj; exact ⟨u, rfl, h⟩
  | succ j => simpa using k.2 j y (by simpa using hj)⟩
theorem All2.append {α β : Type} {r : α → β → Prop} {l l' : List α} {m m' : List β} (h : All2 r l m) (k : All2 r l' m') : All2 r (l ++ l') (m ++ m') := by
 refine ⟨by simp [h.1, k.1], fun j x hj => ?_⟩
 rcases Nat.lt_or_ge j l.length with hlt | hge
 ·rw [List.getElem?_append_left hlt] at hj
  rw [List.getElem?_append_left (by rw [h.1]; exact hlt)]; exact h.2 j x hj
 ·rw [List.getElem?_append_right hge] at hj
  rw [List.getElem?_append_right (by rw [h.1]; exact hge), h.1]; exact k.2 _ x hj
theorem All2.take {α β : Type} {r : α → β → Prop} {l : List α} {m : List β} (h : All2 r l m) (n : Nat) : All2 r (l.take n) (m.take n) := by
 refine ⟨by simp [h.1], fun j x hj => ?_⟩
 have hlt : j < n := by have := (List.getElem?_eq_some_iff.1 hj).1; simp at this; omega
 rw [List.getElem?_take_of_lt hlt] at hj ⊢
 exact h.2 j x hj
theorem All2.drop {α β : Type} {r : α → β → Prop} {l : List α} {m : List β} (h : All2 r l m) (n : Nat) : All2 r (l.drop n) (m.drop n) := by
 refine ⟨by simp [h.1], fun j x hj => ?_⟩
 rw [List.getElem?_drop] at hj ⊢
 exact h.2 _ x hj
theorem All2.mono {α β : Type} {r s : α → β → Prop} {l : List α} {m : List β} (h : All2 r l m) (k : ∀ x u, r x u → s x u) : All2 s l m :=
 ⟨h.1, fun j x hj => let ⟨u, h1, h2⟩ := h.2 j x hj; ⟨u, h1, k x u h2⟩⟩
theorem All2.mem {α β : Type} {r : α → β → Prop} {l : List α} {m : List β} (h : All2 r l m) {u : β} (hu : u ∈ m) : ∃ x ∈ l, r x u := by
 obtain ⟨j, hj, rfl⟩ := List.mem_iff_getElem.1 hu
 have hj' : j < l.length := by rw [← h.1]; exact hj
 obtain ⟨v, h1, h2⟩ := h.2 j l[j] (List.getElem?_eq_getElem hj')
 rw [List.getElem?_eq_getElem hj] at h1
 injection h1 with h1; subst h1
 exact ⟨_, List.getElem_mem hj', h2⟩
theorem fill_step (off : Nat) (cells : Array Value) (cs : List Value) (k : Nat) (h : off + k + cs.length ≤ cells.size) :
  (((cs.zipIdx k).foldl (fun (a : Array Value) (p : Value × Nat) => a.setIfInBounds (off + p.2) p.1) cells)).toList = splice cells.toList (off + k) cs := by
 induction cs generalizing k cells with
 | nil => simp [splice]
 | cons c cs ih =>
  rw [List.zipIdx_cons, List.foldl_cons, ih _ _ (by simp at h ⊢; omega)]
  apply List.ext_getElem?
  intro j
  simp only [List.length_cons] at h
  rw [splice_get (by simp; omega), splice_get (by simp; omega)]
  simp only [Array.toList_setIfInBounds, List.getElem?_set, List.length_cons]
  by_cases h1 : j < off + k
  ·rw [if_pos (by omega), if_neg (by omega), if_pos h1]
  ·by_cases h2 : j = off + k
   ·subst h2
    rw [if_pos (by omega), if_pos rfl, if_pos (by simp; omega), if_neg (by omega), if_pos (by omega)]
    simp
   ·by_cases h3 : j < off + (k + 1) + cs.length
    ·rw [if_neg (by omega), if_pos h3, if_neg h1, if_pos (by omega), show j - (off + k) = (j - (off + (k + 1))) + 1 by omega, List.getElem?_cons_succ]
    ·rw [if_neg (by omega), if_neg h3, if_neg (by omega), if_neg h1, if_neg (by omega)]
def cellsV : AV → Option (List AC)
 | .one c => some [c]
 | .agg l => some l
 | .tup _ => none
theorem cellsV_sound {w : World} {E : En} {x : AV} {v : Value} {cs : List AC} (h : Rv w E x v) (hc : cellsV x = some cs) : All2 (Rc w E) cs v.cells.toList ∧ (∀ u ∈ v.cells.toList, u.oneCell' = true) ∧ v.cells.size = cs.length := by
 have : All2 (Rc w E) cs v.cells.toList := by
  cases h with
  | one h =>
   simp only [cellsV, Option.some.injEq] at hc; subst hc
   have : v.cells = #[v] := by
    have := h.one_
    cases v <;> simp_all [Value.cells, Value.oneCell']
   rw [this]
   exact All2.cons h (All2.nil _)
  | agg hs hr =>
   simp only [cellsV, Option.some.injEq] at hc; subst hc
   exact ⟨by simpa [Value.cells] using hs, fun j x hj => by simpa [Value.cells] using hr j x hj⟩
  | tup => cases hc
 exact ⟨this, fun u hu => let ⟨x, _, hx⟩ := this.mem hu; hx.one_, by simpa using this.1⟩
def afill (place : Nat → Option (Nat × Nat)) (cells : List AC) : List (Nat × AV) → Option (List AC)
 | [] => some cells
 | p :: rest =>
  match place p.1, cellsV p.2 with
  | some q, some cs => if cs.length = q.2 ∧ q.1 + cs.length ≤ cells.length then afill place (splice cells q.1 cs) rest else none
  | _, _ => none
theorem afill_sound {w : World} {E : En} (place : Nat → Option (Nat × Nat)) : ∀ (ps : List (Nat × AV)) (vs : List (Nat × Value)) (cells : List AC) (out : List AC) (cv : Array Value), All2 (fun p q => q.1 = p.1 ∧ Rv w E p.2 q.2) ps vs →
  All2 (Rc w E) cells cv.toList → afill place cells ps = some out → ∃ ov, Instr.fill place cv vs = some ov ∧ All2 (Rc w E) out ov.toList
 | [], vs, cells, out, cv, h, hc, ha => by
  have : vs = [] := List.length_eq_zero_iff.1 h.1
  subst this
  simp only [afill, Option.some.injEq] at ha; subst ha
  exact ⟨cv, rfl, hc⟩
 | p :: ps, vs, cells, out, cv, h, hc, ha => by
  obtain ⟨q, vs', rfl⟩ : ∃ q vs', vs = q :: vs' := by
   cases vs with
   | nil => have := h.1; simp at this
   | cons q vs' => exact ⟨q, vs', rfl⟩
  obtain ⟨q', hq, hq1, hq2⟩ := h.2 0 p rfl
  simp at hq; subst hq
  unfold afill at ha
  split at ha
  ·rename_i pl cs hp hcs
   split at ha
   ·rename_i hcond
    obtain ⟨h1, h2, h3⟩ := cellsV_sound hq2 hcs
    have hcl := hc.1
    have hrest : All2 (fun (p : Nat × AV) (q : Nat × Value) => q.1 = p.1 ∧ Rv w E p.2 q.2) ps vs' := ⟨by have := h.1; simpa using this, fun j x hj => by simpa using h.2 (j + 1) x (by simpa using hj)⟩
    have hst := fill_step pl.1 cv q.2.cells.toList 0 (by simp at hcl; simp; omega)
    have hsp := hc.splice h1 hcond.2
    obtain ⟨ov, h4, h5⟩ := afill_sound place ps vs' _ out (q.2.cells.zipIdx.foldl (fun a p => a.setIfInBounds (pl.1 + p.2) p.1) cv) hrest (by
     have e : (q.2.cells.zipIdx.foldl (fun a p => a.setIfInBounds (pl.1 + p.2) p.1) cv).toList = splice cv.toList pl.1 q.2.cells.toList := by
      rw [Nat.add_zero] at hst
      rw [← hst]
      rw [← Array.foldl_toList]
      simp
     rw [e]; exact hsp) ha
    refine ⟨ov, ?_, h5⟩
    obtain ⟨qi, qv⟩ := q
    simp only at hq1 h3 h4
    subst hq1
    unfold Instr.fill
    simp only [hp]
    rw [if_neg (by simp at hcl; simp [h3]; omega)]
    exact h4
   ·cases ha
  ·cases ha
end Go.Abs
set_option linter.unusedVariables false
set_option linter.unusedSimpArgs false
namespace Go.Abs
open Go.RowKit
theorem Ro.congr {w : World} {E : En} {x : OC} {u : Value} {G G' : Nat → Prop} (h : Ro w E x u G) (hG : ∀ g, G' g ↔ G g) : Ro w E x u G' := by
 have : G' = G := funext fun g => propext (hG g)
 rw [this]; exact h
theorem Ros.congr {w : World} {E : En} {x : List OC} {u : List Value} {G G' : Nat → Prop} (h : Ros w E x u G) (hG : ∀ g, G' g ↔ G g) : Ros w E x u G' := by
 have : G' = G := funext fun g => propext (hG g)
 rw [this]; exact h
theorem Ros.len {w : World} {E : En} : ∀ {l : List OC} {vs : List Value} {G : Nat → Prop}, Ros w E l vs G → vs.length = l.length
 | [], vs, G, h => by simp only [Ros] at h; rw [h.1]; rfl
 | c :: r, vs, G, h => by
  simp only [Ros] at h
  obtain ⟨u, us, G1, G2, h1, h2, h3, h4, h5⟩ := h
  rw [h1]; simp [Ros.len h3]
theorem Ros.nil (w : World) (E : En) : Ros w E [] [] (fun _ => False) := by unfold Ros; exact ⟨rfl, fun _ h => h⟩
theorem Ros.cons {w : World} {E : En} {c : OC} {r : List OC} {u : Value} {us : List Value} {G1 G2 : Nat → Prop} (h : Ro w E c u G1) (k : Ros w E r us G2) (d : ∀ g, G1 g → ¬ G2 g) : Ros w E (c :: r) (u :: us) (fun g => G1 g ∨ G2 g) := by
 simp only [Ros]; exact ⟨u, us, G1, G2, rfl, h, k, d, fun _ => Iff.rfl⟩
theorem Ros.append {w : World} {E : En} {vs' : List Value} {l' : List OC} {G' : Nat → Prop} (k : Ros w E l' vs' G') : ∀ {l : List OC} {vs : List Value} {G : Nat → Prop}, Ros w E l vs G → (∀ g, G g → ¬ G' g) → Ros w E (l ++ l') (vs ++ vs') (fun g => G g ∨ G' g)
 | [], vs, G, h, d => by
  simp only [Ros] at h
  rw [h.1]
  exact k.congr fun g => ⟨fun hg => hg.elim (fun e => absurd e (h.2 g)) id, .inr⟩
 | c :: r, vs, G, h, d => by
  simp only [Ros] at h
  obtain ⟨u, us, G1, G2, h1, h2, h3, h4, h5⟩ := h
  rw [h1]
  have ih := Ros.append k h3 (fun g hg => d g ((h5 g).2 (.inr hg)))
  refine (Ros.cons h2 ih fun g hg hn => hn.elim (h4 g hg) (d g ((h5 g).2 (.inl hg)))).congr fun g => ?_
  rw [h5 g, or_assoc]
theorem Ros.split {w : World} {E : En} {l' : List OC} : ∀ {l : List OC} {vs : List Value} {G : Nat → Prop}, Ros w E (l ++ l') vs G → ∃ (v1 v2 : List Value) (G1 G2 : Nat → Prop), vs = v1 ++ v2 ∧ v1.length = l.length ∧ Ros w E l v1 G1 ∧ Ros w E l' v2 G2 ∧ (∀ g, G1 g → ¬ G2 g) ∧ ∀ g, G g ↔ G1 g ∨ G2 g
 | [], vs, G, h => ⟨[], vs, fun _ => False, G, rfl, rfl, Ros.nil w E, h, fun _ hg => hg.elim, fun g => by simp⟩
 | c :: r, vs, G, h => by
  simp only [List.cons_append, Ros] at h
  obtain ⟨u, us, G1, G2, h1, h2, h3, h4, h5⟩ := h
  obtain ⟨v1, v2, H1, H2, k1, k2, k3, k4, k5, k6⟩ := Ros.split h3
  refine ⟨u :: v1, v2, fun g => G1 g ∨ H1 g, H2, by rw [h1, k1]; rfl, by simp [k2], Ros.cons h2 k3 (fun g hg hn => h4 g hg ((k6 g).2 (.inl hn))), k4, fun g hg hn => hg.elim (fun e => h4 g e ((k6 g).2 (.inr hn))) (fun e => k5 g e hn), fun g => ?_⟩
  rw [h5 g, k6 g, or_assoc]
theorem Ros.plain {w : World} {E : En} : ∀ {cs : List AC} {vs : List Value}, All2 (Rc w E) cs vs → Ros w E (cs.map OC.c) vs (fun _ => False)
 | [], vs, h => by rw [List.length_eq_zero_iff.1 h.1]; exact Ros.nil w E
 | c :: r, vs, h => by
  obtain ⟨u, us, rfl⟩ : ∃ u us, vs = u :: us := by
   cases vs with
   | nil => have := h.1; simp at this
   | cons u us => exact ⟨u, us, rfl⟩
  obtain ⟨u', h1, h2⟩ := h.2 0 c rfl
  simp at h1; subst h1
  have ih := Ros.plain (cs := r) (vs := us) ⟨by have := h.1; simpa using this, fun j x hj => by simpa using h.2 (j + 1) x (by simpa using hj)⟩
  refine (Ros.cons (G1 := fun _ => False) (by simp only [Ro]; exact ⟨h2, fun _ hg => hg⟩) ih fun _ hg => hg.elim).congr fun g => by simp
theorem Ros.unplain {w : World} {E : En} : ∀ {cs : List AC} {vs : List Value} {G : Nat → Prop}, Ros w E (cs.map OC.c) vs G → All2 (Rc w E) cs vs ∧ ∀ g, ¬ G g
 | [], vs, G, h => by simp only [List.map_nil, Ros] at h; rw [h.1]; exact ⟨All2.nil _, h.2⟩
 | c :: r, vs, G, h => by
  simp only [List.map_cons, Ros, Ro] at h
  obtain ⟨u, us, G1, G2, h1, ⟨h2, h6⟩, h3, h4, h5⟩ := h
  obtain ⟨k1, k2⟩ := Ros.unplain h3
  rw [h1]
  exact ⟨All2.cons h2 k1, fun g hg => ((h5 g).1 hg).elim (h6 g) (k2 g)⟩
theorem Ro.one {w : World} {E : En} {x : OC} {u : Value} {G : Nat → Prop} (h : Ro w E x u G) : u.oneCell' = true := by
 cases x with
 | c a => simp only [Ro] at h; exact h.1.one_
 | box ty l => simp only [Ro] at h; obtain ⟨g, vs, Gc, rfl, -⟩ := h; rfl
 | row ty sz n l => simp only [Ro] at h; rcases h with ⟨rfl, -⟩ | ⟨g, off, cap, cur, Gc, rfl, -⟩ <;> rfl
 | map kt ks l => simp only [Ro] at h; obtain ⟨-, g, es, clock, Gc, rfl, -⟩ := h; rfl
mutual
theorem Ro.lt {w : World} {E : En} : ∀ (x : OC) {u : Value} {G : Nat → Prop}, Ro w E x u G → ∀ g, G g → g < w.heap.size
 | .c a, u, G, h, g, hg => by simp only [Ro] at h; exact absurd hg (h.2 g)
 | .box ty l, u, G, h, g, hg => by
  simp only [Ro] at h
  obtain ⟨g0, vs, Gc, h1, h2, h3, h4, h5⟩ := h
  rcases (h5 g).1 hg with rfl | hc
  ·exact (Array.getElem?_eq_some_iff.1 h2).1
  ·exact Ros.lt l h3 g hc
 | .row ty sz n l, u, G, h, g, hg => by
  simp only [Ro] at h
  rcases h with h | ⟨g0, off, cap, cur, Gc, h1, h2, h3, h4, h5, h6, h7, h8⟩
  ·exact absurd hg (h.2.2.2 g)
  ·rcases (h8 g).1 hg with rfl | hc
   ·exact (Array.getElem?_eq_some_iff.1 h2).1
   ·exact Ros.lt l h6 g hc
 | .map kt ks l, u, G, h, g, hg => by
  simp only [Ro] at h
  obtain ⟨-, g0, es, clock, Gc, h1, h2, h3, h4, h5, h6, h7, h8⟩ := h
  rcases (h8 g).1 hg with rfl | hc
  ·exact (Array.getElem?_eq_some_iff.1 h2).1
  ·exact Ros.lt l h4 g hc
theorem Ros.lt {w : World} {E : En} : ∀ (l : List OC) {vs : List Value} {G : Nat → Prop}, Ros w E l vs G → ∀ g, G g → g < w.heap.size
 | [], vs, G, h, g, hg => by simp only [Ros] at h; exact absurd hg (h.2 g)
 | c :: r, vs, G, h, g, hg => by
  simp only [Ros] at h
  obtain ⟨u, us, G1, G2, h1, h2, h3, h4, h5⟩ := h
  rcases (h5 g).1 hg with hc | hc
  ·exact Ro.lt c h2 g hc
  ·exact Ros.lt r h3 g hc
end
theorem Ros.get {w : World} {E : En} {l : List OC} {vs : List Value} {G : Nat → Prop} (h : Ros w E l vs G) {j : Nat} {c : OC} (hj : l[j]? = some c) :
  ∃ (u : Value) (G1 G2 : Nat → Prop), vs[j]? = some u ∧ Ro w E c u G1 ∧ (∀ g, G1 g → ¬ G2 g) ∧ (∀ g, G g ↔ G1 g ∨ G2 g) ∧
   ∀ (w' : World) (E' : En) (c' : OC) (G3 : Nat → Prop), E.le E' → Agree E.F w w' → (∀ g, G2 g → w'.heap[g]? = w.heap[g]?) → Ro w' E' c' u G3 → (∀ g, G3 g → ¬ G2 g) → Ros w' E' (l.set j c') vs (fun g => G3 g ∨ G2 g) := by
 have hlt := (List.getElem?_eq_some_iff.1 hj).1
 have hc := (List.getElem?_eq_some_iff.1 hj).2
 have e : l = l.take j ++ c :: l.drop (j + 1) := by rw [← hc, ← List.drop_eq_getElem_cons hlt, List.take_append_drop]
 rw [e] at h
 obtain ⟨v1, v2, H1, H2, rfl, k2, k3, k4, k5, k6⟩ := Ros.split h
 simp only [Ros] at k4
 obtain ⟨u, us, G1, G2, rfl, h2, h3, h4, h5⟩ := k4
 have hl : v1.length = j := by rw [k2, List.length_take]; omega
 refine ⟨u, G1, fun g => H1 g ∨ G2 g, by rw [List.getElem?_append_right (by omega), hl]; simp, h2, fun g hg hn => hn.elim (fun hn => k5 g hn ((h5 g).2 (.inl hg))) (h4 g hg), fun g => ?_, fun w' E' c' G3 hle hag hke hc' hd => ?_⟩
 ·rw [k6 g, h5 g]; exact ⟨fun hh => hh.elim (fun a => .inr (.inl a)) (fun a => a.elim .inl (fun b => .inr (.inr b))), fun hh => hh.elim (fun a => .inr (.inl a)) (fun a => a.elim .inl (fun b => .inr (.inr b)))⟩
 ·have e2 : l.set j c' = l.take j ++ c' :: l.drop (j + 1) := by rw [List.set_eq_take_append_cons_drop, if_pos hlt]
  rw [e2]
  have q1 := Ros.mono hle hag (l.take j) (fun g hg => hke g (.inl hg)) k3
  have q2 := Ros.mono hle hag (l.drop (j + 1)) (fun g hg => hke g (.inr hg)) h3
  have := Ros.append (Ros.cons hc' q2 (fun g hg hn => hd g hg (.inr hn))) q1 (fun g hg hn => hn.elim (fun a => hd g a (.inl hg)) (fun a => k5 g hg ((h5 g).2 (.inr a))))
  refine this.congr fun g => ?_
  exact ⟨fun hh => hh.elim (fun a => .inr (.inl a)) (fun a => a.elim .inl (fun b => .inr (.inr b))), fun hh => hh.elim (fun a => .inr (.inl a)) (fun a => a.elim .inl (fun b => .inr (.inr b)))⟩
theorem Ros.splice {w : World} {E : En} {l : List OC} {vs : List Value} {G : Nat → Prop} (h : Ros w E l vs G) {cs : List AC} {us : List Value} (hc : All2 (Rc w E) cs us) {o : Nat} (ho : o + cs.length ≤ l.length) :
  ∃ G' : Nat → Prop, (∀ g, G' g → G g) ∧ Ros w E (splice l o (cs.map OC.c)) (splice vs o us) G' := by
 have e : l = l.take o ++ ((l.drop o).take cs.length ++ l.drop (o + cs.length)) := by
  rw [← List.drop_drop, List.take_append_drop, List.take_append_drop]
 have hlen := h.len
 rw [e] at h
 obtain ⟨v1, v2, H1, H2, rfl, k2, k3, k4, k5, k6⟩ := Ros.split h
 obtain ⟨v3, v4, H3, H4, rfl, m2, m3, m4, m5, m6⟩ := Ros.split k4
 have hl1 : v1.length = o := by rw [k2, List.length_take]; omega
 have hl3 : v3.length = cs.length := by rw [m2, List.length_take, List.length_drop]; omega
 have hus := hc.1
 refine ⟨fun g => H1 g ∨ H4 g, fun g hg => (k6 g).2 (hg.elim .inl fun a => .inr ((m6 g).2 (.inr a))), ?_⟩
 have := Ros.append (Ros.append m4 (Ros.plain hc) (fun _ a => a.elim)) k3 (fun g hg hn => k5 g hg ((m6 g).2 (.inr (hn.elim (fun a => a.elim) id))))
 have e1 : Go.Abs.splice l o (cs.map OC.c) = l.take o ++ (cs.map OC.c ++ l.drop (o + cs.length)) := by unfold Go.Abs.splice; rw [List.length_map, List.append_assoc]
 have e2 : Go.Abs.splice (v1 ++ (v3 ++ v4)) o us = v1 ++ (us ++ v4) := by
  unfold Go.Abs.splice
  rw [List.take_left' hl1, List.append_assoc, ← List.append_assoc v1 v3 v4, List.drop_left' (by rw [List.length_append, hl1, hl3, hus])]
 rw [e1, e2]
 exact this.congr fun g => by simp
def En.setF (E : En) (b : Nat) (G : Nat → Prop) : En := ⟨E.F, E.m, fun b' => if b' = b then G else E.ft b'⟩
theorem En.setF_le (E : En) (b : Nat) (G : Nat → Prop) : E.le (E.setF b G) := ⟨fun _ h => h, fun _ _ _ h => h⟩
theorem En.setF_at (E : En) (b : Nat) (G : Nat → Prop) : (E.setF b G).ft b = G := by simp [En.setF]
theorem En.setF_out (E : En) {b b' : Nat} (G : Nat → Prop) (h : b' ≠ b) : (E.setF b G).ft b' = E.ft b' := by simp [En.setF, h]
theorem Ro.anyF {w : World} {E : En} {x : OC} {u : Value} {G : Nat → Prop} (h : Ro w E x u G) (b : Nat) (G' : Nat → Prop) : Ro w (E.setF b G') x u G := Ro.mono (En.setF_le E b G') (Agree.refl _ _) x (fun _ _ => rfl) h
theorem Rc.anyF {w : World} {E : En} {x : AC} {u : Value} (h : Rc w E x u) (b : Nat) (G' : Nat → Prop) : Rc w (E.setF b G') x u := h.mono (En.setF_le E b G') (Agree.refl _ _)
theorem Upd.two {E E' : En} {h : Nat → Option AB} {w w' : World} {b c : Nat} {x y x0 : AB} (hbc : b ≠ c) (hb : h b = some x0) (hc : h c = none) (le : E.le E') (hF : ∀ g, E'.F g → E.F g) (os : w'.os = w.os) (tape : w'.tape = w.tape) (output : w'.output = w.output) (grow : w.heap.size ≤ w'.heap.size)
  (kept : ∀ g, g < w.heap.size → ¬ owns E b x0 g → w'.heap[g]? = w.heap[g]?) (out : ∀ b' n, b' ≠ b → b' ≠ c → E'.m b' n = E.m b' n) (fto : ∀ b', b' ≠ b → b' ≠ c → E'.ft b' = E.ft b') (blkb : Rb w' E' b x) (blkc : Rb w' E' c y)
  (ownb : ∀ g, owns E' b x g → (w.heap.size ≤ g ∨ owns E b x0 g) ∧ ¬ E.F g ∧ g < w'.heap.size) (ownc : ∀ g, owns E' c y g → (w.heap.size ≤ g ∨ owns E b x0 g) ∧ ¬ E.F g ∧ g < w'.heap.size) (sep : ∀ g, owns E' b x g → ¬ owns E' c y g) :
  Upd E h w [b, c] E' (up (up h b x) c y) w' := by
 have hm : ∀ {b' : Nat}, b' ∈ [b, c] → b' = b ∨ b' = c := fun hb' => by simpa using hb'
 have hat : ∀ {b' : Nat} {z : AB}, b' ∈ [b, c] → up (up h b x) c y b' = some z → (b' = b ∧ z = x) ∨ (b' = c ∧ z = y) := fun {b' z} hb' hz => by
  rcases hm hb' with rfl | rfl
  ·rw [up_out _ _ (Ne.symm hbc), up_at] at hz; injection hz with hz; exact .inl ⟨rfl, hz.symm⟩
  ·rw [up_at] at hz; injection hz with hz; exact .inr ⟨rfl, hz.symm⟩
 have old : ∀ g, (w.heap.size ≤ g ∨ owns E b x0 g) → (w.heap.size ≤ g ∨ ∃ b' ∈ [b, c], ∃ x', h b' = some x' ∧ owns E b' x' g) := fun g hg => hg.imp id fun a => ⟨b, by simp, x0, hb, a⟩
 refine ⟨le, fun g hg => .inl (hF g hg), os, tape, output, grow, fun g hg hk => kept g hg (hk b (by simp) x0 hb), fun b' hb' => ?_, fun b' n hb' => ?_, fun b' hb' => ?_, fun b' hb' z hz => ?_, fun b' hb' z g hz ho => ?_, fun b1 h1 b2 h2 z1 z2 g hz1 hz2 ho1 ho2 => ?_, fun b' hb' => ?_⟩
 ·simp only [List.mem_cons, List.not_mem_nil, or_false, not_or] at hb'
  rw [up_out _ _ (Ne.symm hb'.2), up_out _ _ (Ne.symm hb'.1)]
 ·simp only [List.mem_cons, List.not_mem_nil, or_false, not_or] at hb'; exact out b' n hb'.1 hb'.2
 ·simp only [List.mem_cons, List.not_mem_nil, or_false, not_or] at hb'; exact fto b' hb'.1 hb'.2
 ·rcases hat hb' hz with ⟨rfl, rfl⟩ | ⟨rfl, rfl⟩
  ·exact blkb
  ·exact blkc
 ·rcases hat hb' hz with ⟨rfl, rfl⟩ | ⟨rfl, rfl⟩
  ·obtain ⟨h1, h2, h3⟩ := ownb g ho; exact ⟨old g h1, fun hh => h2 (hF g hh), h3⟩
  ·obtain ⟨h1, h2, h3⟩ := ownc g ho; exact ⟨old g h1, fun hh => h2 (hF g hh), h3⟩
 ·rcases hat h1 hz1 with ⟨rfl, rfl⟩ | ⟨rfl, rfl⟩ <;> rcases hat h2 hz2 with ⟨rfl, rfl⟩ | ⟨rfl, rfl⟩
  ·rfl
  ·exact absurd ho2 (sep g ho1)
  ·exact absurd ho1 (sep g ho2)
  ·rfl
 ·rcases hm hb' with rfl | rfl
  ·rw [up_out _ _ (Ne.symm hbc), up_at]; simp
  ·rw [up_at]; simp
theorem Upd.obj {E : En} {h : Nat → Option AB} {w w' : World} {b : Nat} {x x' : OC} {u : Value} {G : Nat → Prop} (hb : h b = some (.obj x)) (hm : E.m b x'.len = some u) (hro : Ro w' E x' u G) (hG : ∀ g, G g → E.ft b g) (hgF : ∀ g, E.ft b g → ¬ E.F g ∧ g < w.heap.size)
  (os : w'.os = w.os) (tape : w'.tape = w.tape) (output : w'.output = w.output) (hsz : w'.heap.size = w.heap.size) (hoth : ∀ k, ¬ E.ft b k → w'.heap[k]? = w.heap[k]?) : Upd E h w [b] (E.setF b G) (up h b (.obj x')) w' := by
 refine Upd.single (En.setF_le _ _ _) (fun _ h => h) os tape output (by omega) (fun k hk hno => hoth k fun e => hno _ hb e) (fun _ _ _ => rfl) (fun b' hb' => En.setF_out _ _ hb') ⟨u, hm, ?_⟩ (fun g hg => ?_)
 ·rw [En.setF_at]; exact hro.anyF b G
 ·have hg' : G g := by have h2 : (E.setF b G).ft b g := hg; rwa [En.setF_at] at h2
  have := hgF g (hG g hg')
  exact ⟨.inr ⟨_, hb, hG g hg'⟩, this.1, by omega⟩
end Go.Abs
