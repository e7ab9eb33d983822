/- Part 10 of the base: the walks and plain facts that the statement rests on. -/
import Derived.Test.YtfhgknmkpegpbaaM9
import Derived.Test.YtfhgknmkpegpbaaM6
import Derived.Test.YtfhgknmkpegpbaaM8
import Derived.Test.YtfhgknmkpegpbaaM5
import Derived.Test.YtfhgknmkpegpbaaM4
import Derived.Test.YtfhgknmkpegpbaaM2
import Derived.Test.YtfhgknmkpegpbaaM3

set_option linter.unusedVariables false
set_option linter.unusedSimpArgs false
namespace Go.Proofs.Ytfhgknmkpegpbaa
open Go Go.Abs Go.Proofs Go.RowKit
theorem ty122 : tyOf Try.prog 122 = some ⟨.struct [(22, 0, 1), (22, 1, 1)], 2, 48, [.slice none 0 0, .slice none 0 0]⟩ := by kernel_rfl
theorem variable_ok (n : Int) : ACall Try.prog 101 [vI n] [] (tA (.va n)) [] := bridge (enters Try.func101 (by decide) rfl) fun E w vs hvs => by
 obtain ⟨v, rfl, hv⟩ := args1 hvs
 have := hv.val_inv
 subst this
 refine (refVariable_calls n w).mono fun e w' ⟨he, hb⟩ => ⟨_, he, hb, fun E' h1 h2 => ?_⟩
 exact TmC.toRvT (t := .va n) (A := none) (c := 0) (P := fun _ => False) (w := w') (by show (0:Nat) ≤ _; omega) (TmC.nil _ _ (by omega) (fun _ => rfl)) (fun g h => h.elim)
theorem tm_k (k n : Int) (s : ByteArray) (l : List Tm) : (Tm.mk k n s l).k = k := rfl
theorem tm_n (k n : Int) (s : ByteArray) (l : List Tm) : (Tm.mk k n s l).n = n := rfl
theorem tm_s (k n : Int) (s : ByteArray) (l : List Tm) : (Tm.mk k n s l).s = s := rfl
theorem tm_l (k n : Int) (s : ByteArray) (l : List Tm) : (Tm.mk k n s l).l = l := rfl
abbrev cA (t : Tm) : List AC := [.f (.v (.int .i64 t.k)), .f (.v (.int .i64 t.n)), .f (.v (.string t.s)), .f (tsF t.l)]
abbrev zA : List AC := [.f (.v (.int .i64 0)), .f (.v (.int .i64 0)), .f (.v (.string ⟨#[]⟩)), .f (.v (.slice none 0 0))]
theorem sub_nil (sz : Nat) : Sub (.val (.slice none 0 0)) (.one (.f (.fz sz []))) := fun w E v h => by
 have := h.val_inv
 subst this
 exact .one (.f (.fz sz [] none 0 0 0 (fun _ _ => undef) (Nat.le_refl _) (by simp [maxLen]) (fun _ => rfl) (fun h => absurd rfl h) (by simp) (by simp) (by simp)))
theorem sub_zero : Sub (.agg zA) (tA Tm.zero) := fun w E v h => by
 obtain ⟨vs, rfl, hall⟩ := h.agg_inv
 refine Rv.ofAll2 ⟨hall.1, fun j c hj => ?_⟩
 match j, hj with
 | 0, hj => exact hall.2 0 c hj
 | 1, hj => exact hall.2 1 c hj
 | 2, hj => exact hall.2 2 c hj
 | 3, hj =>
  obtain ⟨u, h1, h2⟩ := hall.2 3 _ rfl
  simp at hj; subst hj
  have := sub_nil 4 w E u (.one h2)
  cases this with | one h => exact ⟨u, h1, h⟩
 | j + 4, hj => simp at hj
theorem sub_tup {l l' : List AV} (h : All2 Sub l l') : Sub (.tup l) (.tup l') := fun w E v hv => by
 cases hv with | @tup _ vs vals hs h1 h2 => ?_
 refine .tup vals (by rw [h.1]; exact hs) (fun j c hj => ?_) (fun j c hj => ?_)
 ·have hl := (List.getElem?_eq_some_iff.1 hj).1
  exact h1 j _ (List.getElem?_eq_getElem (by rw [← h.1]; exact hl))
 ·have hl := (List.getElem?_eq_some_iff.1 hj).1
  have hl2 : j < l.length := by rw [← h.1]; exact hl
  obtain ⟨u, h3, h4⟩ := h.2 j _ (List.getElem?_eq_getElem hl2)
  rw [hj] at h3; injection h3 with h3; subst h3
  exact h4 _ _ _ (h2 j _ (List.getElem?_eq_getElem hl2))
theorem sub_tup2 {a b a' b' : AV} (h : Sub a a') (k : Sub b b') : Sub (.tup [a, b]) (.tup [a', b']) := sub_tup (All2.cons h (All2.cons k (All2.nil _)))
end Go.Proofs.Ytfhgknmkpegpbaa
set_option linter.unusedVariables false
set_option linter.unusedSimpArgs false
namespace Go.Abs
open Go.RowKit
theorem Wk.boxSub {nt k nx : Nat} {T : TL} {H : HL} (b ty : Nat) (l l' : List AC) (hb : look H b = some (.box ty l)) (hl : l'.length = l.length) (hs : ∀ (j : Nat) (c' : AC), l'[j]? = some c' → ∃ c, l[j]? = some c ∧ ∀ (w : World) (E : En) (v : Value), Rc w E c v → Rc w E c' v) :
  Wk nt k T H nx T (put H b (.box ty l')) nx := by
 intro fr E a w hn hk r
 have hlook : ∀ b', look (put H b (.box ty l')) b' = if b = b' then some (.box ty l') else look H b' := fun b' => by rw [look_put]
 have back : ∀ b' x, look (put H b (.box ty l')) b' = some x → ∃ x0, look H b' = some x0 ∧ ∀ g, owns E b' x g → owns E b' x0 g := fun b' x hx => by
  rw [hlook] at hx
  split at hx
  ·rename_i e; subst e; cases hx; exact ⟨_, hb, fun g h => h⟩
  ·exact ⟨x, hx, fun g h => h⟩
 refine ⟨E, r.defers, r.size, r.tmps, fun b' x hx => ?_, fun b1 b2 x x' g hx hx' ho ho' => ?_, fun b' x g hx ho => ?_, fun b' n hn hx => ?_, r.os, r.tape, r.output, r.grow, r.kept, r.hF, r.hF2, r.old, r.oldk⟩
 ·rw [hlook] at hx
  split at hx
  ·rename_i e; subst e; cases hx
   obtain ⟨g, vs, h1, h2, h3, h4⟩ := r.blk _ _ hb
   refine ⟨g, vs, h1, h2, by rw [h3, hl], fun j c' hj => ?_⟩
   obtain ⟨c, h5, h6⟩ := hs j c' hj
   obtain ⟨u, h7, h8⟩ := h4 j c h5
   exact ⟨u, h7, h6 w E u h8⟩
  ·exact r.blk _ _ hx
 ·obtain ⟨y, h1, h2⟩ := back _ _ hx
  obtain ⟨y', h1', h2'⟩ := back _ _ hx'
  exact r.sep _ _ _ _ g h1 h1' (h2 g ho) (h2' g ho')
 ·obtain ⟨y, h1, h2⟩ := back _ _ hx
  exact r.own _ _ g h1 (h2 g ho)
 ·rw [hlook] at hx
  split at hx
  ·cases hx
  ·exact r.fresh _ _ hn hx
end Go.Abs
set_option linter.unusedVariables false
set_option linter.unusedSimpArgs false
namespace Go.Abs
open Go.RowKit
theorem smEval : type_of% (And.intro (And.intro (And.intro (And.intro (And.intro (And.intro (And.intro @pl.eq_1 @pl.eq_2) (And.intro @pl.eq_3 (And.intro @pl.eq_4 @pl.eq_5))) (And.intro (And.intro @pl.eq_6 @pl.eq_7) (And.intro @pl.eq_8 (And.intro @pl.eq_9 @pl.eq_10)))) (And.intro (And.intro (And.intro @pl.eq_11 @pl.eq_12) (And.intro @pl.eq_13 (And.intro @pl.eq_14 @pl.eq_15))) (And.intro (And.intro @pl.eq_16 (And.intro @pl.eq_17 @pl.eq_18)) (And.intro @pl.eq_19 (And.intro @pl.eq_20 @pl.eq_21))))) (And.intro (And.intro (And.intro (And.intro @o1.eq_1 @o1.eq_2) (And.intro @o2.eq_1 (And.intro @o2.eq_2 @o3.eq_1))) (And.intro (And.intro @o3.eq_2 (And.intro @plBuiltin.eq_1 @plBuiltin.eq_2)) (And.intro @plBuiltin.eq_3 (And.intro @plBuiltin.eq_4 @evT.eq_1)))) (And.intro (And.intro (And.intro @evT.eq_2 @evT.eq_3) (And.intro @evT.eq_4 (And.intro @cv.eq_1 @cv.eq_2))) (And.intro (And.intro @cv.eq_3 (And.intro @cv.eq_4 @okV.eq_1)) (And.intro @okV.eq_2 (And.intro @okV.eq_3 @okV.eq_4)))))) (And.intro (And.intro (And.intro (And.intro (And.intro @evParts.eq_1 @evParts.eq_2) (And.intro @evCaps.eq_1 (And.intro @evCaps.eq_2 @plLoad.eq_1))) (And.intro (And.intro @plStore.eq_1 @plAlloc.eq_1) (And.intro @plBox.eq_1 (And.intro @plBuild.eq_1 @plSlice.eq_1)))) (And.intro (And.intro (And.intro @plFieldAddr.eq_1 @plField.eq_def) (And.intro @plIndexAddr.eq_def (And.intro @plIndex.eq_1 @plIndex.eq_2))) (And.intro (And.intro @plBin.eq_def (And.intro @abin.eq_1 @abin.eq_2)) (And.intro @abin.eq_3 (And.intro @abin.eq_4 @abin.eq_5))))) (And.intro (And.intro (And.intro (And.intro @abin.eq_6 @abin.eq_7) (And.intro @abin.eq_8 (And.intro @abin.eq_9 @abin.eq_10))) (And.intro (And.intro @abin.eq_11 (And.intro @abin.eq_12 @abin.eq_13)) (And.intro @abin.eq_14 (And.intro @abin.eq_15 @abin.eq_16)))) (And.intro (And.intro (And.intro @abin.eq_17 @abin.eq_18) (And.intro @plUn.eq_1 (And.intro @plUn.eq_2 @plUn.eq_3))) (And.intro (And.intro @plUn.eq_4 (And.intro @plUn.eq_5 @plConv.eq_1)) (And.intro @plConv.eq_2 (And.intro @plConv.eq_3 @plNil.eq_1))))))) (And.intro (And.intro (And.intro (And.intro (And.intro (And.intro @plNil.eq_2 @plNil.eq_3) (And.intro @plNil.eq_4 (And.intro @plExtract.eq_1 @plExtract.eq_2))) (And.intro (And.intro @plLen.eq_1 @plLen.eq_2) (And.intro @plLen.eq_3 (And.intro @plLen.eq_4 @plLen.eq_5)))) (And.intro (And.intro (And.intro @plMax.eq_1 @plMax.eq_2) (And.intro @plMax.eq_3 (And.intro @plMax.eq_4 @plAppend.eq_def))) (And.intro (And.intro @elemsOf.eq_1 (And.intro @elemsOf.eq_2 @elemsOf.eq_3)) (And.intro @elemsOf.eq_4 (And.intro @readAt.eq_1 @readAt.eq_2))))) (And.intro (And.intro (And.intro (And.intro @readAt.eq_3 @readAt.eq_4) (And.intro @ldv.eq_1 (And.intro @cellsV.eq_1 @cellsV.eq_2))) (And.intro (And.intro @cellsV.eq_3 (And.intro @toF.eq_1 @toF.eq_2)) (And.intro @allF.eq_1 (And.intro @allF.eq_2 @splice.eq_1)))) (And.intro (And.intro (And.intro @afill.eq_1 @afill.eq_2) (And.intro @zeros.eq_1 (And.intro @chunk.eq_1 @chunk.eq_2))) (And.intro (And.intro @TK.agg.eq_1 (And.intro @TK.agg.eq_2 @TK.agg.eq_3)) (And.intro @Go.maxLen.eq_1 (And.intro @look_cons @look_nil)))))) (And.intro (And.intro (And.intro (And.intro (And.intro @Bool.false_eq_true @true_and) (And.intro @and_true (And.intro @and_self @List.length_cons.{0}))) (And.intro (And.intro @List.length_nil.{0} (And.intro @List.length_map.{0, 0} @List.length_append.{0})) (And.intro @List.map_cons.{0, 0} (And.intro @List.map_nil.{0, 0} @List.take_succ_cons.{0})))) (And.intro (And.intro (And.intro @List.take_zero.{0} @List.drop_succ_cons.{0}) (And.intro @List.drop_zero.{0} (And.intro @List.nil_append.{0} @List.cons_append.{0}))) (And.intro (And.intro @List.append_nil.{0} (And.intro @List.getElem?_cons_zero.{0} @List.getElem?_cons_succ.{0})) (And.intro @List.getElem?_map.{0, 0} (And.intro @List.set_cons_zero.{0} @List.set_cons_succ.{0}))))) (And.intro (And.intro (And.intro (And.intro @Option.map_some.{0, 0} @beq_self_eq_true.{0}) (And.intro @List.all_cons.{0} (And.intro @List.all_nil.{0} @Int.toNat_zero))) (And.intro (And.intro @Int.toNat_natCast (And.intro @Int.natCast_nonneg @Nat.zero_add)) (And.intro @Nat.le_refl (And.intro @Nat.lt_irrefl @gt_iff_lt.{0})))) (And.intro (And.intro (And.intro @decide_true @decide_false) (And.intro @Bool.not_true (And.intro @Bool.not_false @List.range_succ))) (And.intro (And.intro @List.range_zero (And.intro @List.getD_cons_zero.{0} @List.getD_cons_succ.{0})) (And.intro @Nat.zero_le (And.intro @Nat.succ_ne_self @Nat.zero_mod)))))))) :=
 (And.intro (And.intro (And.intro (And.intro (And.intro (And.intro (And.intro @pl.eq_1 @pl.eq_2) (And.intro @pl.eq_3 (And.intro @pl.eq_4 @pl.eq_5))) (And.intro (And.intro @pl.eq_6 @pl.eq_7) (And.intro @pl.eq_8 (And.intro @pl.eq_9 @pl.eq_10)))) (And.intro (And.intro (And.intro @pl.eq_11 @pl.eq_12) (And.intro @pl.eq_13 (And.intro @pl.eq_14 @pl.eq_15))) (And.intro (And.intro @pl.eq_16 (And.intro @pl.eq_17 @pl.eq_18)) (And.intro @pl.eq_19 (And.intro @pl.eq_20 @pl.eq_21))))) (And.intro (And.intro (And.intro (And.intro @o1.eq_1 @o1.eq_2) (And.intro @o2.eq_1 (And.intro @o2.eq_2 @o3.eq_1))) (And.intro (And.intro @o3.eq_2 (And.intro @plBuiltin.eq_1 @plBuiltin.eq_2)) (And.intro @plBuiltin.eq_3 (And.intro @plBuiltin.eq_4 @evT.eq_1)))) (And.intro (And.intro (And.intro @evT.eq_2 @evT.eq_3) (And.intro @evT.eq_4 (And.intro @cv.eq_1 @cv.eq_2))) (And.intro (And.intro @cv.eq_3 (And.intro @cv.eq_4 @okV.eq_1)) (And.intro @okV.eq_2 (And.intro @okV.eq_3 @okV.eq_4)))))) (And.intro (And.intro (And.intro (And.intro (And.intro @evParts.eq_1 @evParts.eq_2) (And.intro @evCaps.eq_1 (And.intro @evCaps.eq_2 @plLoad.eq_1))) (And.intro (And.intro @plStore.eq_1 @plAlloc.eq_1) (And.intro @plBox.eq_1 (And.intro @plBuild.eq_1 @plSlice.eq_1)))) (And.intro (And.intro (And.intro @plFieldAddr.eq_1 @plField.eq_def) (And.intro @plIndexAddr.eq_def (And.intro @plIndex.eq_1 @plIndex.eq_2))) (And.intro (And.intro @plBin.eq_def (And.intro @abin.eq_1 @abin.eq_2)) (And.intro @abin.eq_3 (And.intro @abin.eq_4 @abin.eq_5))))) (And.intro (And.intro (And.intro (And.intro @abin.eq_6 @abin.eq_7) (And.intro @abin.eq_8 (And.intro @abin.eq_9 @abin.eq_10))) (And.intro (And.intro @abin.eq_11 (And.intro @abin.eq_12 @abin.eq_13)) (And.intro @abin.eq_14 (And.intro @abin.eq_15 @abin.eq_16)))) (And.intro (And.intro (And.intro @abin.eq_17 @abin.eq_18) (And.intro @plUn.eq_1 (And.intro @plUn.eq_2 @plUn.eq_3))) (And.intro (And.intro @plUn.eq_4 (And.intro @plUn.eq_5 @plConv.eq_1)) (And.intro @plConv.eq_2 (And.intro @plConv.eq_3 @plNil.eq_1))))))) (And.intro (And.intro (And.intro (And.intro (And.intro (And.intro @plNil.eq_2 @plNil.eq_3) (And.intro @plNil.eq_4 (And.intro @plExtract.eq_1 @plExtract.eq_2))) (And.intro (And.intro @plLen.eq_1 @plLen.eq_2) (And.intro @plLen.eq_3 (And.intro @plLen.eq_4 @plLen.eq_5)))) (And.intro (And.intro (And.intro @plMax.eq_1 @plMax.eq_2) (And.intro @plMax.eq_3 (And.intro @plMax.eq_4 @plAppend.eq_def))) (And.intro (And.intro @elemsOf.eq_1 (And.intro @elemsOf.eq_2 @elemsOf.eq_3)) (And.intro @elemsOf.eq_4 (And.intro @readAt.eq_1 @readAt.eq_2))))) (And.intro (And.intro (And.intro (And.intro @readAt.eq_3 @readAt.eq_4) (And.intro @ldv.eq_1 (And.intro @cellsV.eq_1 @cellsV.eq_2))) (And.intro (And.intro @cellsV.eq_3 (And.intro @toF.eq_1 @toF.eq_2)) (And.intro @allF.eq_1 (And.intro @allF.eq_2 @splice.eq_1)))) (And.intro (And.intro (And.intro @afill.eq_1 @afill.eq_2) (And.intro @zeros.eq_1 (And.intro @chunk.eq_1 @chunk.eq_2))) (And.intro (And.intro @TK.agg.eq_1 (And.intro @TK.agg.eq_2 @TK.agg.eq_3)) (And.intro @Go.maxLen.eq_1 (And.intro @look_cons @look_nil)))))) (And.intro (And.intro (And.intro (And.intro (And.intro @Bool.false_eq_true @true_and) (And.intro @and_true (And.intro @and_self @List.length_cons.{0}))) (And.intro (And.intro @List.length_nil.{0} (And.intro @List.length_map.{0, 0} @List.length_append.{0})) (And.intro @List.map_cons.{0, 0} (And.intro @List.map_nil.{0, 0} @List.take_succ_cons.{0})))) (And.intro (And.intro (And.intro @List.take_zero.{0} @List.drop_succ_cons.{0}) (And.intro @List.drop_zero.{0} (And.intro @List.nil_append.{0} @List.cons_append.{0}))) (And.intro (And.intro @List.append_nil.{0} (And.intro @List.getElem?_cons_zero.{0} @List.getElem?_cons_succ.{0})) (And.intro @List.getElem?_map.{0, 0} (And.intro @List.set_cons_zero.{0} @List.set_cons_succ.{0}))))) (And.intro (And.intro (And.intro (And.intro @Option.map_some.{0, 0} @beq_self_eq_true.{0}) (And.intro @List.all_cons.{0} (And.intro @List.all_nil.{0} @Int.toNat_zero))) (And.intro (And.intro @Int.toNat_natCast (And.intro @Int.natCast_nonneg @Nat.zero_add)) (And.intro @Nat.le_refl (And.intro @Nat.lt_irrefl @gt_iff_lt.{0})))) (And.intro (And.intro (And.intro @decide_true @decide_false) (And.intro @Bool.not_true (And.intro @Bool.not_false @List.range_succ))) (And.intro (And.intro @List.range_zero (And.intro @List.getD_cons_zero.{0} @List.getD_cons_succ.{0})) (And.intro @Nat.zero_le (And.intro @Nat.succ_ne_self @Nat.zero_mod))))))))
theorem smPut : type_of% (And.intro (And.intro (And.intro (And.intro (And.intro @put.eq_1 @put.eq_2) (And.intro @puts.eq_1 @puts.eq_2)) (And.intro (And.intro @setT.eq_1 @setT.eq_2) (And.intro @setT.eq_3 @AB.ren.eq_1))) (And.intro (And.intro (And.intro @AB.ren.eq_2 @AC.rens.eq_1) (And.intro @AC.rens.eq_2 @AC.ren.eq_1)) (And.intro (And.intro @AC.ren.eq_2 @AC.ren.eq_3) (And.intro @AC.ren.eq_4 (And.intro @AC.ren.eq_5 @AC.ren.eq_6))))) (And.intro (And.intro (And.intro (And.intro @AV.ren.eq_1 @AV.ren.eq_2) (And.intro @AV.ren.eq_3 @AV.rens.eq_1)) (And.intro (And.intro @AV.rens.eq_2 @nm.eq_1) (And.intro @List.filter_cons.{0} (And.intro @List.filter_nil.{0} @Bool.false_eq_true)))) (And.intro (And.intro (And.intro @Bool.not_true @Bool.not_false) (And.intro @List.zip_cons_cons.{0, 0} @List.zip_nil_left.{0, 0})) (And.intro (And.intro @List.zip_nil_right.{0, 0} @List.map_cons.{0, 0}) (And.intro @List.map_nil.{0, 0} (And.intro @List.getD_cons_zero.{0} @List.getD_cons_succ.{0})))))) :=
 (And.intro (And.intro (And.intro (And.intro (And.intro @put.eq_1 @put.eq_2) (And.intro @puts.eq_1 @puts.eq_2)) (And.intro (And.intro @setT.eq_1 @setT.eq_2) (And.intro @setT.eq_3 @AB.ren.eq_1))) (And.intro (And.intro (And.intro @AB.ren.eq_2 @AC.rens.eq_1) (And.intro @AC.rens.eq_2 @AC.ren.eq_1)) (And.intro (And.intro @AC.ren.eq_2 @AC.ren.eq_3) (And.intro @AC.ren.eq_4 (And.intro @AC.ren.eq_5 @AC.ren.eq_6))))) (And.intro (And.intro (And.intro (And.intro @AV.ren.eq_1 @AV.ren.eq_2) (And.intro @AV.ren.eq_3 @AV.rens.eq_1)) (And.intro (And.intro @AV.rens.eq_2 @nm.eq_1) (And.intro @List.filter_cons.{0} (And.intro @List.filter_nil.{0} @Bool.false_eq_true)))) (And.intro (And.intro (And.intro @Bool.not_true @Bool.not_false) (And.intro @List.zip_cons_cons.{0, 0} @List.zip_nil_left.{0, 0})) (And.intro (And.intro @List.zip_nil_right.{0, 0} @List.map_cons.{0, 0}) (And.intro @List.map_nil.{0, 0} (And.intro @List.getD_cons_zero.{0} @List.getD_cons_succ.{0}))))))
theorem smKeep : type_of% (And.intro (And.intro (And.intro (And.intro (And.intro @keepT.eq_1 @keepT.eq_2) (And.intro @keepH.eq_1 (And.intro @keepH.eq_2 @AV.frz.eq_1))) (And.intro (And.intro @AV.frz.eq_2 @AV.frz.eq_3) (And.intro @AV.frzs.eq_1 (And.intro @AV.frzs.eq_2 @AC.frz.eq_1)))) (And.intro (And.intro (And.intro @AC.frz.eq_2 @AC.frz.eq_3) (And.intro @AC.frz.eq_4 (And.intro @AC.frz.eq_5 @AC.frz.eq_6))) (And.intro (And.intro @AC.frzs.eq_1 (And.intro @AC.frzs.eq_2 @AB.frz.eq_1)) (And.intro @AB.frz.eq_2 (And.intro @lives.eq_1 @look_cons))))) (And.intro (And.intro (And.intro (And.intro @look_nil @List.any_cons.{0}) (And.intro @List.any_nil.{0} (And.intro @Bool.false_eq_true @and_true))) (And.intro (And.intro @true_and @and_self) (And.intro @Option.some.injEq.{0} (And.intro @decide_false @decide_true)))) (And.intro (And.intro (And.intro @Bool.or_false @Bool.or_true) (And.intro @Bool.false_or (And.intro @Bool.true_or @beq_self_eq_true.{0}))) (And.intro (And.intro @List.contains_nil.{0} (And.intro @List.contains_cons.{0} @List.length_map.{0, 0})) (And.intro @List.length_cons.{0} (And.intro @List.length_nil.{0} @List.length_append.{0})))))) :=
 (And.intro (And.intro (And.intro (And.intro (And.intro @keepT.eq_1 @keepT.eq_2) (And.intro @keepH.eq_1 (And.intro @keepH.eq_2 @AV.frz.eq_1))) (And.intro (And.intro @AV.frz.eq_2 @AV.frz.eq_3) (And.intro @AV.frzs.eq_1 (And.intro @AV.frzs.eq_2 @AC.frz.eq_1)))) (And.intro (And.intro (And.intro @AC.frz.eq_2 @AC.frz.eq_3) (And.intro @AC.frz.eq_4 (And.intro @AC.frz.eq_5 @AC.frz.eq_6))) (And.intro (And.intro @AC.frzs.eq_1 (And.intro @AC.frzs.eq_2 @AB.frz.eq_1)) (And.intro @AB.frz.eq_2 (And.intro @lives.eq_1 @look_cons))))) (And.intro (And.intro (And.intro (And.intro @look_nil @List.any_cons.{0}) (And.intro @List.any_nil.{0} (And.intro @Bool.false_eq_true @and_true))) (And.intro (And.intro @true_and @and_self) (And.intro @Option.some.injEq.{0} (And.intro @decide_false @decide_true)))) (And.intro (And.intro (And.intro @Bool.or_false @Bool.or_true) (And.intro @Bool.false_or (And.intro @Bool.true_or @beq_self_eq_true.{0}))) (And.intro (And.intro @List.contains_nil.{0} (And.intro @List.contains_cons.{0} @List.length_map.{0, 0})) (And.intro @List.length_cons.{0} (And.intro @List.length_nil.{0} @List.length_append.{0}))))))
theorem smArg : type_of% (And.intro (And.intro (And.intro (And.intro @evArgs.eq_1 @evArgs.eq_2) (And.intro @evT.eq_1 @evT.eq_2)) (And.intro (And.intro @evT.eq_3 @evT.eq_4) (And.intro @cv.eq_1 @cv.eq_2))) (And.intro (And.intro (And.intro @cv.eq_3 @cv.eq_4) (And.intro @okV.eq_1 @okV.eq_2)) (And.intro (And.intro @okV.eq_3 @okV.eq_4) (And.intro @look_cons @Bool.false_eq_true)))) :=
 (And.intro (And.intro (And.intro (And.intro @evArgs.eq_1 @evArgs.eq_2) (And.intro @evT.eq_1 @evT.eq_2)) (And.intro (And.intro @evT.eq_3 @evT.eq_4) (And.intro @cv.eq_1 @cv.eq_2))) (And.intro (And.intro (And.intro @cv.eq_3 @cv.eq_4) (And.intro @okV.eq_1 @okV.eq_2)) (And.intro (And.intro @okV.eq_3 @okV.eq_4) (And.intro @look_cons @Bool.false_eq_true))))
theorem smLen : type_of% (And.intro (And.intro (And.intro @kSeq.eq_1 @kSeq.eq_2) (And.intro @kBlock.eq_1 @kBlock.eq_2)) (And.intro (And.intro @kFin.eq_1 @kFin.eq_2) (And.intro @kFin.eq_3 (And.intro @List.length_cons.{0} @List.length_nil.{0})))) :=
 (And.intro (And.intro (And.intro @kSeq.eq_1 @kSeq.eq_2) (And.intro @kBlock.eq_1 @kBlock.eq_2)) (And.intro (And.intro @kFin.eq_1 @kFin.eq_2) (And.intro @kFin.eq_3 (And.intro @List.length_cons.{0} @List.length_nil.{0}))))
end Go.Abs
set_option linter.unusedVariables false
set_option linter.unusedSimpArgs false
namespace Go.Proofs.Ytfhgknmkpegpbaa
open Go.RowKit
mutual
def Tm.sub (σ : Int → Tm) : Tm → Tm
 | .mk k n s l => if k = 1 then σ n else .mk k n s (Tm.subs σ l)
def Tm.subs (σ : Int → Tm) : List Tm → List Tm
 | [] => []
 | t :: ts => Tm.sub σ t :: Tm.subs σ ts
end
theorem Tm.subs_map (σ : Int → Tm) : ∀ l : List Tm, Tm.subs σ l = l.map (Tm.sub σ)
 | [] => by rw [Tm.subs]; rfl
 | x :: l => by rw [Tm.subs, Tm.subs_map σ l]; rfl
theorem sub_var (σ : Int → Tm) {t : Tm} (h : t.k = 1) : t.sub σ = σ t.n := by
 cases t with | mk k n s l => have h' : k = 1 := h; rw [Tm.sub, if_pos h']; rfl
theorem sub_node (σ : Int → Tm) {t : Tm} (h : t.k ≠ 1) : t.sub σ = .mk t.k t.n t.s (t.l.map (Tm.sub σ)) := by
 cases t with | mk k n s l => have h' : ¬ k = 1 := h; rw [Tm.sub, if_neg h', Tm.subs_map]; rfl
theorem sub_va (σ : Int → Tm) (n : Int) : (Tm.va n).sub σ = σ n := sub_var σ rfl
theorem nodeB_congr {t u : Tm} (h1 : t.k = u.k) (h2 : t.n = u.n) (h3 : t.s = u.s) (h4 : t.l.length = u.l.length) : nodeB t = nodeB u := by
 unfold nodeB bareB; rw [h1, h2, h3, h4]
theorem okB_parts {t : Tm} (h : t.okB = true) : nodeB t = true ∧ ∀ x ∈ t.l, x.okB = true := by
 rw [Tm.okB_eq, Bool.and_eq_true] at h; exact ⟨h.1, fun x hx => Tm.okBs_mem h.2 hx⟩
theorem okB_of {t : Tm} (h : nodeB t = true) (h2 : ∀ x ∈ t.l, x.okB = true) : t.okB = true := by
 rw [Tm.okB_eq, Bool.and_eq_true]; exact ⟨h, okBs_iff.2 h2⟩
theorem okB_va {t : Tm} (h : t.okB = true) (hk : t.k = 1) : t = Tm.va t.n := by
 have h1 := (okB_parts h).1
 unfold nodeB bareB at h1
 rw [if_pos hk] at h1
 simp only [Bool.and_eq_true, Bool.or_eq_true, decide_eq_true_eq, Bool.false_or, beq_iff_eq] at h1
 obtain ⟨⟨⟨⟨_, h2⟩, h3⟩, _⟩, _⟩ := h1
 have h2 : t.s.toList = [] := by simpa using h2
 have h3 : t.l = [] := by simpa using h3
 have h4 : t.s = ⟨#[]⟩ := bytes_ext (by rw [h2]; exact empty_toList.symm)
 rw [← t.eta, hk, h4, h3]; rfl
def Tm.has (t : Tm) (n : Int) : Prop := ∃ y ∈ t.pre, y.k = 1 ∧ y.n = n
theorem mem_pres {y : Tm} : ∀ {l : List Tm}, y ∈ Tm.pres l ↔ ∃ x ∈ l, y ∈ x.pre
 | [] => by simp [Tm.pres]
 | x :: l => by rw [Tm.pres, List.mem_append, mem_pres]; simp
theorem has_va {m n : Int} : (Tm.va m).has n ↔ n = m := by
 unfold Tm.has Tm.va
 rw [Tm.pre_eq]
 simp [Tm.pres, Tm.l, Tm.k, Tm.n, eq_comm]
theorem has_node {t : Tm} (hk : t.k ≠ 1) {n : Int} : t.has n ↔ ∃ x ∈ t.l, x.has n := by
 unfold Tm.has
 rw [Tm.pre_eq]
 constructor
 ·rintro ⟨y, hy, h1, h2⟩
  rcases List.mem_cons.1 hy with rfl | hy
  ·exact absurd h1 hk
  ·obtain ⟨x, hx, hy⟩ := mem_pres.1 hy; exact ⟨x, hx, y, hy, h1, h2⟩
 ·rintro ⟨x, hx, y, hy, h⟩
  exact ⟨y, List.mem_cons_of_mem _ (mem_pres.2 ⟨x, hx, hy⟩), h⟩
theorem Tm.okInd {p : Tm → Prop} (hv : ∀ n : Int, 0 ≤ n → n < 100000 → p (Tm.va n)) (hn : ∀ t : Tm, t.k ≠ 1 → nodeB t = true → (∀ x ∈ t.l, x.okB = true ∧ p x) → p t) (t : Tm) : t.okB = true → p t := by
 induction t using Tm.ind with
 | h t ih =>
  intro h
  by_cases hk : t.k = 1
  ·have := var_bd h hk
   rw [okB_va h hk]; exact hv _ this.1 this.2
  ·exact hn t hk (okB_parts h).1 fun x hx => ⟨(okB_parts h).2 x hx, ih x hx ((okB_parts h).2 x hx)⟩
theorem sub_ok {σ : Int → Tm} (t : Tm) : t.okB = true → ((t.sub σ).okB = true ↔ ∀ n, t.has n → (σ n).okB = true) := by
 refine Tm.okInd (p := fun t => ((t.sub σ).okB = true ↔ ∀ n, t.has n → (σ n).okB = true)) (fun n _ _ => ?_) (fun t hk hn ih => ?_) t
 ·rw [sub_va]
  exact ⟨fun h m hm => by rw [has_va.1 hm]; exact h, fun h => h n (has_va.2 rfl)⟩
 ·rw [sub_node σ hk]
  constructor
  ·intro h n hn
   obtain ⟨x, hx, hxn⟩ := (has_node hk).1 hn
   exact (ih x hx).2.1 ((okB_parts h).2 _ (List.mem_map.2 ⟨x, hx, rfl⟩)) n hxn
  ·intro h
   refine okB_of ?_ fun y hy => ?_
   ·exact (nodeB_congr (t := Tm.mk t.k t.n t.s (t.l.map (Tm.sub σ))) (u := t) rfl rfl rfl (by show (t.l.map _).length = _; rw [List.length_map])).trans hn
   ·obtain ⟨x, hx, rfl⟩ := List.mem_map.1 hy
    exact (ih x hx).2.2 fun n hn => h n ((has_node hk).2 ⟨x, hx, hn⟩)
theorem sizes_map_le {f g : Tm → Tm} : ∀ {l : List Tm}, (∀ x ∈ l, (f x).size = (g x).size) → Tm.sizes (l.map f) = Tm.sizes (l.map g)
 | [], _ => rfl
 | x :: l, h => by
  rw [List.map_cons, List.map_cons, Tm.sizes, Tm.sizes, h x (List.mem_cons_self ..), sizes_map_le fun y hy => h y (List.mem_cons_of_mem _ hy)]
theorem depths_map_eq {f g : Tm → Tm} : ∀ {l : List Tm}, (∀ x ∈ l, (f x).depth = (g x).depth) → Tm.depths (l.map f) = Tm.depths (l.map g)
 | [], _ => rfl
 | x :: l, h => by
  rw [List.map_cons, List.map_cons, Tm.depths, Tm.depths, h x (List.mem_cons_self ..), depths_map_eq fun y hy => h y (List.mem_cons_of_mem _ hy)]
theorem sub_ren {σ : Int → Tm} (t : Tm) : t.okB = true → (∀ n, t.has n → (σ n).k = 1 ∧ (σ n).l = []) → (t.sub σ).size = t.size ∧ (t.sub σ).depth = t.depth := by
 refine Tm.okInd (p := fun t => (∀ n, t.has n → (σ n).k = 1 ∧ (σ n).l = []) → (t.sub σ).size = t.size ∧ (t.sub σ).depth = t.depth) (fun n _ _ h => ?_) (fun t hk hn ih h => ?_) t
 ·have := (h n (has_va.2 rfl)).2
  rw [sub_va, Tm.size_eq, Tm.depth_eq, this]; exact ⟨rfl, rfl⟩
 ·have ih' := fun x hx => (ih x hx).2 fun n hn => h n ((has_node hk).2 ⟨x, hx, hn⟩)
  rw [sub_node σ hk, Tm.size, Tm.depth]
  rw [t.size_eq, t.depth_eq]
  have h1 := sizes_map_le (f := Tm.sub σ) (g := id) (l := t.l) fun x hx => (ih' x hx).1
  have h2 := depths_map_eq (f := Tm.sub σ) (g := id) (l := t.l) fun x hx => (ih' x hx).2
  rw [List.map_id] at h1 h2
  rw [h1, h2]; exact ⟨rfl, rfl⟩
def sgF (F : Int → Option Tm) : Int → Tm := fun n => (F n).getD (Tm.va n)
theorem rep_sub (F : Int → Option Tm) (N : Nat) : (∀ (t : Tm) (L : Int), t.size ≤ N → t.okB = true → (((t.sub (sgF F)).size : Int) ≤ L → t.rep F L = (t.sub (sgF F), L - (t.sub (sgF F)).size)) ∧ (L < ((t.sub (sgF F)).size : Int) → (t.rep F L).2 < 0)) ∧
  (∀ (l : List Tm) (L : Int), Tm.sizes l ≤ N → Tm.okBs l = true → ((Tm.sizes (l.map (Tm.sub (sgF F))) : Int) ≤ L → Tm.reps F l L = (l.map (Tm.sub (sgF F)), L - Tm.sizes (l.map (Tm.sub (sgF F))))) ∧ (L < (Tm.sizes (l.map (Tm.sub (sgF F))) : Int) → (Tm.reps F l L).2 < 0)) := by
 induction N with
 | zero =>
  refine ⟨fun t L h => by have := t.size_pos; omega, fun l L h => ?_⟩
  cases l with
  | nil => intro _; rw [Tm.reps_nil]; exact ⟨fun h => by simp [Tm.sizes], fun h => by simp [Tm.sizes] at h ⊢; omega⟩
  | cons a l => rw [Tm.sizes] at h; have := a.size_pos; omega
 | succ n ih =>
  have h1 : ∀ (t : Tm) (L : Int), t.size ≤ n + 1 → t.okB = true → (((t.sub (sgF F)).size : Int) ≤ L → t.rep F L = (t.sub (sgF F), L - (t.sub (sgF F)).size)) ∧ (L < ((t.sub (sgF F)).size : Int) → (t.rep F L).2 < 0) := fun t L h ho => by
   by_cases hk : t.k = 1
   ·cases hf : F t.n with
    | some x =>
     rw [Tm.rep_hit F t L hk hf, sub_var _ hk, sgF, hf]
     exact ⟨fun _ => rfl, fun h => by simp at h ⊢; omega⟩
    | none =>
     rw [Tm.rep_def F t L (fun x _ e => by rw [hf] at e; cases e), sub_var _ hk, sgF, hf]
     have := okB_va ho hk
     rw [this]
     show (_ → (Tm.mk 1 t.n _ (Tm.reps F [] (L - 1)).1, (Tm.reps F [] (L - 1)).2) = _) ∧ _
     rw [Tm.reps_nil]
     have hs : (Tm.va t.n).size = 1 := rfl
     simp only [Option.getD_none, va_n, hs]
     exact ⟨fun _ => rfl, fun h => by rw [show (Tm.va t.n).l = [] from rfl, Tm.reps_nil]; simp at h ⊢; omega⟩
   ·rw [Tm.rep_def F t L (fun x e => absurd e hk), sub_node _ hk]
    rw [t.size_eq] at h
    rw [Tm.okB_eq, Bool.and_eq_true] at ho
    have h2 := ih.2 t.l (L - 1) (by omega) ho.2
    rw [Tm.size]
    constructor
    ·intro h3
     rw [h2.1 (by omega)]
     simp only [Prod.mk.injEq, true_and]
     omega
    ·intro h3
     exact h2.2 (by omega)
  refine ⟨h1, fun l => ?_⟩
  induction l with
  | nil => intro L h _; rw [Tm.reps_nil]; exact ⟨fun h => by simp [Tm.sizes], fun h => by simp [Tm.sizes] at h ⊢; omega⟩
  | cons a l ihl =>
   intro L h ho
   rw [Tm.sizes] at h
   rw [Tm.okBs, Bool.and_eq_true] at ho
   rw [List.map_cons, Tm.sizes, Tm.reps_cons]
   have h2 := h1 a L (by omega) ho.1
   have h5 := (a.sub (sgF F)).size_pos
   constructor
   ·intro h3
    rw [if_neg (by omega), h2.1 (by omega)]
    have h4 := (ihl (L - (a.sub (sgF F)).size) (by omega) ho.2).1 (by omega)
    simp only
    rw [h4]
    simp only [Prod.mk.injEq, true_and]
    omega
   ·intro h3
    by_cases hL : L < 0
    ·rw [if_pos hL]; exact hL
    ·rw [if_neg hL]
     simp only
     by_cases h6 : ((a.sub (sgF F)).size : Int) ≤ L
     ·rw [h2.1 h6]
      exact (ihl (L - (a.sub (sgF F)).size) (by omega) ho.2).2 (by omega)
     ·have h7 := h2.2 (by omega)
      rw [Tm.reps_neg F l h7]
      exact h7
theorem repT_eq (F : Int → Option Tm) {t : Tm} (h : t.okB = true) : repT F t = if isB (t.sub (sgF F)) = true then some (t.sub (sgF F)) else none := by
 have h1 := (rep_sub F t.size).1 t 4000 (Nat.le_refl _) h
 unfold repT
 by_cases hs : (t.sub (sgF F)).size ≤ 4000
 ·rw [h1.1 (by omega)]
  rw [if_neg (by simp only; omega)]
 ·rw [if_pos (h1.2 (by omega)), if_neg fun e => hs (isB_iff.1 e).2.1]
def sgL (l : List Tm) : Int → Tm := sgF (pickF l)
theorem subst_eq {t : Tm} {l : List Tm} (h : isB t = true) (hl : subB l = true) : substR t l = if isB (t.sub (sgL l)) = true then some (t.sub (sgL l)) else none := by
 unfold substR
 rw [if_pos ⟨h, hl⟩, repT_eq _ (isB_iff.1 h).1]; rfl
theorem sub_isB_ren {σ : Int → Tm} {t : Tm} (h : isB t = true) (hr : ∀ n, t.has n → ∃ m : Int, 0 ≤ m ∧ m < 100000 ∧ σ n = Tm.va m) : isB (t.sub σ) = true := by
 obtain ⟨h1, h2, h3⟩ := isB_iff.1 h
 obtain ⟨h4, h5⟩ := sub_ren (σ := σ) t h1 fun n hn => by obtain ⟨m, _, _, e⟩ := hr n hn; rw [e]; exact ⟨rfl, rfl⟩
 exact isB_iff.2 ⟨(sub_ok t h1).2 fun n hn => by obtain ⟨m, h0, h1, e⟩ := hr n hn; rw [e]; exact va_ok h0 h1, by omega, by omega⟩
end Go.Proofs.Ytfhgknmkpegpbaa
set_option linter.unusedVariables false
set_option linter.unusedSimpArgs false
namespace Go.Proofs.Ytfhgknmkpegpbaa
open Go.RowKit
theorem sgL_at {s : List Tm} {j : Nat} {y : Tm} (h : s[j]? = some y) : sgL s j = if freeB y = true then Tm.va j else y := by
 unfold sgL sgF pickF
 rw [Int.toNat_natCast, h]
 simp only
 split <;> rfl
theorem sgL_none {s : List Tm} {j : Nat} (h : ¬ j < s.length) : sgL s j = Tm.va j := by
 unfold sgL sgF pickF
 rw [Int.toNat_natCast, List.getElem?_eq_none (by omega)]; rfl
end Go.Proofs.Ytfhgknmkpegpbaa
set_option linter.unusedVariables false
set_option linter.unusedSimpArgs false
namespace Go.Proofs.Ytfhgknmkpegpbaa
theorem sub_nodeV {σ : Int → Tm} {t : Tm} (hok : t.okB = true) (h : t.k = 1 → σ t.n = Tm.va t.n) : t.sub σ = .mk t.k t.n t.s (t.l.map (Tm.sub σ)) := by
 by_cases hk : t.k = 1
 ·rw [sub_var _ hk, h hk]
  obtain ⟨m, hm⟩ : ∃ m, m = t.n := ⟨_, rfl⟩
  have e := okB_va hok hk
  rw [← hm] at e ⊢
  subst e
  rfl
 ·cases t with
  | mk k m s l => rw [Tm.sub, if_neg (show ¬ k = 1 from hk), Tm.subs_map]; rfl
theorem mk_size (k n : Int) (s : ByteArray) (l : List Tm) : (Tm.mk k n s l).size = 1 + Tm.sizes l := by rw [Tm.size]
theorem mk_depth (k n : Int) (s : ByteArray) (l : List Tm) : (Tm.mk k n s l).depth = Tm.depths l + 1 := by rw [Tm.depth]
theorem sizes_part {f : Tm → Tm} {l : List Tm} {j : Nat} {x : Tm} (h : l[j]? = some x) : Tm.sizes ((l.take j).map f) + (f x).size ≤ Tm.sizes (l.map f) := by
 obtain ⟨hj, rfl⟩ := List.getElem?_eq_some_iff.1 h
 conv => rhs; rw [← List.take_append_drop j l, List.drop_eq_getElem_cons hj]
 rw [List.map_append, Tm.sizes_append, List.map_cons, Tm.sizes]
 omega
theorem sizes_snoc {f : Tm → Tm} {l : List Tm} {j : Nat} {x : Tm} (h : l[j]? = some x) : Tm.sizes ((l.take (j + 1)).map f) = Tm.sizes ((l.take j).map f) + (f x).size := by
 obtain ⟨hj, rfl⟩ := List.getElem?_eq_some_iff.1 h
 rw [List.take_add_one, List.getElem?_eq_getElem hj, Option.toList_some, List.map_append, Tm.sizes_append, List.map_cons, List.map_nil, Tm.sizes, Tm.sizes]
 omega
theorem fits_or (f : Tm → Tm) (l : List Tm) (L d : Int) : ∃ J, J ≤ l.length ∧ ((Tm.sizes ((l.take J).map f) : Int) ≤ L ∨ J = 0) ∧ (∀ j x, j < J → l[j]? = some x → ((f x).size : Int) ≤ L - Tm.sizes ((l.take j).map f) ∧ ((f x).depth : Int) ≤ d) ∧
  (J = l.length ∨ ∃ x, l[J]? = some x ∧ ¬(((f x).size : Int) ≤ L - Tm.sizes ((l.take J).map f) ∧ ((f x).depth : Int) ≤ d)) := by
 have key : ∀ n, n ≤ l.length → (∃ J, J ≤ l.length ∧ ((Tm.sizes ((l.take J).map f) : Int) ≤ L ∨ J = 0) ∧ (∀ j x, j < J → l[j]? = some x → ((f x).size : Int) ≤ L - Tm.sizes ((l.take j).map f) ∧ ((f x).depth : Int) ≤ d) ∧
   ((J = n ∧ (J = l.length ∨ J < l.length)) ∨ ∃ x, l[J]? = some x ∧ ¬(((f x).size : Int) ≤ L - Tm.sizes ((l.take J).map f) ∧ ((f x).depth : Int) ≤ d))) := by
  intro n
  induction n with
  | zero => intro _; exact ⟨0, by omega, .inr rfl, fun j x hj => by omega, .inl ⟨rfl, by omega⟩⟩
  | succ n ih =>
   intro hn
   obtain ⟨J, h1, h2, h3, h4⟩ := ih (by omega)
   rcases h4 with ⟨rfl, -⟩ | h4
   ·obtain ⟨x, hx⟩ : ∃ x, l[J]? = some x := ⟨_, List.getElem?_eq_getElem (by omega)⟩
    by_cases hc : ((f x).size : Int) ≤ L - Tm.sizes ((l.take J).map f) ∧ ((f x).depth : Int) ≤ d
    ·refine ⟨J + 1, hn, .inl ?_, fun j y hj hy => ?_, .inl ⟨rfl, by omega⟩⟩
     ·rw [sizes_snoc hx]; omega
     ·by_cases e : j = J
      ·subst e; rw [hx] at hy; cases hy; exact hc
      ·exact h3 j y (by omega) hy
    ·exact ⟨J, h1, h2, h3, .inr ⟨x, hx, hc⟩⟩
   ·exact ⟨J, h1, h2, h3, .inr h4⟩
 obtain ⟨J, h1, h2, h3, h4⟩ := key l.length (Nat.le_refl _)
 exact ⟨J, h1, h2, h3, h4.elim (fun h => .inl h.1) .inr⟩
end Go.Proofs.Ytfhgknmkpegpbaa
set_option linter.unusedVariables false
set_option linter.unusedSimpArgs false
namespace Go.Proofs.Ytfhgknmkpegpbaa
open Go Go.Abs Go.Proofs Go.RowKit
def fV : Option Tm → AV
 | none => .agg zA
 | some x => tA x
abbrev bI (v : Int) : AB := .box 3 [.f (.v (.int .i64 v))]
def ApOk (l : List Tm) (t : Tm) (L d : Int) : Prop :=
 if ((t.sub (sgL l)).size : Int) ≤ L ∧ ((t.sub (sgL l)).depth : Int) ≤ d then ACall Try.prog 99 [tA t, tsA l, .one (.ptr 0 0), vI d] [bI L] (.tup [tA (t.sub (sgL l)), vB true]) [bI (L - (t.sub (sgL l)).size)]
 else ∃ o v, ACall Try.prog 99 [tA t, tsA l, .one (.ptr 0 0), vI d] [bI L] (.tup [fV o, vB false]) [bI v]
set_option maxRecDepth 100000 in
set_option maxHeartbeats 4000000 in
theorem apply_early (l : List Tm) (hl : l.length ≤ 100000) (t : Tm) (L d : Int) (hok : t.okB = true) (hL : 0 ≤ L) (hL2 : L ≤ 1000000) (hd : 0 ≤ d) (hd2 : d ≤ 1000000) (hσ : ¬ (t.k = 1 ∧ t.n < l.length ∧ ∀ y, l[t.n.toNat]? = some y → freeB y = false)) (he : L < 1 ∨ d < 1) :
  ACall Try.prog 99 [tA t, tsA l, .one (.ptr 0 0), vI d] [bI L] (.tup [.agg zA, vB false]) [bI (L - 1)] := by
 refine acall_of Try.func99 (by decide) rfl Try.results99 (by rw [Try.ntmps99]; simp) (by simp) ?_
 rw [Try.ntmps99]
 simp only [enumL, List.length_nil, List.length_cons, Nat.reduceAdd]
 repeat (first | refine W.seq ?_ | refine W.block ?_)
 refine W.regionK (by decide) fun N hN => ?_
 repeat (first
  | refine RunS.any (by rfl) (by simp only [smEval, Nat.reduceAdd, Nat.reduceMul, Nat.reduceSub, Nat.reduceBEq, Nat.reduceEqDiff, Nat.reduceLeDiff, Nat.reduceLT, Nat.reduceMod, reduceIte, Int.reduceLE, Int.reduceLT, Int.reduceToNat, Nat.reducePow, ty3, ty4, ty9, ty22, ty25, ty28, ty39, ty122]; try rfl) (by rfl) (by simp only [smPut, Nat.reduceBEq, reduceIte]; exact ⟨rfl, rfl⟩) ?_
  | refine RunS.skip (by rfl) (by simp only [smPut, Nat.reduceBEq, reduceIte]; try rfl) ?_)
 refine RunS.nil (hN _ _ _ ?_)
 clear hN N
 simp only [smLen, Nat.reduceAdd, Nat.reduceMul, reduceIte, Nat.reduceEqDiff]
 refine W.mid (fun T H nx => Wk 112 1 T H nx [(1, tsA l), (2, .one (.ptr 0 0)), (3, vI d), (4, .one (.ptr 1 0)), (8, .one (.ptr 2 0))] [(0, bI L), (1, .box 25 (cA t)), (2, .box 25 zA)] 3) ?_ ?_
 ·by_cases hk : t.k = 1
  ·have dk : decide (t.k = 1) = true := by simpa using hk
   have hb := var_bd hok hk
   obtain ⟨m, hm⟩ : ∃ m : Nat, t.n = m := ⟨t.n.toNat, by omega⟩
   by_cases hn : m < l.length
   ·obtain ⟨y, hy⟩ : ∃ y, l[m]? = some y := ⟨_, List.getElem?_eq_getElem (by omega)⟩
    have hfy : freeB y = true := by
     cases h : freeB y
     ·refine absurd ⟨hk, by omega, fun z hz => ?_⟩ hσ
      rw [hm, Int.toNat_natCast, hy] at hz; cases hz; exact h
     ·rfl
    have h1 := refFree_ok y
    rw [hfy] at h1
    have dn : decide ((m : Int) < (l.length : Int)) = true := by simp; omega
    have hm0 : (0 : Int) ≤ (m : Int) := by omega
    repeat (first
     | refine RunS.any (by rfl) (by simp only [smEval, Nat.reduceAdd, Nat.reduceMul, Nat.reduceSub, Nat.reduceBEq, Nat.reduceEqDiff, Nat.reduceLeDiff, Nat.reduceLT, Nat.reduceMod, reduceIte, Int.reduceLE, Int.reduceLT, Int.reduceToNat, Nat.reducePow, ty3, ty4, ty9, ty22, ty25, ty28, ty39, ty122, dk, hm, dn, hy, hm0, treeC_eq y]; try rfl) (by rfl) (by simp only [smPut, Nat.reduceBEq, reduceIte]; exact ⟨rfl, rfl⟩) ?_
     | refine RunS.callQ (by rfl) rfl (by simp only [smArg, Nat.reduceBEq, reduceIte]; try rfl) (by first | exact h1) rfl (by rfl) (by rfl) ?_
     | refine RunS.skip (by rfl) (by simp only [smPut, Nat.reduceBEq, reduceIte]; try rfl) ?_
     | refine W.seq ?_ | refine W.block ?_ | refine W.regionK (by decide) fun N hN => ?_
     | (refine RunS.nil (hN _ _ _ ?_); clear hN N; simp only [smLen, Nat.reduceAdd, Nat.reduceMul, reduceIte, Nat.reduceEqDiff])
     | ((first | refine W.exit ?_ | refine W.ret ?_ | refine W.skip ?_); try simp only [smLen, reduceIte, Nat.reduceEqDiff])
     | refine W.condF (by rfl) ?_ | refine W.condT (by rfl) ?_)
    refine Wk.keep [] (by rfl) ?_ ?_ <;> simp only [smKeep, Nat.reduceBEq, Nat.reduceLT, reduceIte]
   ·have dn : decide ((m : Int) < (l.length : Int)) = false := by simp; omega
    repeat (first
     | refine RunS.any (by rfl) (by simp only [smEval, Nat.reduceAdd, Nat.reduceMul, Nat.reduceSub, Nat.reduceBEq, Nat.reduceEqDiff, Nat.reduceLeDiff, Nat.reduceLT, Nat.reduceMod, reduceIte, Int.reduceLE, Int.reduceLT, Int.reduceToNat, Nat.reducePow, ty3, ty4, ty9, ty22, ty25, ty28, ty39, ty122, dk, hm, dn]; try rfl) (by rfl) (by simp only [smPut, Nat.reduceBEq, reduceIte]; exact ⟨rfl, rfl⟩) ?_
     | refine RunS.skip (by rfl) (by simp only [smPut, Nat.reduceBEq, reduceIte]; try rfl) ?_
     | refine W.seq ?_ | refine W.block ?_ | refine W.regionK (by decide) fun N hN => ?_
     | (refine RunS.nil (hN _ _ _ ?_); clear hN N; simp only [smLen, Nat.reduceAdd, Nat.reduceMul, reduceIte, Nat.reduceEqDiff])
     | ((first | refine W.exit ?_ | refine W.ret ?_ | refine W.skip ?_); try simp only [smLen, reduceIte, Nat.reduceEqDiff])
     | refine W.condF (by rfl) ?_ | refine W.condT (by rfl) ?_)
    refine Wk.keep [] (by rfl) ?_ ?_ <;> simp only [smKeep, Nat.reduceBEq, Nat.reduceLT, reduceIte]
  ·have dk : decide (t.k = 1) = false := by simpa using hk
   repeat (first
    | refine RunS.any (by rfl) (by simp only [smEval, Nat.reduceAdd, Nat.reduceMul, Nat.reduceSub, Nat.reduceBEq, Nat.reduceEqDiff, Nat.reduceLeDiff, Nat.reduceLT, Nat.reduceMod, reduceIte, Int.reduceLE, Int.reduceLT, Int.reduceToNat, Nat.reducePow, ty3, ty4, ty9, ty22, ty25, ty28, ty39, ty122, dk]; try rfl) (by rfl) (by simp only [smPut, Nat.reduceBEq, reduceIte]; exact ⟨rfl, rfl⟩) ?_
    | refine RunS.skip (by rfl) (by simp only [smPut, Nat.reduceBEq, reduceIte]; try rfl) ?_
    | refine W.seq ?_ | refine W.block ?_ | refine W.regionK (by decide) fun N hN => ?_
    | (refine RunS.nil (hN _ _ _ ?_); clear hN N; simp only [smLen, Nat.reduceAdd, Nat.reduceMul, reduceIte, Nat.reduceEqDiff])
    | ((first | refine W.exit ?_ | refine W.ret ?_ | refine W.skip ?_); try simp only [smLen, reduceIte, Nat.reduceEqDiff])
    | refine W.condF (by rfl) ?_ | refine W.condT (by rfl) ?_)
   refine Wk.keep [] (by rfl) ?_ ?_ <;> simp only [smKeep, Nat.reduceBEq, Nat.reduceLT, reduceIte]
 intro T H nx hw'
 refine W.to ?_ hw'
 clear hw' T H nx hσ
 have w1 : IntKind.i64.wrap (L - 1) = L - 1 := wrap_i64 (by omega) (by omega)
 by_cases c1 : L < 1
 ·have d1 : decide (L - 1 < 0) = true := by simp only [decide_eq_true_eq]; omega
  repeat (first
   | refine RunS.any (by rfl) (by simp only [smEval, Nat.reduceAdd, Nat.reduceMul, Nat.reduceSub, Nat.reduceBEq, Nat.reduceEqDiff, Nat.reduceLeDiff, Nat.reduceLT, Nat.reduceMod, reduceIte, Int.reduceLE, Int.reduceLT, Int.reduceToNat, Nat.reducePow, ty3, ty4, ty9, ty22, ty25, ty28, ty39, ty122, w1, d1]; try rfl) (by rfl) (by simp only [smPut, Nat.reduceBEq, reduceIte]; exact ⟨rfl, rfl⟩) ?_
   | refine RunS.skip (by rfl) (by simp only [smPut, Nat.reduceBEq, reduceIte]; try rfl) ?_
   | refine W.seq ?_ | refine W.block ?_ | refine W.regionK (by decide) fun N hN => ?_
   | (refine RunS.nil (hN _ _ _ ?_); clear hN N; simp only [smLen, Nat.reduceAdd, Nat.reduceMul, reduceIte, Nat.reduceEqDiff])
   | ((first | refine W.exit ?_ | refine W.ret ?_ | refine W.skip ?_); try simp only [smLen, reduceIte, Nat.reduceEqDiff])
   | refine W.condF (by rfl) ?_ | refine W.condT (by rfl) ?_)
  refine Fin.keep (T' := [(8, .one (.ptr 2 0)), (9, vB false)]) (H' := [(0, bI (L - 1)), (2, .box 25 zA)]) (nx' := 1000) ?_ [0] (xs := ?_) ?_ ?_ ?_ ?_
  ·refine Wk.keep [] (by rfl) ?_ ?_ <;> simp only [smKeep, Nat.reduceBEq, Nat.reduceLT, reduceIte]
  rotate_left
  ·simp only [smEval, Nat.reduceAdd, Nat.reduceMul, Nat.reduceSub, Nat.reduceBEq, Nat.reduceEqDiff, Nat.reduceLeDiff, Nat.reduceLT, Nat.reduceMod, reduceIte, Int.reduceLE, Int.reduceLT, Int.reduceToNat, Nat.reducePow, ty3, ty4, ty9, ty22, ty25, ty28, ty39, ty122, resA]; try rfl
  ·simp only [outA, smPut, Nat.reduceBEq, reduceIte]
  ·kernel_rfl
  ·simp only [enumL, List.forall_mem_cons, List.not_mem_nil, false_implies, implies_true, and_true, look_cons, look_nil, smPut, Nat.reduceBEq, reduceIte, Nat.reduceAdd, List.map_append, List.length_append, List.length_cons, List.length_nil]; try trivial
 ·have d1 : decide (L - 1 < 0) = false := by simp only [decide_eq_false_iff_not]; omega
  have d2 : decide (d < 1) = true := by simp only [decide_eq_true_eq]; omega
  repeat (first
   | refine RunS.any (by rfl) (by simp only [smEval, Nat.reduceAdd, Nat.reduceMul, Nat.reduceSub, Nat.reduceBEq, Nat.reduceEqDiff, Nat.reduceLeDiff, Nat.reduceLT, Nat.reduceMod, reduceIte, Int.reduceLE, Int.reduceLT, Int.reduceToNat, Nat.reducePow, ty3, ty4, ty9, ty22, ty25, ty28, ty39, ty122, w1, d1, d2]; try rfl) (by rfl) (by simp only [smPut, Nat.reduceBEq, reduceIte]; exact ⟨rfl, rfl⟩) ?_
   | refine RunS.skip (by rfl) (by simp only [smPut, Nat.reduceBEq, reduceIte]; try rfl) ?_
   | refine W.seq ?_ | refine W.block ?_ | refine W.regionK (by decide) fun N hN => ?_
   | (refine RunS.nil (hN _ _ _ ?_); clear hN N; simp only [smLen, Nat.reduceAdd, Nat.reduceMul, reduceIte, Nat.reduceEqDiff])
   | ((first | refine W.exit ?_ | refine W.ret ?_ | refine W.skip ?_); try simp only [smLen, reduceIte, Nat.reduceEqDiff])
   | refine W.condF (by rfl) ?_ | refine W.condT (by rfl) ?_)
  refine Fin.keep (T' := [(8, .one (.ptr 2 0)), (9, vB false)]) (H' := [(0, bI (L - 1)), (2, .box 25 zA)]) (nx' := 1000) ?_ [0] (xs := ?_) ?_ ?_ ?_ ?_
  ·refine Wk.keep [] (by rfl) ?_ ?_ <;> simp only [smKeep, Nat.reduceBEq, Nat.reduceLT, reduceIte]
  rotate_left
  ·simp only [smEval, Nat.reduceAdd, Nat.reduceMul, Nat.reduceSub, Nat.reduceBEq, Nat.reduceEqDiff, Nat.reduceLeDiff, Nat.reduceLT, Nat.reduceMod, reduceIte, Int.reduceLE, Int.reduceLT, Int.reduceToNat, Nat.reducePow, ty3, ty4, ty9, ty22, ty25, ty28, ty39, ty122, resA]; try rfl
  ·simp only [outA, smPut, Nat.reduceBEq, reduceIte]
  ·kernel_rfl
  ·simp only [enumL, List.forall_mem_cons, List.not_mem_nil, false_implies, implies_true, and_true, look_cons, look_nil, smPut, Nat.reduceBEq, reduceIte, Nat.reduceAdd, List.map_append, List.length_append, List.length_cons, List.length_nil]; try trivial
set_option maxRecDepth 100000 in
set_option maxHeartbeats 4000000 in
theorem apply_node (l : List Tm) (hl : l.length ≤ 100000) (t : Tm) (L d : Int) (hok : t.okB = true) (hsz : t.size ≤ 1000000) (hL : 1 ≤ L) (hL2 : L ≤ 1000000) (hd : 1 ≤ d) (hd2 : d ≤ 1000000) (hσ : ¬ (t.k = 1 ∧ t.n < l.length ∧ ∀ y, l[t.n.toNat]? = some y → freeB y = false))
  (J : Nat) (hJ : J ≤ t.l.length) (hpre : ∀ j x, j < J → t.l[j]? = some x → ACall Try.prog 99 [tA x, tsA l, .one (.ptr 0 0), vI (d - 1)] [bI (L - 1 - Tm.sizes ((t.l.take j).map (Tm.sub (sgL l))))] (.tup [tA (x.sub (sgL l)), vB true]) [bI (L - 1 - Tm.sizes ((t.l.take j).map (Tm.sub (sgL l))) - (x.sub (sgL l)).size)])
  (r : AV) (L' : Int) (hend : (J = t.l.length ∧ r = .tup [tA (.mk t.k t.n t.s (t.l.map (Tm.sub (sgL l)))), vB true] ∧ L' = L - 1 - Tm.sizes (t.l.map (Tm.sub (sgL l)))) ∨
   ∃ x o, t.l[J]? = some x ∧ ACall Try.prog 99 [tA x, tsA l, .one (.ptr 0 0), vI (d - 1)] [bI (L - 1 - Tm.sizes ((t.l.take J).map (Tm.sub (sgL l))))] (.tup [fV o, vB false]) [bI L'] ∧ r = .tup [.agg zA, vB false]) :
  ACall Try.prog 99 [tA t, tsA l, .one (.ptr 0 0), vI d] [bI L] r [bI L'] := by
 have hjz : t.l.length ≤ 1000000 := by have := len_le_sizes t.l; have := t.size_eq; omega
 refine acall_of Try.func99 (by decide) rfl Try.results99 (by rw [Try.ntmps99]; simp) (by simp) ?_
 rw [Try.ntmps99]
 simp only [enumL, List.length_nil, List.length_cons, Nat.reduceAdd]
 repeat (first | refine W.seq ?_ | refine W.block ?_)
 refine W.regionK (by decide) fun N hN => ?_
 repeat (first
  | refine RunS.any (by rfl) (by simp only [smEval, Nat.reduceAdd, Nat.reduceMul, Nat.reduceSub, Nat.reduceBEq, Nat.reduceEqDiff, Nat.reduceLeDiff, Nat.reduceLT, Nat.reduceMod, reduceIte, Int.reduceLE, Int.reduceLT, Int.reduceToNat, Nat.reducePow, ty3, ty4, ty9, ty22, ty25, ty28, ty39, ty122]; try rfl) (by rfl) (by simp only [smPut, Nat.reduceBEq, reduceIte]; exact ⟨rfl, rfl⟩) ?_
  | refine RunS.skip (by rfl) (by simp only [smPut, Nat.reduceBEq, reduceIte]; try rfl) ?_)
 refine RunS.nil (hN _ _ _ ?_)
 clear hN N
 simp only [smLen, Nat.reduceAdd, Nat.reduceMul, reduceIte, Nat.reduceEqDiff]
 refine W.mid (fun T H nx => Wk 112 1 T H nx [(1, tsA l), (2, .one (.ptr 0 0)), (3, vI d), (4, .one (.ptr 1 0)), (8, .one (.ptr 2 0))] [(0, bI L), (1, .box 25 (cA t)), (2, .box 25 zA)] 3) ?_ ?_
 ·by_cases hk : t.k = 1
  ·have dk : decide (t.k = 1) = true := by simpa using hk
   have hb := var_bd hok hk
   obtain ⟨m, hm⟩ : ∃ m : Nat, t.n = m := ⟨t.n.toNat, by omega⟩
   by_cases hn : m < l.length
   ·obtain ⟨y, hy⟩ : ∃ y, l[m]? = some y := ⟨_, List.getElem?_eq_getElem (by omega)⟩
    have hfy : freeB y = true := by
     cases h : freeB y
     ·refine absurd ⟨hk, by omega, fun z hz => ?_⟩ hσ
      rw [hm, Int.toNat_natCast, hy] at hz; cases hz; exact h
     ·rfl
    have h1 := refFree_ok y
    rw [hfy] at h1
    have dn : decide ((m : Int) < (l.length : Int)) = true := by simp; omega
    have hm0 : (0 : Int) ≤ (m : Int) := by omega
    repeat (first
     | refine RunS.any (by rfl) (by simp only [smEval, Nat.reduceAdd, Nat.reduceMul, Nat.reduceSub, Nat.reduceBEq, Nat.reduceEqDiff, Nat.reduceLeDiff, Nat.reduceLT, Nat.reduceMod, reduceIte, Int.reduceLE, Int.reduceLT, Int.reduceToNat, Nat.reducePow, ty3, ty4, ty9, ty22, ty25, ty28, ty39, ty122, dk, hm, dn, hy, hm0, treeC_eq y]; try rfl) (by rfl) (by simp only [smPut, Nat.reduceBEq, reduceIte]; exact ⟨rfl, rfl⟩) ?_
     | refine RunS.callQ (by rfl) rfl (by simp only [smArg, Nat.reduceBEq, reduceIte]; try rfl) (by first | exact h1) rfl (by rfl) (by rfl) ?_
     | refine RunS.skip (by rfl) (by simp only [smPut, Nat.reduceBEq, reduceIte]; try rfl) ?_
     | refine W.seq ?_ | refine W.block ?_ | refine W.regionK (by decide) fun N hN => ?_
     | (refine RunS.nil (hN _ _ _ ?_); clear hN N; simp only [smLen, Nat.reduceAdd, Nat.reduceMul, reduceIte, Nat.reduceEqDiff])
     | ((first | refine W.exit ?_ | refine W.ret ?_ | refine W.skip ?_); try simp only [smLen, reduceIte, Nat.reduceEqDiff])
     | refine W.condF (by rfl) ?_ | refine W.condT (by rfl) ?_)
    refine Wk.keep [] (by rfl) ?_ ?_ <;> simp only [smKeep, Nat.reduceBEq, Nat.reduceLT, reduceIte]
   ·have dn : decide ((m : Int) < (l.length : Int)) = false := by simp; omega
    repeat (first
     | refine RunS.any (by rfl) (by simp only [smEval, Nat.reduceAdd, Nat.reduceMul, Nat.reduceSub, Nat.reduceBEq, Nat.reduceEqDiff, Nat.reduceLeDiff, Nat.reduceLT, Nat.reduceMod, reduceIte, Int.reduceLE, Int.reduceLT, Int.reduceToNat, Nat.reducePow, ty3, ty4, ty9, ty22, ty25, ty28, ty39, ty122, dk, hm, dn]; try rfl) (by rfl) (by simp only [smPut, Nat.reduceBEq, reduceIte]; exact ⟨rfl, rfl⟩) ?_
     | refine RunS.skip (by rfl) (by simp only [smPut, Nat.reduceBEq, reduceIte]; try rfl) ?_
     | refine W.seq ?_ | refine W.block ?_ | refine W.regionK (by decide) fun N hN => ?_
     | (refine RunS.nil (hN _ _ _ ?_); clear hN N; simp only [smLen, Nat.reduceAdd, Nat.reduceMul, reduceIte, Nat.reduceEqDiff])
     | ((first | refine W.exit ?_ | refine W.ret ?_ | refine W.skip ?_); try simp only [smLen, reduceIte, Nat.reduceEqDiff])
     | refine W.condF (by rfl) ?_ | refine W.condT (by rfl) ?_)
    refine Wk.keep [] (by rfl) ?_ ?_ <;> simp only [smKeep, Nat.reduceBEq, Nat.reduceLT, reduceIte]
  ·have dk : decide (t.k = 1) = false := by simpa using hk
   repeat (first
    | refine RunS.any (by rfl) (by simp only [smEval, Nat.reduceAdd, Nat.reduceMul, Nat.reduceSub, Nat.reduceBEq, Nat.reduceEqDiff, Nat.reduceLeDiff, Nat.reduceLT, Nat.reduceMod, reduceIte, Int.reduceLE, Int.reduceLT, Int.reduceToNat, Nat.reducePow, ty3, ty4, ty9, ty22, ty25, ty28, ty39, ty122, dk]; try rfl) (by rfl) (by simp only [smPut, Nat.reduceBEq, reduceIte]; exact ⟨rfl, rfl⟩) ?_
    | refine RunS.skip (by rfl) (by simp only [smPut, Nat.reduceBEq, reduceIte]; try rfl) ?_
    | refine W.seq ?_ | refine W.block ?_ | refine W.regionK (by decide) fun N hN => ?_
    | (refine RunS.nil (hN _ _ _ ?_); clear hN N; simp only [smLen, Nat.reduceAdd, Nat.reduceMul, reduceIte, Nat.reduceEqDiff])
    | ((first | refine W.exit ?_ | refine W.ret ?_ | refine W.skip ?_); try simp only [smLen, reduceIte, Nat.reduceEqDiff])
    | refine W.condF (by rfl) ?_ | refine W.condT (by rfl) ?_)
   refine Wk.keep [] (by rfl) ?_ ?_ <;> simp only [smKeep, Nat.reduceBEq, Nat.reduceLT, reduceIte]
 intro T H nx hw'
 refine W.to ?_ hw'
 clear hw' T H nx hσ
 have w1 : IntKind.i64.wrap (L - 1) = L - 1 := wrap_i64 (by omega) (by omega)
 have w2 : IntKind.i64.wrap (d - 1) = d - 1 := wrap_i64 (by omega) (by omega)
 have d1 : decide (L - 1 < 0) = false := by simp only [decide_eq_false_iff_not]; omega
 have d2 : decide (d < 1) = false := by simp only [decide_eq_false_iff_not]; omega
 repeat (first | refine W.seq ?_ | refine W.block ?_)
 refine W.regionK (by decide) fun N hN => ?_
 repeat (first
  | refine RunS.any (by rfl) (by simp only [smEval, Nat.reduceAdd, Nat.reduceMul, Nat.reduceSub, Nat.reduceBEq, Nat.reduceEqDiff, Nat.reduceLeDiff, Nat.reduceLT, Nat.reduceMod, reduceIte, Int.reduceLE, Int.reduceLT, Int.reduceToNat, Nat.reducePow, ty3, ty4, ty9, ty22, ty25, ty28, ty39, ty122, w1]; try rfl) (by rfl) (by simp only [smPut, Nat.reduceBEq, reduceIte]; exact ⟨rfl, rfl⟩) ?_
  | refine RunS.skip (by rfl) (by simp only [smPut, Nat.reduceBEq, reduceIte]; try rfl) ?_)
 refine RunS.nil (hN _ _ _ ?_)
 clear hN N
 simp only [smLen, Nat.reduceAdd, Nat.reduceMul, reduceIte, Nat.reduceEqDiff]
 repeat (first | refine W.seq ?_ | refine W.block ?_)
 refine W.regionK (by decide) fun N hN => ?_
 repeat (first
  | refine RunS.any (by rfl) (by simp only [smEval, Nat.reduceAdd, Nat.reduceMul, Nat.reduceSub, Nat.reduceBEq, Nat.reduceEqDiff, Nat.reduceLeDiff, Nat.reduceLT, Nat.reduceMod, reduceIte, Int.reduceLE, Int.reduceLT, Int.reduceToNat, Nat.reducePow, ty3, ty4, ty9, ty22, ty25, ty28, ty39, ty122, w1, d1, d2]; try rfl) (by rfl) (by simp only [smPut, Nat.reduceBEq, reduceIte]; exact ⟨rfl, rfl⟩) ?_
  | refine RunS.skip (by rfl) (by simp only [smPut, Nat.reduceBEq, reduceIte]; try rfl) ?_)
 refine RunS.nil (hN _ _ _ ?_)
 clear hN N
 simp only [smLen, Nat.reduceAdd, Nat.reduceMul, reduceIte, Nat.reduceEqDiff]
 refine W.condF (by rfl) ?_
 first | refine W.exit ?_ | refine W.ret ?_ | refine W.skip ?_
 try simp only [smLen, reduceIte, Nat.reduceEqDiff]
 repeat (first | refine W.seq ?_ | refine W.block ?_)
 refine W.regionK (by decide) fun N hN => ?_
 repeat (first
  | refine RunS.any (by rfl) (by simp only [smEval, Nat.reduceAdd, Nat.reduceMul, Nat.reduceSub, Nat.reduceBEq, Nat.reduceEqDiff, Nat.reduceLeDiff, Nat.reduceLT, Nat.reduceMod, reduceIte, Int.reduceLE, Int.reduceLT, Int.reduceToNat, Nat.reducePow, ty3, ty4, ty9, ty22, ty25, ty28, ty39, ty122]; try rfl) (by rfl) (by simp only [smPut, Nat.reduceBEq, reduceIte]; exact ⟨rfl, rfl⟩) ?_
  | refine RunS.skip (by rfl) (by simp only [smPut, Nat.reduceBEq, reduceIte]; try rfl) ?_)
 refine RunS.nil (hN _ _ _ ?_)
 clear hN N
 simp only [smLen, Nat.reduceAdd, Nat.reduceMul, reduceIte, Nat.reduceEqDiff]
 repeat (first | refine W.seq ?_ | refine W.block ?_)
 refine W.regionK (by decide) fun N hN => ?_
 repeat (first
  | refine RunS.any (by rfl) (by simp only [smEval, Nat.reduceAdd, Nat.reduceMul, Nat.reduceSub, Nat.reduceBEq, Nat.reduceEqDiff, Nat.reduceLeDiff, Nat.reduceLT, Nat.reduceMod, reduceIte, Int.reduceLE, Int.reduceLT, Int.reduceToNat, Nat.reducePow, ty3, ty4, ty9, ty22, ty25, ty28, ty39, ty122]; try rfl) (by rfl) (by simp only [smPut, Nat.reduceBEq, reduceIte]; exact ⟨rfl, rfl⟩) ?_
  | refine RunS.skip (by rfl) (by simp only [smPut, Nat.reduceBEq, reduceIte]; try rfl) ?_)
 refine RunS.nil (hN _ _ _ ?_)
 clear hN N
 simp only [smLen, Nat.reduceAdd, Nat.reduceMul, reduceIte, Nat.reduceEqDiff]
 repeat (first | refine W.seq ?_ | refine W.block ?_)
 refine W.regionK (by decide) fun N hN => ?_
 repeat (first
  | refine RunS.any (by rfl) (by simp only [smEval, Nat.reduceAdd, Nat.reduceMul, Nat.reduceSub, Nat.reduceBEq, Nat.reduceEqDiff, Nat.reduceLeDiff, Nat.reduceLT, Nat.reduceMod, reduceIte, Int.reduceLE, Int.reduceLT, Int.reduceToNat, Nat.reducePow, ty3, ty4, ty9, ty22, ty25, ty28, ty39, ty122]; try rfl) (by rfl) (by simp only [smPut, Nat.reduceBEq, reduceIte]; exact ⟨rfl, rfl⟩) ?_
  | refine RunS.skip (by rfl) (by simp only [smPut, Nat.reduceBEq, reduceIte]; try rfl) ?_)
 refine RunS.nil (hN _ _ _ ?_)
 clear hN N
 simp only [smLen, Nat.reduceAdd, Nat.reduceMul, reduceIte, Nat.reduceEqDiff]
 repeat (first | refine W.seq ?_ | refine W.block ?_)
 refine W.loop ?_
 refine WL.wk (Wk.nilB 64 25 3 25 4 _ rfl rfl rfl) ?_
 refine WL.ind (σ := Nat) (nx := 88) (fun j => j ≤ J) (fun j => J - j) (fun j => [(1, tsA l), (2, .one (.ptr 0 0)), (3, vI d), (4, .one (.ptr 1 0)), (8, .one (.ptr 2 0)), (12, .one (.ptr 64 0)), (13, vI j)])
  (fun j => [(0, bI (L - 1 - Tm.sizes ((t.l.take j).map (Tm.sub (sgL l))))), (1, .box 25 (cA t)), (2, .box 25 zA), (64, .box 25 [.f (.v (.int .i64 t.k)), .f (.v (.int .i64 t.n)), .f (.v (.string t.s)), .row 87 j]), (87, .row 25 4 (((t.l.take j).map (Tm.sub (sgL l))).map treeC))]) 0 (Nat.zero_le _) ?_ ?_
 ·simp only [put, Nat.reduceBEq, Bool.false_eq_true, reduceIte]
  refine Wk.keep [] (by rfl) ?_ ?_ <;> simp only [smKeep, Nat.reduceBEq, Nat.reduceLT, reduceIte, List.take_zero, List.map_nil, Tm.sizes, Int.natCast_zero, Int.sub_zero]
  all_goals trivial
 intro j hj
 obtain ⟨os, ho⟩ : ∃ o, o = (t.l.take j).map (Tm.sub (sgL l)) := ⟨_, rfl⟩
 have hol : os.length = j := by rw [ho]; simp; omega
 obtain ⟨Lj, hLj⟩ : ∃ x, x = L - 1 - Tm.sizes os := ⟨_, rfl⟩
 rw [← ho, ← hLj]
 repeat (first
  | refine RunS.any (by rfl) (by simp only [smEval, Nat.reduceAdd, Nat.reduceMul, Nat.reduceSub, Nat.reduceBEq, Nat.reduceEqDiff, Nat.reduceLeDiff, Nat.reduceLT, Nat.reduceMod, reduceIte, Int.reduceLE, Int.reduceLT, Int.reduceToNat, Nat.reducePow, ty3, ty4, ty9, ty22, ty25, ty28, ty39, ty122]; try rfl) (by rfl) (by simp only [smPut, Nat.reduceBEq, reduceIte]; exact ⟨rfl, rfl⟩) ?_
  | refine RunS.skip (by rfl) (by simp only [smPut, Nat.reduceBEq, reduceIte]; try rfl) ?_
  | refine W.seq ?_ | refine W.block ?_ | refine W.regionK (by decide) fun N hN => ?_
  | (refine RunS.nil (hN _ _ _ ?_); clear hN N; simp only [smLen, Nat.reduceAdd, Nat.reduceMul, reduceIte, Nat.reduceEqDiff])
  | ((first | refine W.exit ?_ | refine W.ret ?_ | refine W.skip ?_); try simp only [smLen, reduceIte, Nat.reduceEqDiff])
  | refine W.condF (by rfl) ?_ | refine W.condT (by rfl) ?_)
 refine W.condD (by rfl) (fun hlt => ?_) (fun hge => ?_)
 ·obtain ⟨x, hx⟩ : ∃ x, t.l[j]? = some x := ⟨_, List.getElem?_eq_getElem (by omega)⟩
  by_cases hjJ : j < J
  ·have hcall := hpre j x hjJ hx
   rw [← ho, ← hLj] at hcall
   obtain ⟨u, hu⟩ : ∃ u, u = x.sub (sgL l) := ⟨_, rfl⟩
   rw [← hu] at hcall
   have hb1 : j + 1 ≤ 9223372036854775807 := by omega
   have hb2 : (j + 1) * 56 ≤ 140737488355328 := by omega
   have hw1 : IntKind.i64.wrap ((j : Int) + 1) = ((j + 1 : Nat) : Int) := wrap_i64 (by omega) (by omega)
   repeat (first
    | refine RunS.any (by rfl) (by simp only [smEval, Nat.reduceAdd, Nat.reduceMul, Nat.reduceSub, Nat.reduceBEq, Nat.reduceEqDiff, Nat.reduceLeDiff, Nat.reduceLT, Nat.reduceMod, reduceIte, Int.reduceLE, Int.reduceLT, Int.reduceToNat, Nat.reducePow, ty3, ty4, ty9, ty22, ty25, ty28, ty39, ty122, hx, treeC_eq, w2]; try rfl) (by rfl) (by simp only [smPut, Nat.reduceBEq, reduceIte]; exact ⟨rfl, rfl⟩) ?_
    | refine RunS.skip (by rfl) (by simp only [smPut, Nat.reduceBEq, reduceIte]; try rfl) ?_
    | refine W.seq ?_ | refine W.block ?_ | refine W.regionK (by decide) fun N hN => ?_
    | (refine RunS.nil (hN _ _ _ ?_); clear hN N; simp only [smLen, Nat.reduceAdd, Nat.reduceMul, reduceIte, Nat.reduceEqDiff])
    | ((first | refine W.exit ?_ | refine W.ret ?_ | refine W.skip ?_); try simp only [smLen, reduceIte, Nat.reduceEqDiff])
    | refine W.condF (by rfl) ?_ | refine W.condT (by rfl) ?_)
   refine RunS.callH rfl (by rfl) (hcall) [0] rfl rfl (by simp only [smArg, Nat.reduceBEq, reduceIte]; try rfl) (by simp only [smPut, Nat.reduceBEq, reduceIte, List.append_nil]; try rfl) (by rfl) (by simp only [enumL, List.forall_mem_cons, List.not_mem_nil, false_implies, implies_true, and_true, look_cons, look_nil, smPut, Nat.reduceBEq, reduceIte, Nat.reduceAdd]; try trivial) (by simp only [smPut, Nat.reduceBEq, reduceIte]; try rfl) (by simp only [smPut, Nat.reduceBEq, reduceIte]; try rfl) ?_
   repeat (first
    | refine RunS.any (by rfl) (by simp only [smEval, Nat.reduceAdd, Nat.reduceMul, Nat.reduceSub, Nat.reduceBEq, Nat.reduceEqDiff, Nat.reduceLeDiff, Nat.reduceLT, Nat.reduceMod, reduceIte, Int.reduceLE, Int.reduceLT, Int.reduceToNat, Nat.reducePow, ty3, ty4, ty9, ty22, ty25, ty28, ty39, ty122, hx, treeC_eq, hol, hb1, hb2, hw1]; try rfl) (by rfl) (by simp only [smPut, Nat.reduceBEq, reduceIte]; exact ⟨rfl, rfl⟩) ?_
    | refine RunS.skip (by rfl) (by simp only [smPut, Nat.reduceBEq, reduceIte]; try rfl) ?_
    | refine W.seq ?_ | refine W.block ?_ | refine W.regionK (by decide) fun N hN => ?_
    | (refine RunS.nil (hN _ _ _ ?_); clear hN N; simp only [smLen, Nat.reduceAdd, Nat.reduceMul, reduceIte, Nat.reduceEqDiff])
    | ((first | refine W.exit ?_ | refine W.ret ?_ | refine W.skip ?_); try simp only [smLen, reduceIte, Nat.reduceEqDiff])
    | refine W.condF (by rfl) ?_ | refine W.condT (by rfl) ?_)
   refine ⟨j + 1, by omega, by omega, ?_⟩
   have h1 : (t.l.take (j + 1)).map (Tm.sub (sgL l)) = os ++ [u] := by rw [take_snoc hx, List.map_append, ← ho, hu]; rfl
   have h2 : L - 1 - (Tm.sizes (os ++ [u]) : Int) = Lj - u.size := by rw [hLj, sizes_append]; simp only [Tm.sizes]; omega
   rw [h1, h2]
   refine Wk.keep [] (by rfl) ?_ ?_ <;> simp only [smKeep, Nat.reduceBEq, Nat.reduceLT, reduceIte, treeC_eq, List.map_append, List.map_cons, List.map_nil]
  ·have hje : j = J := by omega
   subst hje
   rcases hend with ⟨h1, -, -⟩ | ⟨x', o, h1, hcall, rfl⟩
   ·omega
   rw [hx] at h1; cases h1
   rw [← ho, ← hLj] at hcall
   cases o with
   | none =>
    repeat (first
     | refine RunS.any (by rfl) (by simp only [smEval, Nat.reduceAdd, Nat.reduceMul, Nat.reduceSub, Nat.reduceBEq, Nat.reduceEqDiff, Nat.reduceLeDiff, Nat.reduceLT, Nat.reduceMod, reduceIte, Int.reduceLE, Int.reduceLT, Int.reduceToNat, Nat.reducePow, ty3, ty4, ty9, ty22, ty25, ty28, ty39, ty122, hx, treeC_eq, w2]; try rfl) (by rfl) (by simp only [smPut, Nat.reduceBEq, reduceIte]; exact ⟨rfl, rfl⟩) ?_
     | refine RunS.skip (by rfl) (by simp only [smPut, Nat.reduceBEq, reduceIte]; try rfl) ?_
     | refine W.seq ?_ | refine W.block ?_ | refine W.regionK (by decide) fun N hN => ?_
     | (refine RunS.nil (hN _ _ _ ?_); clear hN N; simp only [smLen, Nat.reduceAdd, Nat.reduceMul, reduceIte, Nat.reduceEqDiff])
     | ((first | refine W.exit ?_ | refine W.ret ?_ | refine W.skip ?_); try simp only [smLen, reduceIte, Nat.reduceEqDiff])
     | refine W.condF (by rfl) ?_ | refine W.condT (by rfl) ?_)
    refine RunS.callH rfl (by rfl) (hcall) [0] rfl rfl (by simp only [smArg, Nat.reduceBEq, reduceIte]; try rfl) (by simp only [smPut, Nat.reduceBEq, reduceIte, List.append_nil]; try rfl) (by rfl) (by simp only [enumL, List.forall_mem_cons, List.not_mem_nil, false_implies, implies_true, and_true, look_cons, look_nil, smPut, Nat.reduceBEq, reduceIte, Nat.reduceAdd]; try trivial) (by simp only [smPut, Nat.reduceBEq, reduceIte]; try rfl) (by simp only [smPut, Nat.reduceBEq, reduceIte]; try rfl) ?_
    repeat (first
     | refine RunS.any (by rfl) (by simp only [smEval, Nat.reduceAdd, Nat.reduceMul, Nat.reduceSub, Nat.reduceBEq, Nat.reduceEqDiff, Nat.reduceLeDiff, Nat.reduceLT, Nat.reduceMod, reduceIte, Int.reduceLE, Int.reduceLT, Int.reduceToNat, Nat.reducePow, ty3, ty4, ty9, ty22, ty25, ty28, ty39, ty122]; try rfl) (by rfl) (by simp only [smPut, Nat.reduceBEq, reduceIte]; exact ⟨rfl, rfl⟩) ?_
     | refine RunS.skip (by rfl) (by simp only [smPut, Nat.reduceBEq, reduceIte]; try rfl) ?_
     | refine W.seq ?_ | refine W.block ?_ | refine W.regionK (by decide) fun N hN => ?_
     | (refine RunS.nil (hN _ _ _ ?_); clear hN N; simp only [smLen, Nat.reduceAdd, Nat.reduceMul, reduceIte, Nat.reduceEqDiff])
     | ((first | refine W.exit ?_ | refine W.ret ?_ | refine W.skip ?_); try simp only [smLen, reduceIte, Nat.reduceEqDiff])
     | refine W.condF (by rfl) ?_ | refine W.condT (by rfl) ?_)
    refine Fin.keep (T' := [(8, .one (.ptr 2 0)), (9, vB false)]) (H' := [(0, bI L'), (2, .box 25 zA)]) (nx' := 1000) ?_ [0] (xs := ?_) ?_ ?_ ?_ ?_
    ·refine Wk.keep [] (by rfl) ?_ ?_ <;> simp only [smKeep, Nat.reduceBEq, Nat.reduceLT, reduceIte, fV]
    rotate_left
    ·simp only [smEval, Nat.reduceAdd, Nat.reduceMul, Nat.reduceSub, Nat.reduceBEq, Nat.reduceEqDiff, Nat.reduceLeDiff, Nat.reduceLT, Nat.reduceMod, reduceIte, Int.reduceLE, Int.reduceLT, Int.reduceToNat, Nat.reducePow, ty3, ty4, ty9, ty22, ty25, ty28, ty39, ty122, resA, fV]; try rfl
    ·simp only [outA, smPut, Nat.reduceBEq, reduceIte, fV]
    ·kernel_rfl
    ·simp only [enumL, List.forall_mem_cons, List.not_mem_nil, false_implies, implies_true, and_true, look_cons, look_nil, smPut, Nat.reduceBEq, reduceIte, Nat.reduceAdd, List.map_append, List.length_append, List.length_cons, List.length_nil, fV]; try trivial
   | some y =>
    repeat (first
     | refine RunS.any (by rfl) (by simp only [smEval, Nat.reduceAdd, Nat.reduceMul, Nat.reduceSub, Nat.reduceBEq, Nat.reduceEqDiff, Nat.reduceLeDiff, Nat.reduceLT, Nat.reduceMod, reduceIte, Int.reduceLE, Int.reduceLT, Int.reduceToNat, Nat.reducePow, ty3, ty4, ty9, ty22, ty25, ty28, ty39, ty122, hx, treeC_eq, w2]; try rfl) (by rfl) (by simp only [smPut, Nat.reduceBEq, reduceIte]; exact ⟨rfl, rfl⟩) ?_
     | refine RunS.skip (by rfl) (by simp only [smPut, Nat.reduceBEq, reduceIte]; try rfl) ?_
     | refine W.seq ?_ | refine W.block ?_ | refine W.regionK (by decide) fun N hN => ?_
     | (refine RunS.nil (hN _ _ _ ?_); clear hN N; simp only [smLen, Nat.reduceAdd, Nat.reduceMul, reduceIte, Nat.reduceEqDiff])
     | ((first | refine W.exit ?_ | refine W.ret ?_ | refine W.skip ?_); try simp only [smLen, reduceIte, Nat.reduceEqDiff])
     | refine W.condF (by rfl) ?_ | refine W.condT (by rfl) ?_)
    refine RunS.callH rfl (by rfl) (hcall) [0] rfl rfl (by simp only [smArg, Nat.reduceBEq, reduceIte]; try rfl) (by simp only [smPut, Nat.reduceBEq, reduceIte, List.append_nil]; try rfl) (by rfl) (by simp only [enumL, List.forall_mem_cons, List.not_mem_nil, false_implies, implies_true, and_true, look_cons, look_nil, smPut, Nat.reduceBEq, reduceIte, Nat.reduceAdd]; try trivial) (by simp only [smPut, Nat.reduceBEq, reduceIte]; try rfl) (by simp only [smPut, Nat.reduceBEq, reduceIte]; try rfl) ?_
    repeat (first
     | refine RunS.any (by rfl) (by simp only [smEval, Nat.reduceAdd, Nat.reduceMul, Nat.reduceSub, Nat.reduceBEq, Nat.reduceEqDiff, Nat.reduceLeDiff, Nat.reduceLT, Nat.reduceMod, reduceIte, Int.reduceLE, Int.reduceLT, Int.reduceToNat, Nat.reducePow, ty3, ty4, ty9, ty22, ty25, ty28, ty39, ty122]; try rfl) (by rfl) (by simp only [smPut, Nat.reduceBEq, reduceIte]; exact ⟨rfl, rfl⟩) ?_
     | refine RunS.skip (by rfl) (by simp only [smPut, Nat.reduceBEq, reduceIte]; try rfl) ?_
     | refine W.seq ?_ | refine W.block ?_ | refine W.regionK (by decide) fun N hN => ?_
     | (refine RunS.nil (hN _ _ _ ?_); clear hN N; simp only [smLen, Nat.reduceAdd, Nat.reduceMul, reduceIte, Nat.reduceEqDiff])
     | ((first | refine W.exit ?_ | refine W.ret ?_ | refine W.skip ?_); try simp only [smLen, reduceIte, Nat.reduceEqDiff])
     | refine W.condF (by rfl) ?_ | refine W.condT (by rfl) ?_)
    refine Fin.keep (T' := [(8, .one (.ptr 2 0)), (9, vB false)]) (H' := [(0, bI L'), (2, .box 25 zA)]) (nx' := 1000) ?_ [0] (xs := ?_) ?_ ?_ ?_ ?_
    ·refine Wk.keep [] (by rfl) ?_ ?_ <;> simp only [smKeep, Nat.reduceBEq, Nat.reduceLT, reduceIte, fV]
    rotate_left
    ·simp only [smEval, Nat.reduceAdd, Nat.reduceMul, Nat.reduceSub, Nat.reduceBEq, Nat.reduceEqDiff, Nat.reduceLeDiff, Nat.reduceLT, Nat.reduceMod, reduceIte, Int.reduceLE, Int.reduceLT, Int.reduceToNat, Nat.reducePow, ty3, ty4, ty9, ty22, ty25, ty28, ty39, ty122, resA, fV]; try rfl
    ·simp only [outA, smPut, Nat.reduceBEq, reduceIte, fV]
    ·kernel_rfl
    ·simp only [enumL, List.forall_mem_cons, List.not_mem_nil, false_implies, implies_true, and_true, look_cons, look_nil, smPut, Nat.reduceBEq, reduceIte, Nat.reduceAdd, List.map_append, List.length_append, List.length_cons, List.length_nil, fV]; try trivial
 ·have hje : j = t.l.length := by omega
  rcases hend with ⟨-, rfl, rfl⟩ | ⟨x', o, h1, hcall, rfl⟩
  ·rw [hje, List.take_length] at ho
   rw [← ho, ← hLj]
   repeat (first
    | refine RunS.any (by rfl) (by simp only [smEval, Nat.reduceAdd, Nat.reduceMul, Nat.reduceSub, Nat.reduceBEq, Nat.reduceEqDiff, Nat.reduceLeDiff, Nat.reduceLT, Nat.reduceMod, reduceIte, Int.reduceLE, Int.reduceLT, Int.reduceToNat, Nat.reducePow, ty3, ty4, ty9, ty22, ty25, ty28, ty39, ty122]; try rfl) (by rfl) (by simp only [smPut, Nat.reduceBEq, reduceIte]; exact ⟨rfl, rfl⟩) ?_
    | refine RunS.skip (by rfl) (by simp only [smPut, Nat.reduceBEq, reduceIte]; try rfl) ?_
    | refine W.seq ?_ | refine W.block ?_ | refine W.regionK (by decide) fun N hN => ?_
    | (refine RunS.nil (hN _ _ _ ?_); clear hN N; simp only [smLen, Nat.reduceAdd, Nat.reduceMul, reduceIte, Nat.reduceEqDiff])
    | ((first | refine W.exit ?_ | refine W.ret ?_ | refine W.skip ?_); try simp only [smLen, reduceIte, Nat.reduceEqDiff])
    | refine W.condF (by rfl) ?_ | refine W.condT (by rfl) ?_)
   refine Fin.keep (T' := [(8, .one (.ptr 2 0)), (9, vB true)]) (H' := [(0, bI Lj), (2, .box 25 [.f (.v (.int .i64 t.k)), .f (.v (.int .i64 t.n)), .f (.v (.string t.s)), .f (tsF os)])]) (nx' := 1000) ?_ [0] (xs := ?_) ?_ ?_ ?_ ?_
   ·refine Wk.keep [87] (by rfl) ?_ ?_ <;> simp only [smKeep, Nat.reduceBEq, Nat.reduceLT, reduceIte, hol, cA, tm_k, tm_n, tm_s, tm_l]
   rotate_left
   ·simp only [smEval, Nat.reduceAdd, Nat.reduceMul, Nat.reduceSub, Nat.reduceBEq, Nat.reduceEqDiff, Nat.reduceLeDiff, Nat.reduceLT, Nat.reduceMod, reduceIte, Int.reduceLE, Int.reduceLT, Int.reduceToNat, Nat.reducePow, ty3, ty4, ty9, ty22, ty25, ty28, ty39, ty122, resA, hol, cA, tm_k, tm_n, tm_s, tm_l]; try rfl
   ·simp only [outA, smPut, Nat.reduceBEq, reduceIte, hol, cA, tm_k, tm_n, tm_s, tm_l]
   ·kernel_rfl
   ·simp only [enumL, List.forall_mem_cons, List.not_mem_nil, false_implies, implies_true, and_true, look_cons, look_nil, smPut, Nat.reduceBEq, reduceIte, Nat.reduceAdd, List.map_append, List.length_append, List.length_cons, List.length_nil, hol, cA, tm_k, tm_n, tm_s, tm_l]; try trivial
  ·have := (List.getElem?_eq_some_iff.1 h1).1
   omega
set_option maxRecDepth 100000 in
set_option maxHeartbeats 4000000 in
theorem apply_ok (l : List Tm) (hl : l.length ≤ 100000) (hls : ∀ x ∈ l, x.size ≤ 100000) (t : Tm) : ∀ (L d : Int), t.okB = true → t.size ≤ 1000000 → 0 ≤ L → L ≤ 1000000 → 0 ≤ d → d ≤ 1000000 → ApOk l t L d := by
 induction t using Tm.ind with
 | h t ih =>
 intro L d hok hsz hL hL2 hd hd2
 by_cases hv : t.k = 1 ∧ t.n < l.length ∧ ∀ y, l[t.n.toNat]? = some y → freeB y = false
 ·-- a variable that is replaced
  obtain ⟨hk, hn, hf⟩ := hv
  have hb := var_bd hok hk
  obtain ⟨m, hm⟩ : ∃ m : Nat, t.n = m := ⟨t.n.toNat, by omega⟩
  obtain ⟨y, hy⟩ : ∃ y, l[m]? = some y := ⟨_, List.getElem?_eq_getElem (by omega)⟩
  have hfy := hf y (by rw [hm, Int.toNat_natCast]; exact hy)
  have hys := hls y (List.mem_of_getElem? hy)
  have hsub : t.sub (sgL l) = y := by rw [sub_var _ hk, hm, sgL_at hy, hfy]; rfl
  have hyd := y.depth_le
  unfold ApOk
  rw [hsub]
  have h1 := refFree_ok y
  rw [hfy] at h1
  have h2 := refSize_ok y (by omega)
  have dk : decide (t.k = 1) = true := by simpa using hk
  have dn : decide ((m : Int) < (l.length : Int)) = true := by simp; omega
  have hw : IntKind.i64.wrap (L - (y.size : Int)) = L - (y.size : Int) := wrap_i64 (by omega) (by omega)
  have hm0 : (0 : Int) ≤ (m : Int) := by omega
  by_cases hfit : (y.size : Int) ≤ L ∧ (y.depth : Int) ≤ d
  ·have d1 : decide (0 ≤ L - (y.size : Int)) = true := by simp; omega
   have d2 : decide ((y.depth : Int) ≤ d) = true := by simpa using hfit.2
   rw [if_pos hfit]
   refine acall_of Try.func99 (by decide) rfl Try.results99 (by rw [Try.ntmps99]; simp) (by simp) ?_
   rw [Try.ntmps99]
   simp only [enumL, List.length_nil, List.length_cons, Nat.reduceAdd]
   repeat (first
    | refine RunS.any (by rfl) (by simp only [smEval, Nat.reduceAdd, Nat.reduceMul, Nat.reduceSub, Nat.reduceBEq, Nat.reduceEqDiff, Nat.reduceLeDiff, Nat.reduceLT, Nat.reduceMod, reduceIte, Int.reduceLE, Int.reduceLT, Int.reduceToNat, Nat.reducePow, ty3, ty4, ty9, ty22, ty25, ty28, ty39, ty122, dk, hm, dn, hy, hm0, treeC_eq y, hw]; try rfl) (by rfl) (by simp only [smPut, Nat.reduceBEq, reduceIte]; exact ⟨rfl, rfl⟩) ?_
    | refine RunS.callQ (by rfl) rfl (by simp only [smArg, Nat.reduceBEq, reduceIte]; try rfl) (by first | exact h1 | exact h2) rfl (by rfl) (by rfl) ?_
    | refine RunS.skip (by rfl) (by simp only [smPut, Nat.reduceBEq, reduceIte]; try rfl) ?_
    | refine W.seq ?_ | refine W.block ?_ | refine W.regionK (by decide) fun N hN => ?_
    | (refine RunS.nil (hN _ _ _ ?_); clear hN N; simp only [smLen, Nat.reduceAdd, Nat.reduceMul, reduceIte, Nat.reduceEqDiff])
    | ((first | refine W.exit ?_ | refine W.ret ?_ | refine W.skip ?_); try simp only [smLen, reduceIte, Nat.reduceEqDiff])
    | refine W.condF (by rfl) ?_ | refine W.condT (by rfl) ?_)
   repeat (first | refine W.seq ?_ | refine W.block ?_)
   refine W.regionDK mixed (by decide) (by rfl) fun N hN => ?_
   repeat (first
    | refine RunD.any (by rfl) (by simp only [smEval, Nat.reduceAdd, Nat.reduceMul, Nat.reduceSub, Nat.reduceBEq, Nat.reduceEqDiff, Nat.reduceLeDiff, Nat.reduceLT, Nat.reduceMod, reduceIte, Int.reduceLE, Int.reduceLT, Int.reduceToNat, Nat.reducePow, ty3, ty4, ty9, ty22, ty25, ty28, ty39, ty122, hm, hy, hm0, treeC_eq y, d1, d2]; try rfl) (by rfl) (by simp only [smPut, Nat.reduceBEq, reduceIte]; exact ⟨rfl, rfl⟩) ?_
    | refine RunD.skip (by rfl) (by simp only [smPut, Nat.reduceBEq, reduceIte]; try rfl) ?_)
   refine RunD.nil ⟨by kernel_rfl, hN _ _ _ ?_⟩
   clear hN N
   simp only [smLen, Nat.reduceAdd, Nat.reduceMul, reduceIte, Nat.reduceEqDiff]
   first | refine W.exit ?_ | refine W.ret ?_ | refine W.skip ?_
   try simp only [smLen, reduceIte, Nat.reduceEqDiff]
   refine Fin.keep (T' := [(8, .one (.ptr 2 0)), (9, vB true)]) (H' := [(0, bI (L - y.size)), (2, .box 25 (cA y))]) (nx' := 1000) ?_ [0] (xs := ?_) ?_ ?_ ?_ ?_
   ·refine Wk.keep [] (by rfl) ?_ ?_ <;> simp only [smKeep, Nat.reduceBEq, Nat.reduceLT, reduceIte]
   rotate_left
   ·simp only [smEval, Nat.reduceAdd, Nat.reduceMul, Nat.reduceSub, Nat.reduceBEq, Nat.reduceEqDiff, Nat.reduceLeDiff, Nat.reduceLT, Nat.reduceMod, reduceIte, Int.reduceLE, Int.reduceLT, Int.reduceToNat, Nat.reducePow, ty3, ty4, ty9, ty22, ty25, ty28, ty39, ty122, resA]; try rfl
   ·simp only [outA, smPut, Nat.reduceBEq, reduceIte]
   ·kernel_rfl
   ·simp only [enumL, List.forall_mem_cons, List.not_mem_nil, false_implies, implies_true, and_true, look_cons, look_nil, smPut, Nat.reduceBEq, reduceIte, Nat.reduceAdd, List.map_append, List.length_append, List.length_cons, List.length_nil]; try trivial
  ·rw [if_neg hfit]
   refine ⟨some y, L - y.size, ?_⟩
   by_cases h3 : (y.size : Int) ≤ L
   ·have d1 : decide (0 ≤ L - (y.size : Int)) = true := by simp; omega
    have d2 : decide ((y.depth : Int) ≤ d) = false := by simp only [decide_eq_false_iff_not]; exact fun h => hfit ⟨h3, h⟩
    refine acall_of Try.func99 (by decide) rfl Try.results99 (by rw [Try.ntmps99]; simp) (by simp) ?_
    rw [Try.ntmps99]
    simp only [enumL, List.length_nil, List.length_cons, Nat.reduceAdd]
    repeat (first
     | refine RunS.any (by rfl) (by simp only [smEval, Nat.reduceAdd, Nat.reduceMul, Nat.reduceSub, Nat.reduceBEq, Nat.reduceEqDiff, Nat.reduceLeDiff, Nat.reduceLT, Nat.reduceMod, reduceIte, Int.reduceLE, Int.reduceLT, Int.reduceToNat, Nat.reducePow, ty3, ty4, ty9, ty22, ty25, ty28, ty39, ty122, dk, hm, dn, hy, hm0, treeC_eq y, hw]; try rfl) (by rfl) (by simp only [smPut, Nat.reduceBEq, reduceIte]; exact ⟨rfl, rfl⟩) ?_
     | refine RunS.callQ (by rfl) rfl (by simp only [smArg, Nat.reduceBEq, reduceIte]; try rfl) (by first | exact h1 | exact h2) rfl (by rfl) (by rfl) ?_
     | refine RunS.skip (by rfl) (by simp only [smPut, Nat.reduceBEq, reduceIte]; try rfl) ?_
     | refine W.seq ?_ | refine W.block ?_ | refine W.regionK (by decide) fun N hN => ?_
     | (refine RunS.nil (hN _ _ _ ?_); clear hN N; simp only [smLen, Nat.reduceAdd, Nat.reduceMul, reduceIte, Nat.reduceEqDiff])
     | ((first | refine W.exit ?_ | refine W.ret ?_ | refine W.skip ?_); try simp only [smLen, reduceIte, Nat.reduceEqDiff])
     | refine W.condF (by rfl) ?_ | refine W.condT (by rfl) ?_)
    repeat (first | refine W.seq ?_ | refine W.block ?_)
    refine W.regionDK mixed (by decide) (by rfl) fun N hN => ?_
    repeat (first
     | refine RunD.any (by rfl) (by simp only [smEval, Nat.reduceAdd, Nat.reduceMul, Nat.reduceSub, Nat.reduceBEq, Nat.reduceEqDiff, Nat.reduceLeDiff, Nat.reduceLT, Nat.reduceMod, reduceIte, Int.reduceLE, Int.reduceLT, Int.reduceToNat, Nat.reducePow, ty3, ty4, ty9, ty22, ty25, ty28, ty39, ty122, hm, hy, hm0, treeC_eq y, d1, d2]; try rfl) (by rfl) (by simp only [smPut, Nat.reduceBEq, reduceIte]; exact ⟨rfl, rfl⟩) ?_
     | refine RunD.skip (by rfl) (by simp only [smPut, Nat.reduceBEq, reduceIte]; try rfl) ?_)
    refine RunD.nil ⟨by kernel_rfl, hN _ _ _ ?_⟩
    clear hN N
    simp only [smLen, Nat.reduceAdd, Nat.reduceMul, reduceIte, Nat.reduceEqDiff]
    first | refine W.exit ?_ | refine W.ret ?_ | refine W.skip ?_
    try simp only [smLen, reduceIte, Nat.reduceEqDiff]
    refine Fin.keep (T' := [(8, .one (.ptr 2 0)), (9, vB false)]) (H' := [(0, bI (L - y.size)), (2, .box 25 (cA y))]) (nx' := 1000) ?_ [0] (xs := ?_) ?_ ?_ ?_ ?_
    ·refine Wk.keep [] (by rfl) ?_ ?_ <;> simp only [smKeep, Nat.reduceBEq, Nat.reduceLT, reduceIte, fV]
    rotate_left
    ·simp only [smEval, Nat.reduceAdd, Nat.reduceMul, Nat.reduceSub, Nat.reduceBEq, Nat.reduceEqDiff, Nat.reduceLeDiff, Nat.reduceLT, Nat.reduceMod, reduceIte, Int.reduceLE, Int.reduceLT, Int.reduceToNat, Nat.reducePow, ty3, ty4, ty9, ty22, ty25, ty28, ty39, ty122, resA, fV]; try rfl
    ·simp only [outA, smPut, Nat.reduceBEq, reduceIte, fV]
    ·kernel_rfl
    ·simp only [enumL, List.forall_mem_cons, List.not_mem_nil, false_implies, implies_true, and_true, look_cons, look_nil, smPut, Nat.reduceBEq, reduceIte, Nat.reduceAdd, List.map_append, List.length_append, List.length_cons, List.length_nil, fV]; try trivial
   ·have d1 : decide (0 ≤ L - (y.size : Int)) = false := by simp only [decide_eq_false_iff_not]; omega
    refine acall_of Try.func99 (by decide) rfl Try.results99 (by rw [Try.ntmps99]; simp) (by simp) ?_
    rw [Try.ntmps99]
    simp only [enumL, List.length_nil, List.length_cons, Nat.reduceAdd]
    repeat (first
     | refine RunS.any (by rfl) (by simp only [smEval, Nat.reduceAdd, Nat.reduceMul, Nat.reduceSub, Nat.reduceBEq, Nat.reduceEqDiff, Nat.reduceLeDiff, Nat.reduceLT, Nat.reduceMod, reduceIte, Int.reduceLE, Int.reduceLT, Int.reduceToNat, Nat.reducePow, ty3, ty4, ty9, ty22, ty25, ty28, ty39, ty122, dk, hm, dn, hy, hm0, treeC_eq y, hw]; try rfl) (by rfl) (by simp only [smPut, Nat.reduceBEq, reduceIte]; exact ⟨rfl, rfl⟩) ?_
     | refine RunS.callQ (by rfl) rfl (by simp only [smArg, Nat.reduceBEq, reduceIte]; try rfl) (by first | exact h1 | exact h2) rfl (by rfl) (by rfl) ?_
     | refine RunS.skip (by rfl) (by simp only [smPut, Nat.reduceBEq, reduceIte]; try rfl) ?_
     | refine W.seq ?_ | refine W.block ?_ | refine W.regionK (by decide) fun N hN => ?_
     | (refine RunS.nil (hN _ _ _ ?_); clear hN N; simp only [smLen, Nat.reduceAdd, Nat.reduceMul, reduceIte, Nat.reduceEqDiff])
     | ((first | refine W.exit ?_ | refine W.ret ?_ | refine W.skip ?_); try simp only [smLen, reduceIte, Nat.reduceEqDiff])
     | refine W.condF (by rfl) ?_ | refine W.condT (by rfl) ?_)
    repeat (first | refine W.seq ?_ | refine W.block ?_)
    refine W.regionDK mixed (by decide) (by rfl) fun N hN => ?_
    repeat (first
     | refine RunD.any (by rfl) (by simp only [smEval, Nat.reduceAdd, Nat.reduceMul, Nat.reduceSub, Nat.reduceBEq, Nat.reduceEqDiff, Nat.reduceLeDiff, Nat.reduceLT, Nat.reduceMod, reduceIte, Int.reduceLE, Int.reduceLT, Int.reduceToNat, Nat.reducePow, ty3, ty4, ty9, ty22, ty25, ty28, ty39, ty122, hm, hy, hm0, treeC_eq y, d1]; try rfl) (by rfl) (by simp only [smPut, Nat.reduceBEq, reduceIte]; exact ⟨rfl, rfl⟩) ?_
     | refine RunD.skip (by rfl) (by simp only [smPut, Nat.reduceBEq, reduceIte]; try rfl) ?_)
    refine RunD.nil ⟨by kernel_rfl, hN _ _ _ ?_⟩
    clear hN N
    simp only [smLen, Nat.reduceAdd, Nat.reduceMul, reduceIte, Nat.reduceEqDiff]
    first | refine W.exit ?_ | refine W.ret ?_ | refine W.skip ?_
    try simp only [smLen, reduceIte, Nat.reduceEqDiff]
    refine Fin.keep (T' := [(8, .one (.ptr 2 0)), (9, vB false)]) (H' := [(0, bI (L - y.size)), (2, .box 25 (cA y))]) (nx' := 1000) ?_ [0] (xs := ?_) ?_ ?_ ?_ ?_
    ·refine Wk.keep [] (by rfl) ?_ ?_ <;> simp only [smKeep, Nat.reduceBEq, Nat.reduceLT, reduceIte, fV]
    rotate_left
    ·simp only [smEval, Nat.reduceAdd, Nat.reduceMul, Nat.reduceSub, Nat.reduceBEq, Nat.reduceEqDiff, Nat.reduceLeDiff, Nat.reduceLT, Nat.reduceMod, reduceIte, Int.reduceLE, Int.reduceLT, Int.reduceToNat, Nat.reducePow, ty3, ty4, ty9, ty22, ty25, ty28, ty39, ty122, resA, fV]; try rfl
    ·simp only [outA, smPut, Nat.reduceBEq, reduceIte, fV]
    ·kernel_rfl
    ·simp only [enumL, List.forall_mem_cons, List.not_mem_nil, false_implies, implies_true, and_true, look_cons, look_nil, smPut, Nat.reduceBEq, reduceIte, Nat.reduceAdd, List.map_append, List.length_append, List.length_cons, List.length_nil, fV]; try trivial
 ·have hσ : t.k = 1 → sgL l t.n = Tm.va t.n := fun hk => by
   have hb := var_bd hok hk
   obtain ⟨m, hm⟩ : ∃ m : Nat, t.n = m := ⟨t.n.toNat, by omega⟩
   rw [hm]
   by_cases hn : m < l.length
   ·obtain ⟨y, hy⟩ : ∃ y, l[m]? = some y := ⟨_, List.getElem?_eq_getElem hn⟩
    have hfy : freeB y = true := by
     cases h : freeB y
     ·refine absurd ⟨hk, by omega, fun z hz => ?_⟩ hv
      rw [hm, Int.toNat_natCast, hy] at hz; cases hz; exact h
     ·rfl
    rw [sgL_at hy, hfy]; rfl
   ·exact sgL_none hn
  unfold ApOk
  rw [sub_nodeV hok hσ, mk_size, mk_depth]
  have hsp := Tm.size_eq t
  by_cases c : L < 1 ∨ d < 1
  ·rw [if_neg (by omega)]
   exact ⟨none, L - 1, apply_early l hl t L d hok hL hL2 hd hd2 hv c⟩
  obtain ⟨J, hJ, hLJ, hpre, hend⟩ := fits_or (Tm.sub (sgL l)) t.l (L - 1) (d - 1)
  have hnode := apply_node l hl t L d hok hsz (by omega) hL2 (by omega) hd2 hv J hJ (fun j x hj hx => by
   have hf := hpre j x hj hx
   have hxm := List.mem_of_getElem? hx
   have hc := ih x hxm (L - 1 - Tm.sizes ((t.l.take j).map (Tm.sub (sgL l)))) (d - 1) ((okB_parts hok).2 x hxm) (by have := Tm.size_child hxm; omega) (by omega) (by omega) (by omega) (by omega)
   unfold ApOk at hc
   rwa [if_pos hf] at hc)
  rcases hend with hend | ⟨x, hx, hnf⟩
  ·have hpos : ((1 + Tm.sizes (t.l.map (Tm.sub (sgL l))) : Nat) : Int) ≤ L ∧ ((Tm.depths (t.l.map (Tm.sub (sgL l))) + 1 : Nat) : Int) ≤ d := by
    constructor
    ·rcases hLJ with h | h
     ·rw [hend, List.take_length] at h; omega
     ·have : t.l = [] := List.length_eq_zero_iff.1 (by omega)
      rw [this]; simp only [List.map_nil, Tm.sizes]; omega
    ·have : Tm.depths (t.l.map (Tm.sub (sgL l))) ≤ (d - 1).toNat := depths_iff.2 fun y hy => by
      obtain ⟨x, hx, rfl⟩ := List.mem_map.1 hy
      obtain ⟨i, hi⟩ := List.getElem?_of_mem hx
      have := (hpre i x (by have := (List.getElem?_eq_some_iff.1 hi).1; omega) hi).2
      omega
     omega
   rw [if_pos hpos]
   have e : L - ((1 + Tm.sizes (t.l.map (Tm.sub (sgL l))) : Nat) : Int) = L - 1 - Tm.sizes (t.l.map (Tm.sub (sgL l))) := by omega
   rw [e]
   exact hnode _ _ (.inl ⟨hend, rfl, rfl⟩)
  ·have hxm := List.mem_of_getElem? hx
   have hneg : ¬(((1 + Tm.sizes (t.l.map (Tm.sub (sgL l))) : Nat) : Int) ≤ L ∧ ((Tm.depths (t.l.map (Tm.sub (sgL l))) + 1 : Nat) : Int) ≤ d) := by
    rintro ⟨h1, h2⟩
    have h3 := sizes_part (f := Tm.sub (sgL l)) hx
    have h4 : (x.sub (sgL l)).depth ≤ Tm.depths (t.l.map (Tm.sub (sgL l))) := depths_iff.1 (Nat.le_refl _) _ (List.mem_map_of_mem hxm)
    exact hnf ⟨by omega, by omega⟩
   rw [if_neg hneg]
   have hc := ih x hxm (L - 1 - Tm.sizes ((t.l.take J).map (Tm.sub (sgL l)))) (d - 1) ((okB_parts hok).2 x hxm) (by have := Tm.size_child hxm; omega) (by
    rcases hLJ with h | h
    ·omega
    ·rw [h]; simp only [List.take_zero, List.map_nil, Tm.sizes]; omega) (by omega) (by omega) (by omega)
   unfold ApOk at hc
   rw [if_neg hnf] at hc
   obtain ⟨o, v, hc⟩ := hc
   exact ⟨none, v, hnode _ _ (.inr ⟨x, o, hx, hc, rfl⟩)⟩
end Go.Proofs.Ytfhgknmkpegpbaa
set_option linter.unusedVariables false
set_option linter.unusedSimpArgs false
namespace Go.Proofs.Ytfhgknmkpegpbaa
open Go Go.Abs Go.Proofs Go.RowKit
theorem subB_in {l : List Tm} (h : subB l = true) {y : Tm} (hy : y ∈ l) (hf : freeB y = false) : isB y = true := by
 unfold subB at h
 rw [Bool.and_eq_true, Bool.not_eq_true', List.any_eq_false] at h
 have := h.2 y hy
 unfold badB at this
 rw [hf] at this
 simpa using this
theorem subB_len' {l : List Tm} (h : subB l = true) : l.length ≤ 100000 := by
 unfold subB at h; rw [Bool.and_eq_true, decide_eq_true_eq] at h; exact h.1
theorem sgL_okB {l : List Tm} (h : subB l = true) {m : Int} (h0 : 0 ≤ m) (h1 : m < 100000) : (sgL l m).okB = true := by
 obtain ⟨k, rfl⟩ : ∃ k : Nat, m = k := ⟨m.toNat, by omega⟩
 by_cases hn : k < l.length
 ·obtain ⟨y, hy⟩ : ∃ y, l[k]? = some y := ⟨_, List.getElem?_eq_getElem hn⟩
  rw [sgL_at hy]
  split
  ·exact va_ok h0 h1
  ·rename_i hf
   exact (isB_iff.1 (subB_in h (List.mem_of_getElem? hy) (by simpa using hf))).1
 ·rw [sgL_none hn]; exact va_ok h0 h1
theorem sub_okB {l : List Tm} {t : Tm} (h : subB l = true) (ht : t.okB = true) : (t.sub (sgL l)).okB = true :=
 (sub_ok t ht).2 fun n hn => by
  obtain ⟨y, hy, hk, rfl⟩ := hn
  have := var_bd (okB_pre t ht y hy) hk
  exact sgL_okB h this.1 this.2
set_option maxRecDepth 100000 in
set_option maxHeartbeats 4000000 in
theorem refSubst_ok (t : Tm) (l : List Tm) (hszt : t.size ≤ 1000000) (hls : ∀ x ∈ l, x.size ≤ 100000) : ACall Try.prog 54 [tA t, tsA l] [] (tE ((substR t l).getD Tm.zero) (if (substR t l).isSome then 0 else substE t l)) [] := by
 have h1 := refCheck_ok t hszt
 have h2 := refIsSubst_ok l (fun x hx => by have := hls x hx; omega)
 have hd : decide (errT false ≠ 0) = true := rfl
 have hd' : decide (errT true ≠ 0) = false := rfl
 unfold substE
 cases b1 : isB t
 ·rw [b1] at h1
  have hr : substR t l = none := by unfold substR; rw [if_neg (by rw [b1]; simp)]
  rw [hr]
  refine acall_of Try.func54 (by decide) rfl Try.results54 (by rw [Try.ntmps54]; simp) (by simp) ?_
  rw [Try.ntmps54]
  simp only [enumL, List.length_nil, List.length_cons, Nat.reduceAdd]
  repeat (first
   | refine RunS.any (by rfl) (by simp only [smEval, Nat.reduceAdd, Nat.reduceMul, Nat.reduceSub, Nat.reduceBEq, Nat.reduceEqDiff, Nat.reduceLeDiff, Nat.reduceLT, Nat.reduceMod, reduceIte, Int.reduceLE, Int.reduceLT, Int.reduceToNat, Nat.reducePow, ty3, ty4, ty9, ty22, ty25, ty28, ty39, ty122, hd]; try rfl) (by rfl) (by simp only [smPut, Nat.reduceBEq, reduceIte]; exact ⟨rfl, rfl⟩) ?_
   | refine RunS.callQ (by rfl) rfl (by simp only [smArg, Nat.reduceBEq, reduceIte]; try rfl) (by first | exact h1) rfl (by rfl) (by rfl) ?_
   | refine RunS.skip (by rfl) (by simp only [smPut, Nat.reduceBEq, reduceIte]; try rfl) ?_
   | refine W.seq ?_ | refine W.block ?_ | refine W.regionK (by decide) fun N hN => ?_
   | (refine RunS.nil (hN _ _ _ ?_); clear hN N; simp only [smLen, Nat.reduceAdd, Nat.reduceMul, reduceIte, Nat.reduceEqDiff])
   | ((first | refine W.exit ?_ | refine W.ret ?_ | refine W.skip ?_); try simp only [smLen, reduceIte, Nat.reduceEqDiff])
   | refine W.condF (by rfl) ?_ | refine W.condT (by rfl) ?_)
  refine Fin.pureS Wk.refl (xs := ?_) ?_ rfl ?_ ?_
  rotate_left
  ·simp only [smEval, Nat.reduceAdd, Nat.reduceMul, Nat.reduceSub, Nat.reduceBEq, Nat.reduceEqDiff, Nat.reduceLeDiff, Nat.reduceLT, Nat.reduceMod, reduceIte, Int.reduceLE, Int.reduceLT, Int.reduceToNat, Nat.reducePow, ty3, ty4, ty9, ty22, ty25, ty28, ty39, ty122, resA]; try rfl
  ·rfl
  ·simp only [outA, Bool.false_eq_true, reduceIte, Option.getD_none, Option.isSome_none]; exact sub_tup2 sub_zero (Sub.refl _)
 rw [b1] at h1
 cases b2 : subB l
 ·rw [b2] at h2
  have hr : substR t l = none := by unfold substR; rw [if_neg (by rw [b2]; simp)]
  rw [hr]
  refine acall_of Try.func54 (by decide) rfl Try.results54 (by rw [Try.ntmps54]; simp) (by simp) ?_
  rw [Try.ntmps54]
  simp only [enumL, List.length_nil, List.length_cons, Nat.reduceAdd]
  repeat (first
   | refine RunS.any (by rfl) (by simp only [smEval, Nat.reduceAdd, Nat.reduceMul, Nat.reduceSub, Nat.reduceBEq, Nat.reduceEqDiff, Nat.reduceLeDiff, Nat.reduceLT, Nat.reduceMod, reduceIte, Int.reduceLE, Int.reduceLT, Int.reduceToNat, Nat.reducePow, ty3, ty4, ty9, ty22, ty25, ty28, ty39, ty122, hd']; try rfl) (by rfl) (by simp only [smPut, Nat.reduceBEq, reduceIte]; exact ⟨rfl, rfl⟩) ?_
   | refine RunS.callQ (by rfl) rfl (by simp only [smArg, Nat.reduceBEq, reduceIte]; try rfl) (by first | exact h1 | exact h2) rfl (by rfl) (by rfl) ?_
   | refine RunS.skip (by rfl) (by simp only [smPut, Nat.reduceBEq, reduceIte]; try rfl) ?_
   | refine W.seq ?_ | refine W.block ?_ | refine W.regionK (by decide) fun N hN => ?_
   | (refine RunS.nil (hN _ _ _ ?_); clear hN N; simp only [smLen, Nat.reduceAdd, Nat.reduceMul, reduceIte, Nat.reduceEqDiff])
   | ((first | refine W.exit ?_ | refine W.ret ?_ | refine W.skip ?_); try simp only [smLen, reduceIte, Nat.reduceEqDiff])
   | refine W.condF (by rfl) ?_ | refine W.condT (by rfl) ?_)
  refine Fin.pureS Wk.refl (xs := ?_) ?_ rfl ?_ ?_
  rotate_left
  ·simp only [smEval, Nat.reduceAdd, Nat.reduceMul, Nat.reduceSub, Nat.reduceBEq, Nat.reduceEqDiff, Nat.reduceLeDiff, Nat.reduceLT, Nat.reduceMod, reduceIte, Int.reduceLE, Int.reduceLT, Int.reduceToNat, Nat.reducePow, ty3, ty4, ty9, ty22, ty25, ty28, ty39, ty122, resA]; try rfl
  ·rfl
  ·simp only [outA, Bool.false_eq_true, reduceIte, Option.getD_none, Option.isSome_none]; exact sub_tup2 sub_zero (Sub.refl _)
 rw [b2] at h2
 have hto := (isB_iff.1 b1).1
 have h3 := apply_ok l (subB_len' b2) hls t 4000 600 hto hszt (by omega) (by omega) (by omega) (by omega)
 rw [subst_eq b1 b2]
 unfold ApOk at h3
 by_cases hfit : ((t.sub (sgL l)).size : Int) ≤ 4000 ∧ ((t.sub (sgL l)).depth : Int) ≤ 600
 ·rw [if_pos hfit] at h3
  rw [if_pos (isB_iff.2 ⟨sub_okB b2 hto, by omega, by omega⟩)]
  refine acall_of Try.func54 (by decide) rfl Try.results54 (by rw [Try.ntmps54]; simp) (by simp) ?_
  rw [Try.ntmps54]
  simp only [enumL, List.length_nil, List.length_cons, Nat.reduceAdd]
  repeat (first
   | refine RunS.any (by rfl) (by simp only [smEval, Nat.reduceAdd, Nat.reduceMul, Nat.reduceSub, Nat.reduceBEq, Nat.reduceEqDiff, Nat.reduceLeDiff, Nat.reduceLT, Nat.reduceMod, reduceIte, Int.reduceLE, Int.reduceLT, Int.reduceToNat, Nat.reducePow, ty3, ty4, ty9, ty22, ty25, ty28, ty39, ty122, hd']; try rfl) (by rfl) (by simp only [smPut, Nat.reduceBEq, reduceIte]; exact ⟨rfl, rfl⟩) ?_
   | refine RunS.callQ (by rfl) rfl (by simp only [smArg, Nat.reduceBEq, reduceIte]; try rfl) (by first | exact h1 | exact h2) rfl (by rfl) (by rfl) ?_
   | refine RunS.skip (by rfl) (by simp only [smPut, Nat.reduceBEq, reduceIte]; try rfl) ?_
   | refine W.seq ?_ | refine W.block ?_ | refine W.regionK (by decide) fun N hN => ?_
   | (refine RunS.nil (hN _ _ _ ?_); clear hN N; simp only [smLen, Nat.reduceAdd, Nat.reduceMul, reduceIte, Nat.reduceEqDiff])
   | ((first | refine W.exit ?_ | refine W.ret ?_ | refine W.skip ?_); try simp only [smLen, reduceIte, Nat.reduceEqDiff])
   | refine W.condF (by rfl) ?_ | refine W.condT (by rfl) ?_)
  refine RunS.callH rfl (by rfl) (h3) [44] rfl rfl (by simp only [smArg, Nat.reduceBEq, reduceIte]; try rfl) (by simp only [smPut, Nat.reduceBEq, reduceIte, List.append_nil]; try rfl) (by rfl) (by simp only [enumL, List.forall_mem_cons, List.not_mem_nil, false_implies, implies_true, and_true, look_cons, look_nil, smPut, Nat.reduceBEq, reduceIte, Nat.reduceAdd]; try trivial) (by simp only [smPut, Nat.reduceBEq, reduceIte]; try rfl) (by simp only [smPut, Nat.reduceBEq, reduceIte]; try rfl) ?_
  repeat (first
   | refine RunS.any (by rfl) (by simp only [smEval, Nat.reduceAdd, Nat.reduceMul, Nat.reduceSub, Nat.reduceBEq, Nat.reduceEqDiff, Nat.reduceLeDiff, Nat.reduceLT, Nat.reduceMod, reduceIte, Int.reduceLE, Int.reduceLT, Int.reduceToNat, Nat.reducePow, ty3, ty4, ty9, ty22, ty25, ty28, ty39, ty122]; try rfl) (by rfl) (by simp only [smPut, Nat.reduceBEq, reduceIte]; exact ⟨rfl, rfl⟩) ?_
   | refine RunS.skip (by rfl) (by simp only [smPut, Nat.reduceBEq, reduceIte]; try rfl) ?_
   | refine W.seq ?_ | refine W.block ?_ | refine W.regionK (by decide) fun N hN => ?_
   | (refine RunS.nil (hN _ _ _ ?_); clear hN N; simp only [smLen, Nat.reduceAdd, Nat.reduceMul, reduceIte, Nat.reduceEqDiff])
   | ((first | refine W.exit ?_ | refine W.ret ?_ | refine W.skip ?_); try simp only [smLen, reduceIte, Nat.reduceEqDiff])
   | refine W.condF (by rfl) ?_ | refine W.condT (by rfl) ?_)
  refine Fin.pureS Wk.refl (xs := ?_) ?_ rfl ?_ ?_
  rotate_left
  ·simp only [smEval, Nat.reduceAdd, Nat.reduceMul, Nat.reduceSub, Nat.reduceBEq, Nat.reduceEqDiff, Nat.reduceLeDiff, Nat.reduceLT, Nat.reduceMod, reduceIte, Int.reduceLE, Int.reduceLT, Int.reduceToNat, Nat.reducePow, ty3, ty4, ty9, ty22, ty25, ty28, ty39, ty122, resA]; try rfl
  ·rfl
  ·exact Sub.refl _
 ·rw [if_neg hfit] at h3
  rw [if_neg (fun h => hfit (by have := isB_iff.1 h; omega))]
  obtain ⟨o, v, h3⟩ := h3
  cases o with
  | none =>
   refine acall_of Try.func54 (by decide) rfl Try.results54 (by rw [Try.ntmps54]; simp) (by simp) ?_
   rw [Try.ntmps54]
   simp only [enumL, List.length_nil, List.length_cons, Nat.reduceAdd]
   repeat (first
    | refine RunS.any (by rfl) (by simp only [smEval, Nat.reduceAdd, Nat.reduceMul, Nat.reduceSub, Nat.reduceBEq, Nat.reduceEqDiff, Nat.reduceLeDiff, Nat.reduceLT, Nat.reduceMod, reduceIte, Int.reduceLE, Int.reduceLT, Int.reduceToNat, Nat.reducePow, ty3, ty4, ty9, ty22, ty25, ty28, ty39, ty122, hd']; try rfl) (by rfl) (by simp only [smPut, Nat.reduceBEq, reduceIte]; exact ⟨rfl, rfl⟩) ?_
    | refine RunS.callQ (by rfl) rfl (by simp only [smArg, Nat.reduceBEq, reduceIte]; try rfl) (by first | exact h1 | exact h2) rfl (by rfl) (by rfl) ?_
    | refine RunS.skip (by rfl) (by simp only [smPut, Nat.reduceBEq, reduceIte]; try rfl) ?_
    | refine W.seq ?_ | refine W.block ?_ | refine W.regionK (by decide) fun N hN => ?_
    | (refine RunS.nil (hN _ _ _ ?_); clear hN N; simp only [smLen, Nat.reduceAdd, Nat.reduceMul, reduceIte, Nat.reduceEqDiff])
    | ((first | refine W.exit ?_ | refine W.ret ?_ | refine W.skip ?_); try simp only [smLen, reduceIte, Nat.reduceEqDiff])
    | refine W.condF (by rfl) ?_ | refine W.condT (by rfl) ?_)
   refine RunS.callH rfl (by rfl) (h3) [44] rfl rfl (by simp only [smArg, Nat.reduceBEq, reduceIte]; try rfl) (by simp only [smPut, Nat.reduceBEq, reduceIte, List.append_nil]; try rfl) (by rfl) (by simp only [enumL, List.forall_mem_cons, List.not_mem_nil, false_implies, implies_true, and_true, look_cons, look_nil, smPut, Nat.reduceBEq, reduceIte, Nat.reduceAdd]; try trivial) (by simp only [smPut, Nat.reduceBEq, reduceIte]; try rfl) (by simp only [smPut, Nat.reduceBEq, reduceIte]; try rfl) ?_
   repeat (first
    | refine RunS.any (by rfl) (by simp only [smEval, Nat.reduceAdd, Nat.reduceMul, Nat.reduceSub, Nat.reduceBEq, Nat.reduceEqDiff, Nat.reduceLeDiff, Nat.reduceLT, Nat.reduceMod, reduceIte, Int.reduceLE, Int.reduceLT, Int.reduceToNat, Nat.reducePow, ty3, ty4, ty9, ty22, ty25, ty28, ty39, ty122]; try rfl) (by rfl) (by simp only [smPut, Nat.reduceBEq, reduceIte]; exact ⟨rfl, rfl⟩) ?_
    | refine RunS.skip (by rfl) (by simp only [smPut, Nat.reduceBEq, reduceIte]; try rfl) ?_
    | refine W.seq ?_ | refine W.block ?_ | refine W.regionK (by decide) fun N hN => ?_
    | (refine RunS.nil (hN _ _ _ ?_); clear hN N; simp only [smLen, Nat.reduceAdd, Nat.reduceMul, reduceIte, Nat.reduceEqDiff])
    | ((first | refine W.exit ?_ | refine W.ret ?_ | refine W.skip ?_); try simp only [smLen, reduceIte, Nat.reduceEqDiff])
    | refine W.condF (by rfl) ?_ | refine W.condT (by rfl) ?_)
   refine Fin.pureS Wk.refl (xs := ?_) ?_ rfl ?_ ?_
   rotate_left
   ·simp only [smEval, Nat.reduceAdd, Nat.reduceMul, Nat.reduceSub, Nat.reduceBEq, Nat.reduceEqDiff, Nat.reduceLeDiff, Nat.reduceLT, Nat.reduceMod, reduceIte, Int.reduceLE, Int.reduceLT, Int.reduceToNat, Nat.reducePow, ty3, ty4, ty9, ty22, ty25, ty28, ty39, ty122, resA]; try rfl
   ·rfl
   ·simp only [outA, Bool.false_eq_true, reduceIte, Option.getD_none, Option.isSome_none]; exact sub_tup2 sub_zero (Sub.refl _)
  | some y =>
   refine acall_of Try.func54 (by decide) rfl Try.results54 (by rw [Try.ntmps54]; simp) (by simp) ?_
   rw [Try.ntmps54]
   simp only [enumL, List.length_nil, List.length_cons, Nat.reduceAdd]
   repeat (first
    | refine RunS.any (by rfl) (by simp only [smEval, Nat.reduceAdd, Nat.reduceMul, Nat.reduceSub, Nat.reduceBEq, Nat.reduceEqDiff, Nat.reduceLeDiff, Nat.reduceLT, Nat.reduceMod, reduceIte, Int.reduceLE, Int.reduceLT, Int.reduceToNat, Nat.reducePow, ty3, ty4, ty9, ty22, ty25, ty28, ty39, ty122, hd']; try rfl) (by rfl) (by simp only [smPut, Nat.reduceBEq, reduceIte]; exact ⟨rfl, rfl⟩) ?_
    | refine RunS.callQ (by rfl) rfl (by simp only [smArg, Nat.reduceBEq, reduceIte]; try rfl) (by first | exact h1 | exact h2) rfl (by rfl) (by rfl) ?_
    | refine RunS.skip (by rfl) (by simp only [smPut, Nat.reduceBEq, reduceIte]; try rfl) ?_
    | refine W.seq ?_ | refine W.block ?_ | refine W.regionK (by decide) fun N hN => ?_
    | (refine RunS.nil (hN _ _ _ ?_); clear hN N; simp only [smLen, Nat.reduceAdd, Nat.reduceMul, reduceIte, Nat.reduceEqDiff])
    | ((first | refine W.exit ?_ | refine W.ret ?_ | refine W.skip ?_); try simp only [smLen, reduceIte, Nat.reduceEqDiff])
    | refine W.condF (by rfl) ?_ | refine W.condT (by rfl) ?_)
   refine RunS.callH rfl (by rfl) (h3) [44] rfl rfl (by simp only [smArg, Nat.reduceBEq, reduceIte]; try rfl) (by simp only [smPut, Nat.reduceBEq, reduceIte, List.append_nil]; try rfl) (by rfl) (by simp only [enumL, List.forall_mem_cons, List.not_mem_nil, false_implies, implies_true, and_true, look_cons, look_nil, smPut, Nat.reduceBEq, reduceIte, Nat.reduceAdd]; try trivial) (by simp only [smPut, Nat.reduceBEq, reduceIte]; try rfl) (by simp only [smPut, Nat.reduceBEq, reduceIte]; try rfl) ?_
   repeat (first
    | refine RunS.any (by rfl) (by simp only [smEval, Nat.reduceAdd, Nat.reduceMul, Nat.reduceSub, Nat.reduceBEq, Nat.reduceEqDiff, Nat.reduceLeDiff, Nat.reduceLT, Nat.reduceMod, reduceIte, Int.reduceLE, Int.reduceLT, Int.reduceToNat, Nat.reducePow, ty3, ty4, ty9, ty22, ty25, ty28, ty39, ty122]; try rfl) (by rfl) (by simp only [smPut, Nat.reduceBEq, reduceIte]; exact ⟨rfl, rfl⟩) ?_
    | refine RunS.skip (by rfl) (by simp only [smPut, Nat.reduceBEq, reduceIte]; try rfl) ?_
    | refine W.seq ?_ | refine W.block ?_ | refine W.regionK (by decide) fun N hN => ?_
    | (refine RunS.nil (hN _ _ _ ?_); clear hN N; simp only [smLen, Nat.reduceAdd, Nat.reduceMul, reduceIte, Nat.reduceEqDiff])
    | ((first | refine W.exit ?_ | refine W.ret ?_ | refine W.skip ?_); try simp only [smLen, reduceIte, Nat.reduceEqDiff])
    | refine W.condF (by rfl) ?_ | refine W.condT (by rfl) ?_)
   refine Fin.pureS Wk.refl (xs := ?_) ?_ rfl ?_ ?_
   rotate_left
   ·simp only [smEval, Nat.reduceAdd, Nat.reduceMul, Nat.reduceSub, Nat.reduceBEq, Nat.reduceEqDiff, Nat.reduceLeDiff, Nat.reduceLT, Nat.reduceMod, reduceIte, Int.reduceLE, Int.reduceLT, Int.reduceToNat, Nat.reducePow, ty3, ty4, ty9, ty22, ty25, ty28, ty39, ty122, resA]; try rfl
   ·rfl
   ·simp only [outA, Bool.false_eq_true, reduceIte, Option.getD_none, Option.isSome_none]; exact sub_tup2 sub_zero (Sub.refl _)
end Go.Proofs.Ytfhgknmkpegpbaa
set_option linter.unusedVariables false
set_option linter.unusedSimpArgs false
namespace Go.Proofs.Ytfhgknmkpegpbaa
open Go.RowKit Go.Shelf
attribute [local go_sem] Oper.semAt_some
abbrev EBk (n₀ : Nat) (w0 : World) := {x : Nat × EV // x.2.1.s.size ≤ 9223372036854775807 ∧ TmC (· < n₀) w0 x.2.2.1 x.2.2.2 x.2.1.l}
def EBk.tm {n₀ : Nat} {w0 : World} (x : EBk n₀ w0) : Tm := x.1.2.1
def EBk.encs {n₀ : Nat} {w0 : World} (x : EBk n₀ w0) : Array Value := #[.int .i64 x.1.1, .agg #[.int .i64 x.1.2.1.k, .int .i64 x.1.2.1.n, .string x.1.2.1.s, .slice x.1.2.2.1 x.1.2.1.l.length x.1.2.2.2]]
def KpL (n₀ : Nat) (W W' : World) : Prop := Below n₀ W W' ∧ ∀ g v, Blk W g 22 #[v] → Blk W' g 22 #[v]
theorem KpL.trans {n₀ : Nat} {A B C : World} (h : KpL n₀ A B) (k : KpL n₀ B C) : KpL n₀ A C := ⟨h.1.trans k.1, fun g cs hb => k.2 g cs (h.2 g cs hb)⟩
theorem KpL.refl (n₀ : Nat) (W : World) : KpL n₀ W W := ⟨Below.refl _ _, fun _ _ h => h⟩
end Go.Proofs.Ytfhgknmkpegpbaa
set_option linter.unusedVariables false
set_option linter.unusedSimpArgs false
namespace Go.Proofs.Ytfhgknmkpegpbaa
open Go.RowKit
def lenOf : Value → Nat | .slice _ n _ => n | _ => 0
theorem set4_at (W : World) (g : Nat) (cs : Array Value) (T : TypeId) (h : Blk W g T cs) (hc : cs.size = 4) (a b c d : Value) : Blk ((((W.setCell ⟨g, 0, none⟩ a).setCell ⟨g, 1, none⟩ b).setCell ⟨g, 2, none⟩ c).setCell ⟨g, 3, none⟩ d) g T #[a, b, c, d] := by
 have h1 := (((h.set_ 0 a).set_ 1 b).set_ 2 c).set_ 3 d
 obtain ⟨l⟩ := cs
 match l, hc with
 | [_, _, _, _], _ => exact h1
end Go.Proofs.Ytfhgknmkpegpbaa
set_option linter.unusedVariables false
set_option linter.unusedSimpArgs false
namespace Go.Proofs.Ytfhgknmkpegpbaa
open Go.RowKit Go.Shelf
attribute [local go_sem] Oper.semAt_some
theorem cells_of_cell {w : World} {a : Addr} {v : Value} (h : w.cell? a = some v) : ∃ o : Obj, w.heap[a.block]? = some o ∧ o.isCells = true := by
 obtain ⟨b, o, s⟩ := a
 unfold World.cell? at h
 cases hh : w.heap[b]? with
 | none => rw [hh] at h; cases h
 | some o =>
  rw [hh] at h
  refine ⟨o, rfl, ?_⟩
  cases o <;> first | rfl | (cases s <;> simp at h)
theorem TmC.keptCells {P : Nat → Prop} {w w' : World} {A : Option Addr} {c : Nat} {l : List Tm} (h : TmC P w A c l) (hk : ∀ (g : Nat) (o : Obj), w.heap[g]? = some o → o.isCells = true → w'.heap[g]? = some o) : TmC P w' A c l := by
 induction h with
 | mk es he hl hc hn hP hr hs hrec ih =>
  refine .mk es he hl hc hn hP (fun hne => ?_) hs ih
  obtain ⟨g, off, hA, hcell⟩ := hr hne
  refine ⟨g, off, hA, fun j v hj => ?_⟩
  have h1 := hcell j v hj
  obtain ⟨o, h2, h3⟩ := cells_of_cell h1
  rw [cell_of_heap ((hk g o h2 h3).trans h2.symm)]; exact h1
theorem own_cells {B : Nat} {X Y : World} {row : Option Nat} (hg : X.grownBy Y row) (hr : ∀ r, row = some r → B ≤ r ∧ ∃ o : Obj, X.heap[r]? = some o ∧ o.isCells = false) : ∀ (g : Nat) (o : Obj), X.heap[g]? = some o → o.isCells = true → Y.heap[g]? = some o := fun g o h hc =>
 (hg.block g (Array.getElem?_eq_some_iff.1 h).1 (fun e => by
  obtain ⟨-, o', ho, hc'⟩ := hr g e.symm
  rw [h] at ho; injection ho with ho; subst ho; rw [hc] at hc'; cases hc')).trans h
theorem put_cells {X : World} {D : Nat} {o1 o' : Obj} (hD : X.heap[D]? = some o1) (h1 : o1.isCells = false) : ∀ (g : Nat) (o : Obj), X.heap[g]? = some o → o.isCells = true → (X.putObj D o').heap[g]? = some o := fun g o h hc =>
 (World.putObj_heap_other (fun e => by subst e; rw [h] at hD; injection hD with hD; subst hD; rw [hc] at h1; cases h1)).trans h
theorem Blk.new' {W : World} {g : Nat} {t : TypeId} {cs : Array Value} (h : g = W.heap.size) : Blk (W.alloc (.cells cs t)) g t cs := by rw [h]; exact Blk.new _ _ _
def LEnd (w : World) (r : Option Tm) (er : Int) (W : World) : Prop :=
 ∃ A c, Blk W (w.heap.size + 1) 25 #[.int .i64 (r.getD Tm.zero).k, .int .i64 (r.getD Tm.zero).n, .string (r.getD Tm.zero).s, .slice A (r.getD Tm.zero).l.length c] ∧ (r.getD Tm.zero).s.size ≤ 9223372036854775807 ∧ TmC (w.heap.size ≤ ·) W A c (r.getD Tm.zero).l ∧ Below w.heap.size w W
theorem LEnd.put {w W : World} {r : Option Tm} {er : Int} {D : Nat} (h : LEnd w r er W) (hD : w.heap.size + 2 ≤ D) (hk : W.heap[D]? = some (.deferred (some []))) : LEnd w r er (W.putObj D (.deferred none)) := by
 obtain ⟨A, c, h1, h2, h3, h4⟩ := h
 exact ⟨A, c, put_cells hk rfl _ _ h1 rfl, h2, h3.keptCells (put_cells hk rfl), h4.trans (Below.putObj_ (Nat.le_refl _) _ _ (.deferred none) _ (by omega))⟩
theorem LEnd.res {w W : World} {r : Option Tm} {er : Int} (h : LEnd w r er W) {fn : Func} (hf : fn.results = #[.cell 4 25, .tmp 5]) {tmps : Array Value} (h4 : tmps.getD 4 undef = .pointer (some ⟨w.heap.size + 1, 0, none⟩)) (h5 : tmps.getD 5 undef = .int .i64 (if r.isSome then 0 else er)) : ∃ v, (results fn tmps).run Try.prog W = .ok v W ∧ RetME w r er (.returned v) W := by
 obtain ⟨A, c, h1, h2, h3, h6⟩ := h
 obtain ⟨⟨b0, b1, b2, b3⟩, -⟩ := h1.four
 have h4' : tmps[4]?.getD undef = .pointer (some ⟨w.heap.size + 1, 0, none⟩) := by simpa using h4
 have h5' : tmps[5]?.getD undef = .int .i64 (if r.isSome then 0 else er) := by simpa using h5
 exact ⟨.tuple #[.agg #[.int .i64 (r.getD Tm.zero).k, .int .i64 (r.getD Tm.zero).n, .string (r.getD Tm.zero).s, .slice A (r.getD Tm.zero).l.length c], .int .i64 (if r.isSome then 0 else er)], by simp [results, hf, go_sem, h4', h5', b0, b1, b2, b3], A, c, rfl, h2, h3, h6⟩
end Go.Proofs.Ytfhgknmkpegpbaa
set_option linter.unusedVariables false
set_option linter.unusedSimpArgs false
namespace Go.Proofs.Ytfhgknmkpegpbaa
open Go.RowKit
theorem RowsT.lit {w : World} {es : List TV} {T : TypeId} (h : ∀ e ∈ es, TmC (fun _ => True) w e.2.1 e.2.2 e.1) : RowsT (w.alloc (.cells (es.flatMap encT).toArray T)) (some ⟨w.heap.size, 0, none⟩) es :=
 ⟨fun _ => ⟨w.heap.size, 0, rfl, fun j v hj => by rw [Nat.zero_add, (Blk.new w T _).cell j]; simpa using hj⟩, fun e he => (h e he).stay ((Below.refl _ _).alloc (Nat.le_refl _) _) (Nat.le_refl _)⟩
theorem littleB_iff {ls : List (List Tm)} : littleB ls = true ↔ ∀ l ∈ ls, l.length ≤ 60 ∧ smallB l = true := by
 unfold littleB; simp [List.all_eq_true]
end Go.Proofs.Ytfhgknmkpegpbaa
set_option linter.unusedVariables false
namespace Go.Proofs.Ytfhgknmkpegpbaa
open Go.RowKit
theorem Below.next {a b c : World} (h : Below a.heap.size a b) (h2 : Below b.heap.size b c) : Below a.heap.size a c := h.trans (h2.mono h.size)
def SW (w0 : World) (cs : List (Addr × Value)) (W : World) : Prop := Hid (Below w0.heap.size w0 W) ∧ ∀ p ∈ cs, W.cell? p.1 = some p.2
theorem SW.below {w0 : World} {cs : List (Addr × Value)} {W W2 : World} (h : SW w0 cs W) (hb : Below W.heap.size W W2) : SW w0 cs W2 :=
 ⟨Lib.hid (Below.next h.1.out hb), fun p hp => keep_cell hb (h.2 p hp)⟩
theorem SW.start {w0 : World} {cs : List (Addr × Value)} (h : ∀ p ∈ cs, w0.cell? p.1 = some p.2) : SW w0 cs w0.drew :=
 ⟨Lib.hid (Below.refl _ _).drew, fun p hp => keep_cell (Below.refl _ _).drew (h p hp)⟩
theorem SW.at {w0 : World} {cs : List (Addr × Value)} {W : World} {a : Addr} {v : Value} (h : SW w0 cs W) (i : Nat) (hi : cs[i]? = some (a, v)) : W.cell? a = some v := h.2 (a, v) (List.mem_of_getElem? hi)
end Go.Proofs.Ytfhgknmkpegpbaa
