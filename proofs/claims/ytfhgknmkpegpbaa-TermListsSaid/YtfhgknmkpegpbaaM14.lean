/- Layer 1, part 14 of the base: the walks and plain facts named in NOTES.md as U7, U8, U9, T46, T51. -/
import Derived.Test.YtfhgknmkpegpbaaM13
import Derived.Test.YtfhgknmkpegpbaaM11
import Derived.Test.YtfhgknmkpegpbaaM6
import Derived.Test.YtfhgknmkpegpbaaM1
import Derived.Test.YtfhgknmkpegpbaaM9
import Derived.Test.YtfhgknmkpegpbaaM4

/- Layer 1 by the pure model, 7: the reference's Items and General: functions 61, 57. -/
set_option linter.unusedVariables false
set_option linter.unusedSimpArgs false
namespace Go.Proofs.Ytfhgknmkpegpbaa
open Go Go.Abs Go.Proofs Go.RowKit
set_option maxRecDepth 100000 in
set_option maxHeartbeats 1000000 in
theorem refItems_ok (t : Tm) (hsz : t.size ≤ 1000000) : ACall Try.prog 61 [tA t] [] (.tup [tsA (itR t).1, tA (itR t).2, vI (errT (isB t))]) [] := by
  have h1 := refCheck_ok t (by omega)
  unfold itR
  refine acall_of Try.func61 (by decide) rfl Try.results61 (by rw [Try.ntmps61]; simp) (by simp) ?_
  rw [Try.ntmps61]
  simp only [enumL, List.length_nil, List.length_cons, Nat.reduceAdd]
  repeat (first | refine W.seq ?_ | refine W.block ?_)
  refine W.regionK (by decide) fun N hN => ?_
  repeat (first
    | refine RunS.any (by rfl) (by simp only [pl, o1, o2, o3, plBuiltin, evT, cv, okV, evParts, evCaps, look_cons, look_nil, plLoad, plStore, plAlloc, plBox, plBuild, plSlice, plFieldAddr, plField, plIndexAddr, plIndex, plBin, abin, plUn, plConv, plNil, plExtract, plLen, plMax, plAppend, elemsOf, readAt, ldv, cellsV, toF, allF, splice, afill, zeros, chunk, TK.agg, Nat.reduceAdd, Nat.reduceMul, Nat.reduceSub, Nat.reduceBEq, Nat.reduceEqDiff, Nat.reduceLeDiff, Nat.reduceLT, Nat.reduceMod, Bool.false_eq_true, reduceIte, true_and, and_true, and_self, List.length_cons, List.length_nil, List.length_map, List.length_append, List.map_cons, List.map_nil, List.take_succ_cons, List.take_zero, List.drop_succ_cons, List.drop_zero, List.nil_append, List.cons_append, List.append_nil, List.getElem?_cons_zero, List.getElem?_cons_succ, List.getElem?_map, List.set_cons_zero, List.set_cons_succ, Option.map_some, beq_self_eq_true, List.all_cons, List.all_nil, Int.reduceLE, Int.reduceLT, Int.toNat_zero, Int.reduceToNat, Int.toNat_natCast, Int.natCast_nonneg, Nat.zero_add, Nat.le_refl, Nat.lt_irrefl, gt_iff_lt, decide_true, decide_false, Bool.not_true, Bool.not_false, List.range_succ, List.range_zero, List.getD_cons_zero, List.getD_cons_succ, maxLen, Nat.reducePow, Nat.zero_le, Nat.succ_ne_self, Nat.zero_mod, ty3, ty4, ty9, ty22, ty25, ty28, ty39, ty122]; try rfl) (by rfl) (by simp only [put, puts, setT, List.filter_cons, List.filter_nil, Nat.reduceBEq, Bool.false_eq_true, reduceIte, Bool.not_true, Bool.not_false, List.zip_cons_cons, List.zip_nil_left, List.zip_nil_right, List.map_cons, List.map_nil, AB.ren, AC.rens, AC.ren, AV.ren, AV.rens, nm, List.getD_cons_zero, List.getD_cons_succ]; exact ⟨rfl, rfl⟩) ?_
    | refine RunS.skip (by rfl) (by simp only [setT, List.filter_cons, List.filter_nil, Nat.reduceBEq, Bool.false_eq_true, reduceIte, Bool.not_true, Bool.not_false]; try rfl) ?_)
  refine RunS.nil (hN _ _ _ ?_)
  clear hN N
  simp only [List.length_cons, List.length_nil, Nat.reduceAdd, Nat.reduceMul, kSeq, kBlock, kFin, reduceIte, Nat.reduceEqDiff]
  cases b1 : isB t
  · rw [b1] at h1
    have hd : decide (errT false ≠ 0) = true := rfl
    repeat (first | refine W.seq ?_ | refine W.block ?_)
    refine W.regionK (by decide) fun N hN => ?_
    repeat (first
      | refine RunS.any (by rfl) (by simp only [pl, o1, o2, o3, plBuiltin, evT, cv, okV, evParts, evCaps, look_cons, look_nil, plLoad, plStore, plAlloc, plBox, plBuild, plSlice, plFieldAddr, plField, plIndexAddr, plIndex, plBin, abin, plUn, plConv, plNil, plExtract, plLen, plMax, plAppend, elemsOf, readAt, ldv, cellsV, toF, allF, splice, afill, zeros, chunk, TK.agg, Nat.reduceAdd, Nat.reduceMul, Nat.reduceSub, Nat.reduceBEq, Nat.reduceEqDiff, Nat.reduceLeDiff, Nat.reduceLT, Nat.reduceMod, Bool.false_eq_true, reduceIte, true_and, and_true, and_self, List.length_cons, List.length_nil, List.length_map, List.length_append, List.map_cons, List.map_nil, List.take_succ_cons, List.take_zero, List.drop_succ_cons, List.drop_zero, List.nil_append, List.cons_append, List.append_nil, List.getElem?_cons_zero, List.getElem?_cons_succ, List.getElem?_map, List.set_cons_zero, List.set_cons_succ, Option.map_some, beq_self_eq_true, List.all_cons, List.all_nil, Int.reduceLE, Int.reduceLT, Int.toNat_zero, Int.reduceToNat, Int.toNat_natCast, Int.natCast_nonneg, Nat.zero_add, Nat.le_refl, Nat.lt_irrefl, gt_iff_lt, decide_true, decide_false, Bool.not_true, Bool.not_false, List.range_succ, List.range_zero, List.getD_cons_zero, List.getD_cons_succ, maxLen, Nat.reducePow, Nat.zero_le, Nat.succ_ne_self, Nat.zero_mod, ty3, ty4, ty9, ty22, ty25, ty28, ty39, ty122]; try rfl) (by rfl) (by simp only [put, puts, setT, List.filter_cons, List.filter_nil, Nat.reduceBEq, Bool.false_eq_true, reduceIte, Bool.not_true, Bool.not_false, List.zip_cons_cons, List.zip_nil_left, List.zip_nil_right, List.map_cons, List.map_nil, AB.ren, AC.rens, AC.ren, AV.ren, AV.rens, nm, List.getD_cons_zero, List.getD_cons_succ]; exact ⟨rfl, rfl⟩) ?_
      | refine RunS.skip (by rfl) (by simp only [setT, List.filter_cons, List.filter_nil, Nat.reduceBEq, Bool.false_eq_true, reduceIte, Bool.not_true, Bool.not_false]; try rfl) ?_)
    refine RunS.callP rfl (by rfl) (h1) rfl (by simp only [evArgs, evT, cv, okV, look_cons, Nat.reduceBEq, Bool.false_eq_true, reduceIte]; try rfl) (by rfl) (by rfl) ?_
    repeat (first
      | refine RunS.any (by rfl) (by simp only [pl, o1, o2, o3, plBuiltin, evT, cv, okV, evParts, evCaps, look_cons, look_nil, plLoad, plStore, plAlloc, plBox, plBuild, plSlice, plFieldAddr, plField, plIndexAddr, plIndex, plBin, abin, plUn, plConv, plNil, plExtract, plLen, plMax, plAppend, elemsOf, readAt, ldv, cellsV, toF, allF, splice, afill, zeros, chunk, TK.agg, Nat.reduceAdd, Nat.reduceMul, Nat.reduceSub, Nat.reduceBEq, Nat.reduceEqDiff, Nat.reduceLeDiff, Nat.reduceLT, Nat.reduceMod, Bool.false_eq_true, reduceIte, true_and, and_true, and_self, List.length_cons, List.length_nil, List.length_map, List.length_append, List.map_cons, List.map_nil, List.take_succ_cons, List.take_zero, List.drop_succ_cons, List.drop_zero, List.nil_append, List.cons_append, List.append_nil, List.getElem?_cons_zero, List.getElem?_cons_succ, List.getElem?_map, List.set_cons_zero, List.set_cons_succ, Option.map_some, beq_self_eq_true, List.all_cons, List.all_nil, Int.reduceLE, Int.reduceLT, Int.toNat_zero, Int.reduceToNat, Int.toNat_natCast, Int.natCast_nonneg, Nat.zero_add, Nat.le_refl, Nat.lt_irrefl, gt_iff_lt, decide_true, decide_false, Bool.not_true, Bool.not_false, List.range_succ, List.range_zero, List.getD_cons_zero, List.getD_cons_succ, maxLen, Nat.reducePow, Nat.zero_le, Nat.succ_ne_self, Nat.zero_mod, ty3, ty4, ty9, ty22, ty25, ty28, ty39, ty122, hd]; try rfl) (by rfl) (by simp only [put, puts, setT, List.filter_cons, List.filter_nil, Nat.reduceBEq, Bool.false_eq_true, reduceIte, Bool.not_true, Bool.not_false, List.zip_cons_cons, List.zip_nil_left, List.zip_nil_right, List.map_cons, List.map_nil, AB.ren, AC.rens, AC.ren, AV.ren, AV.rens, nm, List.getD_cons_zero, List.getD_cons_succ]; exact ⟨rfl, rfl⟩) ?_
      | refine RunS.skip (by rfl) (by simp only [setT, List.filter_cons, List.filter_nil, Nat.reduceBEq, Bool.false_eq_true, reduceIte, Bool.not_true, Bool.not_false]; try rfl) ?_)
    refine RunS.nil (hN _ _ _ ?_)
    clear hN N
    simp only [List.length_cons, List.length_nil, Nat.reduceAdd, Nat.reduceMul, kSeq, kBlock, kFin, reduceIte, Nat.reduceEqDiff]
    refine W.condT (by rfl) ?_
    repeat (first | refine W.seq ?_ | refine W.block ?_)
    refine W.regionK (by decide) fun N hN => ?_
    repeat (first
      | refine RunS.any (by rfl) (by simp only [pl, o1, o2, o3, plBuiltin, evT, cv, okV, evParts, evCaps, look_cons, look_nil, plLoad, plStore, plAlloc, plBox, plBuild, plSlice, plFieldAddr, plField, plIndexAddr, plIndex, plBin, abin, plUn, plConv, plNil, plExtract, plLen, plMax, plAppend, elemsOf, readAt, ldv, cellsV, toF, allF, splice, afill, zeros, chunk, TK.agg, Nat.reduceAdd, Nat.reduceMul, Nat.reduceSub, Nat.reduceBEq, Nat.reduceEqDiff, Nat.reduceLeDiff, Nat.reduceLT, Nat.reduceMod, Bool.false_eq_true, reduceIte, true_and, and_true, and_self, List.length_cons, List.length_nil, List.length_map, List.length_append, List.map_cons, List.map_nil, List.take_succ_cons, List.take_zero, List.drop_succ_cons, List.drop_zero, List.nil_append, List.cons_append, List.append_nil, List.getElem?_cons_zero, List.getElem?_cons_succ, List.getElem?_map, List.set_cons_zero, List.set_cons_succ, Option.map_some, beq_self_eq_true, List.all_cons, List.all_nil, Int.reduceLE, Int.reduceLT, Int.toNat_zero, Int.reduceToNat, Int.toNat_natCast, Int.natCast_nonneg, Nat.zero_add, Nat.le_refl, Nat.lt_irrefl, gt_iff_lt, decide_true, decide_false, Bool.not_true, Bool.not_false, List.range_succ, List.range_zero, List.getD_cons_zero, List.getD_cons_succ, maxLen, Nat.reducePow, Nat.zero_le, Nat.succ_ne_self, Nat.zero_mod, ty3, ty4, ty9, ty22, ty25, ty28, ty39, ty122]; try rfl) (by rfl) (by simp only [put, puts, setT, List.filter_cons, List.filter_nil, Nat.reduceBEq, Bool.false_eq_true, reduceIte, Bool.not_true, Bool.not_false, List.zip_cons_cons, List.zip_nil_left, List.zip_nil_right, List.map_cons, List.map_nil, AB.ren, AC.rens, AC.ren, AV.ren, AV.rens, nm, List.getD_cons_zero, List.getD_cons_succ]; exact ⟨rfl, rfl⟩) ?_
      | refine RunS.skip (by rfl) (by simp only [setT, List.filter_cons, List.filter_nil, Nat.reduceBEq, Bool.false_eq_true, reduceIte, Bool.not_true, Bool.not_false]; try rfl) ?_)
    refine RunS.nil (hN _ _ _ ?_)
    clear hN N
    simp only [List.length_cons, List.length_nil, Nat.reduceAdd, Nat.reduceMul, kSeq, kBlock, kFin, reduceIte, Nat.reduceEqDiff]
    first | refine W.exit ?_ | refine W.ret ?_ | refine W.skip ?_
    try simp only [kSeq, kBlock, kFin, reduceIte, Nat.reduceEqDiff]
    refine Fin.pureS Wk.refl (xs := ?_) ?_ rfl ?_ ?_
    rotate_left
    · simp only [pl, o1, o2, o3, plBuiltin, evT, cv, okV, evParts, evCaps, look_cons, look_nil, plLoad, plStore, plAlloc, plBox, plBuild, plSlice, plFieldAddr, plField, plIndexAddr, plIndex, plBin, abin, plUn, plConv, plNil, plExtract, plLen, plMax, plAppend, elemsOf, readAt, ldv, cellsV, toF, allF, splice, afill, zeros, chunk, TK.agg, Nat.reduceAdd, Nat.reduceMul, Nat.reduceSub, Nat.reduceBEq, Nat.reduceEqDiff, Nat.reduceLeDiff, Nat.reduceLT, Nat.reduceMod, Bool.false_eq_true, reduceIte, true_and, and_true, and_self, List.length_cons, List.length_nil, List.length_map, List.length_append, List.map_cons, List.map_nil, List.take_succ_cons, List.take_zero, List.drop_succ_cons, List.drop_zero, List.nil_append, List.cons_append, List.append_nil, List.getElem?_cons_zero, List.getElem?_cons_succ, List.getElem?_map, List.set_cons_zero, List.set_cons_succ, Option.map_some, beq_self_eq_true, List.all_cons, List.all_nil, Int.reduceLE, Int.reduceLT, Int.toNat_zero, Int.reduceToNat, Int.toNat_natCast, Int.natCast_nonneg, Nat.zero_add, Nat.le_refl, Nat.lt_irrefl, gt_iff_lt, decide_true, decide_false, Bool.not_true, Bool.not_false, List.range_succ, List.range_zero, List.getD_cons_zero, List.getD_cons_succ, maxLen, Nat.reducePow, Nat.zero_le, Nat.succ_ne_self, Nat.zero_mod, ty3, ty4, ty9, ty22, ty25, ty28, ty39, ty122, resA]; try rfl
    · rfl
    · exact sub_tup3 (sub_nil 4) sub_zero (Sub.refl _)
  · rw [b1] at h1
    have hd : decide (errT true ≠ 0) = false := rfl
    repeat (first | refine W.seq ?_ | refine W.block ?_)
    refine W.regionK (by decide) fun N hN => ?_
    repeat (first
      | refine RunS.any (by rfl) (by simp only [pl, o1, o2, o3, plBuiltin, evT, cv, okV, evParts, evCaps, look_cons, look_nil, plLoad, plStore, plAlloc, plBox, plBuild, plSlice, plFieldAddr, plField, plIndexAddr, plIndex, plBin, abin, plUn, plConv, plNil, plExtract, plLen, plMax, plAppend, elemsOf, readAt, ldv, cellsV, toF, allF, splice, afill, zeros, chunk, TK.agg, Nat.reduceAdd, Nat.reduceMul, Nat.reduceSub, Nat.reduceBEq, Nat.reduceEqDiff, Nat.reduceLeDiff, Nat.reduceLT, Nat.reduceMod, Bool.false_eq_true, reduceIte, true_and, and_true, and_self, List.length_cons, List.length_nil, List.length_map, List.length_append, List.map_cons, List.map_nil, List.take_succ_cons, List.take_zero, List.drop_succ_cons, List.drop_zero, List.nil_append, List.cons_append, List.append_nil, List.getElem?_cons_zero, List.getElem?_cons_succ, List.getElem?_map, List.set_cons_zero, List.set_cons_succ, Option.map_some, beq_self_eq_true, List.all_cons, List.all_nil, Int.reduceLE, Int.reduceLT, Int.toNat_zero, Int.reduceToNat, Int.toNat_natCast, Int.natCast_nonneg, Nat.zero_add, Nat.le_refl, Nat.lt_irrefl, gt_iff_lt, decide_true, decide_false, Bool.not_true, Bool.not_false, List.range_succ, List.range_zero, List.getD_cons_zero, List.getD_cons_succ, maxLen, Nat.reducePow, Nat.zero_le, Nat.succ_ne_self, Nat.zero_mod, ty3, ty4, ty9, ty22, ty25, ty28, ty39, ty122]; try rfl) (by rfl) (by simp only [put, puts, setT, List.filter_cons, List.filter_nil, Nat.reduceBEq, Bool.false_eq_true, reduceIte, Bool.not_true, Bool.not_false, List.zip_cons_cons, List.zip_nil_left, List.zip_nil_right, List.map_cons, List.map_nil, AB.ren, AC.rens, AC.ren, AV.ren, AV.rens, nm, List.getD_cons_zero, List.getD_cons_succ]; exact ⟨rfl, rfl⟩) ?_
      | refine RunS.skip (by rfl) (by simp only [setT, List.filter_cons, List.filter_nil, Nat.reduceBEq, Bool.false_eq_true, reduceIte, Bool.not_true, Bool.not_false]; try rfl) ?_)
    refine RunS.callP rfl (by rfl) (h1) rfl (by simp only [evArgs, evT, cv, okV, look_cons, Nat.reduceBEq, Bool.false_eq_true, reduceIte]; try rfl) (by rfl) (by rfl) ?_
    repeat (first
      | refine RunS.any (by rfl) (by simp only [pl, o1, o2, o3, plBuiltin, evT, cv, okV, evParts, evCaps, look_cons, look_nil, plLoad, plStore, plAlloc, plBox, plBuild, plSlice, plFieldAddr, plField, plIndexAddr, plIndex, plBin, abin, plUn, plConv, plNil, plExtract, plLen, plMax, plAppend, elemsOf, readAt, ldv, cellsV, toF, allF, splice, afill, zeros, chunk, TK.agg, Nat.reduceAdd, Nat.reduceMul, Nat.reduceSub, Nat.reduceBEq, Nat.reduceEqDiff, Nat.reduceLeDiff, Nat.reduceLT, Nat.reduceMod, Bool.false_eq_true, reduceIte, true_and, and_true, and_self, List.length_cons, List.length_nil, List.length_map, List.length_append, List.map_cons, List.map_nil, List.take_succ_cons, List.take_zero, List.drop_succ_cons, List.drop_zero, List.nil_append, List.cons_append, List.append_nil, List.getElem?_cons_zero, List.getElem?_cons_succ, List.getElem?_map, List.set_cons_zero, List.set_cons_succ, Option.map_some, beq_self_eq_true, List.all_cons, List.all_nil, Int.reduceLE, Int.reduceLT, Int.toNat_zero, Int.reduceToNat, Int.toNat_natCast, Int.natCast_nonneg, Nat.zero_add, Nat.le_refl, Nat.lt_irrefl, gt_iff_lt, decide_true, decide_false, Bool.not_true, Bool.not_false, List.range_succ, List.range_zero, List.getD_cons_zero, List.getD_cons_succ, maxLen, Nat.reducePow, Nat.zero_le, Nat.succ_ne_self, Nat.zero_mod, ty3, ty4, ty9, ty22, ty25, ty28, ty39, ty122, hd]; try rfl) (by rfl) (by simp only [put, puts, setT, List.filter_cons, List.filter_nil, Nat.reduceBEq, Bool.false_eq_true, reduceIte, Bool.not_true, Bool.not_false, List.zip_cons_cons, List.zip_nil_left, List.zip_nil_right, List.map_cons, List.map_nil, AB.ren, AC.rens, AC.ren, AV.ren, AV.rens, nm, List.getD_cons_zero, List.getD_cons_succ]; exact ⟨rfl, rfl⟩) ?_
      | refine RunS.skip (by rfl) (by simp only [setT, List.filter_cons, List.filter_nil, Nat.reduceBEq, Bool.false_eq_true, reduceIte, Bool.not_true, Bool.not_false]; try rfl) ?_)
    refine RunS.nil (hN _ _ _ ?_)
    clear hN N
    simp only [List.length_cons, List.length_nil, Nat.reduceAdd, Nat.reduceMul, kSeq, kBlock, kFin, reduceIte, Nat.reduceEqDiff]
    refine W.condF (by rfl) ?_
    first | refine W.exit ?_ | refine W.ret ?_ | refine W.skip ?_
    try simp only [kSeq, kBlock, kFin, reduceIte, Nat.reduceEqDiff]
    repeat (first | refine W.seq ?_ | refine W.block ?_)
    refine W.regionK (by decide) fun N hN => ?_
    repeat (first
      | refine RunS.any (by rfl) (by simp only [pl, o1, o2, o3, plBuiltin, evT, cv, okV, evParts, evCaps, look_cons, look_nil, plLoad, plStore, plAlloc, plBox, plBuild, plSlice, plFieldAddr, plField, plIndexAddr, plIndex, plBin, abin, plUn, plConv, plNil, plExtract, plLen, plMax, plAppend, elemsOf, readAt, ldv, cellsV, toF, allF, splice, afill, zeros, chunk, TK.agg, Nat.reduceAdd, Nat.reduceMul, Nat.reduceSub, Nat.reduceBEq, Nat.reduceEqDiff, Nat.reduceLeDiff, Nat.reduceLT, Nat.reduceMod, Bool.false_eq_true, reduceIte, true_and, and_true, and_self, List.length_cons, List.length_nil, List.length_map, List.length_append, List.map_cons, List.map_nil, List.take_succ_cons, List.take_zero, List.drop_succ_cons, List.drop_zero, List.nil_append, List.cons_append, List.append_nil, List.getElem?_cons_zero, List.getElem?_cons_succ, List.getElem?_map, List.set_cons_zero, List.set_cons_succ, Option.map_some, beq_self_eq_true, List.all_cons, List.all_nil, Int.reduceLE, Int.reduceLT, Int.toNat_zero, Int.reduceToNat, Int.toNat_natCast, Int.natCast_nonneg, Nat.zero_add, Nat.le_refl, Nat.lt_irrefl, gt_iff_lt, decide_true, decide_false, Bool.not_true, Bool.not_false, List.range_succ, List.range_zero, List.getD_cons_zero, List.getD_cons_succ, maxLen, Nat.reducePow, Nat.zero_le, Nat.succ_ne_self, Nat.zero_mod, ty3, ty4, ty9, ty22, ty25, ty28, ty39, ty122]; try rfl) (by rfl) (by simp only [put, puts, setT, List.filter_cons, List.filter_nil, Nat.reduceBEq, Bool.false_eq_true, reduceIte, Bool.not_true, Bool.not_false, List.zip_cons_cons, List.zip_nil_left, List.zip_nil_right, List.map_cons, List.map_nil, AB.ren, AC.rens, AC.ren, AV.ren, AV.rens, nm, List.getD_cons_zero, List.getD_cons_succ]; exact ⟨rfl, rfl⟩) ?_
      | refine RunS.skip (by rfl) (by simp only [setT, List.filter_cons, List.filter_nil, Nat.reduceBEq, Bool.false_eq_true, reduceIte, Bool.not_true, Bool.not_false]; try rfl) ?_)
    refine RunS.nil (hN _ _ _ ?_)
    clear hN N
    simp only [List.length_cons, List.length_nil, Nat.reduceAdd, Nat.reduceMul, kSeq, kBlock, kFin, reduceIte, Nat.reduceEqDiff]
    repeat (first | refine W.seq ?_ | refine W.block ?_)
    refine W.loop ?_
    refine WL.ind (σ := List Tm × Tm) (nx := 33) (fun s => t.items = (s.1 ++ s.2.items.1, s.2.items.2) ∧ s.1.length + s.2.size ≤ t.size) (fun s => s.2.size) (fun s => [(1, .one (.ptr 0 0)), (3, .one (.ptr 2 0)), (5, .one (.row 32 s.1.length))]) (fun s => [(0, .box 25 (cA s.2)), (2, .box 25 zA), (32, .row 25 4 (s.1.map treeC))]) ([], t) ⟨by simp, by simp⟩ ?_ ?_
    · refine (Wk.nilT 5 25 4 rfl rfl).trans ?_
      refine Wk.keep [] (by rfl) ?_ ?_ <;> simp only [keepT, keepH, look_cons, look_nil, AV.frz, AV.frzs, AC.frz, AC.frzs, AB.frz, lives, List.any_cons, List.any_nil, Nat.reduceBEq, Nat.reduceLT, Bool.false_eq_true, reduceIte, and_true, true_and, and_self, Option.some.injEq, decide_false, decide_true, Bool.or_false, Bool.or_true, Bool.false_or, Bool.true_or, beq_self_eq_true, List.contains_nil, List.contains_cons, List.length_map, List.length_cons, List.length_nil, List.length_append, List.map_nil]
    rintro ⟨q, u⟩ ⟨hq, hm⟩
    simp only at hq hm
    have h2 := isCell_ok u
    cases hc : cellB u
    · rw [hc] at h2
      repeat (first | refine W.seq ?_ | refine W.block ?_)
      refine W.regionK (by decide) fun N hN => ?_
      repeat (first
        | refine RunS.any (by rfl) (by simp only [pl, o1, o2, o3, plBuiltin, evT, cv, okV, evParts, evCaps, look_cons, look_nil, plLoad, plStore, plAlloc, plBox, plBuild, plSlice, plFieldAddr, plField, plIndexAddr, plIndex, plBin, abin, plUn, plConv, plNil, plExtract, plLen, plMax, plAppend, elemsOf, readAt, ldv, cellsV, toF, allF, splice, afill, zeros, chunk, TK.agg, Nat.reduceAdd, Nat.reduceMul, Nat.reduceSub, Nat.reduceBEq, Nat.reduceEqDiff, Nat.reduceLeDiff, Nat.reduceLT, Nat.reduceMod, Bool.false_eq_true, reduceIte, true_and, and_true, and_self, List.length_cons, List.length_nil, List.length_map, List.length_append, List.map_cons, List.map_nil, List.take_succ_cons, List.take_zero, List.drop_succ_cons, List.drop_zero, List.nil_append, List.cons_append, List.append_nil, List.getElem?_cons_zero, List.getElem?_cons_succ, List.getElem?_map, List.set_cons_zero, List.set_cons_succ, Option.map_some, beq_self_eq_true, List.all_cons, List.all_nil, Int.reduceLE, Int.reduceLT, Int.toNat_zero, Int.reduceToNat, Int.toNat_natCast, Int.natCast_nonneg, Nat.zero_add, Nat.le_refl, Nat.lt_irrefl, gt_iff_lt, decide_true, decide_false, Bool.not_true, Bool.not_false, List.range_succ, List.range_zero, List.getD_cons_zero, List.getD_cons_succ, maxLen, Nat.reducePow, Nat.zero_le, Nat.succ_ne_self, Nat.zero_mod, ty3, ty4, ty9, ty22, ty25, ty28, ty39, ty122]; try rfl) (by rfl) (by simp only [put, puts, setT, List.filter_cons, List.filter_nil, Nat.reduceBEq, Bool.false_eq_true, reduceIte, Bool.not_true, Bool.not_false, List.zip_cons_cons, List.zip_nil_left, List.zip_nil_right, List.map_cons, List.map_nil, AB.ren, AC.rens, AC.ren, AV.ren, AV.rens, nm, List.getD_cons_zero, List.getD_cons_succ]; exact ⟨rfl, rfl⟩) ?_
        | refine RunS.skip (by rfl) (by simp only [setT, List.filter_cons, List.filter_nil, Nat.reduceBEq, Bool.false_eq_true, reduceIte, Bool.not_true, Bool.not_false]; try rfl) ?_)
      refine RunS.callP rfl (by rfl) (h2) rfl (by simp only [evArgs, evT, cv, okV, look_cons, Nat.reduceBEq, Bool.false_eq_true, reduceIte]; try rfl) (by rfl) (by rfl) ?_
      repeat (first
        | refine RunS.any (by rfl) (by simp only [pl, o1, o2, o3, plBuiltin, evT, cv, okV, evParts, evCaps, look_cons, look_nil, plLoad, plStore, plAlloc, plBox, plBuild, plSlice, plFieldAddr, plField, plIndexAddr, plIndex, plBin, abin, plUn, plConv, plNil, plExtract, plLen, plMax, plAppend, elemsOf, readAt, ldv, cellsV, toF, allF, splice, afill, zeros, chunk, TK.agg, Nat.reduceAdd, Nat.reduceMul, Nat.reduceSub, Nat.reduceBEq, Nat.reduceEqDiff, Nat.reduceLeDiff, Nat.reduceLT, Nat.reduceMod, Bool.false_eq_true, reduceIte, true_and, and_true, and_self, List.length_cons, List.length_nil, List.length_map, List.length_append, List.map_cons, List.map_nil, List.take_succ_cons, List.take_zero, List.drop_succ_cons, List.drop_zero, List.nil_append, List.cons_append, List.append_nil, List.getElem?_cons_zero, List.getElem?_cons_succ, List.getElem?_map, List.set_cons_zero, List.set_cons_succ, Option.map_some, beq_self_eq_true, List.all_cons, List.all_nil, Int.reduceLE, Int.reduceLT, Int.toNat_zero, Int.reduceToNat, Int.toNat_natCast, Int.natCast_nonneg, Nat.zero_add, Nat.le_refl, Nat.lt_irrefl, gt_iff_lt, decide_true, decide_false, Bool.not_true, Bool.not_false, List.range_succ, List.range_zero, List.getD_cons_zero, List.getD_cons_succ, maxLen, Nat.reducePow, Nat.zero_le, Nat.succ_ne_self, Nat.zero_mod, ty3, ty4, ty9, ty22, ty25, ty28, ty39, ty122]; try rfl) (by rfl) (by simp only [put, puts, setT, List.filter_cons, List.filter_nil, Nat.reduceBEq, Bool.false_eq_true, reduceIte, Bool.not_true, Bool.not_false, List.zip_cons_cons, List.zip_nil_left, List.zip_nil_right, List.map_cons, List.map_nil, AB.ren, AC.rens, AC.ren, AV.ren, AV.rens, nm, List.getD_cons_zero, List.getD_cons_succ]; exact ⟨rfl, rfl⟩) ?_
        | refine RunS.skip (by rfl) (by simp only [setT, List.filter_cons, List.filter_nil, Nat.reduceBEq, Bool.false_eq_true, reduceIte, Bool.not_true, Bool.not_false]; try rfl) ?_)
      refine RunS.nil (hN _ _ _ ?_)
      clear hN N
      simp only [List.length_cons, List.length_nil, Nat.reduceAdd, Nat.reduceMul, kSeq, kBlock, kFin, reduceIte, Nat.reduceEqDiff]
      refine W.condF (by rfl) ?_
      first | refine W.exit ?_ | refine W.ret ?_ | refine W.skip ?_
      try simp only [kSeq, kBlock, kFin, reduceIte, Nat.reduceEqDiff]
      rw [items_stop hc, List.append_nil] at hq
      repeat (first | refine W.seq ?_ | refine W.block ?_)
      refine W.regionDK mixed (by decide) (by rfl) fun N hN => ?_
      repeat (first
        | refine RunD.any (by rfl) (by simp only [pl, o1, o2, o3, plBuiltin, evT, cv, okV, evParts, evCaps, look_cons, look_nil, plLoad, plStore, plAlloc, plBox, plBuild, plSlice, plFieldAddr, plField, plIndexAddr, plIndex, plBin, abin, plUn, plConv, plNil, plExtract, plLen, plMax, plAppend, elemsOf, readAt, ldv, cellsV, toF, allF, splice, afill, zeros, chunk, TK.agg, Nat.reduceAdd, Nat.reduceMul, Nat.reduceSub, Nat.reduceBEq, Nat.reduceEqDiff, Nat.reduceLeDiff, Nat.reduceLT, Nat.reduceMod, Bool.false_eq_true, reduceIte, true_and, and_true, and_self, List.length_cons, List.length_nil, List.length_map, List.length_append, List.map_cons, List.map_nil, List.take_succ_cons, List.take_zero, List.drop_succ_cons, List.drop_zero, List.nil_append, List.cons_append, List.append_nil, List.getElem?_cons_zero, List.getElem?_cons_succ, List.getElem?_map, List.set_cons_zero, List.set_cons_succ, Option.map_some, beq_self_eq_true, List.all_cons, List.all_nil, Int.reduceLE, Int.reduceLT, Int.toNat_zero, Int.reduceToNat, Int.toNat_natCast, Int.natCast_nonneg, Nat.zero_add, Nat.le_refl, Nat.lt_irrefl, gt_iff_lt, decide_true, decide_false, Bool.not_true, Bool.not_false, List.range_succ, List.range_zero, List.getD_cons_zero, List.getD_cons_succ, maxLen, Nat.reducePow, Nat.zero_le, Nat.succ_ne_self, Nat.zero_mod, ty3, ty4, ty9, ty22, ty25, ty28, ty39, ty122]; try rfl) (by rfl) (by simp only [put, puts, setT, List.filter_cons, List.filter_nil, Nat.reduceBEq, Bool.false_eq_true, reduceIte, Bool.not_true, Bool.not_false, List.zip_cons_cons, List.zip_nil_left, List.zip_nil_right, List.map_cons, List.map_nil, AB.ren, AC.rens, AC.ren, AV.ren, AV.rens, nm, List.getD_cons_zero, List.getD_cons_succ]; exact ⟨rfl, rfl⟩) ?_
        | refine RunD.skip (by rfl) (by simp only [setT, List.filter_cons, List.filter_nil, Nat.reduceBEq, Bool.false_eq_true, reduceIte, Bool.not_true, Bool.not_false]; try rfl) ?_)
      refine RunD.nil ⟨by kernel_rfl, hN _ _ _ ?_⟩
      clear hN N
      simp only [List.length_cons, List.length_nil, Nat.reduceAdd, Nat.reduceMul, kSeq, kBlock, kFin, reduceIte, Nat.reduceEqDiff]
      first | refine W.exit ?_ | refine W.ret ?_ | refine W.skip ?_
      try simp only [kSeq, kBlock, kFin, reduceIte, Nat.reduceEqDiff]
      refine Fin.pureS (T' := [(2, .one (.f (tsF q))), (3, .one (.ptr 2 0)), (4, vI 0)]) (H' := [(2, .box 25 (cA u))]) (nx' := 1000) ?_ (xs := ?_) ?_ rfl ?_ ?_
      · refine Wk.keep [32] (by rfl) ?_ ?_ <;> simp only [keepT, keepH, look_cons, look_nil, AV.frz, AV.frzs, AC.frz, AC.frzs, AB.frz, lives, List.any_cons, List.any_nil, Nat.reduceBEq, Nat.reduceLT, Bool.false_eq_true, reduceIte, and_true, true_and, and_self, Option.some.injEq, decide_false, decide_true, Bool.or_false, Bool.or_true, Bool.false_or, Bool.true_or, beq_self_eq_true, List.contains_nil, List.contains_cons, List.length_map, List.length_cons, List.length_nil, List.length_append]
      rotate_left
      · simp only [pl, o1, o2, o3, plBuiltin, evT, cv, okV, evParts, evCaps, look_cons, look_nil, plLoad, plStore, plAlloc, plBox, plBuild, plSlice, plFieldAddr, plField, plIndexAddr, plIndex, plBin, abin, plUn, plConv, plNil, plExtract, plLen, plMax, plAppend, elemsOf, readAt, ldv, cellsV, toF, allF, splice, afill, zeros, chunk, TK.agg, Nat.reduceAdd, Nat.reduceMul, Nat.reduceSub, Nat.reduceBEq, Nat.reduceEqDiff, Nat.reduceLeDiff, Nat.reduceLT, Nat.reduceMod, Bool.false_eq_true, reduceIte, true_and, and_true, and_self, List.length_cons, List.length_nil, List.length_map, List.length_append, List.map_cons, List.map_nil, List.take_succ_cons, List.take_zero, List.drop_succ_cons, List.drop_zero, List.nil_append, List.cons_append, List.append_nil, List.getElem?_cons_zero, List.getElem?_cons_succ, List.getElem?_map, List.set_cons_zero, List.set_cons_succ, Option.map_some, beq_self_eq_true, List.all_cons, List.all_nil, Int.reduceLE, Int.reduceLT, Int.toNat_zero, Int.reduceToNat, Int.toNat_natCast, Int.natCast_nonneg, Nat.zero_add, Nat.le_refl, Nat.lt_irrefl, gt_iff_lt, decide_true, decide_false, Bool.not_true, Bool.not_false, List.range_succ, List.range_zero, List.getD_cons_zero, List.getD_cons_succ, maxLen, Nat.reducePow, Nat.zero_le, Nat.succ_ne_self, Nat.zero_mod, ty3, ty4, ty9, ty22, ty25, ty28, ty39, ty122, resA]; try rfl
      · rfl
      · rw [hq]; exact Sub.refl _
    · rw [hc] at h2
      repeat (first | refine W.seq ?_ | refine W.block ?_)
      refine W.regionK (by decide) fun N hN => ?_
      repeat (first
        | refine RunS.any (by rfl) (by simp only [pl, o1, o2, o3, plBuiltin, evT, cv, okV, evParts, evCaps, look_cons, look_nil, plLoad, plStore, plAlloc, plBox, plBuild, plSlice, plFieldAddr, plField, plIndexAddr, plIndex, plBin, abin, plUn, plConv, plNil, plExtract, plLen, plMax, plAppend, elemsOf, readAt, ldv, cellsV, toF, allF, splice, afill, zeros, chunk, TK.agg, Nat.reduceAdd, Nat.reduceMul, Nat.reduceSub, Nat.reduceBEq, Nat.reduceEqDiff, Nat.reduceLeDiff, Nat.reduceLT, Nat.reduceMod, Bool.false_eq_true, reduceIte, true_and, and_true, and_self, List.length_cons, List.length_nil, List.length_map, List.length_append, List.map_cons, List.map_nil, List.take_succ_cons, List.take_zero, List.drop_succ_cons, List.drop_zero, List.nil_append, List.cons_append, List.append_nil, List.getElem?_cons_zero, List.getElem?_cons_succ, List.getElem?_map, List.set_cons_zero, List.set_cons_succ, Option.map_some, beq_self_eq_true, List.all_cons, List.all_nil, Int.reduceLE, Int.reduceLT, Int.toNat_zero, Int.reduceToNat, Int.toNat_natCast, Int.natCast_nonneg, Nat.zero_add, Nat.le_refl, Nat.lt_irrefl, gt_iff_lt, decide_true, decide_false, Bool.not_true, Bool.not_false, List.range_succ, List.range_zero, List.getD_cons_zero, List.getD_cons_succ, maxLen, Nat.reducePow, Nat.zero_le, Nat.succ_ne_self, Nat.zero_mod, ty3, ty4, ty9, ty22, ty25, ty28, ty39, ty122]; try rfl) (by rfl) (by simp only [put, puts, setT, List.filter_cons, List.filter_nil, Nat.reduceBEq, Bool.false_eq_true, reduceIte, Bool.not_true, Bool.not_false, List.zip_cons_cons, List.zip_nil_left, List.zip_nil_right, List.map_cons, List.map_nil, AB.ren, AC.rens, AC.ren, AV.ren, AV.rens, nm, List.getD_cons_zero, List.getD_cons_succ]; exact ⟨rfl, rfl⟩) ?_
        | refine RunS.skip (by rfl) (by simp only [setT, List.filter_cons, List.filter_nil, Nat.reduceBEq, Bool.false_eq_true, reduceIte, Bool.not_true, Bool.not_false]; try rfl) ?_)
      refine RunS.callP rfl (by rfl) (h2) rfl (by simp only [evArgs, evT, cv, okV, look_cons, Nat.reduceBEq, Bool.false_eq_true, reduceIte]; try rfl) (by rfl) (by rfl) ?_
      repeat (first
        | refine RunS.any (by rfl) (by simp only [pl, o1, o2, o3, plBuiltin, evT, cv, okV, evParts, evCaps, look_cons, look_nil, plLoad, plStore, plAlloc, plBox, plBuild, plSlice, plFieldAddr, plField, plIndexAddr, plIndex, plBin, abin, plUn, plConv, plNil, plExtract, plLen, plMax, plAppend, elemsOf, readAt, ldv, cellsV, toF, allF, splice, afill, zeros, chunk, TK.agg, Nat.reduceAdd, Nat.reduceMul, Nat.reduceSub, Nat.reduceBEq, Nat.reduceEqDiff, Nat.reduceLeDiff, Nat.reduceLT, Nat.reduceMod, Bool.false_eq_true, reduceIte, true_and, and_true, and_self, List.length_cons, List.length_nil, List.length_map, List.length_append, List.map_cons, List.map_nil, List.take_succ_cons, List.take_zero, List.drop_succ_cons, List.drop_zero, List.nil_append, List.cons_append, List.append_nil, List.getElem?_cons_zero, List.getElem?_cons_succ, List.getElem?_map, List.set_cons_zero, List.set_cons_succ, Option.map_some, beq_self_eq_true, List.all_cons, List.all_nil, Int.reduceLE, Int.reduceLT, Int.toNat_zero, Int.reduceToNat, Int.toNat_natCast, Int.natCast_nonneg, Nat.zero_add, Nat.le_refl, Nat.lt_irrefl, gt_iff_lt, decide_true, decide_false, Bool.not_true, Bool.not_false, List.range_succ, List.range_zero, List.getD_cons_zero, List.getD_cons_succ, maxLen, Nat.reducePow, Nat.zero_le, Nat.succ_ne_self, Nat.zero_mod, ty3, ty4, ty9, ty22, ty25, ty28, ty39, ty122]; try rfl) (by rfl) (by simp only [put, puts, setT, List.filter_cons, List.filter_nil, Nat.reduceBEq, Bool.false_eq_true, reduceIte, Bool.not_true, Bool.not_false, List.zip_cons_cons, List.zip_nil_left, List.zip_nil_right, List.map_cons, List.map_nil, AB.ren, AC.rens, AC.ren, AV.ren, AV.rens, nm, List.getD_cons_zero, List.getD_cons_succ]; exact ⟨rfl, rfl⟩) ?_
        | refine RunS.skip (by rfl) (by simp only [setT, List.filter_cons, List.filter_nil, Nat.reduceBEq, Bool.false_eq_true, reduceIte, Bool.not_true, Bool.not_false]; try rfl) ?_)
      refine RunS.nil (hN _ _ _ ?_)
      clear hN N
      simp only [List.length_cons, List.length_nil, Nat.reduceAdd, Nat.reduceMul, kSeq, kBlock, kFin, reduceIte, Nat.reduceEqDiff]
      refine W.condT (by rfl) ?_
      first | refine W.exit ?_ | refine W.ret ?_ | refine W.skip ?_
      try simp only [kSeq, kBlock, kFin, reduceIte, Nat.reduceEqDiff]
      obtain ⟨h3, h4, h5⟩ := cellB_iff.1 hc
      obtain ⟨x, hx⟩ : ∃ x, u.l[0]? = some x := ⟨_, List.getElem?_eq_getElem (by omega)⟩
      obtain ⟨y, hy⟩ : ∃ y, u.l[1]? = some y := ⟨_, List.getElem?_eq_getElem (by omega)⟩
      have hz := Tm.size_child (List.mem_of_getElem? hy)
      rw [items_cell hc hx hy] at hq
      have hq1 : q.length + 1 ≤ 9223372036854775807 := by omega
      have hq2 : (q.length + 1) * 56 ≤ 140737488355328 := by omega
      repeat (first | refine W.seq ?_ | refine W.block ?_)
      refine W.regionK (by decide) fun N hN => ?_
      repeat (first
        | refine RunS.any (by rfl) (by simp only [pl, o1, o2, o3, plBuiltin, evT, cv, okV, evParts, evCaps, look_cons, look_nil, plLoad, plStore, plAlloc, plBox, plBuild, plSlice, plFieldAddr, plField, plIndexAddr, plIndex, plBin, abin, plUn, plConv, plNil, plExtract, plLen, plMax, plAppend, elemsOf, readAt, ldv, cellsV, toF, allF, splice, afill, zeros, chunk, TK.agg, Nat.reduceAdd, Nat.reduceMul, Nat.reduceSub, Nat.reduceBEq, Nat.reduceEqDiff, Nat.reduceLeDiff, Nat.reduceLT, Nat.reduceMod, Bool.false_eq_true, reduceIte, true_and, and_true, and_self, List.length_cons, List.length_nil, List.length_map, List.length_append, List.map_cons, List.map_nil, List.take_succ_cons, List.take_zero, List.drop_succ_cons, List.drop_zero, List.nil_append, List.cons_append, List.append_nil, List.getElem?_cons_zero, List.getElem?_cons_succ, List.getElem?_map, List.set_cons_zero, List.set_cons_succ, Option.map_some, beq_self_eq_true, List.all_cons, List.all_nil, Int.reduceLE, Int.reduceLT, Int.toNat_zero, Int.reduceToNat, Int.toNat_natCast, Int.natCast_nonneg, Nat.zero_add, Nat.le_refl, Nat.lt_irrefl, gt_iff_lt, decide_true, decide_false, Bool.not_true, Bool.not_false, List.range_succ, List.range_zero, List.getD_cons_zero, List.getD_cons_succ, maxLen, Nat.reducePow, Nat.zero_le, Nat.succ_ne_self, Nat.zero_mod, ty3, ty4, ty9, ty22, ty25, ty28, ty39, ty122, hx, treeC_eq x, hq1, hq2]; try rfl) (by rfl) (by simp only [put, puts, setT, List.filter_cons, List.filter_nil, Nat.reduceBEq, Bool.false_eq_true, reduceIte, Bool.not_true, Bool.not_false, List.zip_cons_cons, List.zip_nil_left, List.zip_nil_right, List.map_cons, List.map_nil, AB.ren, AC.rens, AC.ren, AV.ren, AV.rens, nm, List.getD_cons_zero, List.getD_cons_succ]; exact ⟨rfl, rfl⟩) ?_
        | refine RunS.skip (by rfl) (by simp only [setT, List.filter_cons, List.filter_nil, Nat.reduceBEq, Bool.false_eq_true, reduceIte, Bool.not_true, Bool.not_false]; try rfl) ?_)
      refine RunS.nil (hN _ _ _ ?_)
      clear hN N
      simp only [List.length_cons, List.length_nil, Nat.reduceAdd, Nat.reduceMul, kSeq, kBlock, kFin, reduceIte, Nat.reduceEqDiff]
      repeat (first | refine W.seq ?_ | refine W.block ?_)
      refine W.regionK (by decide) fun N hN => ?_
      repeat (first
        | refine RunS.any (by rfl) (by simp only [pl, o1, o2, o3, plBuiltin, evT, cv, okV, evParts, evCaps, look_cons, look_nil, plLoad, plStore, plAlloc, plBox, plBuild, plSlice, plFieldAddr, plField, plIndexAddr, plIndex, plBin, abin, plUn, plConv, plNil, plExtract, plLen, plMax, plAppend, elemsOf, readAt, ldv, cellsV, toF, allF, splice, afill, zeros, chunk, TK.agg, Nat.reduceAdd, Nat.reduceMul, Nat.reduceSub, Nat.reduceBEq, Nat.reduceEqDiff, Nat.reduceLeDiff, Nat.reduceLT, Nat.reduceMod, Bool.false_eq_true, reduceIte, true_and, and_true, and_self, List.length_cons, List.length_nil, List.length_map, List.length_append, List.map_cons, List.map_nil, List.take_succ_cons, List.take_zero, List.drop_succ_cons, List.drop_zero, List.nil_append, List.cons_append, List.append_nil, List.getElem?_cons_zero, List.getElem?_cons_succ, List.getElem?_map, List.set_cons_zero, List.set_cons_succ, Option.map_some, beq_self_eq_true, List.all_cons, List.all_nil, Int.reduceLE, Int.reduceLT, Int.toNat_zero, Int.reduceToNat, Int.toNat_natCast, Int.natCast_nonneg, Nat.zero_add, Nat.le_refl, Nat.lt_irrefl, gt_iff_lt, decide_true, decide_false, Bool.not_true, Bool.not_false, List.range_succ, List.range_zero, List.getD_cons_zero, List.getD_cons_succ, maxLen, Nat.reducePow, Nat.zero_le, Nat.succ_ne_self, Nat.zero_mod, ty3, ty4, ty9, ty22, ty25, ty28, ty39, ty122, hy, treeC_eq y]; try rfl) (by rfl) (by simp only [put, puts, setT, List.filter_cons, List.filter_nil, Nat.reduceBEq, Bool.false_eq_true, reduceIte, Bool.not_true, Bool.not_false, List.zip_cons_cons, List.zip_nil_left, List.zip_nil_right, List.map_cons, List.map_nil, AB.ren, AC.rens, AC.ren, AV.ren, AV.rens, nm, List.getD_cons_zero, List.getD_cons_succ]; exact ⟨rfl, rfl⟩) ?_
        | refine RunS.skip (by rfl) (by simp only [setT, List.filter_cons, List.filter_nil, Nat.reduceBEq, Bool.false_eq_true, reduceIte, Bool.not_true, Bool.not_false]; try rfl) ?_)
      refine RunS.nil (hN _ _ _ ?_)
      clear hN N
      simp only [List.length_cons, List.length_nil, Nat.reduceAdd, Nat.reduceMul, kSeq, kBlock, kFin, reduceIte, Nat.reduceEqDiff]
      refine ⟨(q ++ [x], y), ⟨by rw [hq]; simp, by simp; omega⟩, by simpa using hz, ?_⟩
      refine Wk.keep [] (by rfl) ?_ ?_ <;> simp only [keepT, keepH, look_cons, look_nil, AV.frz, AV.frzs, AC.frz, AC.frzs, AB.frz, lives, List.any_cons, List.any_nil, Nat.reduceBEq, Nat.reduceLT, Bool.false_eq_true, reduceIte, and_true, true_and, and_self, Option.some.injEq, decide_false, decide_true, Bool.or_false, Bool.or_true, Bool.false_or, Bool.true_or, beq_self_eq_true, List.contains_nil, List.contains_cons, List.length_map, List.length_cons, List.length_nil, List.length_append, treeC_eq, List.map_append, List.map_cons, List.map_nil]
set_option maxRecDepth 100000 in
set_option maxHeartbeats 1000000 in
theorem refGenTop_ok (t u : Tm) (hzt : t.size ≤ 1000000) (hzu : u.size ≤ 1000000) : ACall Try.prog 57 [tA t, tA u] [] (tE (if allIs [t, u] = true then genR t u else Tm.zero) (if allIs [t, u] = true then 0 else 3)) [] := by
  have h1 := refCheck_ok t (by omega)
  have h2 := refCheck_ok u (by omega)
  have h3 := ACall.nilB (hs := [.box 122 [.f (.v (.slice none 0 0)), .f (.v (.slice none 0 0))]]) (ACall.nilB (hs := [.box 122 [.row 1 0, .f (.v (.slice none 0 0))], .row 25 4 []]) (refGeneral_ok t u [] (by simpa using hzt)) 0 1 122 25 4 rfl rfl rfl) 0 0 122 25 4 rfl rfl rfl
  have ha : allIs [t, u] = (isB t && isB u) := by simp [allIs]
  rw [ha]
  have hd : decide (errT false ≠ 0) = true := rfl
  have hd' : decide (errT true ≠ 0) = false := rfl
  refine acall_of Try.func57 (by decide) rfl Try.results57 (by rw [Try.ntmps57]; simp) (by simp) ?_
  rw [Try.ntmps57]
  simp only [enumL, List.length_nil, List.length_cons, Nat.reduceAdd]
  repeat (first | refine W.seq ?_ | refine W.block ?_)
  refine W.regionK (by decide) fun N hN => ?_
  repeat (first
    | refine RunS.any (by rfl) (by simp only [pl, o1, o2, o3, plBuiltin, evT, cv, okV, evParts, evCaps, look_cons, look_nil, plLoad, plStore, plAlloc, plBox, plBuild, plSlice, plFieldAddr, plField, plIndexAddr, plIndex, plBin, abin, plUn, plConv, plNil, plExtract, plLen, plMax, plAppend, elemsOf, readAt, ldv, cellsV, toF, allF, splice, afill, zeros, chunk, TK.agg, Nat.reduceAdd, Nat.reduceMul, Nat.reduceSub, Nat.reduceBEq, Nat.reduceEqDiff, Nat.reduceLeDiff, Nat.reduceLT, Nat.reduceMod, Bool.false_eq_true, reduceIte, true_and, and_true, and_self, List.length_cons, List.length_nil, List.length_map, List.length_append, List.map_cons, List.map_nil, List.take_succ_cons, List.take_zero, List.drop_succ_cons, List.drop_zero, List.nil_append, List.cons_append, List.append_nil, List.getElem?_cons_zero, List.getElem?_cons_succ, List.getElem?_map, List.set_cons_zero, List.set_cons_succ, Option.map_some, beq_self_eq_true, List.all_cons, List.all_nil, Int.reduceLE, Int.reduceLT, Int.toNat_zero, Int.reduceToNat, Int.toNat_natCast, Int.natCast_nonneg, Nat.zero_add, Nat.le_refl, Nat.lt_irrefl, gt_iff_lt, decide_true, decide_false, Bool.not_true, Bool.not_false, List.range_succ, List.range_zero, List.getD_cons_zero, List.getD_cons_succ, maxLen, Nat.reducePow, Nat.zero_le, Nat.succ_ne_self, Nat.zero_mod, ty3, ty4, ty9, ty22, ty25, ty28, ty39, ty122]; try rfl) (by rfl) (by simp only [put, puts, setT, List.filter_cons, List.filter_nil, Nat.reduceBEq, Bool.false_eq_true, reduceIte, Bool.not_true, Bool.not_false, List.zip_cons_cons, List.zip_nil_left, List.zip_nil_right, List.map_cons, List.map_nil, AB.ren, AC.rens, AC.ren, AV.ren, AV.rens, nm, List.getD_cons_zero, List.getD_cons_succ]; exact ⟨rfl, rfl⟩) ?_
    | refine RunS.skip (by rfl) (by simp only [setT, List.filter_cons, List.filter_nil, Nat.reduceBEq, Bool.false_eq_true, reduceIte, Bool.not_true, Bool.not_false]; try rfl) ?_)
  refine RunS.nil (hN _ _ _ ?_)
  clear hN N
  simp only [List.length_cons, List.length_nil, Nat.reduceAdd, Nat.reduceMul, kSeq, kBlock, kFin, reduceIte, Nat.reduceEqDiff]
  refine W.mid (fun T H nx => Wk 20 0 T H nx [(2, .one (.ptr 0 0)), (3, .one (.ptr 1 0)), (4, .one (.ptr 2 0))] [(0, .box 25 (cA t)), (1, .box 25 (cA u)), (2, .box 25 zA)] 3 ∧ isB t = true ∧ isB u = true) ?_ ?_
  · repeat (first | refine W.seq ?_ | refine W.block ?_)
    refine W.regionK (by decide) fun N hN => ?_
    repeat (first
      | refine RunS.any (by rfl) (by simp only [pl, o1, o2, o3, plBuiltin, evT, cv, okV, evParts, evCaps, look_cons, look_nil, plLoad, plStore, plAlloc, plBox, plBuild, plSlice, plFieldAddr, plField, plIndexAddr, plIndex, plBin, abin, plUn, plConv, plNil, plExtract, plLen, plMax, plAppend, elemsOf, readAt, ldv, cellsV, toF, allF, splice, afill, zeros, chunk, TK.agg, Nat.reduceAdd, Nat.reduceMul, Nat.reduceSub, Nat.reduceBEq, Nat.reduceEqDiff, Nat.reduceLeDiff, Nat.reduceLT, Nat.reduceMod, Bool.false_eq_true, reduceIte, true_and, and_true, and_self, List.length_cons, List.length_nil, List.length_map, List.length_append, List.map_cons, List.map_nil, List.take_succ_cons, List.take_zero, List.drop_succ_cons, List.drop_zero, List.nil_append, List.cons_append, List.append_nil, List.getElem?_cons_zero, List.getElem?_cons_succ, List.getElem?_map, List.set_cons_zero, List.set_cons_succ, Option.map_some, beq_self_eq_true, List.all_cons, List.all_nil, Int.reduceLE, Int.reduceLT, Int.toNat_zero, Int.reduceToNat, Int.toNat_natCast, Int.natCast_nonneg, Nat.zero_add, Nat.le_refl, Nat.lt_irrefl, gt_iff_lt, decide_true, decide_false, Bool.not_true, Bool.not_false, List.range_succ, List.range_zero, List.getD_cons_zero, List.getD_cons_succ, maxLen, Nat.reducePow, Nat.zero_le, Nat.succ_ne_self, Nat.zero_mod, ty3, ty4, ty9, ty22, ty25, ty28, ty39, ty122]; try rfl) (by rfl) (by simp only [put, puts, setT, List.filter_cons, List.filter_nil, Nat.reduceBEq, Bool.false_eq_true, reduceIte, Bool.not_true, Bool.not_false, List.zip_cons_cons, List.zip_nil_left, List.zip_nil_right, List.map_cons, List.map_nil, AB.ren, AC.rens, AC.ren, AV.ren, AV.rens, nm, List.getD_cons_zero, List.getD_cons_succ]; exact ⟨rfl, rfl⟩) ?_
      | refine RunS.skip (by rfl) (by simp only [setT, List.filter_cons, List.filter_nil, Nat.reduceBEq, Bool.false_eq_true, reduceIte, Bool.not_true, Bool.not_false]; try rfl) ?_)
    cases b1 : isB t
    · rw [b1] at h1
      refine RunS.callP rfl (by rfl) (h1) rfl (by simp only [evArgs, evT, cv, okV, look_cons, Nat.reduceBEq, Bool.false_eq_true, reduceIte]; try rfl) (by rfl) (by rfl) ?_
      repeat (first
        | refine RunS.any (by rfl) (by simp only [pl, o1, o2, o3, plBuiltin, evT, cv, okV, evParts, evCaps, look_cons, look_nil, plLoad, plStore, plAlloc, plBox, plBuild, plSlice, plFieldAddr, plField, plIndexAddr, plIndex, plBin, abin, plUn, plConv, plNil, plExtract, plLen, plMax, plAppend, elemsOf, readAt, ldv, cellsV, toF, allF, splice, afill, zeros, chunk, TK.agg, Nat.reduceAdd, Nat.reduceMul, Nat.reduceSub, Nat.reduceBEq, Nat.reduceEqDiff, Nat.reduceLeDiff, Nat.reduceLT, Nat.reduceMod, Bool.false_eq_true, reduceIte, true_and, and_true, and_self, List.length_cons, List.length_nil, List.length_map, List.length_append, List.map_cons, List.map_nil, List.take_succ_cons, List.take_zero, List.drop_succ_cons, List.drop_zero, List.nil_append, List.cons_append, List.append_nil, List.getElem?_cons_zero, List.getElem?_cons_succ, List.getElem?_map, List.set_cons_zero, List.set_cons_succ, Option.map_some, beq_self_eq_true, List.all_cons, List.all_nil, Int.reduceLE, Int.reduceLT, Int.toNat_zero, Int.reduceToNat, Int.toNat_natCast, Int.natCast_nonneg, Nat.zero_add, Nat.le_refl, Nat.lt_irrefl, gt_iff_lt, decide_true, decide_false, Bool.not_true, Bool.not_false, List.range_succ, List.range_zero, List.getD_cons_zero, List.getD_cons_succ, maxLen, Nat.reducePow, Nat.zero_le, Nat.succ_ne_self, Nat.zero_mod, ty3, ty4, ty9, ty22, ty25, ty28, ty39, ty122, hd]; try rfl) (by rfl) (by simp only [put, puts, setT, List.filter_cons, List.filter_nil, Nat.reduceBEq, Bool.false_eq_true, reduceIte, Bool.not_true, Bool.not_false, List.zip_cons_cons, List.zip_nil_left, List.zip_nil_right, List.map_cons, List.map_nil, AB.ren, AC.rens, AC.ren, AV.ren, AV.rens, nm, List.getD_cons_zero, List.getD_cons_succ]; exact ⟨rfl, rfl⟩) ?_
        | refine RunS.skip (by rfl) (by simp only [setT, List.filter_cons, List.filter_nil, Nat.reduceBEq, Bool.false_eq_true, reduceIte, Bool.not_true, Bool.not_false]; try rfl) ?_)
      refine RunS.nil (hN _ _ _ ?_)
      clear hN N
      simp only [List.length_cons, List.length_nil, Nat.reduceAdd, Nat.reduceMul, kSeq, kBlock, kFin, reduceIte, Nat.reduceEqDiff]
      refine W.condT (by rfl) ?_
      repeat (first | refine W.seq ?_ | refine W.block ?_)
      refine W.regionK (by decide) fun N hN => ?_
      repeat (first
        | refine RunS.any (by rfl) (by simp only [pl, o1, o2, o3, plBuiltin, evT, cv, okV, evParts, evCaps, look_cons, look_nil, plLoad, plStore, plAlloc, plBox, plBuild, plSlice, plFieldAddr, plField, plIndexAddr, plIndex, plBin, abin, plUn, plConv, plNil, plExtract, plLen, plMax, plAppend, elemsOf, readAt, ldv, cellsV, toF, allF, splice, afill, zeros, chunk, TK.agg, Nat.reduceAdd, Nat.reduceMul, Nat.reduceSub, Nat.reduceBEq, Nat.reduceEqDiff, Nat.reduceLeDiff, Nat.reduceLT, Nat.reduceMod, Bool.false_eq_true, reduceIte, true_and, and_true, and_self, List.length_cons, List.length_nil, List.length_map, List.length_append, List.map_cons, List.map_nil, List.take_succ_cons, List.take_zero, List.drop_succ_cons, List.drop_zero, List.nil_append, List.cons_append, List.append_nil, List.getElem?_cons_zero, List.getElem?_cons_succ, List.getElem?_map, List.set_cons_zero, List.set_cons_succ, Option.map_some, beq_self_eq_true, List.all_cons, List.all_nil, Int.reduceLE, Int.reduceLT, Int.toNat_zero, Int.reduceToNat, Int.toNat_natCast, Int.natCast_nonneg, Nat.zero_add, Nat.le_refl, Nat.lt_irrefl, gt_iff_lt, decide_true, decide_false, Bool.not_true, Bool.not_false, List.range_succ, List.range_zero, List.getD_cons_zero, List.getD_cons_succ, maxLen, Nat.reducePow, Nat.zero_le, Nat.succ_ne_self, Nat.zero_mod, ty3, ty4, ty9, ty22, ty25, ty28, ty39, ty122]; try rfl) (by rfl) (by simp only [put, puts, setT, List.filter_cons, List.filter_nil, Nat.reduceBEq, Bool.false_eq_true, reduceIte, Bool.not_true, Bool.not_false, List.zip_cons_cons, List.zip_nil_left, List.zip_nil_right, List.map_cons, List.map_nil, AB.ren, AC.rens, AC.ren, AV.ren, AV.rens, nm, List.getD_cons_zero, List.getD_cons_succ]; exact ⟨rfl, rfl⟩) ?_
        | refine RunS.skip (by rfl) (by simp only [setT, List.filter_cons, List.filter_nil, Nat.reduceBEq, Bool.false_eq_true, reduceIte, Bool.not_true, Bool.not_false]; try rfl) ?_)
      refine RunS.nil (hN _ _ _ ?_)
      clear hN N
      simp only [List.length_cons, List.length_nil, Nat.reduceAdd, Nat.reduceMul, kSeq, kBlock, kFin, reduceIte, Nat.reduceEqDiff]
      first | refine W.exit ?_ | refine W.ret ?_ | refine W.skip ?_
      try simp only [kSeq, kBlock, kFin, reduceIte, Nat.reduceEqDiff]
      refine Fin.pureS Wk.refl (xs := ?_) ?_ rfl ?_ ?_
      rotate_left
      · simp only [pl, o1, o2, o3, plBuiltin, evT, cv, okV, evParts, evCaps, look_cons, look_nil, plLoad, plStore, plAlloc, plBox, plBuild, plSlice, plFieldAddr, plField, plIndexAddr, plIndex, plBin, abin, plUn, plConv, plNil, plExtract, plLen, plMax, plAppend, elemsOf, readAt, ldv, cellsV, toF, allF, splice, afill, zeros, chunk, TK.agg, Nat.reduceAdd, Nat.reduceMul, Nat.reduceSub, Nat.reduceBEq, Nat.reduceEqDiff, Nat.reduceLeDiff, Nat.reduceLT, Nat.reduceMod, Bool.false_eq_true, reduceIte, true_and, and_true, and_self, List.length_cons, List.length_nil, List.length_map, List.length_append, List.map_cons, List.map_nil, List.take_succ_cons, List.take_zero, List.drop_succ_cons, List.drop_zero, List.nil_append, List.cons_append, List.append_nil, List.getElem?_cons_zero, List.getElem?_cons_succ, List.getElem?_map, List.set_cons_zero, List.set_cons_succ, Option.map_some, beq_self_eq_true, List.all_cons, List.all_nil, Int.reduceLE, Int.reduceLT, Int.toNat_zero, Int.reduceToNat, Int.toNat_natCast, Int.natCast_nonneg, Nat.zero_add, Nat.le_refl, Nat.lt_irrefl, gt_iff_lt, decide_true, decide_false, Bool.not_true, Bool.not_false, List.range_succ, List.range_zero, List.getD_cons_zero, List.getD_cons_succ, maxLen, Nat.reducePow, Nat.zero_le, Nat.succ_ne_self, Nat.zero_mod, ty3, ty4, ty9, ty22, ty25, ty28, ty39, ty122, resA]; try rfl
      · rfl
      · simp only [outA, b1, Bool.false_and, Bool.false_eq_true, reduceIte]; exact sub_tup2 sub_zero (Sub.refl _)
    · rw [b1] at h1
      refine RunS.callP rfl (by rfl) (h1) rfl (by simp only [evArgs, evT, cv, okV, look_cons, Nat.reduceBEq, Bool.false_eq_true, reduceIte]; try rfl) (by rfl) (by rfl) ?_
      repeat (first
        | refine RunS.any (by rfl) (by simp only [pl, o1, o2, o3, plBuiltin, evT, cv, okV, evParts, evCaps, look_cons, look_nil, plLoad, plStore, plAlloc, plBox, plBuild, plSlice, plFieldAddr, plField, plIndexAddr, plIndex, plBin, abin, plUn, plConv, plNil, plExtract, plLen, plMax, plAppend, elemsOf, readAt, ldv, cellsV, toF, allF, splice, afill, zeros, chunk, TK.agg, Nat.reduceAdd, Nat.reduceMul, Nat.reduceSub, Nat.reduceBEq, Nat.reduceEqDiff, Nat.reduceLeDiff, Nat.reduceLT, Nat.reduceMod, Bool.false_eq_true, reduceIte, true_and, and_true, and_self, List.length_cons, List.length_nil, List.length_map, List.length_append, List.map_cons, List.map_nil, List.take_succ_cons, List.take_zero, List.drop_succ_cons, List.drop_zero, List.nil_append, List.cons_append, List.append_nil, List.getElem?_cons_zero, List.getElem?_cons_succ, List.getElem?_map, List.set_cons_zero, List.set_cons_succ, Option.map_some, beq_self_eq_true, List.all_cons, List.all_nil, Int.reduceLE, Int.reduceLT, Int.toNat_zero, Int.reduceToNat, Int.toNat_natCast, Int.natCast_nonneg, Nat.zero_add, Nat.le_refl, Nat.lt_irrefl, gt_iff_lt, decide_true, decide_false, Bool.not_true, Bool.not_false, List.range_succ, List.range_zero, List.getD_cons_zero, List.getD_cons_succ, maxLen, Nat.reducePow, Nat.zero_le, Nat.succ_ne_self, Nat.zero_mod, ty3, ty4, ty9, ty22, ty25, ty28, ty39, ty122, hd']; try rfl) (by rfl) (by simp only [put, puts, setT, List.filter_cons, List.filter_nil, Nat.reduceBEq, Bool.false_eq_true, reduceIte, Bool.not_true, Bool.not_false, List.zip_cons_cons, List.zip_nil_left, List.zip_nil_right, List.map_cons, List.map_nil, AB.ren, AC.rens, AC.ren, AV.ren, AV.rens, nm, List.getD_cons_zero, List.getD_cons_succ]; exact ⟨rfl, rfl⟩) ?_
        | refine RunS.skip (by rfl) (by simp only [setT, List.filter_cons, List.filter_nil, Nat.reduceBEq, Bool.false_eq_true, reduceIte, Bool.not_true, Bool.not_false]; try rfl) ?_)
      cases b2 : isB u
      · rw [b2] at h2
        refine RunS.callP rfl (by rfl) (h2) rfl (by simp only [evArgs, evT, cv, okV, look_cons, Nat.reduceBEq, Bool.false_eq_true, reduceIte]; try rfl) (by rfl) (by rfl) ?_
        repeat (first
          | refine RunS.any (by rfl) (by simp only [pl, o1, o2, o3, plBuiltin, evT, cv, okV, evParts, evCaps, look_cons, look_nil, plLoad, plStore, plAlloc, plBox, plBuild, plSlice, plFieldAddr, plField, plIndexAddr, plIndex, plBin, abin, plUn, plConv, plNil, plExtract, plLen, plMax, plAppend, elemsOf, readAt, ldv, cellsV, toF, allF, splice, afill, zeros, chunk, TK.agg, Nat.reduceAdd, Nat.reduceMul, Nat.reduceSub, Nat.reduceBEq, Nat.reduceEqDiff, Nat.reduceLeDiff, Nat.reduceLT, Nat.reduceMod, Bool.false_eq_true, reduceIte, true_and, and_true, and_self, List.length_cons, List.length_nil, List.length_map, List.length_append, List.map_cons, List.map_nil, List.take_succ_cons, List.take_zero, List.drop_succ_cons, List.drop_zero, List.nil_append, List.cons_append, List.append_nil, List.getElem?_cons_zero, List.getElem?_cons_succ, List.getElem?_map, List.set_cons_zero, List.set_cons_succ, Option.map_some, beq_self_eq_true, List.all_cons, List.all_nil, Int.reduceLE, Int.reduceLT, Int.toNat_zero, Int.reduceToNat, Int.toNat_natCast, Int.natCast_nonneg, Nat.zero_add, Nat.le_refl, Nat.lt_irrefl, gt_iff_lt, decide_true, decide_false, Bool.not_true, Bool.not_false, List.range_succ, List.range_zero, List.getD_cons_zero, List.getD_cons_succ, maxLen, Nat.reducePow, Nat.zero_le, Nat.succ_ne_self, Nat.zero_mod, ty3, ty4, ty9, ty22, ty25, ty28, ty39, ty122, hd]; try rfl) (by rfl) (by simp only [put, puts, setT, List.filter_cons, List.filter_nil, Nat.reduceBEq, Bool.false_eq_true, reduceIte, Bool.not_true, Bool.not_false, List.zip_cons_cons, List.zip_nil_left, List.zip_nil_right, List.map_cons, List.map_nil, AB.ren, AC.rens, AC.ren, AV.ren, AV.rens, nm, List.getD_cons_zero, List.getD_cons_succ]; exact ⟨rfl, rfl⟩) ?_
          | refine RunS.skip (by rfl) (by simp only [setT, List.filter_cons, List.filter_nil, Nat.reduceBEq, Bool.false_eq_true, reduceIte, Bool.not_true, Bool.not_false]; try rfl) ?_)
        refine RunS.nil (hN _ _ _ ?_)
        clear hN N
        simp only [List.length_cons, List.length_nil, Nat.reduceAdd, Nat.reduceMul, kSeq, kBlock, kFin, reduceIte, Nat.reduceEqDiff]
        refine W.condT (by rfl) ?_
        repeat (first | refine W.seq ?_ | refine W.block ?_)
        refine W.regionK (by decide) fun N hN => ?_
        repeat (first
          | refine RunS.any (by rfl) (by simp only [pl, o1, o2, o3, plBuiltin, evT, cv, okV, evParts, evCaps, look_cons, look_nil, plLoad, plStore, plAlloc, plBox, plBuild, plSlice, plFieldAddr, plField, plIndexAddr, plIndex, plBin, abin, plUn, plConv, plNil, plExtract, plLen, plMax, plAppend, elemsOf, readAt, ldv, cellsV, toF, allF, splice, afill, zeros, chunk, TK.agg, Nat.reduceAdd, Nat.reduceMul, Nat.reduceSub, Nat.reduceBEq, Nat.reduceEqDiff, Nat.reduceLeDiff, Nat.reduceLT, Nat.reduceMod, Bool.false_eq_true, reduceIte, true_and, and_true, and_self, List.length_cons, List.length_nil, List.length_map, List.length_append, List.map_cons, List.map_nil, List.take_succ_cons, List.take_zero, List.drop_succ_cons, List.drop_zero, List.nil_append, List.cons_append, List.append_nil, List.getElem?_cons_zero, List.getElem?_cons_succ, List.getElem?_map, List.set_cons_zero, List.set_cons_succ, Option.map_some, beq_self_eq_true, List.all_cons, List.all_nil, Int.reduceLE, Int.reduceLT, Int.toNat_zero, Int.reduceToNat, Int.toNat_natCast, Int.natCast_nonneg, Nat.zero_add, Nat.le_refl, Nat.lt_irrefl, gt_iff_lt, decide_true, decide_false, Bool.not_true, Bool.not_false, List.range_succ, List.range_zero, List.getD_cons_zero, List.getD_cons_succ, maxLen, Nat.reducePow, Nat.zero_le, Nat.succ_ne_self, Nat.zero_mod, ty3, ty4, ty9, ty22, ty25, ty28, ty39, ty122]; try rfl) (by rfl) (by simp only [put, puts, setT, List.filter_cons, List.filter_nil, Nat.reduceBEq, Bool.false_eq_true, reduceIte, Bool.not_true, Bool.not_false, List.zip_cons_cons, List.zip_nil_left, List.zip_nil_right, List.map_cons, List.map_nil, AB.ren, AC.rens, AC.ren, AV.ren, AV.rens, nm, List.getD_cons_zero, List.getD_cons_succ]; exact ⟨rfl, rfl⟩) ?_
          | refine RunS.skip (by rfl) (by simp only [setT, List.filter_cons, List.filter_nil, Nat.reduceBEq, Bool.false_eq_true, reduceIte, Bool.not_true, Bool.not_false]; try rfl) ?_)
        refine RunS.nil (hN _ _ _ ?_)
        clear hN N
        simp only [List.length_cons, List.length_nil, Nat.reduceAdd, Nat.reduceMul, kSeq, kBlock, kFin, reduceIte, Nat.reduceEqDiff]
        first | refine W.exit ?_ | refine W.ret ?_ | refine W.skip ?_
        try simp only [kSeq, kBlock, kFin, reduceIte, Nat.reduceEqDiff]
        refine Fin.pureS Wk.refl (xs := ?_) ?_ rfl ?_ ?_
        rotate_left
        · simp only [pl, o1, o2, o3, plBuiltin, evT, cv, okV, evParts, evCaps, look_cons, look_nil, plLoad, plStore, plAlloc, plBox, plBuild, plSlice, plFieldAddr, plField, plIndexAddr, plIndex, plBin, abin, plUn, plConv, plNil, plExtract, plLen, plMax, plAppend, elemsOf, readAt, ldv, cellsV, toF, allF, splice, afill, zeros, chunk, TK.agg, Nat.reduceAdd, Nat.reduceMul, Nat.reduceSub, Nat.reduceBEq, Nat.reduceEqDiff, Nat.reduceLeDiff, Nat.reduceLT, Nat.reduceMod, Bool.false_eq_true, reduceIte, true_and, and_true, and_self, List.length_cons, List.length_nil, List.length_map, List.length_append, List.map_cons, List.map_nil, List.take_succ_cons, List.take_zero, List.drop_succ_cons, List.drop_zero, List.nil_append, List.cons_append, List.append_nil, List.getElem?_cons_zero, List.getElem?_cons_succ, List.getElem?_map, List.set_cons_zero, List.set_cons_succ, Option.map_some, beq_self_eq_true, List.all_cons, List.all_nil, Int.reduceLE, Int.reduceLT, Int.toNat_zero, Int.reduceToNat, Int.toNat_natCast, Int.natCast_nonneg, Nat.zero_add, Nat.le_refl, Nat.lt_irrefl, gt_iff_lt, decide_true, decide_false, Bool.not_true, Bool.not_false, List.range_succ, List.range_zero, List.getD_cons_zero, List.getD_cons_succ, maxLen, Nat.reducePow, Nat.zero_le, Nat.succ_ne_self, Nat.zero_mod, ty3, ty4, ty9, ty22, ty25, ty28, ty39, ty122, resA]; try rfl
        · rfl
        · simp only [outA, b1, b2, Bool.true_and, Bool.false_eq_true, reduceIte]; exact sub_tup2 sub_zero (Sub.refl _)
      · rw [b2] at h2
        refine RunS.callP rfl (by rfl) (h2) rfl (by simp only [evArgs, evT, cv, okV, look_cons, Nat.reduceBEq, Bool.false_eq_true, reduceIte]; try rfl) (by rfl) (by rfl) ?_
        repeat (first
          | refine RunS.any (by rfl) (by simp only [pl, o1, o2, o3, plBuiltin, evT, cv, okV, evParts, evCaps, look_cons, look_nil, plLoad, plStore, plAlloc, plBox, plBuild, plSlice, plFieldAddr, plField, plIndexAddr, plIndex, plBin, abin, plUn, plConv, plNil, plExtract, plLen, plMax, plAppend, elemsOf, readAt, ldv, cellsV, toF, allF, splice, afill, zeros, chunk, TK.agg, Nat.reduceAdd, Nat.reduceMul, Nat.reduceSub, Nat.reduceBEq, Nat.reduceEqDiff, Nat.reduceLeDiff, Nat.reduceLT, Nat.reduceMod, Bool.false_eq_true, reduceIte, true_and, and_true, and_self, List.length_cons, List.length_nil, List.length_map, List.length_append, List.map_cons, List.map_nil, List.take_succ_cons, List.take_zero, List.drop_succ_cons, List.drop_zero, List.nil_append, List.cons_append, List.append_nil, List.getElem?_cons_zero, List.getElem?_cons_succ, List.getElem?_map, List.set_cons_zero, List.set_cons_succ, Option.map_some, beq_self_eq_true, List.all_cons, List.all_nil, Int.reduceLE, Int.reduceLT, Int.toNat_zero, Int.reduceToNat, Int.toNat_natCast, Int.natCast_nonneg, Nat.zero_add, Nat.le_refl, Nat.lt_irrefl, gt_iff_lt, decide_true, decide_false, Bool.not_true, Bool.not_false, List.range_succ, List.range_zero, List.getD_cons_zero, List.getD_cons_succ, maxLen, Nat.reducePow, Nat.zero_le, Nat.succ_ne_self, Nat.zero_mod, ty3, ty4, ty9, ty22, ty25, ty28, ty39, ty122, hd']; try rfl) (by rfl) (by simp only [put, puts, setT, List.filter_cons, List.filter_nil, Nat.reduceBEq, Bool.false_eq_true, reduceIte, Bool.not_true, Bool.not_false, List.zip_cons_cons, List.zip_nil_left, List.zip_nil_right, List.map_cons, List.map_nil, AB.ren, AC.rens, AC.ren, AV.ren, AV.rens, nm, List.getD_cons_zero, List.getD_cons_succ]; exact ⟨rfl, rfl⟩) ?_
          | refine RunS.skip (by rfl) (by simp only [setT, List.filter_cons, List.filter_nil, Nat.reduceBEq, Bool.false_eq_true, reduceIte, Bool.not_true, Bool.not_false]; try rfl) ?_)
        refine RunS.nil (hN _ _ _ ?_)
        clear hN N
        simp only [List.length_cons, List.length_nil, Nat.reduceAdd, Nat.reduceMul, kSeq, kBlock, kFin, reduceIte, Nat.reduceEqDiff]
        refine W.condF (by rfl) ?_
        first | refine W.exit ?_ | refine W.ret ?_ | refine W.skip ?_
        try simp only [kSeq, kBlock, kFin, reduceIte, Nat.reduceEqDiff]
        refine ⟨?_, b1, b2⟩
        refine Wk.keep [] (by rfl) ?_ ?_ <;> simp only [keepT, keepH, look_cons, look_nil, AV.frz, AV.frzs, AC.frz, AC.frzs, AB.frz, lives, List.any_cons, List.any_nil, Nat.reduceBEq, Nat.reduceLT, Bool.false_eq_true, reduceIte, and_true, true_and, and_self, Option.some.injEq, decide_false, decide_true, Bool.or_false, Bool.or_true, Bool.false_or, Bool.true_or, beq_self_eq_true, List.contains_nil, List.contains_cons, List.length_map, List.length_cons, List.length_nil, List.length_append]
  · rintro T H nx ⟨hw, b1, b2⟩
    refine W.to ?_ hw
    clear hw
    rw [b1, b2]
    repeat (first | refine W.seq ?_ | refine W.block ?_)
    refine W.regionK (by decide) fun N hN => ?_
    repeat (first
      | refine RunS.any (by rfl) (by simp only [pl, o1, o2, o3, plBuiltin, evT, cv, okV, evParts, evCaps, look_cons, look_nil, plLoad, plStore, plAlloc, plBox, plBuild, plSlice, plFieldAddr, plField, plIndexAddr, plIndex, plBin, abin, plUn, plConv, plNil, plExtract, plLen, plMax, plAppend, elemsOf, readAt, ldv, cellsV, toF, allF, splice, afill, zeros, chunk, TK.agg, Nat.reduceAdd, Nat.reduceMul, Nat.reduceSub, Nat.reduceBEq, Nat.reduceEqDiff, Nat.reduceLeDiff, Nat.reduceLT, Nat.reduceMod, Bool.false_eq_true, reduceIte, true_and, and_true, and_self, List.length_cons, List.length_nil, List.length_map, List.length_append, List.map_cons, List.map_nil, List.take_succ_cons, List.take_zero, List.drop_succ_cons, List.drop_zero, List.nil_append, List.cons_append, List.append_nil, List.getElem?_cons_zero, List.getElem?_cons_succ, List.getElem?_map, List.set_cons_zero, List.set_cons_succ, Option.map_some, beq_self_eq_true, List.all_cons, List.all_nil, Int.reduceLE, Int.reduceLT, Int.toNat_zero, Int.reduceToNat, Int.toNat_natCast, Int.natCast_nonneg, Nat.zero_add, Nat.le_refl, Nat.lt_irrefl, gt_iff_lt, decide_true, decide_false, Bool.not_true, Bool.not_false, List.range_succ, List.range_zero, List.getD_cons_zero, List.getD_cons_succ, maxLen, Nat.reducePow, Nat.zero_le, Nat.succ_ne_self, Nat.zero_mod, ty3, ty4, ty9, ty22, ty25, ty28, ty39, ty122]; try rfl) (by rfl) (by simp only [put, puts, setT, List.filter_cons, List.filter_nil, Nat.reduceBEq, Bool.false_eq_true, reduceIte, Bool.not_true, Bool.not_false, List.zip_cons_cons, List.zip_nil_left, List.zip_nil_right, List.map_cons, List.map_nil, AB.ren, AC.rens, AC.ren, AV.ren, AV.rens, nm, List.getD_cons_zero, List.getD_cons_succ]; exact ⟨rfl, rfl⟩) ?_
      | refine RunS.skip (by rfl) (by simp only [setT, List.filter_cons, List.filter_nil, Nat.reduceBEq, Bool.false_eq_true, reduceIte, Bool.not_true, Bool.not_false]; try rfl) ?_)
    refine RunS.callH rfl (by rfl) (h3) [6, 100, 101] rfl rfl (by simp only [evArgs, evT, cv, okV, look_cons, Nat.reduceBEq, Bool.false_eq_true, reduceIte]; try rfl) (by simp only [put, puts, setT, List.filter_cons, List.filter_nil, Nat.reduceBEq, Bool.false_eq_true, reduceIte, Bool.not_true, Bool.not_false, List.zip_cons_cons, List.zip_nil_left, List.zip_nil_right, List.map_cons, List.map_nil, AB.ren, AC.rens, AC.ren, AV.ren, AV.rens, nm, List.getD_cons_zero, List.getD_cons_succ, List.append_nil]; try rfl) (by rfl) (by simp only [enumL, List.forall_mem_cons, List.not_mem_nil, false_implies, implies_true, and_true, look_cons, look_nil, put, puts, setT, List.filter_cons, List.filter_nil, Nat.reduceBEq, Bool.false_eq_true, reduceIte, Bool.not_true, Bool.not_false, List.zip_cons_cons, List.zip_nil_left, List.zip_nil_right, List.map_cons, List.map_nil, AB.ren, AC.rens, AC.ren, AV.ren, AV.rens, nm, List.getD_cons_zero, List.getD_cons_succ, Nat.reduceAdd]; try trivial) (by simp only [put, puts, setT, List.filter_cons, List.filter_nil, Nat.reduceBEq, Bool.false_eq_true, reduceIte, Bool.not_true, Bool.not_false, List.zip_cons_cons, List.zip_nil_left, List.zip_nil_right, List.map_cons, List.map_nil, AB.ren, AC.rens, AC.ren, AV.ren, AV.rens, nm, List.getD_cons_zero, List.getD_cons_succ]; try rfl) (by simp only [put, puts, setT, List.filter_cons, List.filter_nil, Nat.reduceBEq, Bool.false_eq_true, reduceIte, Bool.not_true, Bool.not_false, List.zip_cons_cons, List.zip_nil_left, List.zip_nil_right, List.map_cons, List.map_nil, AB.ren, AC.rens, AC.ren, AV.ren, AV.rens, nm, List.getD_cons_zero, List.getD_cons_succ]; try rfl) ?_
    repeat (first
      | refine RunS.any (by rfl) (by simp only [pl, o1, o2, o3, plBuiltin, evT, cv, okV, evParts, evCaps, look_cons, look_nil, plLoad, plStore, plAlloc, plBox, plBuild, plSlice, plFieldAddr, plField, plIndexAddr, plIndex, plBin, abin, plUn, plConv, plNil, plExtract, plLen, plMax, plAppend, elemsOf, readAt, ldv, cellsV, toF, allF, splice, afill, zeros, chunk, TK.agg, Nat.reduceAdd, Nat.reduceMul, Nat.reduceSub, Nat.reduceBEq, Nat.reduceEqDiff, Nat.reduceLeDiff, Nat.reduceLT, Nat.reduceMod, Bool.false_eq_true, reduceIte, true_and, and_true, and_self, List.length_cons, List.length_nil, List.length_map, List.length_append, List.map_cons, List.map_nil, List.take_succ_cons, List.take_zero, List.drop_succ_cons, List.drop_zero, List.nil_append, List.cons_append, List.append_nil, List.getElem?_cons_zero, List.getElem?_cons_succ, List.getElem?_map, List.set_cons_zero, List.set_cons_succ, Option.map_some, beq_self_eq_true, List.all_cons, List.all_nil, Int.reduceLE, Int.reduceLT, Int.toNat_zero, Int.reduceToNat, Int.toNat_natCast, Int.natCast_nonneg, Nat.zero_add, Nat.le_refl, Nat.lt_irrefl, gt_iff_lt, decide_true, decide_false, Bool.not_true, Bool.not_false, List.range_succ, List.range_zero, List.getD_cons_zero, List.getD_cons_succ, maxLen, Nat.reducePow, Nat.zero_le, Nat.succ_ne_self, Nat.zero_mod, ty3, ty4, ty9, ty22, ty25, ty28, ty39, ty122]; try rfl) (by rfl) (by simp only [put, puts, setT, List.filter_cons, List.filter_nil, Nat.reduceBEq, Bool.false_eq_true, reduceIte, Bool.not_true, Bool.not_false, List.zip_cons_cons, List.zip_nil_left, List.zip_nil_right, List.map_cons, List.map_nil, AB.ren, AC.rens, AC.ren, AV.ren, AV.rens, nm, List.getD_cons_zero, List.getD_cons_succ]; exact ⟨rfl, rfl⟩) ?_
      | refine RunS.skip (by rfl) (by simp only [setT, List.filter_cons, List.filter_nil, Nat.reduceBEq, Bool.false_eq_true, reduceIte, Bool.not_true, Bool.not_false]; try rfl) ?_)
    refine RunS.nil (hN _ _ _ ?_)
    clear hN N
    simp only [List.length_cons, List.length_nil, Nat.reduceAdd, Nat.reduceMul, kSeq, kBlock, kFin, reduceIte, Nat.reduceEqDiff]
    first | refine W.exit ?_ | refine W.ret ?_ | refine W.skip ?_
    try simp only [kSeq, kBlock, kFin, reduceIte, Nat.reduceEqDiff]
    refine Fin.pureS Wk.refl (xs := ?_) ?_ rfl ?_ ?_
    rotate_left
    · simp only [pl, o1, o2, o3, plBuiltin, evT, cv, okV, evParts, evCaps, look_cons, look_nil, plLoad, plStore, plAlloc, plBox, plBuild, plSlice, plFieldAddr, plField, plIndexAddr, plIndex, plBin, abin, plUn, plConv, plNil, plExtract, plLen, plMax, plAppend, elemsOf, readAt, ldv, cellsV, toF, allF, splice, afill, zeros, chunk, TK.agg, Nat.reduceAdd, Nat.reduceMul, Nat.reduceSub, Nat.reduceBEq, Nat.reduceEqDiff, Nat.reduceLeDiff, Nat.reduceLT, Nat.reduceMod, Bool.false_eq_true, reduceIte, true_and, and_true, and_self, List.length_cons, List.length_nil, List.length_map, List.length_append, List.map_cons, List.map_nil, List.take_succ_cons, List.take_zero, List.drop_succ_cons, List.drop_zero, List.nil_append, List.cons_append, List.append_nil, List.getElem?_cons_zero, List.getElem?_cons_succ, List.getElem?_map, List.set_cons_zero, List.set_cons_succ, Option.map_some, beq_self_eq_true, List.all_cons, List.all_nil, Int.reduceLE, Int.reduceLT, Int.toNat_zero, Int.reduceToNat, Int.toNat_natCast, Int.natCast_nonneg, Nat.zero_add, Nat.le_refl, Nat.lt_irrefl, gt_iff_lt, decide_true, decide_false, Bool.not_true, Bool.not_false, List.range_succ, List.range_zero, List.getD_cons_zero, List.getD_cons_succ, maxLen, Nat.reducePow, Nat.zero_le, Nat.succ_ne_self, Nat.zero_mod, ty3, ty4, ty9, ty22, ty25, ty28, ty39, ty122, resA]; try rfl
    · rfl
    · exact Sub.refl _
end Go.Proofs.Ytfhgknmkpegpbaa

/- Layer 1 by the pure model, 8: the law of lists: function 12. -/
set_option linter.unusedVariables false
set_option linter.unusedSimpArgs false
namespace Go.Proofs.Ytfhgknmkpegpbaa
open Go Go.Abs Go.Proofs Go.RowKit
theorem two_le {k : Nat} (h : (k + 1) * 56 ≤ 140737488351232) : 2 + (k + 1) ≤ 9223372036854775807 ∧ (2 + (k + 1)) * 56 ≤ 140737488355328 := ⟨by omega, by omega⟩
theorem smallRow (x y : Tm) (l : List Tm) (n : Nat) (hn : n = 2 + l.length) : ACall Try.prog 28 [.one (.row 0 n)] [.row 25 4 (treeC x :: treeC y :: l.map treeC)] (vB (smallB (x :: y :: l))) [.row 25 4 (treeC x :: treeC y :: l.map treeC)] :=
  ACall.rows (small_ok (x :: y :: l)) (by subst hn; simp only [enumL, AV.frzs, AV.frz, AC.frz, look_cons, List.length_cons, List.length_nil, List.length_map, List.range_succ, List.range_zero, List.nil_append, List.contains_cons, beq_self_eq_true, Bool.true_or, reduceIte]; rw [if_pos (by omega)]; rfl)
set_option maxRecDepth 100000 in
set_option maxHeartbeats 4000000 in
theorem listsLaw_ok (x y : Tm) (l : List Tm) (hlen : l.length * 56 ≤ 140737488351232) : ACall Try.prog 12 [tA x, tA y, tsA l] [] (vB true) [] := by
  have h0 := sane_ok
  cases hb : smallB (x :: y :: l) with
  | false =>
    cases l with
    | nil =>
      have h1 := smallRow x y [] 2 rfl
      rw [hb, treeC_eq x, treeC_eq y] at h1
      refine acall_of Try.func12 (by decide) rfl Try.results12 (by rw [Try.ntmps12]; simp) (by simp) ?_
      rw [Try.ntmps12]
      simp only [enumL, List.length_nil, List.length_cons, Nat.reduceAdd]
      repeat (first
        | refine RunS.any (by rfl) (by simp only [pl, o1, o2, o3, plBuiltin, evT, cv, okV, evParts, evCaps, look_cons, look_nil, plLoad, plStore, plAlloc, plBox, plBuild, plSlice, plFieldAddr, plField, plIndexAddr, plIndex, plBin, abin, plUn, plConv, plNil, plExtract, plLen, plMax, plAppend, elemsOf, readAt, ldv, cellsV, toF, allF, splice, afill, zeros, chunk, TK.agg, Nat.reduceAdd, Nat.reduceMul, Nat.reduceSub, Nat.reduceBEq, Nat.reduceEqDiff, Nat.reduceLeDiff, Nat.reduceLT, Nat.reduceMod, Bool.false_eq_true, reduceIte, true_and, and_true, and_self, List.length_cons, List.length_nil, List.length_map, List.length_append, List.map_cons, List.map_nil, List.take_succ_cons, List.take_zero, List.drop_succ_cons, List.drop_zero, List.nil_append, List.cons_append, List.append_nil, List.getElem?_cons_zero, List.getElem?_cons_succ, List.getElem?_map, List.set_cons_zero, List.set_cons_succ, Option.map_some, beq_self_eq_true, List.all_cons, List.all_nil, Int.reduceLE, Int.reduceLT, Int.toNat_zero, Int.reduceToNat, Int.toNat_natCast, Int.natCast_nonneg, Nat.zero_add, Nat.le_refl, Nat.lt_irrefl, gt_iff_lt, decide_true, decide_false, Bool.not_true, Bool.not_false, List.range_succ, List.range_zero, List.getD_cons_zero, List.getD_cons_succ, maxLen, Nat.reducePow, Nat.zero_le, Nat.succ_ne_self, Nat.zero_mod, ty3, ty4, ty9, ty22, ty25, ty28, ty39, ty122, treeC_eq x, treeC_eq y]; try rfl) (by rfl) (by simp only [put, puts, setT, List.filter_cons, List.filter_nil, Nat.reduceBEq, Bool.false_eq_true, reduceIte, Bool.not_true, Bool.not_false, List.zip_cons_cons, List.zip_nil_left, List.zip_nil_right, List.map_cons, List.map_nil, AB.ren, AC.rens, AC.ren, AV.ren, AV.rens, nm, List.getD_cons_zero, List.getD_cons_succ]; exact ⟨rfl, rfl⟩) ?_
        | refine RunS.callQ (by rfl) rfl (by simp only [evArgs, evT, cv, okV, look_cons, Nat.reduceBEq, Bool.false_eq_true, reduceIte]; try rfl) (by first | exact h0) rfl (by rfl) (by rfl) ?_
        | refine RunS.skip (by rfl) (by simp only [setT, List.filter_cons, List.filter_nil, Nat.reduceBEq, Bool.false_eq_true, reduceIte, Bool.not_true, Bool.not_false]; try rfl) ?_
        | refine W.seq ?_ | refine W.block ?_ | refine W.regionK (by decide) fun N hN => ?_
        | (refine RunS.nil (hN _ _ _ ?_); clear hN N; simp only [List.length_cons, List.length_nil, Nat.reduceAdd, Nat.reduceMul, kSeq, kBlock, kFin, reduceIte, Nat.reduceEqDiff])
        | ((first | refine W.exit ?_ | refine W.ret ?_ | refine W.skip ?_); try simp only [kSeq, kBlock, kFin, reduceIte, Nat.reduceEqDiff])
        | refine W.condF (by rfl) ?_ | refine W.condT (by rfl) ?_)
      refine RunS.callH rfl (by rfl) (h1) [22] rfl rfl (by simp only [evArgs, evT, cv, okV, look_cons, Nat.reduceBEq, Bool.false_eq_true, reduceIte]; try rfl) (by simp only [put, puts, setT, List.filter_cons, List.filter_nil, Nat.reduceBEq, Bool.false_eq_true, reduceIte, Bool.not_true, Bool.not_false, List.zip_cons_cons, List.zip_nil_left, List.zip_nil_right, List.map_cons, List.map_nil, AB.ren, AC.rens, AC.ren, AV.ren, AV.rens, nm, List.getD_cons_zero, List.getD_cons_succ, List.append_nil]; try rfl) (by rfl) (by simp only [enumL, List.forall_mem_cons, List.not_mem_nil, false_implies, implies_true, and_true, look_cons, look_nil, put, puts, setT, List.filter_cons, List.filter_nil, Nat.reduceBEq, Bool.false_eq_true, reduceIte, Bool.not_true, Bool.not_false, List.zip_cons_cons, List.zip_nil_left, List.zip_nil_right, List.map_cons, List.map_nil, AB.ren, AC.rens, AC.ren, AV.ren, AV.rens, nm, List.getD_cons_zero, List.getD_cons_succ, Nat.reduceAdd]; try trivial) (by simp only [put, puts, setT, List.filter_cons, List.filter_nil, Nat.reduceBEq, Bool.false_eq_true, reduceIte, Bool.not_true, Bool.not_false, List.zip_cons_cons, List.zip_nil_left, List.zip_nil_right, List.map_cons, List.map_nil, AB.ren, AC.rens, AC.ren, AV.ren, AV.rens, nm, List.getD_cons_zero, List.getD_cons_succ]; try rfl) (by simp only [put, puts, setT, List.filter_cons, List.filter_nil, Nat.reduceBEq, Bool.false_eq_true, reduceIte, Bool.not_true, Bool.not_false, List.zip_cons_cons, List.zip_nil_left, List.zip_nil_right, List.map_cons, List.map_nil, AB.ren, AC.rens, AC.ren, AV.ren, AV.rens, nm, List.getD_cons_zero, List.getD_cons_succ]; try rfl) ?_
      repeat (first
        | refine RunS.any (by rfl) (by simp only [pl, o1, o2, o3, plBuiltin, evT, cv, okV, evParts, evCaps, look_cons, look_nil, plLoad, plStore, plAlloc, plBox, plBuild, plSlice, plFieldAddr, plField, plIndexAddr, plIndex, plBin, abin, plUn, plConv, plNil, plExtract, plLen, plMax, plAppend, elemsOf, readAt, ldv, cellsV, toF, allF, splice, afill, zeros, chunk, TK.agg, Nat.reduceAdd, Nat.reduceMul, Nat.reduceSub, Nat.reduceBEq, Nat.reduceEqDiff, Nat.reduceLeDiff, Nat.reduceLT, Nat.reduceMod, Bool.false_eq_true, reduceIte, true_and, and_true, and_self, List.length_cons, List.length_nil, List.length_map, List.length_append, List.map_cons, List.map_nil, List.take_succ_cons, List.take_zero, List.drop_succ_cons, List.drop_zero, List.nil_append, List.cons_append, List.append_nil, List.getElem?_cons_zero, List.getElem?_cons_succ, List.getElem?_map, List.set_cons_zero, List.set_cons_succ, Option.map_some, beq_self_eq_true, List.all_cons, List.all_nil, Int.reduceLE, Int.reduceLT, Int.toNat_zero, Int.reduceToNat, Int.toNat_natCast, Int.natCast_nonneg, Nat.zero_add, Nat.le_refl, Nat.lt_irrefl, gt_iff_lt, decide_true, decide_false, Bool.not_true, Bool.not_false, List.range_succ, List.range_zero, List.getD_cons_zero, List.getD_cons_succ, maxLen, Nat.reducePow, Nat.zero_le, Nat.succ_ne_self, Nat.zero_mod, ty3, ty4, ty9, ty22, ty25, ty28, ty39, ty122]; try rfl) (by rfl) (by simp only [put, puts, setT, List.filter_cons, List.filter_nil, Nat.reduceBEq, Bool.false_eq_true, reduceIte, Bool.not_true, Bool.not_false, List.zip_cons_cons, List.zip_nil_left, List.zip_nil_right, List.map_cons, List.map_nil, AB.ren, AC.rens, AC.ren, AV.ren, AV.rens, nm, List.getD_cons_zero, List.getD_cons_succ]; exact ⟨rfl, rfl⟩) ?_
        | refine RunS.skip (by rfl) (by simp only [setT, List.filter_cons, List.filter_nil, Nat.reduceBEq, Bool.false_eq_true, reduceIte, Bool.not_true, Bool.not_false]; try rfl) ?_
        | refine W.seq ?_ | refine W.block ?_ | refine W.regionK (by decide) fun N hN => ?_
        | (refine RunS.nil (hN _ _ _ ?_); clear hN N; simp only [List.length_cons, List.length_nil, Nat.reduceAdd, Nat.reduceMul, kSeq, kBlock, kFin, reduceIte, Nat.reduceEqDiff])
        | ((first | refine W.exit ?_ | refine W.ret ?_ | refine W.skip ?_); try simp only [kSeq, kBlock, kFin, reduceIte, Nat.reduceEqDiff])
        | refine W.condF (by rfl) ?_ | refine W.condT (by rfl) ?_)
      refine Fin.pureS Wk.refl (xs := ?_) ?_ rfl ?_ ?_
      rotate_left
      · simp only [pl, o1, o2, o3, plBuiltin, evT, cv, okV, evParts, evCaps, look_cons, look_nil, plLoad, plStore, plAlloc, plBox, plBuild, plSlice, plFieldAddr, plField, plIndexAddr, plIndex, plBin, abin, plUn, plConv, plNil, plExtract, plLen, plMax, plAppend, elemsOf, readAt, ldv, cellsV, toF, allF, splice, afill, zeros, chunk, TK.agg, Nat.reduceAdd, Nat.reduceMul, Nat.reduceSub, Nat.reduceBEq, Nat.reduceEqDiff, Nat.reduceLeDiff, Nat.reduceLT, Nat.reduceMod, Bool.false_eq_true, reduceIte, true_and, and_true, and_self, List.length_cons, List.length_nil, List.length_map, List.length_append, List.map_cons, List.map_nil, List.take_succ_cons, List.take_zero, List.drop_succ_cons, List.drop_zero, List.nil_append, List.cons_append, List.append_nil, List.getElem?_cons_zero, List.getElem?_cons_succ, List.getElem?_map, List.set_cons_zero, List.set_cons_succ, Option.map_some, beq_self_eq_true, List.all_cons, List.all_nil, Int.reduceLE, Int.reduceLT, Int.toNat_zero, Int.reduceToNat, Int.toNat_natCast, Int.natCast_nonneg, Nat.zero_add, Nat.le_refl, Nat.lt_irrefl, gt_iff_lt, decide_true, decide_false, Bool.not_true, Bool.not_false, List.range_succ, List.range_zero, List.getD_cons_zero, List.getD_cons_succ, maxLen, Nat.reducePow, Nat.zero_le, Nat.succ_ne_self, Nat.zero_mod, ty3, ty4, ty9, ty22, ty25, ty28, ty39, ty122, resA]; try rfl
      · rfl
      · exact Sub.refl _
    | cons a l =>
      have h1 := smallRow x y (a :: l) (2 + (l.length + 1)) (by simp)
      rw [hb, treeC_eq x, treeC_eq y] at h1
      rw [List.length_cons] at hlen
      obtain ⟨hn3, hn4⟩ := two_le hlen
      refine acall_of Try.func12 (by decide) rfl Try.results12 (by rw [Try.ntmps12]; simp) (by simp) ?_
      rw [Try.ntmps12]
      simp only [enumL, List.length_nil, List.length_cons, Nat.reduceAdd]
      repeat (first
        | refine RunS.any (by rfl) (by simp only [pl, o1, o2, o3, plBuiltin, evT, cv, okV, evParts, evCaps, look_cons, look_nil, plLoad, plStore, plAlloc, plBox, plBuild, plSlice, plFieldAddr, plField, plIndexAddr, plIndex, plBin, abin, plUn, plConv, plNil, plExtract, plLen, plMax, plAppend, elemsOf, readAt, ldv, cellsV, toF, allF, splice, afill, zeros, chunk, TK.agg, Nat.reduceAdd, Nat.reduceMul, Nat.reduceSub, Nat.reduceBEq, Nat.reduceEqDiff, Nat.reduceLeDiff, Nat.reduceLT, Nat.reduceMod, Bool.false_eq_true, reduceIte, true_and, and_true, and_self, List.length_cons, List.length_nil, List.length_map, List.length_append, List.map_cons, List.map_nil, List.take_succ_cons, List.take_zero, List.drop_succ_cons, List.drop_zero, List.nil_append, List.cons_append, List.append_nil, List.getElem?_cons_zero, List.getElem?_cons_succ, List.getElem?_map, List.set_cons_zero, List.set_cons_succ, Option.map_some, beq_self_eq_true, List.all_cons, List.all_nil, Int.reduceLE, Int.reduceLT, Int.toNat_zero, Int.reduceToNat, Int.toNat_natCast, Int.natCast_nonneg, Nat.zero_add, Nat.le_refl, Nat.lt_irrefl, gt_iff_lt, decide_true, decide_false, Bool.not_true, Bool.not_false, List.range_succ, List.range_zero, List.getD_cons_zero, List.getD_cons_succ, maxLen, Nat.reducePow, Nat.zero_le, Nat.succ_ne_self, Nat.zero_mod, ty3, ty4, ty9, ty22, ty25, ty28, ty39, ty122, treeC_eq x, treeC_eq y, hn3, hn4]; try rfl) (by rfl) (by simp only [put, puts, setT, List.filter_cons, List.filter_nil, Nat.reduceBEq, Bool.false_eq_true, reduceIte, Bool.not_true, Bool.not_false, List.zip_cons_cons, List.zip_nil_left, List.zip_nil_right, List.map_cons, List.map_nil, AB.ren, AC.rens, AC.ren, AV.ren, AV.rens, nm, List.getD_cons_zero, List.getD_cons_succ]; exact ⟨rfl, rfl⟩) ?_
        | refine RunS.callQ (by rfl) rfl (by simp only [evArgs, evT, cv, okV, look_cons, Nat.reduceBEq, Bool.false_eq_true, reduceIte]; try rfl) (by first | exact h0) rfl (by rfl) (by rfl) ?_
        | refine RunS.skip (by rfl) (by simp only [setT, List.filter_cons, List.filter_nil, Nat.reduceBEq, Bool.false_eq_true, reduceIte, Bool.not_true, Bool.not_false]; try rfl) ?_
        | refine W.seq ?_ | refine W.block ?_ | refine W.regionK (by decide) fun N hN => ?_
        | (refine RunS.nil (hN _ _ _ ?_); clear hN N; simp only [List.length_cons, List.length_nil, Nat.reduceAdd, Nat.reduceMul, kSeq, kBlock, kFin, reduceIte, Nat.reduceEqDiff])
        | ((first | refine W.exit ?_ | refine W.ret ?_ | refine W.skip ?_); try simp only [kSeq, kBlock, kFin, reduceIte, Nat.reduceEqDiff])
        | refine W.condF (by rfl) ?_ | refine W.condT (by rfl) ?_)
      refine RunS.callH rfl (by rfl) (h1) [22] rfl rfl (by simp only [evArgs, evT, cv, okV, look_cons, Nat.reduceBEq, Bool.false_eq_true, reduceIte]; try rfl) (by simp only [put, puts, setT, List.filter_cons, List.filter_nil, Nat.reduceBEq, Bool.false_eq_true, reduceIte, Bool.not_true, Bool.not_false, List.zip_cons_cons, List.zip_nil_left, List.zip_nil_right, List.map_cons, List.map_nil, AB.ren, AC.rens, AC.ren, AV.ren, AV.rens, nm, List.getD_cons_zero, List.getD_cons_succ, List.append_nil]; try rfl) (by rfl) (by simp only [enumL, List.forall_mem_cons, List.not_mem_nil, false_implies, implies_true, and_true, look_cons, look_nil, put, puts, setT, List.filter_cons, List.filter_nil, Nat.reduceBEq, Bool.false_eq_true, reduceIte, Bool.not_true, Bool.not_false, List.zip_cons_cons, List.zip_nil_left, List.zip_nil_right, List.map_cons, List.map_nil, AB.ren, AC.rens, AC.ren, AV.ren, AV.rens, nm, List.getD_cons_zero, List.getD_cons_succ, Nat.reduceAdd]; try trivial) (by simp only [put, puts, setT, List.filter_cons, List.filter_nil, Nat.reduceBEq, Bool.false_eq_true, reduceIte, Bool.not_true, Bool.not_false, List.zip_cons_cons, List.zip_nil_left, List.zip_nil_right, List.map_cons, List.map_nil, AB.ren, AC.rens, AC.ren, AV.ren, AV.rens, nm, List.getD_cons_zero, List.getD_cons_succ]; try rfl) (by simp only [put, puts, setT, List.filter_cons, List.filter_nil, Nat.reduceBEq, Bool.false_eq_true, reduceIte, Bool.not_true, Bool.not_false, List.zip_cons_cons, List.zip_nil_left, List.zip_nil_right, List.map_cons, List.map_nil, AB.ren, AC.rens, AC.ren, AV.ren, AV.rens, nm, List.getD_cons_zero, List.getD_cons_succ]; try rfl) ?_
      repeat (first
        | refine RunS.any (by rfl) (by simp only [pl, o1, o2, o3, plBuiltin, evT, cv, okV, evParts, evCaps, look_cons, look_nil, plLoad, plStore, plAlloc, plBox, plBuild, plSlice, plFieldAddr, plField, plIndexAddr, plIndex, plBin, abin, plUn, plConv, plNil, plExtract, plLen, plMax, plAppend, elemsOf, readAt, ldv, cellsV, toF, allF, splice, afill, zeros, chunk, TK.agg, Nat.reduceAdd, Nat.reduceMul, Nat.reduceSub, Nat.reduceBEq, Nat.reduceEqDiff, Nat.reduceLeDiff, Nat.reduceLT, Nat.reduceMod, Bool.false_eq_true, reduceIte, true_and, and_true, and_self, List.length_cons, List.length_nil, List.length_map, List.length_append, List.map_cons, List.map_nil, List.take_succ_cons, List.take_zero, List.drop_succ_cons, List.drop_zero, List.nil_append, List.cons_append, List.append_nil, List.getElem?_cons_zero, List.getElem?_cons_succ, List.getElem?_map, List.set_cons_zero, List.set_cons_succ, Option.map_some, beq_self_eq_true, List.all_cons, List.all_nil, Int.reduceLE, Int.reduceLT, Int.toNat_zero, Int.reduceToNat, Int.toNat_natCast, Int.natCast_nonneg, Nat.zero_add, Nat.le_refl, Nat.lt_irrefl, gt_iff_lt, decide_true, decide_false, Bool.not_true, Bool.not_false, List.range_succ, List.range_zero, List.getD_cons_zero, List.getD_cons_succ, maxLen, Nat.reducePow, Nat.zero_le, Nat.succ_ne_self, Nat.zero_mod, ty3, ty4, ty9, ty22, ty25, ty28, ty39, ty122]; try rfl) (by rfl) (by simp only [put, puts, setT, List.filter_cons, List.filter_nil, Nat.reduceBEq, Bool.false_eq_true, reduceIte, Bool.not_true, Bool.not_false, List.zip_cons_cons, List.zip_nil_left, List.zip_nil_right, List.map_cons, List.map_nil, AB.ren, AC.rens, AC.ren, AV.ren, AV.rens, nm, List.getD_cons_zero, List.getD_cons_succ]; exact ⟨rfl, rfl⟩) ?_
        | refine RunS.skip (by rfl) (by simp only [setT, List.filter_cons, List.filter_nil, Nat.reduceBEq, Bool.false_eq_true, reduceIte, Bool.not_true, Bool.not_false]; try rfl) ?_
        | refine W.seq ?_ | refine W.block ?_ | refine W.regionK (by decide) fun N hN => ?_
        | (refine RunS.nil (hN _ _ _ ?_); clear hN N; simp only [List.length_cons, List.length_nil, Nat.reduceAdd, Nat.reduceMul, kSeq, kBlock, kFin, reduceIte, Nat.reduceEqDiff])
        | ((first | refine W.exit ?_ | refine W.ret ?_ | refine W.skip ?_); try simp only [kSeq, kBlock, kFin, reduceIte, Nat.reduceEqDiff])
        | refine W.condF (by rfl) ?_ | refine W.condT (by rfl) ?_)
      refine Fin.pureS Wk.refl (xs := ?_) ?_ rfl ?_ ?_
      rotate_left
      · simp only [pl, o1, o2, o3, plBuiltin, evT, cv, okV, evParts, evCaps, look_cons, look_nil, plLoad, plStore, plAlloc, plBox, plBuild, plSlice, plFieldAddr, plField, plIndexAddr, plIndex, plBin, abin, plUn, plConv, plNil, plExtract, plLen, plMax, plAppend, elemsOf, readAt, ldv, cellsV, toF, allF, splice, afill, zeros, chunk, TK.agg, Nat.reduceAdd, Nat.reduceMul, Nat.reduceSub, Nat.reduceBEq, Nat.reduceEqDiff, Nat.reduceLeDiff, Nat.reduceLT, Nat.reduceMod, Bool.false_eq_true, reduceIte, true_and, and_true, and_self, List.length_cons, List.length_nil, List.length_map, List.length_append, List.map_cons, List.map_nil, List.take_succ_cons, List.take_zero, List.drop_succ_cons, List.drop_zero, List.nil_append, List.cons_append, List.append_nil, List.getElem?_cons_zero, List.getElem?_cons_succ, List.getElem?_map, List.set_cons_zero, List.set_cons_succ, Option.map_some, beq_self_eq_true, List.all_cons, List.all_nil, Int.reduceLE, Int.reduceLT, Int.toNat_zero, Int.reduceToNat, Int.toNat_natCast, Int.natCast_nonneg, Nat.zero_add, Nat.le_refl, Nat.lt_irrefl, gt_iff_lt, decide_true, decide_false, Bool.not_true, Bool.not_false, List.range_succ, List.range_zero, List.getD_cons_zero, List.getD_cons_succ, maxLen, Nat.reducePow, Nat.zero_le, Nat.succ_ne_self, Nat.zero_mod, ty3, ty4, ty9, ty22, ty25, ty28, ty39, ty122, resA]; try rfl
      · rfl
      · exact Sub.refl _
  | true =>
    have hz := smallB_sizes hb
    have hzx := smallB_size hb (List.mem_cons_self ..)
    have hzy := smallB_size hb (List.mem_cons_of_mem _ (List.mem_cons_self ..))
    simp only [Tm.sizes] at hz
    have k1 := general_ok' x y
    have k2 := refGenTop_ok x y (by omega) (by omega)
    have k3 := list_ok' l x
    have k4 := refList_ok l x (by omega) (by omega)
    have k5 := items_ok' y
    have k6 := refItems_ok y (by omega)
    obtain ⟨g, hg⟩ : ∃ g, g = (if allIs [x, y] = true then genR x y else Tm.zero) := ⟨_, rfl⟩
    obtain ⟨ge, hge⟩ : ∃ g : Int, g = (if allIs [x, y] = true then 0 else 3) := ⟨_, rfl⟩
    obtain ⟨m, hm⟩ : ∃ g, g = (listR l x).getD Tm.zero := ⟨_, rfl⟩
    obtain ⟨me, hme⟩ : ∃ g : Int, g = (if (listR l x).isSome then 0 else if lstOk l x = true then 2 else 3) := ⟨_, rfl⟩
    obtain ⟨p, hp⟩ : ∃ g, g = (itR y).1 := ⟨_, rfl⟩
    obtain ⟨q, hq⟩ : ∃ g, g = (itR y).2 := ⟨_, rfl⟩
    obtain ⟨pe, hpe⟩ : ∃ g, g = errT (isB y) := ⟨_, rfl⟩
    rw [← hg, ← hge] at k1 k2
    rw [← hm, ← hme] at k3 k4
    rw [← hp, ← hq, ← hpe] at k5 k6
    clear hg hge hm hme hp hq hpe hz hzx hzy
    have s1 := refSame_ok g g
    have s2 := refSame_ok m m
    have s3 := refSame_ok q q
    have s4 := sameAll_ok p p
    rw [sameB_refl] at s1 s2 s3
    rw [sameL_iff.2 rfl] at s4
    have d1 : decide (ge ≠ ge) = false := by simp
    have d2 : decide (me ≠ me) = false := by simp
    have d3 : decide (pe = pe) = true := by simp
    cases l with
    | nil =>
      have h1 := smallRow x y [] 2 rfl
      rw [hb, treeC_eq x, treeC_eq y] at h1
      refine acall_of Try.func12 (by decide) rfl Try.results12 (by rw [Try.ntmps12]; simp) (by simp) ?_
      rw [Try.ntmps12]
      simp only [enumL, List.length_nil, List.length_cons, Nat.reduceAdd]
      repeat (first
        | refine RunS.any (by rfl) (by simp only [pl, o1, o2, o3, plBuiltin, evT, cv, okV, evParts, evCaps, look_cons, look_nil, plLoad, plStore, plAlloc, plBox, plBuild, plSlice, plFieldAddr, plField, plIndexAddr, plIndex, plBin, abin, plUn, plConv, plNil, plExtract, plLen, plMax, plAppend, elemsOf, readAt, ldv, cellsV, toF, allF, splice, afill, zeros, chunk, TK.agg, Nat.reduceAdd, Nat.reduceMul, Nat.reduceSub, Nat.reduceBEq, Nat.reduceEqDiff, Nat.reduceLeDiff, Nat.reduceLT, Nat.reduceMod, Bool.false_eq_true, reduceIte, true_and, and_true, and_self, List.length_cons, List.length_nil, List.length_map, List.length_append, List.map_cons, List.map_nil, List.take_succ_cons, List.take_zero, List.drop_succ_cons, List.drop_zero, List.nil_append, List.cons_append, List.append_nil, List.getElem?_cons_zero, List.getElem?_cons_succ, List.getElem?_map, List.set_cons_zero, List.set_cons_succ, Option.map_some, beq_self_eq_true, List.all_cons, List.all_nil, Int.reduceLE, Int.reduceLT, Int.toNat_zero, Int.reduceToNat, Int.toNat_natCast, Int.natCast_nonneg, Nat.zero_add, Nat.le_refl, Nat.lt_irrefl, gt_iff_lt, decide_true, decide_false, Bool.not_true, Bool.not_false, List.range_succ, List.range_zero, List.getD_cons_zero, List.getD_cons_succ, maxLen, Nat.reducePow, Nat.zero_le, Nat.succ_ne_self, Nat.zero_mod, ty3, ty4, ty9, ty22, ty25, ty28, ty39, ty122, treeC_eq x, treeC_eq y]; try rfl) (by rfl) (by simp only [put, puts, setT, List.filter_cons, List.filter_nil, Nat.reduceBEq, Bool.false_eq_true, reduceIte, Bool.not_true, Bool.not_false, List.zip_cons_cons, List.zip_nil_left, List.zip_nil_right, List.map_cons, List.map_nil, AB.ren, AC.rens, AC.ren, AV.ren, AV.rens, nm, List.getD_cons_zero, List.getD_cons_succ]; exact ⟨rfl, rfl⟩) ?_
        | refine RunS.callQ (by rfl) rfl (by simp only [evArgs, evT, cv, okV, look_cons, Nat.reduceBEq, Bool.false_eq_true, reduceIte]; try rfl) (by first | exact h0) rfl (by rfl) (by rfl) ?_
        | refine RunS.skip (by rfl) (by simp only [setT, List.filter_cons, List.filter_nil, Nat.reduceBEq, Bool.false_eq_true, reduceIte, Bool.not_true, Bool.not_false]; try rfl) ?_
        | refine W.seq ?_ | refine W.block ?_ | refine W.regionK (by decide) fun N hN => ?_
        | (refine RunS.nil (hN _ _ _ ?_); clear hN N; simp only [List.length_cons, List.length_nil, Nat.reduceAdd, Nat.reduceMul, kSeq, kBlock, kFin, reduceIte, Nat.reduceEqDiff])
        | ((first | refine W.exit ?_ | refine W.ret ?_ | refine W.skip ?_); try simp only [kSeq, kBlock, kFin, reduceIte, Nat.reduceEqDiff])
        | refine W.condF (by rfl) ?_ | refine W.condT (by rfl) ?_)
      refine RunS.callH rfl (by rfl) (h1) [22] rfl rfl (by simp only [evArgs, evT, cv, okV, look_cons, Nat.reduceBEq, Bool.false_eq_true, reduceIte]; try rfl) (by simp only [put, puts, setT, List.filter_cons, List.filter_nil, Nat.reduceBEq, Bool.false_eq_true, reduceIte, Bool.not_true, Bool.not_false, List.zip_cons_cons, List.zip_nil_left, List.zip_nil_right, List.map_cons, List.map_nil, AB.ren, AC.rens, AC.ren, AV.ren, AV.rens, nm, List.getD_cons_zero, List.getD_cons_succ, List.append_nil]; try rfl) (by rfl) (by simp only [enumL, List.forall_mem_cons, List.not_mem_nil, false_implies, implies_true, and_true, look_cons, look_nil, put, puts, setT, List.filter_cons, List.filter_nil, Nat.reduceBEq, Bool.false_eq_true, reduceIte, Bool.not_true, Bool.not_false, List.zip_cons_cons, List.zip_nil_left, List.zip_nil_right, List.map_cons, List.map_nil, AB.ren, AC.rens, AC.ren, AV.ren, AV.rens, nm, List.getD_cons_zero, List.getD_cons_succ, Nat.reduceAdd]; try trivial) (by simp only [put, puts, setT, List.filter_cons, List.filter_nil, Nat.reduceBEq, Bool.false_eq_true, reduceIte, Bool.not_true, Bool.not_false, List.zip_cons_cons, List.zip_nil_left, List.zip_nil_right, List.map_cons, List.map_nil, AB.ren, AC.rens, AC.ren, AV.ren, AV.rens, nm, List.getD_cons_zero, List.getD_cons_succ]; try rfl) (by simp only [put, puts, setT, List.filter_cons, List.filter_nil, Nat.reduceBEq, Bool.false_eq_true, reduceIte, Bool.not_true, Bool.not_false, List.zip_cons_cons, List.zip_nil_left, List.zip_nil_right, List.map_cons, List.map_nil, AB.ren, AC.rens, AC.ren, AV.ren, AV.rens, nm, List.getD_cons_zero, List.getD_cons_succ]; try rfl) ?_
      repeat (first
        | refine RunS.any (by rfl) (by simp only [pl, o1, o2, o3, plBuiltin, evT, cv, okV, evParts, evCaps, look_cons, look_nil, plLoad, plStore, plAlloc, plBox, plBuild, plSlice, plFieldAddr, plField, plIndexAddr, plIndex, plBin, abin, plUn, plConv, plNil, plExtract, plLen, plMax, plAppend, elemsOf, readAt, ldv, cellsV, toF, allF, splice, afill, zeros, chunk, TK.agg, Nat.reduceAdd, Nat.reduceMul, Nat.reduceSub, Nat.reduceBEq, Nat.reduceEqDiff, Nat.reduceLeDiff, Nat.reduceLT, Nat.reduceMod, Bool.false_eq_true, reduceIte, true_and, and_true, and_self, List.length_cons, List.length_nil, List.length_map, List.length_append, List.map_cons, List.map_nil, List.take_succ_cons, List.take_zero, List.drop_succ_cons, List.drop_zero, List.nil_append, List.cons_append, List.append_nil, List.getElem?_cons_zero, List.getElem?_cons_succ, List.getElem?_map, List.set_cons_zero, List.set_cons_succ, Option.map_some, beq_self_eq_true, List.all_cons, List.all_nil, Int.reduceLE, Int.reduceLT, Int.toNat_zero, Int.reduceToNat, Int.toNat_natCast, Int.natCast_nonneg, Nat.zero_add, Nat.le_refl, Nat.lt_irrefl, gt_iff_lt, decide_true, decide_false, Bool.not_true, Bool.not_false, List.range_succ, List.range_zero, List.getD_cons_zero, List.getD_cons_succ, maxLen, Nat.reducePow, Nat.zero_le, Nat.succ_ne_self, Nat.zero_mod, ty3, ty4, ty9, ty22, ty25, ty28, ty39, ty122, d1, d2, d3]; try rfl) (by rfl) (by simp only [put, puts, setT, List.filter_cons, List.filter_nil, Nat.reduceBEq, Bool.false_eq_true, reduceIte, Bool.not_true, Bool.not_false, List.zip_cons_cons, List.zip_nil_left, List.zip_nil_right, List.map_cons, List.map_nil, AB.ren, AC.rens, AC.ren, AV.ren, AV.rens, nm, List.getD_cons_zero, List.getD_cons_succ]; exact ⟨rfl, rfl⟩) ?_
        | refine RunS.callQ (by rfl) rfl (by simp only [evArgs, evT, cv, okV, look_cons, Nat.reduceBEq, Bool.false_eq_true, reduceIte]; try rfl) (by first | exact k1 | exact k2 | exact k3 | exact k4 | exact s1 | exact s2 | exact k5 | exact k6 | exact s4 | exact s3) rfl (by rfl) (by rfl) ?_
        | refine RunS.skip (by rfl) (by simp only [setT, List.filter_cons, List.filter_nil, Nat.reduceBEq, Bool.false_eq_true, reduceIte, Bool.not_true, Bool.not_false]; try rfl) ?_
        | refine W.seq ?_ | refine W.block ?_ | refine W.regionK (by decide) fun N hN => ?_
        | (refine RunS.nil (hN _ _ _ ?_); clear hN N; simp only [List.length_cons, List.length_nil, Nat.reduceAdd, Nat.reduceMul, kSeq, kBlock, kFin, reduceIte, Nat.reduceEqDiff])
        | ((first | refine W.exit ?_ | refine W.ret ?_ | refine W.skip ?_); try simp only [kSeq, kBlock, kFin, reduceIte, Nat.reduceEqDiff])
        | refine W.condF (by rfl) ?_ | refine W.condT (by rfl) ?_)
      refine Fin.pureS Wk.refl (xs := ?_) ?_ rfl ?_ ?_
      rotate_left
      · simp only [pl, o1, o2, o3, plBuiltin, evT, cv, okV, evParts, evCaps, look_cons, look_nil, plLoad, plStore, plAlloc, plBox, plBuild, plSlice, plFieldAddr, plField, plIndexAddr, plIndex, plBin, abin, plUn, plConv, plNil, plExtract, plLen, plMax, plAppend, elemsOf, readAt, ldv, cellsV, toF, allF, splice, afill, zeros, chunk, TK.agg, Nat.reduceAdd, Nat.reduceMul, Nat.reduceSub, Nat.reduceBEq, Nat.reduceEqDiff, Nat.reduceLeDiff, Nat.reduceLT, Nat.reduceMod, Bool.false_eq_true, reduceIte, true_and, and_true, and_self, List.length_cons, List.length_nil, List.length_map, List.length_append, List.map_cons, List.map_nil, List.take_succ_cons, List.take_zero, List.drop_succ_cons, List.drop_zero, List.nil_append, List.cons_append, List.append_nil, List.getElem?_cons_zero, List.getElem?_cons_succ, List.getElem?_map, List.set_cons_zero, List.set_cons_succ, Option.map_some, beq_self_eq_true, List.all_cons, List.all_nil, Int.reduceLE, Int.reduceLT, Int.toNat_zero, Int.reduceToNat, Int.toNat_natCast, Int.natCast_nonneg, Nat.zero_add, Nat.le_refl, Nat.lt_irrefl, gt_iff_lt, decide_true, decide_false, Bool.not_true, Bool.not_false, List.range_succ, List.range_zero, List.getD_cons_zero, List.getD_cons_succ, maxLen, Nat.reducePow, Nat.zero_le, Nat.succ_ne_self, Nat.zero_mod, ty3, ty4, ty9, ty22, ty25, ty28, ty39, ty122, resA]; try rfl
      · rfl
      · exact Sub.refl _
    | cons a l =>
      have h1 := smallRow x y (a :: l) (2 + (l.length + 1)) (by simp)
      rw [hb, treeC_eq x, treeC_eq y] at h1
      rw [List.length_cons] at hlen
      obtain ⟨hn3, hn4⟩ := two_le hlen
      refine acall_of Try.func12 (by decide) rfl Try.results12 (by rw [Try.ntmps12]; simp) (by simp) ?_
      rw [Try.ntmps12]
      simp only [enumL, List.length_nil, List.length_cons, Nat.reduceAdd]
      repeat (first
        | refine RunS.any (by rfl) (by simp only [pl, o1, o2, o3, plBuiltin, evT, cv, okV, evParts, evCaps, look_cons, look_nil, plLoad, plStore, plAlloc, plBox, plBuild, plSlice, plFieldAddr, plField, plIndexAddr, plIndex, plBin, abin, plUn, plConv, plNil, plExtract, plLen, plMax, plAppend, elemsOf, readAt, ldv, cellsV, toF, allF, splice, afill, zeros, chunk, TK.agg, Nat.reduceAdd, Nat.reduceMul, Nat.reduceSub, Nat.reduceBEq, Nat.reduceEqDiff, Nat.reduceLeDiff, Nat.reduceLT, Nat.reduceMod, Bool.false_eq_true, reduceIte, true_and, and_true, and_self, List.length_cons, List.length_nil, List.length_map, List.length_append, List.map_cons, List.map_nil, List.take_succ_cons, List.take_zero, List.drop_succ_cons, List.drop_zero, List.nil_append, List.cons_append, List.append_nil, List.getElem?_cons_zero, List.getElem?_cons_succ, List.getElem?_map, List.set_cons_zero, List.set_cons_succ, Option.map_some, beq_self_eq_true, List.all_cons, List.all_nil, Int.reduceLE, Int.reduceLT, Int.toNat_zero, Int.reduceToNat, Int.toNat_natCast, Int.natCast_nonneg, Nat.zero_add, Nat.le_refl, Nat.lt_irrefl, gt_iff_lt, decide_true, decide_false, Bool.not_true, Bool.not_false, List.range_succ, List.range_zero, List.getD_cons_zero, List.getD_cons_succ, maxLen, Nat.reducePow, Nat.zero_le, Nat.succ_ne_self, Nat.zero_mod, ty3, ty4, ty9, ty22, ty25, ty28, ty39, ty122, treeC_eq x, treeC_eq y, hn3, hn4]; try rfl) (by rfl) (by simp only [put, puts, setT, List.filter_cons, List.filter_nil, Nat.reduceBEq, Bool.false_eq_true, reduceIte, Bool.not_true, Bool.not_false, List.zip_cons_cons, List.zip_nil_left, List.zip_nil_right, List.map_cons, List.map_nil, AB.ren, AC.rens, AC.ren, AV.ren, AV.rens, nm, List.getD_cons_zero, List.getD_cons_succ]; exact ⟨rfl, rfl⟩) ?_
        | refine RunS.callQ (by rfl) rfl (by simp only [evArgs, evT, cv, okV, look_cons, Nat.reduceBEq, Bool.false_eq_true, reduceIte]; try rfl) (by first | exact h0) rfl (by rfl) (by rfl) ?_
        | refine RunS.skip (by rfl) (by simp only [setT, List.filter_cons, List.filter_nil, Nat.reduceBEq, Bool.false_eq_true, reduceIte, Bool.not_true, Bool.not_false]; try rfl) ?_
        | refine W.seq ?_ | refine W.block ?_ | refine W.regionK (by decide) fun N hN => ?_
        | (refine RunS.nil (hN _ _ _ ?_); clear hN N; simp only [List.length_cons, List.length_nil, Nat.reduceAdd, Nat.reduceMul, kSeq, kBlock, kFin, reduceIte, Nat.reduceEqDiff])
        | ((first | refine W.exit ?_ | refine W.ret ?_ | refine W.skip ?_); try simp only [kSeq, kBlock, kFin, reduceIte, Nat.reduceEqDiff])
        | refine W.condF (by rfl) ?_ | refine W.condT (by rfl) ?_)
      refine RunS.callH rfl (by rfl) (h1) [22] rfl rfl (by simp only [evArgs, evT, cv, okV, look_cons, Nat.reduceBEq, Bool.false_eq_true, reduceIte]; try rfl) (by simp only [put, puts, setT, List.filter_cons, List.filter_nil, Nat.reduceBEq, Bool.false_eq_true, reduceIte, Bool.not_true, Bool.not_false, List.zip_cons_cons, List.zip_nil_left, List.zip_nil_right, List.map_cons, List.map_nil, AB.ren, AC.rens, AC.ren, AV.ren, AV.rens, nm, List.getD_cons_zero, List.getD_cons_succ, List.append_nil]; try rfl) (by rfl) (by simp only [enumL, List.forall_mem_cons, List.not_mem_nil, false_implies, implies_true, and_true, look_cons, look_nil, put, puts, setT, List.filter_cons, List.filter_nil, Nat.reduceBEq, Bool.false_eq_true, reduceIte, Bool.not_true, Bool.not_false, List.zip_cons_cons, List.zip_nil_left, List.zip_nil_right, List.map_cons, List.map_nil, AB.ren, AC.rens, AC.ren, AV.ren, AV.rens, nm, List.getD_cons_zero, List.getD_cons_succ, Nat.reduceAdd]; try trivial) (by simp only [put, puts, setT, List.filter_cons, List.filter_nil, Nat.reduceBEq, Bool.false_eq_true, reduceIte, Bool.not_true, Bool.not_false, List.zip_cons_cons, List.zip_nil_left, List.zip_nil_right, List.map_cons, List.map_nil, AB.ren, AC.rens, AC.ren, AV.ren, AV.rens, nm, List.getD_cons_zero, List.getD_cons_succ]; try rfl) (by simp only [put, puts, setT, List.filter_cons, List.filter_nil, Nat.reduceBEq, Bool.false_eq_true, reduceIte, Bool.not_true, Bool.not_false, List.zip_cons_cons, List.zip_nil_left, List.zip_nil_right, List.map_cons, List.map_nil, AB.ren, AC.rens, AC.ren, AV.ren, AV.rens, nm, List.getD_cons_zero, List.getD_cons_succ]; try rfl) ?_
      repeat (first
        | refine RunS.any (by rfl) (by simp only [pl, o1, o2, o3, plBuiltin, evT, cv, okV, evParts, evCaps, look_cons, look_nil, plLoad, plStore, plAlloc, plBox, plBuild, plSlice, plFieldAddr, plField, plIndexAddr, plIndex, plBin, abin, plUn, plConv, plNil, plExtract, plLen, plMax, plAppend, elemsOf, readAt, ldv, cellsV, toF, allF, splice, afill, zeros, chunk, TK.agg, Nat.reduceAdd, Nat.reduceMul, Nat.reduceSub, Nat.reduceBEq, Nat.reduceEqDiff, Nat.reduceLeDiff, Nat.reduceLT, Nat.reduceMod, Bool.false_eq_true, reduceIte, true_and, and_true, and_self, List.length_cons, List.length_nil, List.length_map, List.length_append, List.map_cons, List.map_nil, List.take_succ_cons, List.take_zero, List.drop_succ_cons, List.drop_zero, List.nil_append, List.cons_append, List.append_nil, List.getElem?_cons_zero, List.getElem?_cons_succ, List.getElem?_map, List.set_cons_zero, List.set_cons_succ, Option.map_some, beq_self_eq_true, List.all_cons, List.all_nil, Int.reduceLE, Int.reduceLT, Int.toNat_zero, Int.reduceToNat, Int.toNat_natCast, Int.natCast_nonneg, Nat.zero_add, Nat.le_refl, Nat.lt_irrefl, gt_iff_lt, decide_true, decide_false, Bool.not_true, Bool.not_false, List.range_succ, List.range_zero, List.getD_cons_zero, List.getD_cons_succ, maxLen, Nat.reducePow, Nat.zero_le, Nat.succ_ne_self, Nat.zero_mod, ty3, ty4, ty9, ty22, ty25, ty28, ty39, ty122, d1, d2, d3]; try rfl) (by rfl) (by simp only [put, puts, setT, List.filter_cons, List.filter_nil, Nat.reduceBEq, Bool.false_eq_true, reduceIte, Bool.not_true, Bool.not_false, List.zip_cons_cons, List.zip_nil_left, List.zip_nil_right, List.map_cons, List.map_nil, AB.ren, AC.rens, AC.ren, AV.ren, AV.rens, nm, List.getD_cons_zero, List.getD_cons_succ]; exact ⟨rfl, rfl⟩) ?_
        | refine RunS.callQ (by rfl) rfl (by simp only [evArgs, evT, cv, okV, look_cons, Nat.reduceBEq, Bool.false_eq_true, reduceIte]; try rfl) (by first | exact k1 | exact k2 | exact k3 | exact k4 | exact s1 | exact s2 | exact k5 | exact k6 | exact s4 | exact s3) rfl (by rfl) (by rfl) ?_
        | refine RunS.skip (by rfl) (by simp only [setT, List.filter_cons, List.filter_nil, Nat.reduceBEq, Bool.false_eq_true, reduceIte, Bool.not_true, Bool.not_false]; try rfl) ?_
        | refine W.seq ?_ | refine W.block ?_ | refine W.regionK (by decide) fun N hN => ?_
        | (refine RunS.nil (hN _ _ _ ?_); clear hN N; simp only [List.length_cons, List.length_nil, Nat.reduceAdd, Nat.reduceMul, kSeq, kBlock, kFin, reduceIte, Nat.reduceEqDiff])
        | ((first | refine W.exit ?_ | refine W.ret ?_ | refine W.skip ?_); try simp only [kSeq, kBlock, kFin, reduceIte, Nat.reduceEqDiff])
        | refine W.condF (by rfl) ?_ | refine W.condT (by rfl) ?_)
      refine Fin.pureS Wk.refl (xs := ?_) ?_ rfl ?_ ?_
      rotate_left
      · simp only [pl, o1, o2, o3, plBuiltin, evT, cv, okV, evParts, evCaps, look_cons, look_nil, plLoad, plStore, plAlloc, plBox, plBuild, plSlice, plFieldAddr, plField, plIndexAddr, plIndex, plBin, abin, plUn, plConv, plNil, plExtract, plLen, plMax, plAppend, elemsOf, readAt, ldv, cellsV, toF, allF, splice, afill, zeros, chunk, TK.agg, Nat.reduceAdd, Nat.reduceMul, Nat.reduceSub, Nat.reduceBEq, Nat.reduceEqDiff, Nat.reduceLeDiff, Nat.reduceLT, Nat.reduceMod, Bool.false_eq_true, reduceIte, true_and, and_true, and_self, List.length_cons, List.length_nil, List.length_map, List.length_append, List.map_cons, List.map_nil, List.take_succ_cons, List.take_zero, List.drop_succ_cons, List.drop_zero, List.nil_append, List.cons_append, List.append_nil, List.getElem?_cons_zero, List.getElem?_cons_succ, List.getElem?_map, List.set_cons_zero, List.set_cons_succ, Option.map_some, beq_self_eq_true, List.all_cons, List.all_nil, Int.reduceLE, Int.reduceLT, Int.toNat_zero, Int.reduceToNat, Int.toNat_natCast, Int.natCast_nonneg, Nat.zero_add, Nat.le_refl, Nat.lt_irrefl, gt_iff_lt, decide_true, decide_false, Bool.not_true, Bool.not_false, List.range_succ, List.range_zero, List.getD_cons_zero, List.getD_cons_succ, maxLen, Nat.reducePow, Nat.zero_le, Nat.succ_ne_self, Nat.zero_mod, ty3, ty4, ty9, ty22, ty25, ty28, ty39, ty122, resA]; try rfl
      · rfl
      · exact Sub.refl _
end Go.Proofs.Ytfhgknmkpegpbaa

/- Layer 1 by the pure model, 9: a law out of its contract; the law of lists. -/
set_option linter.unusedVariables false
set_option linter.unusedSimpArgs false
namespace Go.Proofs.Ytfhgknmkpegpbaa
open Go Go.Abs Go.Proofs Go.RowKit
/-- All of memory may be read. -/
abbrev allE (w : World) : En := ⟨fun g => g < w.heap.size, fun _ _ => none⟩
theorem ACall.law {P : Program} {f : FuncId} {args : List AV} {x : Value} (h : ACall P f args [] (.val x) []) (w : World) (vs : Array Value) (hvs : All2 (Rv w (allE w)) args vs.toList) : Calls P f vs w fun e w' => e = .returned x ∧ Below w.heap.size w w' :=
  (h.2.2 (allE w) w vs hvs (fun b y hy => by simp at hy) (fun b b' y y' g hy => by simp at hy) (fun b y g hy => by simp at hy) (fun b n hb => rfl) (fun g hg => hg)).mono (by
    rintro e w' ⟨v, E', rfl, hv, u⟩
    have := hv.val_inv
    subst this
    exact ⟨rfl, u.os, u.tape, u.output, u.grow, fun k hk => u.kept k hk (fun b hb => by simp at hb)⟩)
theorem TmV.all {P : Nat → Prop} {w : World} {v : Value} {t : Tm} (h : TmV P w v t) : Rv w (allE w) (tA t) v := by
  obtain ⟨A, c, rfl, hs, hc⟩ := h
  exact hc.inside.toRvT hs (fun g hg => hg.2)
theorem TmC.all {P : Nat → Prop} {w : World} {A : Option Addr} {c : Nat} {l : List Tm} (h : TmC P w A c l) : Rv w (allE w) (tsA l) (.slice A l.length c) := h.inside.toRv (fun g hg => hg.2)
theorem listsLaw_calls (x y : Tm) (l : List Tm) (P Q R : Nat → Prop) (w : World) (v1 v2 : Value) (A : Option Addr) (c : Nat) (hx : TmV P w v1 x) (hy : TmV Q w v2 y) (hl : TmC R w A c l) (hlen : l.length * 56 ≤ 140737488351232) :
    Calls Try.prog 12 #[v1, v2, .slice A l.length c] w fun e w' => e = .returned (.bool true) ∧ Below w.heap.size w w' :=
  ACall.law (listsLaw_ok x y l hlen) w _ (All2.cons hx.all (All2.cons hy.all (All2.cons hl.all (All2.nil _))))
end Go.Proofs.Ytfhgknmkpegpbaa

/- The law's test of terms that are together small: function 26, its closure 82. -/
set_option linter.unusedVariables false
set_option linter.unusedSimpArgs false
namespace Go.Proofs.Ytfhgknmkpegpbaa
open Go.RowKit

set_option maxRecDepth 100000 in
set_option maxHeartbeats 4000000 in
theorem notIs_calls (t : Tm) (P : Nat → Prop) (w : World) (v : Value) (hv : TmV P w v t) (hsz : t.size ≤ 1000000) : Calls Try.prog 82 #[v] w (RetB w (!isB t)) := by
  obtain ⟨A, c, rfl, hs, hc⟩ := hv
  obtain ⟨W0, hW0⟩ : ∃ W0, W0 = w.alloc (.cells #[.int .i64 t.k, .int .i64 t.n, .string t.s, .slice A t.l.length c] 25) := ⟨_, rfl⟩
  have hB0 : Below w.heap.size w W0 := by rw [hW0]; exact (Below.refl _ _).alloc (Nat.le_refl _) _
  have hX0 : Blk W0 w.heap.size 25 #[.int .i64 t.k, .int .i64 t.n, .string t.s, .slice A t.l.length c] := by rw [hW0]; exact Blk.new _ _ _
  have lx0 := hX0.lt
  have Hc := Lib.hid (hc.stay hB0 (Nat.le_refl _)); clear hc
  have HB0 := Lib.hid hB0; clear hB0
  have HW := Lib.hid hW0; clear hW0 hX0
  obtain ⟨b, hb⟩ : ∃ b, b = isB t := ⟨_, rfl⟩
  have hcall := refIs_calls t P W0 (.agg #[.int .i64 t.k, .int .i64 t.n, .string t.s, .slice A t.l.length c]) ⟨A, c, rfl, hs, Hc.out⟩ hsz
  rw [← hb] at hcall ⊢
  have Hcall := Lib.hid hcall; clear hcall hb
  go_enter Try.func82, Try.ntmps82
  go_wp2_with fail
  rw [← HW.out]
  refine Hcall.out.mono ?_
  rintro e w1 ⟨rfl, hb⟩
  have hbw := Lib.hid (HB0.out.trans (hb.mono HB0.out.size)); clear hb
  cases b
  · go_wp2
    go_ret
    exact ⟨rfl, hbw.out⟩
  · go_wp2
    go_ret
    exact ⟨rfl, hbw.out⟩

def rightB (l : List Tm) : Bool := smallB l && !l.any (fun t => !isB t)
theorem rightB_iff {l : List Tm} : rightB l = true ↔ smallB l = true ∧ ∀ t ∈ l, isB t = true := by
  simp [rightB, Bool.and_eq_true, List.any_eq_true]

set_option maxRecDepth 100000 in
set_option maxHeartbeats 4000000 in
theorem right_calls (l : List Tm) (P : Nat → Prop) (A : Option Addr) (c : Nat) (w : World) (hc : TmC P w A c l) :
    Calls Try.prog 26 #[.slice A l.length c] w (RetB w (rightB l)) := by
  have hcall := small_calls l P A c w hc
  obtain ⟨r, hr⟩ : ∃ r, r = rightB l := ⟨_, rfl⟩
  rw [← hr]
  obtain ⟨s, hs⟩ : ∃ s, s = smallB l := ⟨_, rfl⟩
  rw [← hs] at hcall
  have Hcall := Lib.hid hcall; clear hcall
  have Hc := Lib.hid hc; clear hc
  rw [rightB, ← hs] at hr
  cases s
  · have Hr := Lib.hid hr; clear hr hs
    go_enter Try.func26, Try.ntmps26
    go_wp2_with fail
    refine Hcall.out.mono ?_
    rintro e w1 ⟨rfl, hb⟩
    have HB := Lib.hid hb; clear hb
    go_wp2
    go_ret
    exact ⟨by rw [Hr.out]; rfl, HB.out⟩
  · have Hsz := Lib.hid (fun (t : Tm) (ht : t ∈ l) => smallB_size hs.symm ht); clear hs
    obtain ⟨a, ha⟩ : ∃ a, a = l.any (fun t => !isB t) := ⟨_, rfl⟩
    rw [← ha] at hr
    have Hr := Lib.hid hr; clear hr
    have Ha := Lib.hid ha; clear ha
    go_enter Try.func26, Try.ntmps26
    go_wp2_with fail
    refine Hcall.out.mono ?_
    rintro e w1 ⟨rfl, hb⟩
    have HB := Lib.hid hb; clear hb
    have hcall := containsFuncT_calls 82 (fun t => !isB t) l P A c w1 (Hc.out.stay HB.out (Nat.le_refl _)) (fun _ _ => rfl) (fun x hx W v hv => notIs_calls x P W v hv (by have := Hsz.out x hx; omega))
    rw [← Ha.out] at hcall
    have Hcall2 := Lib.hid hcall; clear hcall
    go_wp2_with fail
    refine Hcall2.out.mono ?_
    rintro e w2 ⟨rfl, hb⟩
    have HB2 := Lib.hid (HB.out.trans (hb.mono HB.out.size)); clear hb
    go_wp2
    go_ret
    exact ⟨by rw [Hr.out]; rfl, HB2.out⟩
end Go.Proofs.Ytfhgknmkpegpbaa

/- A literal row of trees to which another row is appended; the row's reader of lengths; items and lists: plain facts. -/
set_option linter.unusedVariables false
set_option linter.unusedSimpArgs false
namespace Go.Proofs.Ytfhgknmkpegpbaa
open Go.RowKit

theorem terms_reads {P : Nat → Prop} {W : World} {A : Option Addr} {c : Nat} {l : List Tm} (h : TmC P W A c l) :
    ∃ es : List EV, l = es.map (fun e => e.1) ∧ Reads W W.heap.size 4 A l.length (es.flatMap encE) ∧ ∀ e ∈ es, e.1.s.size ≤ 9223372036854775807 ∧ TmC P W e.2.1 e.2.2 e.1.l := by
  cases h with
  | mk es he hl hc hn hP hr hs hrec =>
    refine ⟨es, he, ⟨?_, fun h0 => ?_⟩, fun e h => ⟨hs e h, hrec e h⟩⟩
    · rw [he, List.length_map, flatMap_len encE 4 (fun _ => rfl)]
    · have hne : es.flatMap encE ≠ [] := by
        intro e
        have := congrArg List.length e
        rw [flatMap_len encE 4 (fun _ => rfl)] at this
        rw [he, List.length_map] at h0
        simp at this; omega
      obtain ⟨g, off, hA, hcell⟩ := hr hne
      refine ⟨⟨g, off, none⟩, hA, ?_, fun j u hj => ?_⟩
      · cases hx : (es.flatMap encE)[0]? with
        | none => rw [List.getElem?_eq_none_iff] at hx; exact absurd (List.length_eq_zero_iff.1 (by omega)) hne
        | some u => exact World.block_lt_of_cell? W _ (hcell 0 u hx)
      · have := hcell j u hj
        have e2 : (⟨g, off, none⟩ : Addr).add j = ⟨g, off + j, none⟩ := by
          unfold Addr.add
          split
          · rename_i h; subst h; rfl
          · rfl
        rw [e2]; exact this
theorem one_encE (es : List EV) : ∀ u ∈ es.flatMap encE, u.oneCell' = true := fun u hu => by
  obtain ⟨e, -, he⟩ := List.mem_flatMap.1 hu
  simp only [encE, List.mem_cons, List.not_mem_nil, or_false] at he
  rcases he with rfl | rfl | rfl | rfl <;> rfl
theorem lit_owns {W : World} {base g : Nat} {es : List EV} (hb : Blk W g 25 (es.flatMap encE).toArray) (hg : base ≤ g) (hl : es.length ≤ 100) : W.ownsRow base 25 4 (.slice (some ⟨g, 0, none⟩) es.length es.length) es.length (es.flatMap encE) := by
  have h1 := flatMap_len encE 4 (fun _ => rfl) es
  refine ⟨h1, Or.inr ⟨g, es.length, (es.flatMap encE).toArray, rfl, hg, hb, Nat.le_refl _, by simp only [maxLen]; omega, by simpa using h1, ?_⟩⟩
  rw [List.toList_toArray]
  exact List.take_of_length_le (by omega)
/-- What an append of a row of trees to a literal one gives. -/
theorem append_terms {P : Nat → Prop} {W w' : World} {base g : Nat} {v' : Value} {es1 es : List EV} (hb : Blk W g 25 (es1.flatMap encE).toArray)
    (h1 : ∀ e ∈ es1, e.1.s.size ≤ 9223372036854775807 ∧ TmC P W e.2.1 e.2.2 e.1.l) (h2 : ∀ e ∈ es, e.1.s.size ≤ 9223372036854775807 ∧ TmC P W e.2.1 e.2.2 e.1.l) (hP : ∀ x, P x → x ≠ g)
    (hown : w'.ownsRow base 25 4 v' (es1.length + es.length) (es1.flatMap encE ++ es.flatMap encE)) (hg : W.grownBy w' (some g)) (hv : v'.ownBlock = some g ∨ v'.ownBlock = some W.heap.size) :
    ∃ A' c', v' = .slice A' (es1.map (fun e => e.1) ++ es.map (fun e => e.1)).length c' ∧ TmC (fun _ => True) w' A' c' (es1.map (fun e => e.1) ++ es.map (fun e => e.1)) := by
  have hr : RowT base (fun _ => True) w' v' (es1.map (fun e => e.1) ++ es.map (fun e => e.1)) := by
    refine ⟨es1 ++ es, by simp, by simpa using hown, fun e he => ?_⟩
    have key : e.1.s.size ≤ 9223372036854775807 ∧ TmC P W e.2.1 e.2.2 e.1.l := by
      rcases List.mem_append.1 he with h | h
      · exact h1 e h
      · exact h2 e h
    refine ⟨key.1, (key.2.inside.grown hg (fun x hx e => hP x hx.1 (by injection e with e; exact e.symm))).mono (fun x hx => ⟨trivial, ?_, Nat.lt_of_lt_of_le hx.2 hg.size⟩)⟩
    intro e
    rcases hv with h | h
    · rw [h] at e; injection e with e; exact hP x hx.1 e
    · rw [h] at e; injection e with e; omega
  obtain ⟨A', c', hA, hT⟩ := hr.toC
  exact ⟨A', c', hA, hT.mono (fun _ _ => trivial)⟩

/-- The length of an argument that is a row of trees is within reach. -/
theorem sized_terms {H : Type} {enc : TypeId × Value → H} {w : World} {A : Option Addr} {n c j : Nat} {d : DataW H} {p : List MemPlace} {ts : List TypeId} {ds : List (DataW H)} (hs : (DataW.weightsEach Try.prog ts ds).all (· ≤ reachBytes) = true) (ht : ts[j]? = some 22) (hd : ds[j]? = some d)
    (h : DataW.Trod enc Try.prog w 0 (fun _ => true) true 22 (.slice A n c) d p) : n * 56 ≤ 140737488351232 := by
  obtain ⟨fuel, hf⟩ := h
  cases fuel with
  | zero => simp [DataW.trod] at hf
  | succ fuel =>
    have hB : Try.prog.bytesOf 25 = 56 := by kernel_rfl
    rcases DataW.trod_slice Try.underlying22 hf with h0 | ⟨a, len, cap, elems, rest, m, -, hv, hx, -, hl, hm, hlen, -⟩
    · have h1 := h0.1
      simp [Value.cells] at h1
      omega
    · simp [Value.cells] at hv
      obtain ⟨hA, hn, hc⟩ := hv
      subst hn
      have hd' : d = .slice (elems.map (·.1)) (rest.map (·.1)) := congrArg Prod.fst hx
      have h2 := sized_slice hs ht (hd.trans (congrArg some hd')) Try.underlying22
      rw [hB, List.length_map, List.length_map] at h2
      have h3 : reachBytes = 140737488351232 := by decide
      rw [h3, hlen] at h2
      have h4 : n * 56 ≤ (n + rest.length) * 56 := Nat.mul_le_mul_right _ (Nat.le_add_right _ _)
      omega
end Go.Proofs.Ytfhgknmkpegpbaa
