/- Layer 1, part 12 of the base: the walks and plain facts named in NOTES.md as U5. -/
import Derived.Test.YtfhgknmkpegpbaaM11

/- Layer 1 by the pure model, 5: the reference's general: function 102. -/
set_option linter.unusedVariables false
set_option linter.unusedSimpArgs false
namespace Go.Proofs.Ytfhgknmkpegpbaa
open Go Go.Abs Go.Proofs Go.RowKit
theorem ty122 : tyOf Try.prog 122 = some ⟨.struct [(22, 0, 1), (22, 1, 1)], 2, 48, [.slice none 0 0, .slice none 0 0]⟩ := by kernel_rfl
/-- The blocks of the pairs. -/
abbrev prH (p : List (Tm × Tm)) : List AB := [.box 122 [.row 1 p.length, .row 2 p.length], .row 25 4 (p.map fun q => treeC q.1), .row 25 4 (p.map fun q => treeC q.2)]
theorem variable_ok (n : Int) : ACall Try.prog 101 [vI n] [] (tA (.va n)) [] := bridge (enters Try.func101 (by decide) rfl) fun E w vs hvs => by
  obtain ⟨v, rfl, hv⟩ := args1 hvs
  have := hv.val_inv
  subst this
  refine (refVariable_calls n w).mono fun e w' ⟨he, hb⟩ => ⟨_, he, hb, fun E' h1 h2 => ?_⟩
  exact TmC.toRvT (t := .va n) (A := none) (c := 0) (P := fun _ => False) (w := w') (by show (0:Nat) ≤ _; omega) (TmC.nil _ _ (by omega) (fun _ => rfl)) (fun g h => h.elim)
theorem tm_k (k n : Int) (s : ByteArray) (l : List Tm) : (Tm.mk k n s l).k = k := rfl
theorem tm_n (k n : Int) (s : ByteArray) (l : List Tm) : (Tm.mk k n s l).n = n := rfl
theorem tm_s (k n : Int) (s : ByteArray) (l : List Tm) : (Tm.mk k n s l).s = s := rfl
theorem tm_l (k n : Int) (s : ByteArray) (l : List Tm) : (Tm.mk k n s l).l = l := rfl
/-- A tree as the cells of a box. -/
abbrev cA (t : Tm) : List AC := [.f (.v (.int .i64 t.k)), .f (.v (.int .i64 t.n)), .f (.v (.string t.s)), .f (tsF t.l)]
abbrev zA : List AC := [.f (.v (.int .i64 0)), .f (.v (.int .i64 0)), .f (.v (.string ⟨#[]⟩)), .f (.v (.slice none 0 0))]
abbrev genH (t u : Tm) (p : List (Tm × Tm)) (r : List AC) : HL := [(0, .box 122 [.row 1 p.length, .row 2 p.length]), (1, .row 25 4 (p.map fun q => treeC q.1)), (2, .row 25 4 (p.map fun q => treeC q.2)), (3, .box 25 (cA t)), (4, .box 25 (cA u)), (5, .box 25 r)]
theorem pidx_at {p : List (Tm × Tm)} {x : Tm × Tm} {j : Nat} (h : p[j]? = some x) (hn : x ∉ p.take j) : pidx p x = j := by
  classical
  unfold pidx
  have hlt := (List.getElem?_eq_some_iff.1 h).1
  conv => lhs; rw [← List.take_append_drop j p]
  rw [List.findIdx_append, if_neg, List.drop_eq_getElem_cons hlt]
  · have he : p[j] = x := (List.getElem?_eq_some_iff.1 h).2
    rw [List.findIdx_cons]
    simp [he]; omega
  · intro hc
    rw [List.findIdx_lt_length] at hc
    obtain ⟨y, hy, hyx⟩ := hc
    simp at hyx
    exact hn (hyx ▸ hy)
theorem set_snoc {α : Type} {l : List α} {n : Nat} (h : l.length = n) (z x : α) : (l ++ [z]).set n x = l ++ [x] := by subst h; simp
theorem get_snoc {α : Type} {l : List α} {n : Nat} (h : l.length = n) (z : α) : (l ++ [z])[n]? = some z := by subst h; simp
theorem gen_len (N : Nat) : (∀ (t u : Tm) (p : List (Tm × Tm)), t.size ≤ N → (t.gen u p).2.length ≤ p.length + t.size) ∧ (∀ (xs ys : List Tm) (p : List (Tm × Tm)), Tm.sizes xs ≤ N → (Tm.gens xs ys p).2.length ≤ p.length + Tm.sizes xs) := by
  induction N with
  | zero =>
    refine ⟨fun t u p h => by have := t.size_pos; omega, fun xs ys p h => ?_⟩
    cases xs with
    | nil => rw [Tm.gens_nil]; exact Nat.le_add_right _ _
    | cons a l => rw [Tm.sizes] at h; have := a.size_pos; omega
  | succ n ih =>
    have h1 : ∀ (t u : Tm) (p : List (Tm × Tm)), t.size ≤ n + 1 → (t.gen u p).2.length ≤ p.length + t.size := fun t u p h => by
      have hsz := t.size_eq
      rw [Tm.gen_eq]
      split
      · have := ih.2 t.l u.l p (by omega); simp only; omega
      · simp only
        unfold padd
        split
        · omega
        · simp; omega
    refine ⟨h1, fun xs => ?_⟩
    induction xs with
    | nil => intro ys p h; rw [Tm.gens_nil]; exact Nat.le_add_right _ _
    | cons a l ihl =>
      intro ys p h
      rw [Tm.sizes] at h
      cases ys with
      | nil => rw [Tm.gens]; simp
      | cons b ys =>
        rw [Tm.gens_cons, Tm.sizes]
        have h2 := h1 a b p (by omega)
        have h3 := ihl ys (a.gen b p).2 (by omega)
        simp only; omega
set_option maxRecDepth 100000 in
set_option maxHeartbeats 4000000 in
theorem refGeneral_ok (t : Tm) : ∀ (u : Tm) (p : List (Tm × Tm)), p.length + t.size ≤ 1000000 → ACall Try.prog 102 [tA t, tA u, .one (.ptr 0 0)] (prH p) (tA (t.gen u p).1) (prH (t.gen u p).2) := by
  induction t using Tm.ind with
  | h t ih =>
  intro u p hsz
  refine acall_of Try.func102 (by decide) rfl Try.results102 (by rw [Try.ntmps102]; simp) (by simp) ?_
  rw [Try.ntmps102]
  simp only [enumL, List.length_nil, List.length_cons, Nat.reduceAdd]
  repeat (first | refine W.seq ?_ | refine W.block ?_)
  refine W.regionK (by decide) fun N hN => ?_
  repeat (first
    | refine RunS.any (by rfl) (by simp only [pl, o1, o2, o3, plBuiltin, evT, cv, okV, evParts, evCaps, look_cons, look_nil, plLoad, plStore, plAlloc, plBox, plBuild, plSlice, plFieldAddr, plField, plIndexAddr, plIndex, plBin, abin, plUn, plConv, plNil, plExtract, plLen, plMax, plAppend, elemsOf, readAt, ldv, cellsV, toF, allF, splice, afill, zeros, chunk, TK.agg, Nat.reduceAdd, Nat.reduceMul, Nat.reduceSub, Nat.reduceBEq, Nat.reduceEqDiff, Nat.reduceLeDiff, Nat.reduceLT, Nat.reduceMod, Bool.false_eq_true, reduceIte, true_and, and_true, and_self, List.length_cons, List.length_nil, List.length_map, List.length_append, List.map_cons, List.map_nil, List.take_succ_cons, List.take_zero, List.drop_succ_cons, List.drop_zero, List.nil_append, List.cons_append, List.append_nil, List.getElem?_cons_zero, List.getElem?_cons_succ, List.getElem?_map, List.set_cons_zero, List.set_cons_succ, Option.map_some, beq_self_eq_true, List.all_cons, List.all_nil, Int.reduceLE, Int.reduceLT, Int.toNat_zero, Int.reduceToNat, Int.toNat_natCast, Int.natCast_nonneg, Nat.zero_add, Nat.le_refl, Nat.lt_irrefl, gt_iff_lt, decide_true, decide_false, Bool.not_true, Bool.not_false, List.range_succ, List.range_zero, List.getD_cons_zero, List.getD_cons_succ, maxLen, Nat.reducePow, Nat.zero_le, Nat.succ_ne_self, Nat.zero_mod, ty3, ty4, ty9, ty22, ty25, ty28, ty39, ty122]; try rfl) (by rfl) (by simp only [put, puts, setT, List.filter_cons, List.filter_nil, Nat.reduceBEq, Bool.false_eq_true, reduceIte, Bool.not_true, Bool.not_false, List.zip_cons_cons, List.zip_nil_left, List.zip_nil_right, List.map_cons, List.map_nil, AB.ren, AC.rens, AC.ren, AV.ren, AV.rens, nm, List.getD_cons_zero, List.getD_cons_succ]; exact ⟨rfl, rfl⟩) ?_
    | refine RunS.skip (by rfl) (by simp only [setT, List.filter_cons, List.filter_nil, Nat.reduceBEq, Bool.false_eq_true, reduceIte, Bool.not_true, Bool.not_false]; try rfl) ?_)
  refine RunS.nil (hN _ _ _ ?_)
  clear hN N
  simp only [List.length_cons, List.length_nil, Nat.reduceAdd, Nat.reduceMul, kSeq, kBlock, kFin, reduceIte, Nat.reduceEqDiff]
  refine W.mid (fun T H nx => Wk 130 3 T H nx [(2, .one (.ptr 0 0)), (3, .one (.ptr 3 0)), (4, .one (.ptr 4 0)), (6, .one (.ptr 5 0))] (genH t u p zA) 15 ∧ ¬ (t.k = u.k ∧ t.k ≠ 1 ∧ t.n = u.n ∧ t.s.toList = u.s.toList ∧ t.l.length = u.l.length)) ?_ ?_
  · by_cases c1 : t.k ≠ 1
    case neg =>
      have d1 : decide (t.k ≠ 1) = false := by simpa using c1
      repeat (first | refine W.seq ?_ | refine W.block ?_)
      refine W.regionK (by decide) fun N hN => ?_
      repeat (first
        | refine RunS.any (by rfl) (by simp only [pl, o1, o2, o3, plBuiltin, evT, cv, okV, evParts, evCaps, look_cons, look_nil, plLoad, plStore, plAlloc, plBox, plBuild, plSlice, plFieldAddr, plField, plIndexAddr, plIndex, plBin, abin, plUn, plConv, plNil, plExtract, plLen, plMax, plAppend, elemsOf, readAt, ldv, cellsV, toF, allF, splice, afill, zeros, chunk, TK.agg, Nat.reduceAdd, Nat.reduceMul, Nat.reduceSub, Nat.reduceBEq, Nat.reduceEqDiff, Nat.reduceLeDiff, Nat.reduceLT, Nat.reduceMod, Bool.false_eq_true, reduceIte, true_and, and_true, and_self, List.length_cons, List.length_nil, List.length_map, List.length_append, List.map_cons, List.map_nil, List.take_succ_cons, List.take_zero, List.drop_succ_cons, List.drop_zero, List.nil_append, List.cons_append, List.append_nil, List.getElem?_cons_zero, List.getElem?_cons_succ, List.getElem?_map, List.set_cons_zero, List.set_cons_succ, Option.map_some, beq_self_eq_true, List.all_cons, List.all_nil, Int.reduceLE, Int.reduceLT, Int.toNat_zero, Int.reduceToNat, Int.toNat_natCast, Int.natCast_nonneg, Nat.zero_add, Nat.le_refl, Nat.lt_irrefl, gt_iff_lt, decide_true, decide_false, Bool.not_true, Bool.not_false, List.range_succ, List.range_zero, List.getD_cons_zero, List.getD_cons_succ, maxLen, Nat.reducePow, Nat.zero_le, Nat.succ_ne_self, Nat.zero_mod, ty3, ty4, ty9, ty22, ty25, ty28, ty39, ty122, d1]; try rfl) (by rfl) (by simp only [put, puts, setT, List.filter_cons, List.filter_nil, Nat.reduceBEq, Bool.false_eq_true, reduceIte, Bool.not_true, Bool.not_false, List.zip_cons_cons, List.zip_nil_left, List.zip_nil_right, List.map_cons, List.map_nil, AB.ren, AC.rens, AC.ren, AV.ren, AV.rens, nm, List.getD_cons_zero, List.getD_cons_succ]; exact ⟨rfl, rfl⟩) ?_
        | refine RunS.skip (by rfl) (by simp only [setT, List.filter_cons, List.filter_nil, Nat.reduceBEq, Bool.false_eq_true, reduceIte, Bool.not_true, Bool.not_false]; try rfl) ?_)
      refine RunS.nil (hN _ _ _ ?_)
      clear hN N
      simp only [List.length_cons, List.length_nil, Nat.reduceAdd, Nat.reduceMul, kSeq, kBlock, kFin, reduceIte, Nat.reduceEqDiff]
      refine W.condF (by rfl) ?_
      first | refine W.exit ?_ | refine W.ret ?_ | refine W.skip ?_
      try simp only [kSeq, kBlock, kFin, reduceIte, Nat.reduceEqDiff]
      refine ⟨?_, fun h => c1 h.2.1⟩
      refine Wk.keep [] (by rfl) ?_ ?_ <;> simp only [keepT, keepH, look_cons, look_nil, AV.frz, AV.frzs, AC.frz, AC.frzs, AB.frz, lives, List.any_cons, List.any_nil, Nat.reduceBEq, Nat.reduceLT, Bool.false_eq_true, reduceIte, and_true, true_and, and_self, Option.some.injEq, decide_false, decide_true, Bool.or_false, Bool.or_true, Bool.false_or, Bool.true_or, beq_self_eq_true, List.contains_nil, List.contains_cons, List.length_map, List.length_cons, List.length_nil, List.length_append]
    have d1 : decide (t.k ≠ 1) = true := by simpa using c1
    by_cases c2 : t.k = u.k
    case neg =>
      have d2 : decide (t.k = u.k) = false := by simpa using c2
      repeat (first | refine W.seq ?_ | refine W.block ?_)
      refine W.regionK (by decide) fun N hN => ?_
      repeat (first
        | refine RunS.any (by rfl) (by simp only [pl, o1, o2, o3, plBuiltin, evT, cv, okV, evParts, evCaps, look_cons, look_nil, plLoad, plStore, plAlloc, plBox, plBuild, plSlice, plFieldAddr, plField, plIndexAddr, plIndex, plBin, abin, plUn, plConv, plNil, plExtract, plLen, plMax, plAppend, elemsOf, readAt, ldv, cellsV, toF, allF, splice, afill, zeros, chunk, TK.agg, Nat.reduceAdd, Nat.reduceMul, Nat.reduceSub, Nat.reduceBEq, Nat.reduceEqDiff, Nat.reduceLeDiff, Nat.reduceLT, Nat.reduceMod, Bool.false_eq_true, reduceIte, true_and, and_true, and_self, List.length_cons, List.length_nil, List.length_map, List.length_append, List.map_cons, List.map_nil, List.take_succ_cons, List.take_zero, List.drop_succ_cons, List.drop_zero, List.nil_append, List.cons_append, List.append_nil, List.getElem?_cons_zero, List.getElem?_cons_succ, List.getElem?_map, List.set_cons_zero, List.set_cons_succ, Option.map_some, beq_self_eq_true, List.all_cons, List.all_nil, Int.reduceLE, Int.reduceLT, Int.toNat_zero, Int.reduceToNat, Int.toNat_natCast, Int.natCast_nonneg, Nat.zero_add, Nat.le_refl, Nat.lt_irrefl, gt_iff_lt, decide_true, decide_false, Bool.not_true, Bool.not_false, List.range_succ, List.range_zero, List.getD_cons_zero, List.getD_cons_succ, maxLen, Nat.reducePow, Nat.zero_le, Nat.succ_ne_self, Nat.zero_mod, ty3, ty4, ty9, ty22, ty25, ty28, ty39, ty122, d1, d2]; try rfl) (by rfl) (by simp only [put, puts, setT, List.filter_cons, List.filter_nil, Nat.reduceBEq, Bool.false_eq_true, reduceIte, Bool.not_true, Bool.not_false, List.zip_cons_cons, List.zip_nil_left, List.zip_nil_right, List.map_cons, List.map_nil, AB.ren, AC.rens, AC.ren, AV.ren, AV.rens, nm, List.getD_cons_zero, List.getD_cons_succ]; exact ⟨rfl, rfl⟩) ?_
        | refine RunS.skip (by rfl) (by simp only [setT, List.filter_cons, List.filter_nil, Nat.reduceBEq, Bool.false_eq_true, reduceIte, Bool.not_true, Bool.not_false]; try rfl) ?_)
      refine RunS.nil (hN _ _ _ ?_)
      clear hN N
      simp only [List.length_cons, List.length_nil, Nat.reduceAdd, Nat.reduceMul, kSeq, kBlock, kFin, reduceIte, Nat.reduceEqDiff]
      refine W.condF (by rfl) ?_
      first | refine W.exit ?_ | refine W.ret ?_ | refine W.skip ?_
      try simp only [kSeq, kBlock, kFin, reduceIte, Nat.reduceEqDiff]
      refine ⟨?_, fun h => c2 h.1⟩
      refine Wk.keep [] (by rfl) ?_ ?_ <;> simp only [keepT, keepH, look_cons, look_nil, AV.frz, AV.frzs, AC.frz, AC.frzs, AB.frz, lives, List.any_cons, List.any_nil, Nat.reduceBEq, Nat.reduceLT, Bool.false_eq_true, reduceIte, and_true, true_and, and_self, Option.some.injEq, decide_false, decide_true, Bool.or_false, Bool.or_true, Bool.false_or, Bool.true_or, beq_self_eq_true, List.contains_nil, List.contains_cons, List.length_map, List.length_cons, List.length_nil, List.length_append]
    have d2 : decide (t.k = u.k) = true := by simpa using c2
    by_cases c3 : t.n = u.n
    case neg =>
      have d3 : decide (t.n = u.n) = false := by simpa using c3
      repeat (first | refine W.seq ?_ | refine W.block ?_)
      refine W.regionK (by decide) fun N hN => ?_
      repeat (first
        | refine RunS.any (by rfl) (by simp only [pl, o1, o2, o3, plBuiltin, evT, cv, okV, evParts, evCaps, look_cons, look_nil, plLoad, plStore, plAlloc, plBox, plBuild, plSlice, plFieldAddr, plField, plIndexAddr, plIndex, plBin, abin, plUn, plConv, plNil, plExtract, plLen, plMax, plAppend, elemsOf, readAt, ldv, cellsV, toF, allF, splice, afill, zeros, chunk, TK.agg, Nat.reduceAdd, Nat.reduceMul, Nat.reduceSub, Nat.reduceBEq, Nat.reduceEqDiff, Nat.reduceLeDiff, Nat.reduceLT, Nat.reduceMod, Bool.false_eq_true, reduceIte, true_and, and_true, and_self, List.length_cons, List.length_nil, List.length_map, List.length_append, List.map_cons, List.map_nil, List.take_succ_cons, List.take_zero, List.drop_succ_cons, List.drop_zero, List.nil_append, List.cons_append, List.append_nil, List.getElem?_cons_zero, List.getElem?_cons_succ, List.getElem?_map, List.set_cons_zero, List.set_cons_succ, Option.map_some, beq_self_eq_true, List.all_cons, List.all_nil, Int.reduceLE, Int.reduceLT, Int.toNat_zero, Int.reduceToNat, Int.toNat_natCast, Int.natCast_nonneg, Nat.zero_add, Nat.le_refl, Nat.lt_irrefl, gt_iff_lt, decide_true, decide_false, Bool.not_true, Bool.not_false, List.range_succ, List.range_zero, List.getD_cons_zero, List.getD_cons_succ, maxLen, Nat.reducePow, Nat.zero_le, Nat.succ_ne_self, Nat.zero_mod, ty3, ty4, ty9, ty22, ty25, ty28, ty39, ty122, d1, d2, d3]; try rfl) (by rfl) (by simp only [put, puts, setT, List.filter_cons, List.filter_nil, Nat.reduceBEq, Bool.false_eq_true, reduceIte, Bool.not_true, Bool.not_false, List.zip_cons_cons, List.zip_nil_left, List.zip_nil_right, List.map_cons, List.map_nil, AB.ren, AC.rens, AC.ren, AV.ren, AV.rens, nm, List.getD_cons_zero, List.getD_cons_succ]; exact ⟨rfl, rfl⟩) ?_
        | refine RunS.skip (by rfl) (by simp only [setT, List.filter_cons, List.filter_nil, Nat.reduceBEq, Bool.false_eq_true, reduceIte, Bool.not_true, Bool.not_false]; try rfl) ?_)
      refine RunS.nil (hN _ _ _ ?_)
      clear hN N
      simp only [List.length_cons, List.length_nil, Nat.reduceAdd, Nat.reduceMul, kSeq, kBlock, kFin, reduceIte, Nat.reduceEqDiff]
      refine W.condF (by rfl) ?_
      first | refine W.exit ?_ | refine W.ret ?_ | refine W.skip ?_
      try simp only [kSeq, kBlock, kFin, reduceIte, Nat.reduceEqDiff]
      refine ⟨?_, fun h => c3 h.2.2.1⟩
      refine Wk.keep [] (by rfl) ?_ ?_ <;> simp only [keepT, keepH, look_cons, look_nil, AV.frz, AV.frzs, AC.frz, AC.frzs, AB.frz, lives, List.any_cons, List.any_nil, Nat.reduceBEq, Nat.reduceLT, Bool.false_eq_true, reduceIte, and_true, true_and, and_self, Option.some.injEq, decide_false, decide_true, Bool.or_false, Bool.or_true, Bool.false_or, Bool.true_or, beq_self_eq_true, List.contains_nil, List.contains_cons, List.length_map, List.length_cons, List.length_nil, List.length_append]
    have d3 : decide (t.n = u.n) = true := by simpa using c3
    by_cases c4 : t.s.toList = u.s.toList
    case neg =>
      have d4 : decide (t.s.toList = u.s.toList) = false := by simpa using c4
      repeat (first | refine W.seq ?_ | refine W.block ?_)
      refine W.regionK (by decide) fun N hN => ?_
      repeat (first
        | refine RunS.any (by rfl) (by simp only [pl, o1, o2, o3, plBuiltin, evT, cv, okV, evParts, evCaps, look_cons, look_nil, plLoad, plStore, plAlloc, plBox, plBuild, plSlice, plFieldAddr, plField, plIndexAddr, plIndex, plBin, abin, plUn, plConv, plNil, plExtract, plLen, plMax, plAppend, elemsOf, readAt, ldv, cellsV, toF, allF, splice, afill, zeros, chunk, TK.agg, Nat.reduceAdd, Nat.reduceMul, Nat.reduceSub, Nat.reduceBEq, Nat.reduceEqDiff, Nat.reduceLeDiff, Nat.reduceLT, Nat.reduceMod, Bool.false_eq_true, reduceIte, true_and, and_true, and_self, List.length_cons, List.length_nil, List.length_map, List.length_append, List.map_cons, List.map_nil, List.take_succ_cons, List.take_zero, List.drop_succ_cons, List.drop_zero, List.nil_append, List.cons_append, List.append_nil, List.getElem?_cons_zero, List.getElem?_cons_succ, List.getElem?_map, List.set_cons_zero, List.set_cons_succ, Option.map_some, beq_self_eq_true, List.all_cons, List.all_nil, Int.reduceLE, Int.reduceLT, Int.toNat_zero, Int.reduceToNat, Int.toNat_natCast, Int.natCast_nonneg, Nat.zero_add, Nat.le_refl, Nat.lt_irrefl, gt_iff_lt, decide_true, decide_false, Bool.not_true, Bool.not_false, List.range_succ, List.range_zero, List.getD_cons_zero, List.getD_cons_succ, maxLen, Nat.reducePow, Nat.zero_le, Nat.succ_ne_self, Nat.zero_mod, ty3, ty4, ty9, ty22, ty25, ty28, ty39, ty122, d1, d2, d3, d4]; try rfl) (by rfl) (by simp only [put, puts, setT, List.filter_cons, List.filter_nil, Nat.reduceBEq, Bool.false_eq_true, reduceIte, Bool.not_true, Bool.not_false, List.zip_cons_cons, List.zip_nil_left, List.zip_nil_right, List.map_cons, List.map_nil, AB.ren, AC.rens, AC.ren, AV.ren, AV.rens, nm, List.getD_cons_zero, List.getD_cons_succ]; exact ⟨rfl, rfl⟩) ?_
        | refine RunS.skip (by rfl) (by simp only [setT, List.filter_cons, List.filter_nil, Nat.reduceBEq, Bool.false_eq_true, reduceIte, Bool.not_true, Bool.not_false]; try rfl) ?_)
      refine RunS.nil (hN _ _ _ ?_)
      clear hN N
      simp only [List.length_cons, List.length_nil, Nat.reduceAdd, Nat.reduceMul, kSeq, kBlock, kFin, reduceIte, Nat.reduceEqDiff]
      refine W.condF (by rfl) ?_
      first | refine W.exit ?_ | refine W.ret ?_ | refine W.skip ?_
      try simp only [kSeq, kBlock, kFin, reduceIte, Nat.reduceEqDiff]
      refine ⟨?_, fun h => c4 h.2.2.2.1⟩
      refine Wk.keep [] (by rfl) ?_ ?_ <;> simp only [keepT, keepH, look_cons, look_nil, AV.frz, AV.frzs, AC.frz, AC.frzs, AB.frz, lives, List.any_cons, List.any_nil, Nat.reduceBEq, Nat.reduceLT, Bool.false_eq_true, reduceIte, and_true, true_and, and_self, Option.some.injEq, decide_false, decide_true, Bool.or_false, Bool.or_true, Bool.false_or, Bool.true_or, beq_self_eq_true, List.contains_nil, List.contains_cons, List.length_map, List.length_cons, List.length_nil, List.length_append]
    have d4 : decide (t.s.toList = u.s.toList) = true := by simpa using c4
    by_cases c5 : (t.l.length : Int) = (u.l.length : Int)
    case neg =>
      have d5 : decide ((t.l.length : Int) = (u.l.length : Int)) = false := by simpa using c5
      repeat (first | refine W.seq ?_ | refine W.block ?_)
      refine W.regionK (by decide) fun N hN => ?_
      repeat (first
        | refine RunS.any (by rfl) (by simp only [pl, o1, o2, o3, plBuiltin, evT, cv, okV, evParts, evCaps, look_cons, look_nil, plLoad, plStore, plAlloc, plBox, plBuild, plSlice, plFieldAddr, plField, plIndexAddr, plIndex, plBin, abin, plUn, plConv, plNil, plExtract, plLen, plMax, plAppend, elemsOf, readAt, ldv, cellsV, toF, allF, splice, afill, zeros, chunk, TK.agg, Nat.reduceAdd, Nat.reduceMul, Nat.reduceSub, Nat.reduceBEq, Nat.reduceEqDiff, Nat.reduceLeDiff, Nat.reduceLT, Nat.reduceMod, Bool.false_eq_true, reduceIte, true_and, and_true, and_self, List.length_cons, List.length_nil, List.length_map, List.length_append, List.map_cons, List.map_nil, List.take_succ_cons, List.take_zero, List.drop_succ_cons, List.drop_zero, List.nil_append, List.cons_append, List.append_nil, List.getElem?_cons_zero, List.getElem?_cons_succ, List.getElem?_map, List.set_cons_zero, List.set_cons_succ, Option.map_some, beq_self_eq_true, List.all_cons, List.all_nil, Int.reduceLE, Int.reduceLT, Int.toNat_zero, Int.reduceToNat, Int.toNat_natCast, Int.natCast_nonneg, Nat.zero_add, Nat.le_refl, Nat.lt_irrefl, gt_iff_lt, decide_true, decide_false, Bool.not_true, Bool.not_false, List.range_succ, List.range_zero, List.getD_cons_zero, List.getD_cons_succ, maxLen, Nat.reducePow, Nat.zero_le, Nat.succ_ne_self, Nat.zero_mod, ty3, ty4, ty9, ty22, ty25, ty28, ty39, ty122, d1, d2, d3, d4, d5]; try rfl) (by rfl) (by simp only [put, puts, setT, List.filter_cons, List.filter_nil, Nat.reduceBEq, Bool.false_eq_true, reduceIte, Bool.not_true, Bool.not_false, List.zip_cons_cons, List.zip_nil_left, List.zip_nil_right, List.map_cons, List.map_nil, AB.ren, AC.rens, AC.ren, AV.ren, AV.rens, nm, List.getD_cons_zero, List.getD_cons_succ]; exact ⟨rfl, rfl⟩) ?_
        | refine RunS.skip (by rfl) (by simp only [setT, List.filter_cons, List.filter_nil, Nat.reduceBEq, Bool.false_eq_true, reduceIte, Bool.not_true, Bool.not_false]; try rfl) ?_)
      refine RunS.nil (hN _ _ _ ?_)
      clear hN N
      simp only [List.length_cons, List.length_nil, Nat.reduceAdd, Nat.reduceMul, kSeq, kBlock, kFin, reduceIte, Nat.reduceEqDiff]
      refine W.condF (by rfl) ?_
      first | refine W.exit ?_ | refine W.ret ?_ | refine W.skip ?_
      try simp only [kSeq, kBlock, kFin, reduceIte, Nat.reduceEqDiff]
      refine ⟨?_, fun h => c5 (by exact_mod_cast h.2.2.2.2)⟩
      refine Wk.keep [] (by rfl) ?_ ?_ <;> simp only [keepT, keepH, look_cons, look_nil, AV.frz, AV.frzs, AC.frz, AC.frzs, AB.frz, lives, List.any_cons, List.any_nil, Nat.reduceBEq, Nat.reduceLT, Bool.false_eq_true, reduceIte, and_true, true_and, and_self, Option.some.injEq, decide_false, decide_true, Bool.or_false, Bool.or_true, Bool.false_or, Bool.true_or, beq_self_eq_true, List.contains_nil, List.contains_cons, List.length_map, List.length_cons, List.length_nil, List.length_append]
    have d5 : decide ((t.l.length : Int) = (u.l.length : Int)) = true := by simpa using c5
    repeat (first | refine W.seq ?_ | refine W.block ?_)
    refine W.regionK (by decide) fun N hN => ?_
    repeat (first
      | refine RunS.any (by rfl) (by simp only [pl, o1, o2, o3, plBuiltin, evT, cv, okV, evParts, evCaps, look_cons, look_nil, plLoad, plStore, plAlloc, plBox, plBuild, plSlice, plFieldAddr, plField, plIndexAddr, plIndex, plBin, abin, plUn, plConv, plNil, plExtract, plLen, plMax, plAppend, elemsOf, readAt, ldv, cellsV, toF, allF, splice, afill, zeros, chunk, TK.agg, Nat.reduceAdd, Nat.reduceMul, Nat.reduceSub, Nat.reduceBEq, Nat.reduceEqDiff, Nat.reduceLeDiff, Nat.reduceLT, Nat.reduceMod, Bool.false_eq_true, reduceIte, true_and, and_true, and_self, List.length_cons, List.length_nil, List.length_map, List.length_append, List.map_cons, List.map_nil, List.take_succ_cons, List.take_zero, List.drop_succ_cons, List.drop_zero, List.nil_append, List.cons_append, List.append_nil, List.getElem?_cons_zero, List.getElem?_cons_succ, List.getElem?_map, List.set_cons_zero, List.set_cons_succ, Option.map_some, beq_self_eq_true, List.all_cons, List.all_nil, Int.reduceLE, Int.reduceLT, Int.toNat_zero, Int.reduceToNat, Int.toNat_natCast, Int.natCast_nonneg, Nat.zero_add, Nat.le_refl, Nat.lt_irrefl, gt_iff_lt, decide_true, decide_false, Bool.not_true, Bool.not_false, List.range_succ, List.range_zero, List.getD_cons_zero, List.getD_cons_succ, maxLen, Nat.reducePow, Nat.zero_le, Nat.succ_ne_self, Nat.zero_mod, ty3, ty4, ty9, ty22, ty25, ty28, ty39, ty122, d1, d2, d3, d4, d5]; try rfl) (by rfl) (by simp only [put, puts, setT, List.filter_cons, List.filter_nil, Nat.reduceBEq, Bool.false_eq_true, reduceIte, Bool.not_true, Bool.not_false, List.zip_cons_cons, List.zip_nil_left, List.zip_nil_right, List.map_cons, List.map_nil, AB.ren, AC.rens, AC.ren, AV.ren, AV.rens, nm, List.getD_cons_zero, List.getD_cons_succ]; exact ⟨rfl, rfl⟩) ?_
      | refine RunS.skip (by rfl) (by simp only [setT, List.filter_cons, List.filter_nil, Nat.reduceBEq, Bool.false_eq_true, reduceIte, Bool.not_true, Bool.not_false]; try rfl) ?_)
    refine RunS.nil (hN _ _ _ ?_)
    clear hN N
    simp only [List.length_cons, List.length_nil, Nat.reduceAdd, Nat.reduceMul, kSeq, kBlock, kFin, reduceIte, Nat.reduceEqDiff]
    refine W.condT (by rfl) ?_
    repeat (first | refine W.seq ?_ | refine W.block ?_)
    refine W.regionK (by decide) fun N hN => ?_
    repeat (first
      | refine RunS.any (by rfl) (by simp only [pl, o1, o2, o3, plBuiltin, evT, cv, okV, evParts, evCaps, look_cons, look_nil, plLoad, plStore, plAlloc, plBox, plBuild, plSlice, plFieldAddr, plField, plIndexAddr, plIndex, plBin, abin, plUn, plConv, plNil, plExtract, plLen, plMax, plAppend, elemsOf, readAt, ldv, cellsV, toF, allF, splice, afill, zeros, chunk, TK.agg, Nat.reduceAdd, Nat.reduceMul, Nat.reduceSub, Nat.reduceBEq, Nat.reduceEqDiff, Nat.reduceLeDiff, Nat.reduceLT, Nat.reduceMod, Bool.false_eq_true, reduceIte, true_and, and_true, and_self, List.length_cons, List.length_nil, List.length_map, List.length_append, List.map_cons, List.map_nil, List.take_succ_cons, List.take_zero, List.drop_succ_cons, List.drop_zero, List.nil_append, List.cons_append, List.append_nil, List.getElem?_cons_zero, List.getElem?_cons_succ, List.getElem?_map, List.set_cons_zero, List.set_cons_succ, Option.map_some, beq_self_eq_true, List.all_cons, List.all_nil, Int.reduceLE, Int.reduceLT, Int.toNat_zero, Int.reduceToNat, Int.toNat_natCast, Int.natCast_nonneg, Nat.zero_add, Nat.le_refl, Nat.lt_irrefl, gt_iff_lt, decide_true, decide_false, Bool.not_true, Bool.not_false, List.range_succ, List.range_zero, List.getD_cons_zero, List.getD_cons_succ, maxLen, Nat.reducePow, Nat.zero_le, Nat.succ_ne_self, Nat.zero_mod, ty3, ty4, ty9, ty22, ty25, ty28, ty39, ty122]; try rfl) (by rfl) (by simp only [put, puts, setT, List.filter_cons, List.filter_nil, Nat.reduceBEq, Bool.false_eq_true, reduceIte, Bool.not_true, Bool.not_false, List.zip_cons_cons, List.zip_nil_left, List.zip_nil_right, List.map_cons, List.map_nil, AB.ren, AC.rens, AC.ren, AV.ren, AV.rens, nm, List.getD_cons_zero, List.getD_cons_succ]; exact ⟨rfl, rfl⟩) ?_
      | refine RunS.skip (by rfl) (by simp only [setT, List.filter_cons, List.filter_nil, Nat.reduceBEq, Bool.false_eq_true, reduceIte, Bool.not_true, Bool.not_false]; try rfl) ?_)
    refine RunS.nil (hN _ _ _ ?_)
    clear hN N
    simp only [List.length_cons, List.length_nil, Nat.reduceAdd, Nat.reduceMul, kSeq, kBlock, kFin, reduceIte, Nat.reduceEqDiff]
    repeat (first | refine W.seq ?_ | refine W.block ?_)
    refine W.regionK (by decide) fun N hN => ?_
    repeat (first
      | refine RunS.any (by rfl) (by simp only [pl, o1, o2, o3, plBuiltin, evT, cv, okV, evParts, evCaps, look_cons, look_nil, plLoad, plStore, plAlloc, plBox, plBuild, plSlice, plFieldAddr, plField, plIndexAddr, plIndex, plBin, abin, plUn, plConv, plNil, plExtract, plLen, plMax, plAppend, elemsOf, readAt, ldv, cellsV, toF, allF, splice, afill, zeros, chunk, TK.agg, Nat.reduceAdd, Nat.reduceMul, Nat.reduceSub, Nat.reduceBEq, Nat.reduceEqDiff, Nat.reduceLeDiff, Nat.reduceLT, Nat.reduceMod, Bool.false_eq_true, reduceIte, true_and, and_true, and_self, List.length_cons, List.length_nil, List.length_map, List.length_append, List.map_cons, List.map_nil, List.take_succ_cons, List.take_zero, List.drop_succ_cons, List.drop_zero, List.nil_append, List.cons_append, List.append_nil, List.getElem?_cons_zero, List.getElem?_cons_succ, List.getElem?_map, List.set_cons_zero, List.set_cons_succ, Option.map_some, beq_self_eq_true, List.all_cons, List.all_nil, Int.reduceLE, Int.reduceLT, Int.toNat_zero, Int.reduceToNat, Int.toNat_natCast, Int.natCast_nonneg, Nat.zero_add, Nat.le_refl, Nat.lt_irrefl, gt_iff_lt, decide_true, decide_false, Bool.not_true, Bool.not_false, List.range_succ, List.range_zero, List.getD_cons_zero, List.getD_cons_succ, maxLen, Nat.reducePow, Nat.zero_le, Nat.succ_ne_self, Nat.zero_mod, ty3, ty4, ty9, ty22, ty25, ty28, ty39, ty122]; try rfl) (by rfl) (by simp only [put, puts, setT, List.filter_cons, List.filter_nil, Nat.reduceBEq, Bool.false_eq_true, reduceIte, Bool.not_true, Bool.not_false, List.zip_cons_cons, List.zip_nil_left, List.zip_nil_right, List.map_cons, List.map_nil, AB.ren, AC.rens, AC.ren, AV.ren, AV.rens, nm, List.getD_cons_zero, List.getD_cons_succ]; exact ⟨rfl, rfl⟩) ?_
      | refine RunS.skip (by rfl) (by simp only [setT, List.filter_cons, List.filter_nil, Nat.reduceBEq, Bool.false_eq_true, reduceIte, Bool.not_true, Bool.not_false]; try rfl) ?_)
    refine RunS.nil (hN _ _ _ ?_)
    clear hN N
    simp only [List.length_cons, List.length_nil, Nat.reduceAdd, Nat.reduceMul, kSeq, kBlock, kFin, reduceIte, Nat.reduceEqDiff]
    repeat (first | refine W.seq ?_ | refine W.block ?_)
    refine W.regionK (by decide) fun N hN => ?_
    repeat (first
      | refine RunS.any (by rfl) (by simp only [pl, o1, o2, o3, plBuiltin, evT, cv, okV, evParts, evCaps, look_cons, look_nil, plLoad, plStore, plAlloc, plBox, plBuild, plSlice, plFieldAddr, plField, plIndexAddr, plIndex, plBin, abin, plUn, plConv, plNil, plExtract, plLen, plMax, plAppend, elemsOf, readAt, ldv, cellsV, toF, allF, splice, afill, zeros, chunk, TK.agg, Nat.reduceAdd, Nat.reduceMul, Nat.reduceSub, Nat.reduceBEq, Nat.reduceEqDiff, Nat.reduceLeDiff, Nat.reduceLT, Nat.reduceMod, Bool.false_eq_true, reduceIte, true_and, and_true, and_self, List.length_cons, List.length_nil, List.length_map, List.length_append, List.map_cons, List.map_nil, List.take_succ_cons, List.take_zero, List.drop_succ_cons, List.drop_zero, List.nil_append, List.cons_append, List.append_nil, List.getElem?_cons_zero, List.getElem?_cons_succ, List.getElem?_map, List.set_cons_zero, List.set_cons_succ, Option.map_some, beq_self_eq_true, List.all_cons, List.all_nil, Int.reduceLE, Int.reduceLT, Int.toNat_zero, Int.reduceToNat, Int.toNat_natCast, Int.natCast_nonneg, Nat.zero_add, Nat.le_refl, Nat.lt_irrefl, gt_iff_lt, decide_true, decide_false, Bool.not_true, Bool.not_false, List.range_succ, List.range_zero, List.getD_cons_zero, List.getD_cons_succ, maxLen, Nat.reducePow, Nat.zero_le, Nat.succ_ne_self, Nat.zero_mod, ty3, ty4, ty9, ty22, ty25, ty28, ty39, ty122]; try rfl) (by rfl) (by simp only [put, puts, setT, List.filter_cons, List.filter_nil, Nat.reduceBEq, Bool.false_eq_true, reduceIte, Bool.not_true, Bool.not_false, List.zip_cons_cons, List.zip_nil_left, List.zip_nil_right, List.map_cons, List.map_nil, AB.ren, AC.rens, AC.ren, AV.ren, AV.rens, nm, List.getD_cons_zero, List.getD_cons_succ]; exact ⟨rfl, rfl⟩) ?_
      | refine RunS.skip (by rfl) (by simp only [setT, List.filter_cons, List.filter_nil, Nat.reduceBEq, Bool.false_eq_true, reduceIte, Bool.not_true, Bool.not_false]; try rfl) ?_)
    refine RunS.nil (hN _ _ _ ?_)
    clear hN N
    simp only [List.length_cons, List.length_nil, Nat.reduceAdd, Nat.reduceMul, kSeq, kBlock, kFin, reduceIte, Nat.reduceEqDiff]
    repeat (first | refine W.seq ?_ | refine W.block ?_)
    refine W.loop ?_
    have hll : t.l.length = u.l.length := by exact_mod_cast c5
    refine WL.wk (Wk.nilB 148 25 3 25 4 _ rfl rfl rfl) ?_
    refine WL.ind (σ := Nat) (nx := 172) (fun j => j ≤ t.l.length) (fun j => t.l.length - j) (fun j => [(2, .one (.ptr 0 0)), (3, .one (.ptr 3 0)), (4, .one (.ptr 4 0)), (6, .one (.ptr 5 0)), (7, .one (.ptr 148 0)), (8, vI j)])
      (fun j => genH t u (Tm.gens (t.l.take j) (u.l.take j) p).2 zA ++ [(148, .box 25 [.f (.v (.int .i64 t.k)), .f (.v (.int .i64 t.n)), .f (.v (.string t.s)), .row 171 j]), (171, .row 25 4 ((Tm.gens (t.l.take j) (u.l.take j) p).1.map treeC))]) 0 (Nat.zero_le _) ?_ ?_
    · simp only [put, Nat.reduceBEq, Bool.false_eq_true, reduceIte, List.cons_append, List.nil_append]
      refine Wk.keep [] (by rfl) ?_ ?_ <;> simp only [keepT, keepH, look_cons, look_nil, AV.frz, AV.frzs, AC.frz, AC.frzs, AB.frz, lives, List.any_cons, List.any_nil, Nat.reduceBEq, Nat.reduceLT, Bool.false_eq_true, reduceIte, and_true, true_and, and_self, Option.some.injEq, decide_false, decide_true, Bool.or_false, Bool.or_true, Bool.false_or, Bool.true_or, beq_self_eq_true, List.contains_nil, List.contains_cons, List.length_map, List.length_cons, List.length_nil, List.length_append, List.take_zero, Tm.gens_nil, List.map_nil]
      all_goals trivial
    intro j hj
    obtain ⟨os, ho⟩ : ∃ o, o = (Tm.gens (t.l.take j) (u.l.take j) p).1 := ⟨_, rfl⟩
    obtain ⟨q, hq⟩ : ∃ q, q = (Tm.gens (t.l.take j) (u.l.take j) p).2 := ⟨_, rfl⟩
    have hol : os.length = j := by rw [ho, Tm.gens_len (by simp [hll])]; simp; omega
    rw [← ho, ← hq]
    simp only [List.cons_append, List.nil_append]
    repeat (first | refine W.seq ?_ | refine W.block ?_)
    refine W.regionK (by decide) fun N hN => ?_
    repeat (first
      | refine RunS.any (by rfl) (by simp only [pl, o1, o2, o3, plBuiltin, evT, cv, okV, evParts, evCaps, look_cons, look_nil, plLoad, plStore, plAlloc, plBox, plBuild, plSlice, plFieldAddr, plField, plIndexAddr, plIndex, plBin, abin, plUn, plConv, plNil, plExtract, plLen, plMax, plAppend, elemsOf, readAt, ldv, cellsV, toF, allF, splice, afill, zeros, chunk, TK.agg, Nat.reduceAdd, Nat.reduceMul, Nat.reduceSub, Nat.reduceBEq, Nat.reduceEqDiff, Nat.reduceLeDiff, Nat.reduceLT, Nat.reduceMod, Bool.false_eq_true, reduceIte, true_and, and_true, and_self, List.length_cons, List.length_nil, List.length_map, List.length_append, List.map_cons, List.map_nil, List.take_succ_cons, List.take_zero, List.drop_succ_cons, List.drop_zero, List.nil_append, List.cons_append, List.append_nil, List.getElem?_cons_zero, List.getElem?_cons_succ, List.getElem?_map, List.set_cons_zero, List.set_cons_succ, Option.map_some, beq_self_eq_true, List.all_cons, List.all_nil, Int.reduceLE, Int.reduceLT, Int.toNat_zero, Int.reduceToNat, Int.toNat_natCast, Int.natCast_nonneg, Nat.zero_add, Nat.le_refl, Nat.lt_irrefl, gt_iff_lt, decide_true, decide_false, Bool.not_true, Bool.not_false, List.range_succ, List.range_zero, List.getD_cons_zero, List.getD_cons_succ, maxLen, Nat.reducePow, Nat.zero_le, Nat.succ_ne_self, Nat.zero_mod, ty3, ty4, ty9, ty22, ty25, ty28, ty39, ty122]; try rfl) (by rfl) (by simp only [put, puts, setT, List.filter_cons, List.filter_nil, Nat.reduceBEq, Bool.false_eq_true, reduceIte, Bool.not_true, Bool.not_false, List.zip_cons_cons, List.zip_nil_left, List.zip_nil_right, List.map_cons, List.map_nil, AB.ren, AC.rens, AC.ren, AV.ren, AV.rens, nm, List.getD_cons_zero, List.getD_cons_succ]; exact ⟨rfl, rfl⟩) ?_
      | refine RunS.skip (by rfl) (by simp only [setT, List.filter_cons, List.filter_nil, Nat.reduceBEq, Bool.false_eq_true, reduceIte, Bool.not_true, Bool.not_false]; try rfl) ?_)
    refine RunS.nil (hN _ _ _ ?_)
    clear hN N
    simp only [List.length_cons, List.length_nil, Nat.reduceAdd, Nat.reduceMul, kSeq, kBlock, kFin, reduceIte, Nat.reduceEqDiff]
    refine W.condD (by rfl) (fun hlt => ?_) (fun hge => ?_)
    · first | refine W.exit ?_ | refine W.ret ?_ | refine W.skip ?_
      try simp only [kSeq, kBlock, kFin, reduceIte, Nat.reduceEqDiff]
      obtain ⟨x, hx⟩ : ∃ x, t.l[j]? = some x := ⟨_, List.getElem?_eq_getElem (by omega)⟩
      obtain ⟨y, hy⟩ : ∃ y, u.l[j]? = some y := ⟨_, List.getElem?_eq_getElem (by omega)⟩
      repeat (first | refine W.seq ?_ | refine W.block ?_)
      refine W.regionDK mixed (by decide) (by rfl) fun N hN => ?_
      repeat (first
        | refine RunD.any (by rfl) (by simp only [pl, o1, o2, o3, plBuiltin, evT, cv, okV, evParts, evCaps, look_cons, look_nil, plLoad, plStore, plAlloc, plBox, plBuild, plSlice, plFieldAddr, plField, plIndexAddr, plIndex, plBin, abin, plUn, plConv, plNil, plExtract, plLen, plMax, plAppend, elemsOf, readAt, ldv, cellsV, toF, allF, splice, afill, zeros, chunk, TK.agg, Nat.reduceAdd, Nat.reduceMul, Nat.reduceSub, Nat.reduceBEq, Nat.reduceEqDiff, Nat.reduceLeDiff, Nat.reduceLT, Nat.reduceMod, Bool.false_eq_true, reduceIte, true_and, and_true, and_self, List.length_cons, List.length_nil, List.length_map, List.length_append, List.map_cons, List.map_nil, List.take_succ_cons, List.take_zero, List.drop_succ_cons, List.drop_zero, List.nil_append, List.cons_append, List.append_nil, List.getElem?_cons_zero, List.getElem?_cons_succ, List.getElem?_map, List.set_cons_zero, List.set_cons_succ, Option.map_some, beq_self_eq_true, List.all_cons, List.all_nil, Int.reduceLE, Int.reduceLT, Int.toNat_zero, Int.reduceToNat, Int.toNat_natCast, Int.natCast_nonneg, Nat.zero_add, Nat.le_refl, Nat.lt_irrefl, gt_iff_lt, decide_true, decide_false, Bool.not_true, Bool.not_false, List.range_succ, List.range_zero, List.getD_cons_zero, List.getD_cons_succ, maxLen, Nat.reducePow, Nat.zero_le, Nat.succ_ne_self, Nat.zero_mod, ty3, ty4, ty9, ty22, ty25, ty28, ty39, ty122, hx, hy, treeC_eq]; try rfl) (by rfl) (by simp only [put, puts, setT, List.filter_cons, List.filter_nil, Nat.reduceBEq, Bool.false_eq_true, reduceIte, Bool.not_true, Bool.not_false, List.zip_cons_cons, List.zip_nil_left, List.zip_nil_right, List.map_cons, List.map_nil, AB.ren, AC.rens, AC.ren, AV.ren, AV.rens, nm, List.getD_cons_zero, List.getD_cons_succ]; exact ⟨rfl, rfl⟩) ?_
        | refine RunD.skip (by rfl) (by simp only [setT, List.filter_cons, List.filter_nil, Nat.reduceBEq, Bool.false_eq_true, reduceIte, Bool.not_true, Bool.not_false]; try rfl) ?_)
      have hxm := List.mem_of_getElem? hx
      have htk : t.l.take (j + 1) = t.l.take j ++ [x] := take_snoc hx
      have huk : u.l.take (j + 1) = u.l.take j ++ [y] := take_snoc hy
      have hsn := Tm.gens_snoc (xs := t.l.take j) (ys := u.l.take j) (x := x) (y := y) (by simp [hll]) p
      rw [← htk, ← huk, ← hq, ← ho] at hsn
      have hqz : q.length + x.size ≤ 1000000 := by
        have h1 := (gen_len (Tm.sizes (t.l.take j))).2 (t.l.take j) (u.l.take j) p (Nat.le_refl _)
        have h2 := sizes_take_le (j + 1) t.l
        rw [htk, sizes_append] at h2
        simp only [Tm.sizes] at h2
        have h3 := t.size_eq
        rw [← hq] at h1; omega
      obtain ⟨rt, rq, hr⟩ : ∃ rt rq, x.gen y q = (rt, rq) := ⟨_, _, rfl⟩
      have hcall := ih x hxm y q hqz
      rw [hr] at hcall hsn
      refine RunD.callH rfl (by rfl) (hcall) [0, 1, 2] rfl rfl (by simp only [evArgs, evT, cv, okV, look_cons, Nat.reduceBEq, Bool.false_eq_true, reduceIte]; try rfl) (by simp only [put, puts, setT, List.filter_cons, List.filter_nil, Nat.reduceBEq, Bool.false_eq_true, reduceIte, Bool.not_true, Bool.not_false, List.zip_cons_cons, List.zip_nil_left, List.zip_nil_right, List.map_cons, List.map_nil, AB.ren, AC.rens, AC.ren, AV.ren, AV.rens, nm, List.getD_cons_zero, List.getD_cons_succ, List.append_nil]; try rfl) (by rfl) (by simp only [enumL, List.forall_mem_cons, List.not_mem_nil, false_implies, implies_true, and_true, look_cons, look_nil, put, puts, setT, List.filter_cons, List.filter_nil, Nat.reduceBEq, Bool.false_eq_true, reduceIte, Bool.not_true, Bool.not_false, List.zip_cons_cons, List.zip_nil_left, List.zip_nil_right, List.map_cons, List.map_nil, AB.ren, AC.rens, AC.ren, AV.ren, AV.rens, nm, List.getD_cons_zero, List.getD_cons_succ, Nat.reduceAdd]; try trivial) (by simp only [put, puts, setT, List.filter_cons, List.filter_nil, Nat.reduceBEq, Bool.false_eq_true, reduceIte, Bool.not_true, Bool.not_false, List.zip_cons_cons, List.zip_nil_left, List.zip_nil_right, List.map_cons, List.map_nil, AB.ren, AC.rens, AC.ren, AV.ren, AV.rens, nm, List.getD_cons_zero, List.getD_cons_succ]; try rfl) (by simp only [put, puts, setT, List.filter_cons, List.filter_nil, Nat.reduceBEq, Bool.false_eq_true, reduceIte, Bool.not_true, Bool.not_false, List.zip_cons_cons, List.zip_nil_left, List.zip_nil_right, List.map_cons, List.map_nil, AB.ren, AC.rens, AC.ren, AV.ren, AV.rens, nm, List.getD_cons_zero, List.getD_cons_succ]; try rfl) ?_
      have hjz : j ≤ 1000000 := by have := len_le_sizes t.l; have := t.size_eq; omega
      have hb1 : j + 1 ≤ 9223372036854775807 := by omega
      have hb2 : (j + 1) * 56 ≤ 140737488355328 := by omega
      repeat (first
        | refine RunD.any (by rfl) (by simp only [pl, o1, o2, o3, plBuiltin, evT, cv, okV, evParts, evCaps, look_cons, look_nil, plLoad, plStore, plAlloc, plBox, plBuild, plSlice, plFieldAddr, plField, plIndexAddr, plIndex, plBin, abin, plUn, plConv, plNil, plExtract, plLen, plMax, plAppend, elemsOf, readAt, ldv, cellsV, toF, allF, splice, afill, zeros, chunk, TK.agg, Nat.reduceAdd, Nat.reduceMul, Nat.reduceSub, Nat.reduceBEq, Nat.reduceEqDiff, Nat.reduceLeDiff, Nat.reduceLT, Nat.reduceMod, Bool.false_eq_true, reduceIte, true_and, and_true, and_self, List.length_cons, List.length_nil, List.length_map, List.length_append, List.map_cons, List.map_nil, List.take_succ_cons, List.take_zero, List.drop_succ_cons, List.drop_zero, List.nil_append, List.cons_append, List.append_nil, List.getElem?_cons_zero, List.getElem?_cons_succ, List.getElem?_map, List.set_cons_zero, List.set_cons_succ, Option.map_some, beq_self_eq_true, List.all_cons, List.all_nil, Int.reduceLE, Int.reduceLT, Int.toNat_zero, Int.reduceToNat, Int.toNat_natCast, Int.natCast_nonneg, Nat.zero_add, Nat.le_refl, Nat.lt_irrefl, gt_iff_lt, decide_true, decide_false, Bool.not_true, Bool.not_false, List.range_succ, List.range_zero, List.getD_cons_zero, List.getD_cons_succ, maxLen, Nat.reducePow, Nat.zero_le, Nat.succ_ne_self, Nat.zero_mod, ty3, ty4, ty9, ty22, ty25, ty28, ty39, ty122, hol, hb1, hb2]; try rfl) (by rfl) (by simp only [put, puts, setT, List.filter_cons, List.filter_nil, Nat.reduceBEq, Bool.false_eq_true, reduceIte, Bool.not_true, Bool.not_false, List.zip_cons_cons, List.zip_nil_left, List.zip_nil_right, List.map_cons, List.map_nil, AB.ren, AC.rens, AC.ren, AV.ren, AV.rens, nm, List.getD_cons_zero, List.getD_cons_succ]; exact ⟨rfl, rfl⟩) ?_
        | refine RunD.skip (by rfl) (by simp only [setT, List.filter_cons, List.filter_nil, Nat.reduceBEq, Bool.false_eq_true, reduceIte, Bool.not_true, Bool.not_false]; try rfl) ?_)
      refine RunD.nil ⟨by kernel_rfl, hN _ _ _ ?_⟩
      clear hN N
      simp only [List.length_cons, List.length_nil, Nat.reduceAdd, Nat.reduceMul, kSeq, kBlock, kFin, reduceIte, Nat.reduceEqDiff]
      have hw : IntKind.i64.wrap ((j : Int) + 1) = ((j + 1 : Nat) : Int) := wrap_i64 (by omega) (by omega)
      repeat (first | refine W.seq ?_ | refine W.block ?_)
      refine W.regionK (by decide) fun N hN => ?_
      repeat (first
        | refine RunS.any (by rfl) (by simp only [pl, o1, o2, o3, plBuiltin, evT, cv, okV, evParts, evCaps, look_cons, look_nil, plLoad, plStore, plAlloc, plBox, plBuild, plSlice, plFieldAddr, plField, plIndexAddr, plIndex, plBin, abin, plUn, plConv, plNil, plExtract, plLen, plMax, plAppend, elemsOf, readAt, ldv, cellsV, toF, allF, splice, afill, zeros, chunk, TK.agg, Nat.reduceAdd, Nat.reduceMul, Nat.reduceSub, Nat.reduceBEq, Nat.reduceEqDiff, Nat.reduceLeDiff, Nat.reduceLT, Nat.reduceMod, Bool.false_eq_true, reduceIte, true_and, and_true, and_self, List.length_cons, List.length_nil, List.length_map, List.length_append, List.map_cons, List.map_nil, List.take_succ_cons, List.take_zero, List.drop_succ_cons, List.drop_zero, List.nil_append, List.cons_append, List.append_nil, List.getElem?_cons_zero, List.getElem?_cons_succ, List.getElem?_map, List.set_cons_zero, List.set_cons_succ, Option.map_some, beq_self_eq_true, List.all_cons, List.all_nil, Int.reduceLE, Int.reduceLT, Int.toNat_zero, Int.reduceToNat, Int.toNat_natCast, Int.natCast_nonneg, Nat.zero_add, Nat.le_refl, Nat.lt_irrefl, gt_iff_lt, decide_true, decide_false, Bool.not_true, Bool.not_false, List.range_succ, List.range_zero, List.getD_cons_zero, List.getD_cons_succ, maxLen, Nat.reducePow, Nat.zero_le, Nat.succ_ne_self, Nat.zero_mod, ty3, ty4, ty9, ty22, ty25, ty28, ty39, ty122, hw]; try rfl) (by rfl) (by simp only [put, puts, setT, List.filter_cons, List.filter_nil, Nat.reduceBEq, Bool.false_eq_true, reduceIte, Bool.not_true, Bool.not_false, List.zip_cons_cons, List.zip_nil_left, List.zip_nil_right, List.map_cons, List.map_nil, AB.ren, AC.rens, AC.ren, AV.ren, AV.rens, nm, List.getD_cons_zero, List.getD_cons_succ]; exact ⟨rfl, rfl⟩) ?_
        | refine RunS.skip (by rfl) (by simp only [setT, List.filter_cons, List.filter_nil, Nat.reduceBEq, Bool.false_eq_true, reduceIte, Bool.not_true, Bool.not_false]; try rfl) ?_)
      refine RunS.nil (hN _ _ _ ?_)
      clear hN N
      simp only [List.length_cons, List.length_nil, Nat.reduceAdd, Nat.reduceMul, kSeq, kBlock, kFin, reduceIte, Nat.reduceEqDiff]
      refine ⟨j + 1, by omega, by omega, ?_⟩
      rw [hsn]
      simp only [List.cons_append, List.nil_append, List.map_append, List.map_cons, List.map_nil]
      refine Wk.keep [] (by rfl) ?_ ?_ <;> simp only [keepT, keepH, look_cons, look_nil, AV.frz, AV.frzs, AC.frz, AC.frzs, AB.frz, lives, List.any_cons, List.any_nil, Nat.reduceBEq, Nat.reduceLT, Bool.false_eq_true, reduceIte, and_true, true_and, and_self, Option.some.injEq, decide_false, decide_true, Bool.or_false, Bool.or_true, Bool.false_or, Bool.true_or, beq_self_eq_true, List.contains_nil, List.contains_cons, List.length_map, List.length_cons, List.length_nil, List.length_append, hol, treeC_eq]
    · first | refine W.exit ?_ | refine W.ret ?_ | refine W.skip ?_
      try simp only [kSeq, kBlock, kFin, reduceIte, Nat.reduceEqDiff]
      have hje : j = t.l.length := by omega
      subst hje
      rw [List.take_length, hll, List.take_length] at ho hq
      have hgen : t.gen u p = (Tm.mk t.k t.n t.s os, q) := by rw [Tm.gen_eq, if_pos ⟨c2, c1, c3, c4, hll⟩, ← ho, ← hq]
      repeat (first | refine W.seq ?_ | refine W.block ?_)
      refine W.regionK (by decide) fun N hN => ?_
      repeat (first
        | refine RunS.any (by rfl) (by simp only [pl, o1, o2, o3, plBuiltin, evT, cv, okV, evParts, evCaps, look_cons, look_nil, plLoad, plStore, plAlloc, plBox, plBuild, plSlice, plFieldAddr, plField, plIndexAddr, plIndex, plBin, abin, plUn, plConv, plNil, plExtract, plLen, plMax, plAppend, elemsOf, readAt, ldv, cellsV, toF, allF, splice, afill, zeros, chunk, TK.agg, Nat.reduceAdd, Nat.reduceMul, Nat.reduceSub, Nat.reduceBEq, Nat.reduceEqDiff, Nat.reduceLeDiff, Nat.reduceLT, Nat.reduceMod, Bool.false_eq_true, reduceIte, true_and, and_true, and_self, List.length_cons, List.length_nil, List.length_map, List.length_append, List.map_cons, List.map_nil, List.take_succ_cons, List.take_zero, List.drop_succ_cons, List.drop_zero, List.nil_append, List.cons_append, List.append_nil, List.getElem?_cons_zero, List.getElem?_cons_succ, List.getElem?_map, List.set_cons_zero, List.set_cons_succ, Option.map_some, beq_self_eq_true, List.all_cons, List.all_nil, Int.reduceLE, Int.reduceLT, Int.toNat_zero, Int.reduceToNat, Int.toNat_natCast, Int.natCast_nonneg, Nat.zero_add, Nat.le_refl, Nat.lt_irrefl, gt_iff_lt, decide_true, decide_false, Bool.not_true, Bool.not_false, List.range_succ, List.range_zero, List.getD_cons_zero, List.getD_cons_succ, maxLen, Nat.reducePow, Nat.zero_le, Nat.succ_ne_self, Nat.zero_mod, ty3, ty4, ty9, ty22, ty25, ty28, ty39, ty122]; try rfl) (by rfl) (by simp only [put, puts, setT, List.filter_cons, List.filter_nil, Nat.reduceBEq, Bool.false_eq_true, reduceIte, Bool.not_true, Bool.not_false, List.zip_cons_cons, List.zip_nil_left, List.zip_nil_right, List.map_cons, List.map_nil, AB.ren, AC.rens, AC.ren, AV.ren, AV.rens, nm, List.getD_cons_zero, List.getD_cons_succ]; exact ⟨rfl, rfl⟩) ?_
        | refine RunS.skip (by rfl) (by simp only [setT, List.filter_cons, List.filter_nil, Nat.reduceBEq, Bool.false_eq_true, reduceIte, Bool.not_true, Bool.not_false]; try rfl) ?_)
      refine RunS.nil (hN _ _ _ ?_)
      clear hN N
      simp only [List.length_cons, List.length_nil, Nat.reduceAdd, Nat.reduceMul, kSeq, kBlock, kFin, reduceIte, Nat.reduceEqDiff]
      first | refine W.exit ?_ | refine W.ret ?_ | refine W.skip ?_
      try simp only [kSeq, kBlock, kFin, reduceIte, Nat.reduceEqDiff]
      rw [hgen]
      refine Fin.keep (T' := [(6, .one (.ptr 5 0))]) (H' := [(0, .box 122 [.row 1 q.length, .row 2 q.length]), (1, .row 25 4 (q.map fun q => treeC q.1)), (2, .row 25 4 (q.map fun q => treeC q.2)), (5, .box 25 (cA (Tm.mk t.k t.n t.s os)))]) (nx' := 6) ?_ [0, 1, 2] (xs := ?_) ?_ ?_ ?_ ?_
      · refine Wk.keep [171] (by rfl) ?_ ?_ <;> simp only [keepT, keepH, look_cons, look_nil, AV.frz, AV.frzs, AC.frz, AC.frzs, AB.frz, lives, List.any_cons, List.any_nil, Nat.reduceBEq, Nat.reduceLT, Bool.false_eq_true, reduceIte, and_true, true_and, and_self, Option.some.injEq, decide_false, decide_true, Bool.or_false, Bool.or_true, Bool.false_or, Bool.true_or, beq_self_eq_true, List.contains_nil, List.contains_cons, List.length_map, List.length_cons, List.length_nil, List.length_append, hol, cA, tm_k, tm_n, tm_s, tm_l]
      rotate_left
      · simp only [pl, o1, o2, o3, plBuiltin, evT, cv, okV, evParts, evCaps, look_cons, look_nil, plLoad, plStore, plAlloc, plBox, plBuild, plSlice, plFieldAddr, plField, plIndexAddr, plIndex, plBin, abin, plUn, plConv, plNil, plExtract, plLen, plMax, plAppend, elemsOf, readAt, ldv, cellsV, toF, allF, splice, afill, zeros, chunk, TK.agg, Nat.reduceAdd, Nat.reduceMul, Nat.reduceSub, Nat.reduceBEq, Nat.reduceEqDiff, Nat.reduceLeDiff, Nat.reduceLT, Nat.reduceMod, Bool.false_eq_true, reduceIte, true_and, and_true, and_self, List.length_cons, List.length_nil, List.length_map, List.length_append, List.map_cons, List.map_nil, List.take_succ_cons, List.take_zero, List.drop_succ_cons, List.drop_zero, List.nil_append, List.cons_append, List.append_nil, List.getElem?_cons_zero, List.getElem?_cons_succ, List.getElem?_map, List.set_cons_zero, List.set_cons_succ, Option.map_some, beq_self_eq_true, List.all_cons, List.all_nil, Int.reduceLE, Int.reduceLT, Int.toNat_zero, Int.reduceToNat, Int.toNat_natCast, Int.natCast_nonneg, Nat.zero_add, Nat.le_refl, Nat.lt_irrefl, gt_iff_lt, decide_true, decide_false, Bool.not_true, Bool.not_false, List.range_succ, List.range_zero, List.getD_cons_zero, List.getD_cons_succ, maxLen, Nat.reducePow, Nat.zero_le, Nat.succ_ne_self, Nat.zero_mod, ty3, ty4, ty9, ty22, ty25, ty28, ty39, ty122, resA, hol, cA, tm_k, tm_n, tm_s, tm_l]; try rfl
      · simp only [outA, put, puts, setT, List.filter_cons, List.filter_nil, Nat.reduceBEq, Bool.false_eq_true, reduceIte, Bool.not_true, Bool.not_false, List.zip_cons_cons, List.zip_nil_left, List.zip_nil_right, List.map_cons, List.map_nil, AB.ren, AC.rens, AC.ren, AV.ren, AV.rens, nm, List.getD_cons_zero, List.getD_cons_succ, hol, cA, tm_k, tm_n, tm_s, tm_l]
      · kernel_rfl
      · simp only [enumL, List.forall_mem_cons, List.not_mem_nil, false_implies, implies_true, and_true, look_cons, look_nil, put, puts, setT, List.filter_cons, List.filter_nil, Nat.reduceBEq, Bool.false_eq_true, reduceIte, Bool.not_true, Bool.not_false, List.zip_cons_cons, List.zip_nil_left, List.zip_nil_right, List.map_cons, List.map_nil, AB.ren, AC.rens, AC.ren, AV.ren, AV.rens, nm, List.getD_cons_zero, List.getD_cons_succ, Nat.reduceAdd, List.map_append, List.length_append, List.length_cons, List.length_nil, hol, cA, tm_k, tm_n, tm_s, tm_l]; try trivial
  · rintro T H nx ⟨hw, hno⟩
    have hgen : t.gen u p = (Tm.va (pidx p (t, u)), padd p (t, u)) := by rw [Tm.gen_eq, if_neg hno]
    refine W.to ?_ hw
    clear hw ih
    rw [hgen]
    repeat (first | refine W.seq ?_ | refine W.block ?_)
    refine W.regionK (by decide) fun N hN => ?_
    repeat (first
      | refine RunS.any (by rfl) (by simp only [pl, o1, o2, o3, plBuiltin, evT, cv, okV, evParts, evCaps, look_cons, look_nil, plLoad, plStore, plAlloc, plBox, plBuild, plSlice, plFieldAddr, plField, plIndexAddr, plIndex, plBin, abin, plUn, plConv, plNil, plExtract, plLen, plMax, plAppend, elemsOf, readAt, ldv, cellsV, toF, allF, splice, afill, zeros, chunk, TK.agg, Nat.reduceAdd, Nat.reduceMul, Nat.reduceSub, Nat.reduceBEq, Nat.reduceEqDiff, Nat.reduceLeDiff, Nat.reduceLT, Nat.reduceMod, Bool.false_eq_true, reduceIte, true_and, and_true, and_self, List.length_cons, List.length_nil, List.length_map, List.length_append, List.map_cons, List.map_nil, List.take_succ_cons, List.take_zero, List.drop_succ_cons, List.drop_zero, List.nil_append, List.cons_append, List.append_nil, List.getElem?_cons_zero, List.getElem?_cons_succ, List.getElem?_map, List.set_cons_zero, List.set_cons_succ, Option.map_some, beq_self_eq_true, List.all_cons, List.all_nil, Int.reduceLE, Int.reduceLT, Int.toNat_zero, Int.reduceToNat, Int.toNat_natCast, Int.natCast_nonneg, Nat.zero_add, Nat.le_refl, Nat.lt_irrefl, gt_iff_lt, decide_true, decide_false, Bool.not_true, Bool.not_false, List.range_succ, List.range_zero, List.getD_cons_zero, List.getD_cons_succ, maxLen, Nat.reducePow, Nat.zero_le, Nat.succ_ne_self, Nat.zero_mod, ty3, ty4, ty9, ty22, ty25, ty28, ty39, ty122]; try rfl) (by rfl) (by simp only [put, puts, setT, List.filter_cons, List.filter_nil, Nat.reduceBEq, Bool.false_eq_true, reduceIte, Bool.not_true, Bool.not_false, List.zip_cons_cons, List.zip_nil_left, List.zip_nil_right, List.map_cons, List.map_nil, AB.ren, AC.rens, AC.ren, AV.ren, AV.rens, nm, List.getD_cons_zero, List.getD_cons_succ]; exact ⟨rfl, rfl⟩) ?_
      | refine RunS.skip (by rfl) (by simp only [setT, List.filter_cons, List.filter_nil, Nat.reduceBEq, Bool.false_eq_true, reduceIte, Bool.not_true, Bool.not_false]; try rfl) ?_)
    refine RunS.nil (hN _ _ _ ?_)
    clear hN N
    simp only [List.length_cons, List.length_nil, Nat.reduceAdd, Nat.reduceMul, kSeq, kBlock, kFin, reduceIte, Nat.reduceEqDiff]
    repeat (first | refine W.seq ?_ | refine W.block ?_)
    refine W.loop ?_
    refine WL.ind (σ := Nat) (nx := 19) (fun j => j ≤ p.length ∧ (t, u) ∉ p.take j) (fun j => p.length - j) (fun j => [(2, .one (.ptr 0 0)), (3, .one (.ptr 3 0)), (4, .one (.ptr 4 0)), (6, .one (.ptr 5 0)), (9, vI j)]) (fun j => genH t u p zA) 0 ⟨Nat.zero_le _, by simp⟩ ?_ ?_
    · refine Wk.keep [] (by rfl) ?_ ?_ <;> simp only [keepT, keepH, look_cons, look_nil, AV.frz, AV.frzs, AC.frz, AC.frzs, AB.frz, lives, List.any_cons, List.any_nil, Nat.reduceBEq, Nat.reduceLT, Bool.false_eq_true, reduceIte, and_true, true_and, and_self, Option.some.injEq, decide_false, decide_true, Bool.or_false, Bool.or_true, Bool.false_or, Bool.true_or, beq_self_eq_true, List.contains_nil, List.contains_cons, List.length_map, List.length_cons, List.length_nil, List.length_append]
      trivial
    rintro j ⟨hj, hn⟩
    repeat (first | refine W.seq ?_ | refine W.block ?_)
    refine W.regionK (by decide) fun N hN => ?_
    repeat (first
      | refine RunS.any (by rfl) (by simp only [pl, o1, o2, o3, plBuiltin, evT, cv, okV, evParts, evCaps, look_cons, look_nil, plLoad, plStore, plAlloc, plBox, plBuild, plSlice, plFieldAddr, plField, plIndexAddr, plIndex, plBin, abin, plUn, plConv, plNil, plExtract, plLen, plMax, plAppend, elemsOf, readAt, ldv, cellsV, toF, allF, splice, afill, zeros, chunk, TK.agg, Nat.reduceAdd, Nat.reduceMul, Nat.reduceSub, Nat.reduceBEq, Nat.reduceEqDiff, Nat.reduceLeDiff, Nat.reduceLT, Nat.reduceMod, Bool.false_eq_true, reduceIte, true_and, and_true, and_self, List.length_cons, List.length_nil, List.length_map, List.length_append, List.map_cons, List.map_nil, List.take_succ_cons, List.take_zero, List.drop_succ_cons, List.drop_zero, List.nil_append, List.cons_append, List.append_nil, List.getElem?_cons_zero, List.getElem?_cons_succ, List.getElem?_map, List.set_cons_zero, List.set_cons_succ, Option.map_some, beq_self_eq_true, List.all_cons, List.all_nil, Int.reduceLE, Int.reduceLT, Int.toNat_zero, Int.reduceToNat, Int.toNat_natCast, Int.natCast_nonneg, Nat.zero_add, Nat.le_refl, Nat.lt_irrefl, gt_iff_lt, decide_true, decide_false, Bool.not_true, Bool.not_false, List.range_succ, List.range_zero, List.getD_cons_zero, List.getD_cons_succ, maxLen, Nat.reducePow, Nat.zero_le, Nat.succ_ne_self, Nat.zero_mod, ty3, ty4, ty9, ty22, ty25, ty28, ty39, ty122]; try rfl) (by rfl) (by simp only [put, puts, setT, List.filter_cons, List.filter_nil, Nat.reduceBEq, Bool.false_eq_true, reduceIte, Bool.not_true, Bool.not_false, List.zip_cons_cons, List.zip_nil_left, List.zip_nil_right, List.map_cons, List.map_nil, AB.ren, AC.rens, AC.ren, AV.ren, AV.rens, nm, List.getD_cons_zero, List.getD_cons_succ]; exact ⟨rfl, rfl⟩) ?_
      | refine RunS.skip (by rfl) (by simp only [setT, List.filter_cons, List.filter_nil, Nat.reduceBEq, Bool.false_eq_true, reduceIte, Bool.not_true, Bool.not_false]; try rfl) ?_)
    refine RunS.nil (hN _ _ _ ?_)
    clear hN N
    simp only [List.length_cons, List.length_nil, Nat.reduceAdd, Nat.reduceMul, kSeq, kBlock, kFin, reduceIte, Nat.reduceEqDiff]
    refine W.condD (by rfl) (fun hlt => ?_) (fun hge => ?_)
    · first | refine W.exit ?_ | refine W.ret ?_ | refine W.skip ?_
      try simp only [kSeq, kBlock, kFin, reduceIte, Nat.reduceEqDiff]
      obtain ⟨q, hq⟩ : ∃ q, p[j]? = some q := ⟨_, List.getElem?_eq_getElem (by omega)⟩
      have hj2 : j < p.length := by omega
      have hc1 := refSame_ok q.1 t
      have hc2 := refSame_ok q.2 u
      repeat (first | refine W.seq ?_ | refine W.block ?_)
      refine W.regionDK mixed (by decide) (by rfl) fun N hN => ?_
      repeat (first
        | refine RunD.any (by rfl) (by simp only [pl, o1, o2, o3, plBuiltin, evT, cv, okV, evParts, evCaps, look_cons, look_nil, plLoad, plStore, plAlloc, plBox, plBuild, plSlice, plFieldAddr, plField, plIndexAddr, plIndex, plBin, abin, plUn, plConv, plNil, plExtract, plLen, plMax, plAppend, elemsOf, readAt, ldv, cellsV, toF, allF, splice, afill, zeros, chunk, TK.agg, Nat.reduceAdd, Nat.reduceMul, Nat.reduceSub, Nat.reduceBEq, Nat.reduceEqDiff, Nat.reduceLeDiff, Nat.reduceLT, Nat.reduceMod, Bool.false_eq_true, reduceIte, true_and, and_true, and_self, List.length_cons, List.length_nil, List.length_map, List.length_append, List.map_cons, List.map_nil, List.take_succ_cons, List.take_zero, List.drop_succ_cons, List.drop_zero, List.nil_append, List.cons_append, List.append_nil, List.getElem?_cons_zero, List.getElem?_cons_succ, List.getElem?_map, List.set_cons_zero, List.set_cons_succ, Option.map_some, beq_self_eq_true, List.all_cons, List.all_nil, Int.reduceLE, Int.reduceLT, Int.toNat_zero, Int.reduceToNat, Int.toNat_natCast, Int.natCast_nonneg, Nat.zero_add, Nat.le_refl, Nat.lt_irrefl, gt_iff_lt, decide_true, decide_false, Bool.not_true, Bool.not_false, List.range_succ, List.range_zero, List.getD_cons_zero, List.getD_cons_succ, maxLen, Nat.reducePow, Nat.zero_le, Nat.succ_ne_self, Nat.zero_mod, ty3, ty4, ty9, ty22, ty25, ty28, ty39, ty122, hq, hj2, treeC_eq]; try rfl) (by rfl) (by simp only [put, puts, setT, List.filter_cons, List.filter_nil, Nat.reduceBEq, Bool.false_eq_true, reduceIte, Bool.not_true, Bool.not_false, List.zip_cons_cons, List.zip_nil_left, List.zip_nil_right, List.map_cons, List.map_nil, AB.ren, AC.rens, AC.ren, AV.ren, AV.rens, nm, List.getD_cons_zero, List.getD_cons_succ]; exact ⟨rfl, rfl⟩) ?_
        | refine RunD.skip (by rfl) (by simp only [setT, List.filter_cons, List.filter_nil, Nat.reduceBEq, Bool.false_eq_true, reduceIte, Bool.not_true, Bool.not_false]; try rfl) ?_)
      cases b1 : sameB q.1 t
      · rw [b1] at hc1
        refine RunD.callP rfl (by rfl) (hc1) rfl (by simp only [evArgs, evT, cv, okV, look_cons, Nat.reduceBEq, Bool.false_eq_true, reduceIte]; try rfl) (by rfl) (by rfl) ?_
        repeat (first
          | refine RunD.any (by rfl) (by simp only [pl, o1, o2, o3, plBuiltin, evT, cv, okV, evParts, evCaps, look_cons, look_nil, plLoad, plStore, plAlloc, plBox, plBuild, plSlice, plFieldAddr, plField, plIndexAddr, plIndex, plBin, abin, plUn, plConv, plNil, plExtract, plLen, plMax, plAppend, elemsOf, readAt, ldv, cellsV, toF, allF, splice, afill, zeros, chunk, TK.agg, Nat.reduceAdd, Nat.reduceMul, Nat.reduceSub, Nat.reduceBEq, Nat.reduceEqDiff, Nat.reduceLeDiff, Nat.reduceLT, Nat.reduceMod, Bool.false_eq_true, reduceIte, true_and, and_true, and_self, List.length_cons, List.length_nil, List.length_map, List.length_append, List.map_cons, List.map_nil, List.take_succ_cons, List.take_zero, List.drop_succ_cons, List.drop_zero, List.nil_append, List.cons_append, List.append_nil, List.getElem?_cons_zero, List.getElem?_cons_succ, List.getElem?_map, List.set_cons_zero, List.set_cons_succ, Option.map_some, beq_self_eq_true, List.all_cons, List.all_nil, Int.reduceLE, Int.reduceLT, Int.toNat_zero, Int.reduceToNat, Int.toNat_natCast, Int.natCast_nonneg, Nat.zero_add, Nat.le_refl, Nat.lt_irrefl, gt_iff_lt, decide_true, decide_false, Bool.not_true, Bool.not_false, List.range_succ, List.range_zero, List.getD_cons_zero, List.getD_cons_succ, maxLen, Nat.reducePow, Nat.zero_le, Nat.succ_ne_self, Nat.zero_mod, ty3, ty4, ty9, ty22, ty25, ty28, ty39, ty122, hq, hj2, treeC_eq]; try rfl) (by rfl) (by simp only [put, puts, setT, List.filter_cons, List.filter_nil, Nat.reduceBEq, Bool.false_eq_true, reduceIte, Bool.not_true, Bool.not_false, List.zip_cons_cons, List.zip_nil_left, List.zip_nil_right, List.map_cons, List.map_nil, AB.ren, AC.rens, AC.ren, AV.ren, AV.rens, nm, List.getD_cons_zero, List.getD_cons_succ]; exact ⟨rfl, rfl⟩) ?_
          | refine RunD.skip (by rfl) (by simp only [setT, List.filter_cons, List.filter_nil, Nat.reduceBEq, Bool.false_eq_true, reduceIte, Bool.not_true, Bool.not_false]; try rfl) ?_)
        refine RunD.nil ⟨by kernel_rfl, hN _ _ _ ?_⟩
        clear hN N
        simp only [List.length_cons, List.length_nil, Nat.reduceAdd, Nat.reduceMul, kSeq, kBlock, kFin, reduceIte, Nat.reduceEqDiff]
        refine W.condF (by rfl) ?_
        first | refine W.exit ?_ | refine W.ret ?_ | refine W.skip ?_
        try simp only [kSeq, kBlock, kFin, reduceIte, Nat.reduceEqDiff]
        have hw : IntKind.i64.wrap ((j : Int) + 1) = ((j + 1 : Nat) : Int) := wrap_i64 (by omega) (by omega)
        repeat (first | refine W.seq ?_ | refine W.block ?_)
        refine W.regionK (by decide) fun N hN => ?_
        repeat (first
          | refine RunS.any (by rfl) (by simp only [pl, o1, o2, o3, plBuiltin, evT, cv, okV, evParts, evCaps, look_cons, look_nil, plLoad, plStore, plAlloc, plBox, plBuild, plSlice, plFieldAddr, plField, plIndexAddr, plIndex, plBin, abin, plUn, plConv, plNil, plExtract, plLen, plMax, plAppend, elemsOf, readAt, ldv, cellsV, toF, allF, splice, afill, zeros, chunk, TK.agg, Nat.reduceAdd, Nat.reduceMul, Nat.reduceSub, Nat.reduceBEq, Nat.reduceEqDiff, Nat.reduceLeDiff, Nat.reduceLT, Nat.reduceMod, Bool.false_eq_true, reduceIte, true_and, and_true, and_self, List.length_cons, List.length_nil, List.length_map, List.length_append, List.map_cons, List.map_nil, List.take_succ_cons, List.take_zero, List.drop_succ_cons, List.drop_zero, List.nil_append, List.cons_append, List.append_nil, List.getElem?_cons_zero, List.getElem?_cons_succ, List.getElem?_map, List.set_cons_zero, List.set_cons_succ, Option.map_some, beq_self_eq_true, List.all_cons, List.all_nil, Int.reduceLE, Int.reduceLT, Int.toNat_zero, Int.reduceToNat, Int.toNat_natCast, Int.natCast_nonneg, Nat.zero_add, Nat.le_refl, Nat.lt_irrefl, gt_iff_lt, decide_true, decide_false, Bool.not_true, Bool.not_false, List.range_succ, List.range_zero, List.getD_cons_zero, List.getD_cons_succ, maxLen, Nat.reducePow, Nat.zero_le, Nat.succ_ne_self, Nat.zero_mod, ty3, ty4, ty9, ty22, ty25, ty28, ty39, ty122, hw]; try rfl) (by rfl) (by simp only [put, puts, setT, List.filter_cons, List.filter_nil, Nat.reduceBEq, Bool.false_eq_true, reduceIte, Bool.not_true, Bool.not_false, List.zip_cons_cons, List.zip_nil_left, List.zip_nil_right, List.map_cons, List.map_nil, AB.ren, AC.rens, AC.ren, AV.ren, AV.rens, nm, List.getD_cons_zero, List.getD_cons_succ]; exact ⟨rfl, rfl⟩) ?_
          | refine RunS.skip (by rfl) (by simp only [setT, List.filter_cons, List.filter_nil, Nat.reduceBEq, Bool.false_eq_true, reduceIte, Bool.not_true, Bool.not_false]; try rfl) ?_)
        refine RunS.nil (hN _ _ _ ?_)
        clear hN N
        simp only [List.length_cons, List.length_nil, Nat.reduceAdd, Nat.reduceMul, kSeq, kBlock, kFin, reduceIte, Nat.reduceEqDiff]
        refine ⟨j + 1, ⟨by omega, ?_⟩, by omega, ?_⟩
        · rw [take_snoc hq]; intro h
          rcases List.mem_append.1 h with h | h
          · exact hn h
          · have := List.mem_singleton.1 h; rw [← this] at b1; exact sameB_false.1 b1 rfl
        refine Wk.keep [] (by rfl) ?_ ?_ <;> simp only [keepT, keepH, look_cons, look_nil, AV.frz, AV.frzs, AC.frz, AC.frzs, AB.frz, lives, List.any_cons, List.any_nil, Nat.reduceBEq, Nat.reduceLT, Bool.false_eq_true, reduceIte, and_true, true_and, and_self, Option.some.injEq, decide_false, decide_true, Bool.or_false, Bool.or_true, Bool.false_or, Bool.true_or, beq_self_eq_true, List.contains_nil, List.contains_cons, List.length_map, List.length_cons, List.length_nil, List.length_append]
      · rw [b1] at hc1
        refine RunD.callP rfl (by rfl) (hc1) rfl (by simp only [evArgs, evT, cv, okV, look_cons, Nat.reduceBEq, Bool.false_eq_true, reduceIte]; try rfl) (by rfl) (by rfl) ?_
        repeat (first
          | refine RunD.any (by rfl) (by simp only [pl, o1, o2, o3, plBuiltin, evT, cv, okV, evParts, evCaps, look_cons, look_nil, plLoad, plStore, plAlloc, plBox, plBuild, plSlice, plFieldAddr, plField, plIndexAddr, plIndex, plBin, abin, plUn, plConv, plNil, plExtract, plLen, plMax, plAppend, elemsOf, readAt, ldv, cellsV, toF, allF, splice, afill, zeros, chunk, TK.agg, Nat.reduceAdd, Nat.reduceMul, Nat.reduceSub, Nat.reduceBEq, Nat.reduceEqDiff, Nat.reduceLeDiff, Nat.reduceLT, Nat.reduceMod, Bool.false_eq_true, reduceIte, true_and, and_true, and_self, List.length_cons, List.length_nil, List.length_map, List.length_append, List.map_cons, List.map_nil, List.take_succ_cons, List.take_zero, List.drop_succ_cons, List.drop_zero, List.nil_append, List.cons_append, List.append_nil, List.getElem?_cons_zero, List.getElem?_cons_succ, List.getElem?_map, List.set_cons_zero, List.set_cons_succ, Option.map_some, beq_self_eq_true, List.all_cons, List.all_nil, Int.reduceLE, Int.reduceLT, Int.toNat_zero, Int.reduceToNat, Int.toNat_natCast, Int.natCast_nonneg, Nat.zero_add, Nat.le_refl, Nat.lt_irrefl, gt_iff_lt, decide_true, decide_false, Bool.not_true, Bool.not_false, List.range_succ, List.range_zero, List.getD_cons_zero, List.getD_cons_succ, maxLen, Nat.reducePow, Nat.zero_le, Nat.succ_ne_self, Nat.zero_mod, ty3, ty4, ty9, ty22, ty25, ty28, ty39, ty122, hq, hj2, treeC_eq]; try rfl) (by rfl) (by simp only [put, puts, setT, List.filter_cons, List.filter_nil, Nat.reduceBEq, Bool.false_eq_true, reduceIte, Bool.not_true, Bool.not_false, List.zip_cons_cons, List.zip_nil_left, List.zip_nil_right, List.map_cons, List.map_nil, AB.ren, AC.rens, AC.ren, AV.ren, AV.rens, nm, List.getD_cons_zero, List.getD_cons_succ]; exact ⟨rfl, rfl⟩) ?_
          | refine RunD.skip (by rfl) (by simp only [setT, List.filter_cons, List.filter_nil, Nat.reduceBEq, Bool.false_eq_true, reduceIte, Bool.not_true, Bool.not_false]; try rfl) ?_)
        cases b2 : sameB q.2 u
        · rw [b2] at hc2
          refine RunD.callP rfl (by rfl) (hc2) rfl (by simp only [evArgs, evT, cv, okV, look_cons, Nat.reduceBEq, Bool.false_eq_true, reduceIte]; try rfl) (by rfl) (by rfl) ?_
          repeat (first
            | refine RunD.any (by rfl) (by simp only [pl, o1, o2, o3, plBuiltin, evT, cv, okV, evParts, evCaps, look_cons, look_nil, plLoad, plStore, plAlloc, plBox, plBuild, plSlice, plFieldAddr, plField, plIndexAddr, plIndex, plBin, abin, plUn, plConv, plNil, plExtract, plLen, plMax, plAppend, elemsOf, readAt, ldv, cellsV, toF, allF, splice, afill, zeros, chunk, TK.agg, Nat.reduceAdd, Nat.reduceMul, Nat.reduceSub, Nat.reduceBEq, Nat.reduceEqDiff, Nat.reduceLeDiff, Nat.reduceLT, Nat.reduceMod, Bool.false_eq_true, reduceIte, true_and, and_true, and_self, List.length_cons, List.length_nil, List.length_map, List.length_append, List.map_cons, List.map_nil, List.take_succ_cons, List.take_zero, List.drop_succ_cons, List.drop_zero, List.nil_append, List.cons_append, List.append_nil, List.getElem?_cons_zero, List.getElem?_cons_succ, List.getElem?_map, List.set_cons_zero, List.set_cons_succ, Option.map_some, beq_self_eq_true, List.all_cons, List.all_nil, Int.reduceLE, Int.reduceLT, Int.toNat_zero, Int.reduceToNat, Int.toNat_natCast, Int.natCast_nonneg, Nat.zero_add, Nat.le_refl, Nat.lt_irrefl, gt_iff_lt, decide_true, decide_false, Bool.not_true, Bool.not_false, List.range_succ, List.range_zero, List.getD_cons_zero, List.getD_cons_succ, maxLen, Nat.reducePow, Nat.zero_le, Nat.succ_ne_self, Nat.zero_mod, ty3, ty4, ty9, ty22, ty25, ty28, ty39, ty122]; try rfl) (by rfl) (by simp only [put, puts, setT, List.filter_cons, List.filter_nil, Nat.reduceBEq, Bool.false_eq_true, reduceIte, Bool.not_true, Bool.not_false, List.zip_cons_cons, List.zip_nil_left, List.zip_nil_right, List.map_cons, List.map_nil, AB.ren, AC.rens, AC.ren, AV.ren, AV.rens, nm, List.getD_cons_zero, List.getD_cons_succ]; exact ⟨rfl, rfl⟩) ?_
            | refine RunD.skip (by rfl) (by simp only [setT, List.filter_cons, List.filter_nil, Nat.reduceBEq, Bool.false_eq_true, reduceIte, Bool.not_true, Bool.not_false]; try rfl) ?_)
          refine RunD.nil ⟨by kernel_rfl, hN _ _ _ ?_⟩
          clear hN N
          simp only [List.length_cons, List.length_nil, Nat.reduceAdd, Nat.reduceMul, kSeq, kBlock, kFin, reduceIte, Nat.reduceEqDiff]
          refine W.condF (by rfl) ?_
          first | refine W.exit ?_ | refine W.ret ?_ | refine W.skip ?_
          try simp only [kSeq, kBlock, kFin, reduceIte, Nat.reduceEqDiff]
          have hw : IntKind.i64.wrap ((j : Int) + 1) = ((j + 1 : Nat) : Int) := wrap_i64 (by omega) (by omega)
          repeat (first | refine W.seq ?_ | refine W.block ?_)
          refine W.regionK (by decide) fun N hN => ?_
          repeat (first
            | refine RunS.any (by rfl) (by simp only [pl, o1, o2, o3, plBuiltin, evT, cv, okV, evParts, evCaps, look_cons, look_nil, plLoad, plStore, plAlloc, plBox, plBuild, plSlice, plFieldAddr, plField, plIndexAddr, plIndex, plBin, abin, plUn, plConv, plNil, plExtract, plLen, plMax, plAppend, elemsOf, readAt, ldv, cellsV, toF, allF, splice, afill, zeros, chunk, TK.agg, Nat.reduceAdd, Nat.reduceMul, Nat.reduceSub, Nat.reduceBEq, Nat.reduceEqDiff, Nat.reduceLeDiff, Nat.reduceLT, Nat.reduceMod, Bool.false_eq_true, reduceIte, true_and, and_true, and_self, List.length_cons, List.length_nil, List.length_map, List.length_append, List.map_cons, List.map_nil, List.take_succ_cons, List.take_zero, List.drop_succ_cons, List.drop_zero, List.nil_append, List.cons_append, List.append_nil, List.getElem?_cons_zero, List.getElem?_cons_succ, List.getElem?_map, List.set_cons_zero, List.set_cons_succ, Option.map_some, beq_self_eq_true, List.all_cons, List.all_nil, Int.reduceLE, Int.reduceLT, Int.toNat_zero, Int.reduceToNat, Int.toNat_natCast, Int.natCast_nonneg, Nat.zero_add, Nat.le_refl, Nat.lt_irrefl, gt_iff_lt, decide_true, decide_false, Bool.not_true, Bool.not_false, List.range_succ, List.range_zero, List.getD_cons_zero, List.getD_cons_succ, maxLen, Nat.reducePow, Nat.zero_le, Nat.succ_ne_self, Nat.zero_mod, ty3, ty4, ty9, ty22, ty25, ty28, ty39, ty122, hw]; try rfl) (by rfl) (by simp only [put, puts, setT, List.filter_cons, List.filter_nil, Nat.reduceBEq, Bool.false_eq_true, reduceIte, Bool.not_true, Bool.not_false, List.zip_cons_cons, List.zip_nil_left, List.zip_nil_right, List.map_cons, List.map_nil, AB.ren, AC.rens, AC.ren, AV.ren, AV.rens, nm, List.getD_cons_zero, List.getD_cons_succ]; exact ⟨rfl, rfl⟩) ?_
            | refine RunS.skip (by rfl) (by simp only [setT, List.filter_cons, List.filter_nil, Nat.reduceBEq, Bool.false_eq_true, reduceIte, Bool.not_true, Bool.not_false]; try rfl) ?_)
          refine RunS.nil (hN _ _ _ ?_)
          clear hN N
          simp only [List.length_cons, List.length_nil, Nat.reduceAdd, Nat.reduceMul, kSeq, kBlock, kFin, reduceIte, Nat.reduceEqDiff]
          refine ⟨j + 1, ⟨by omega, ?_⟩, by omega, ?_⟩
          · rw [take_snoc hq]; intro h
            rcases List.mem_append.1 h with h | h
            · exact hn h
            · have := List.mem_singleton.1 h; rw [← this] at b2; exact sameB_false.1 b2 rfl
          refine Wk.keep [] (by rfl) ?_ ?_ <;> simp only [keepT, keepH, look_cons, look_nil, AV.frz, AV.frzs, AC.frz, AC.frzs, AB.frz, lives, List.any_cons, List.any_nil, Nat.reduceBEq, Nat.reduceLT, Bool.false_eq_true, reduceIte, and_true, true_and, and_self, Option.some.injEq, decide_false, decide_true, Bool.or_false, Bool.or_true, Bool.false_or, Bool.true_or, beq_self_eq_true, List.contains_nil, List.contains_cons, List.length_map, List.length_cons, List.length_nil, List.length_append]
        · rw [b2] at hc2
          refine RunD.callP rfl (by rfl) (hc2) rfl (by simp only [evArgs, evT, cv, okV, look_cons, Nat.reduceBEq, Bool.false_eq_true, reduceIte]; try rfl) (by rfl) (by rfl) ?_
          repeat (first
            | refine RunD.any (by rfl) (by simp only [pl, o1, o2, o3, plBuiltin, evT, cv, okV, evParts, evCaps, look_cons, look_nil, plLoad, plStore, plAlloc, plBox, plBuild, plSlice, plFieldAddr, plField, plIndexAddr, plIndex, plBin, abin, plUn, plConv, plNil, plExtract, plLen, plMax, plAppend, elemsOf, readAt, ldv, cellsV, toF, allF, splice, afill, zeros, chunk, TK.agg, Nat.reduceAdd, Nat.reduceMul, Nat.reduceSub, Nat.reduceBEq, Nat.reduceEqDiff, Nat.reduceLeDiff, Nat.reduceLT, Nat.reduceMod, Bool.false_eq_true, reduceIte, true_and, and_true, and_self, List.length_cons, List.length_nil, List.length_map, List.length_append, List.map_cons, List.map_nil, List.take_succ_cons, List.take_zero, List.drop_succ_cons, List.drop_zero, List.nil_append, List.cons_append, List.append_nil, List.getElem?_cons_zero, List.getElem?_cons_succ, List.getElem?_map, List.set_cons_zero, List.set_cons_succ, Option.map_some, beq_self_eq_true, List.all_cons, List.all_nil, Int.reduceLE, Int.reduceLT, Int.toNat_zero, Int.reduceToNat, Int.toNat_natCast, Int.natCast_nonneg, Nat.zero_add, Nat.le_refl, Nat.lt_irrefl, gt_iff_lt, decide_true, decide_false, Bool.not_true, Bool.not_false, List.range_succ, List.range_zero, List.getD_cons_zero, List.getD_cons_succ, maxLen, Nat.reducePow, Nat.zero_le, Nat.succ_ne_self, Nat.zero_mod, ty3, ty4, ty9, ty22, ty25, ty28, ty39, ty122]; try rfl) (by rfl) (by simp only [put, puts, setT, List.filter_cons, List.filter_nil, Nat.reduceBEq, Bool.false_eq_true, reduceIte, Bool.not_true, Bool.not_false, List.zip_cons_cons, List.zip_nil_left, List.zip_nil_right, List.map_cons, List.map_nil, AB.ren, AC.rens, AC.ren, AV.ren, AV.rens, nm, List.getD_cons_zero, List.getD_cons_succ]; exact ⟨rfl, rfl⟩) ?_
            | refine RunD.skip (by rfl) (by simp only [setT, List.filter_cons, List.filter_nil, Nat.reduceBEq, Bool.false_eq_true, reduceIte, Bool.not_true, Bool.not_false]; try rfl) ?_)
          refine RunD.nil ⟨by kernel_rfl, hN _ _ _ ?_⟩
          clear hN N
          simp only [List.length_cons, List.length_nil, Nat.reduceAdd, Nat.reduceMul, kSeq, kBlock, kFin, reduceIte, Nat.reduceEqDiff]
          refine W.condT (by rfl) ?_
          have hqe : q = (t, u) := by rw [← sameB_iff.1 b1, ← sameB_iff.1 b2]
          have hmem : (t, u) ∈ p := hqe ▸ List.mem_of_getElem? hq
          have hpi : pidx p (t, u) = j := pidx_at (by rw [hq, hqe]) hn
          have hpa : padd p (t, u) = p := by unfold padd; rw [if_pos hmem]
          rw [hpi, hpa]
          have hc3 := variable_ok (j : Int)
          repeat (first | refine W.seq ?_ | refine W.block ?_)
          refine W.regionK (by decide) fun N hN => ?_
          repeat (first
            | refine RunS.any (by rfl) (by simp only [pl, o1, o2, o3, plBuiltin, evT, cv, okV, evParts, evCaps, look_cons, look_nil, plLoad, plStore, plAlloc, plBox, plBuild, plSlice, plFieldAddr, plField, plIndexAddr, plIndex, plBin, abin, plUn, plConv, plNil, plExtract, plLen, plMax, plAppend, elemsOf, readAt, ldv, cellsV, toF, allF, splice, afill, zeros, chunk, TK.agg, Nat.reduceAdd, Nat.reduceMul, Nat.reduceSub, Nat.reduceBEq, Nat.reduceEqDiff, Nat.reduceLeDiff, Nat.reduceLT, Nat.reduceMod, Bool.false_eq_true, reduceIte, true_and, and_true, and_self, List.length_cons, List.length_nil, List.length_map, List.length_append, List.map_cons, List.map_nil, List.take_succ_cons, List.take_zero, List.drop_succ_cons, List.drop_zero, List.nil_append, List.cons_append, List.append_nil, List.getElem?_cons_zero, List.getElem?_cons_succ, List.getElem?_map, List.set_cons_zero, List.set_cons_succ, Option.map_some, beq_self_eq_true, List.all_cons, List.all_nil, Int.reduceLE, Int.reduceLT, Int.toNat_zero, Int.reduceToNat, Int.toNat_natCast, Int.natCast_nonneg, Nat.zero_add, Nat.le_refl, Nat.lt_irrefl, gt_iff_lt, decide_true, decide_false, Bool.not_true, Bool.not_false, List.range_succ, List.range_zero, List.getD_cons_zero, List.getD_cons_succ, maxLen, Nat.reducePow, Nat.zero_le, Nat.succ_ne_self, Nat.zero_mod, ty3, ty4, ty9, ty22, ty25, ty28, ty39, ty122]; try rfl) (by rfl) (by simp only [put, puts, setT, List.filter_cons, List.filter_nil, Nat.reduceBEq, Bool.false_eq_true, reduceIte, Bool.not_true, Bool.not_false, List.zip_cons_cons, List.zip_nil_left, List.zip_nil_right, List.map_cons, List.map_nil, AB.ren, AC.rens, AC.ren, AV.ren, AV.rens, nm, List.getD_cons_zero, List.getD_cons_succ]; exact ⟨rfl, rfl⟩) ?_
            | refine RunS.skip (by rfl) (by simp only [setT, List.filter_cons, List.filter_nil, Nat.reduceBEq, Bool.false_eq_true, reduceIte, Bool.not_true, Bool.not_false]; try rfl) ?_)
          refine RunS.callP rfl (by rfl) (hc3) rfl (by simp only [evArgs, evT, cv, okV, look_cons, Nat.reduceBEq, Bool.false_eq_true, reduceIte]; try rfl) (by rfl) (by rfl) ?_
          repeat (first
            | refine RunS.any (by rfl) (by simp only [pl, o1, o2, o3, plBuiltin, evT, cv, okV, evParts, evCaps, look_cons, look_nil, plLoad, plStore, plAlloc, plBox, plBuild, plSlice, plFieldAddr, plField, plIndexAddr, plIndex, plBin, abin, plUn, plConv, plNil, plExtract, plLen, plMax, plAppend, elemsOf, readAt, ldv, cellsV, toF, allF, splice, afill, zeros, chunk, TK.agg, Nat.reduceAdd, Nat.reduceMul, Nat.reduceSub, Nat.reduceBEq, Nat.reduceEqDiff, Nat.reduceLeDiff, Nat.reduceLT, Nat.reduceMod, Bool.false_eq_true, reduceIte, true_and, and_true, and_self, List.length_cons, List.length_nil, List.length_map, List.length_append, List.map_cons, List.map_nil, List.take_succ_cons, List.take_zero, List.drop_succ_cons, List.drop_zero, List.nil_append, List.cons_append, List.append_nil, List.getElem?_cons_zero, List.getElem?_cons_succ, List.getElem?_map, List.set_cons_zero, List.set_cons_succ, Option.map_some, beq_self_eq_true, List.all_cons, List.all_nil, Int.reduceLE, Int.reduceLT, Int.toNat_zero, Int.reduceToNat, Int.toNat_natCast, Int.natCast_nonneg, Nat.zero_add, Nat.le_refl, Nat.lt_irrefl, gt_iff_lt, decide_true, decide_false, Bool.not_true, Bool.not_false, List.range_succ, List.range_zero, List.getD_cons_zero, List.getD_cons_succ, maxLen, Nat.reducePow, Nat.zero_le, Nat.succ_ne_self, Nat.zero_mod, ty3, ty4, ty9, ty22, ty25, ty28, ty39, ty122]; try rfl) (by rfl) (by simp only [put, puts, setT, List.filter_cons, List.filter_nil, Nat.reduceBEq, Bool.false_eq_true, reduceIte, Bool.not_true, Bool.not_false, List.zip_cons_cons, List.zip_nil_left, List.zip_nil_right, List.map_cons, List.map_nil, AB.ren, AC.rens, AC.ren, AV.ren, AV.rens, nm, List.getD_cons_zero, List.getD_cons_succ]; exact ⟨rfl, rfl⟩) ?_
            | refine RunS.skip (by rfl) (by simp only [setT, List.filter_cons, List.filter_nil, Nat.reduceBEq, Bool.false_eq_true, reduceIte, Bool.not_true, Bool.not_false]; try rfl) ?_)
          refine RunS.nil (hN _ _ _ ?_)
          clear hN N
          simp only [List.length_cons, List.length_nil, Nat.reduceAdd, Nat.reduceMul, kSeq, kBlock, kFin, reduceIte, Nat.reduceEqDiff]
          first | refine W.exit ?_ | refine W.ret ?_ | refine W.skip ?_
          try simp only [kSeq, kBlock, kFin, reduceIte, Nat.reduceEqDiff]
          refine Fin.keep (T' := [(6, .one (.ptr 5 0))]) (H' := [(0, .box 122 [.row 1 p.length, .row 2 p.length]), (1, .row 25 4 (p.map fun q => treeC q.1)), (2, .row 25 4 (p.map fun q => treeC q.2)), (5, .box 25 (cA (Tm.va j)))]) (nx' := 6) ?_ [0, 1, 2] (xs := ?_) ?_ ?_ ?_ ?_
          · refine Wk.keep [] (by rfl) ?_ ?_ <;> simp only [keepT, keepH, look_cons, look_nil, AV.frz, AV.frzs, AC.frz, AC.frzs, AB.frz, lives, List.any_cons, List.any_nil, Nat.reduceBEq, Nat.reduceLT, Bool.false_eq_true, reduceIte, and_true, true_and, and_self, Option.some.injEq, decide_false, decide_true, Bool.or_false, Bool.or_true, Bool.false_or, Bool.true_or, beq_self_eq_true, List.contains_nil, List.contains_cons, List.length_map, List.length_cons, List.length_nil, List.length_append, cA]
          rotate_left
          · simp only [pl, o1, o2, o3, plBuiltin, evT, cv, okV, evParts, evCaps, look_cons, look_nil, plLoad, plStore, plAlloc, plBox, plBuild, plSlice, plFieldAddr, plField, plIndexAddr, plIndex, plBin, abin, plUn, plConv, plNil, plExtract, plLen, plMax, plAppend, elemsOf, readAt, ldv, cellsV, toF, allF, splice, afill, zeros, chunk, TK.agg, Nat.reduceAdd, Nat.reduceMul, Nat.reduceSub, Nat.reduceBEq, Nat.reduceEqDiff, Nat.reduceLeDiff, Nat.reduceLT, Nat.reduceMod, Bool.false_eq_true, reduceIte, true_and, and_true, and_self, List.length_cons, List.length_nil, List.length_map, List.length_append, List.map_cons, List.map_nil, List.take_succ_cons, List.take_zero, List.drop_succ_cons, List.drop_zero, List.nil_append, List.cons_append, List.append_nil, List.getElem?_cons_zero, List.getElem?_cons_succ, List.getElem?_map, List.set_cons_zero, List.set_cons_succ, Option.map_some, beq_self_eq_true, List.all_cons, List.all_nil, Int.reduceLE, Int.reduceLT, Int.toNat_zero, Int.reduceToNat, Int.toNat_natCast, Int.natCast_nonneg, Nat.zero_add, Nat.le_refl, Nat.lt_irrefl, gt_iff_lt, decide_true, decide_false, Bool.not_true, Bool.not_false, List.range_succ, List.range_zero, List.getD_cons_zero, List.getD_cons_succ, maxLen, Nat.reducePow, Nat.zero_le, Nat.succ_ne_self, Nat.zero_mod, ty3, ty4, ty9, ty22, ty25, ty28, ty39, ty122, resA, cA]; try rfl
          · simp only [outA, put, puts, setT, List.filter_cons, List.filter_nil, Nat.reduceBEq, Bool.false_eq_true, reduceIte, Bool.not_true, Bool.not_false, List.zip_cons_cons, List.zip_nil_left, List.zip_nil_right, List.map_cons, List.map_nil, AB.ren, AC.rens, AC.ren, AV.ren, AV.rens, nm, List.getD_cons_zero, List.getD_cons_succ, cA]
          · kernel_rfl
          · simp only [enumL, List.forall_mem_cons, List.not_mem_nil, false_implies, implies_true, and_true, look_cons, look_nil, put, puts, setT, List.filter_cons, List.filter_nil, Nat.reduceBEq, Bool.false_eq_true, reduceIte, Bool.not_true, Bool.not_false, List.zip_cons_cons, List.zip_nil_left, List.zip_nil_right, List.map_cons, List.map_nil, AB.ren, AC.rens, AC.ren, AV.ren, AV.rens, nm, List.getD_cons_zero, List.getD_cons_succ, Nat.reduceAdd, List.map_append, List.length_append, List.length_cons, List.length_nil, cA]; try trivial
    · first | refine W.exit ?_ | refine W.ret ?_ | refine W.skip ?_
      try simp only [kSeq, kBlock, kFin, reduceIte, Nat.reduceEqDiff]
      have hje : j = p.length := by omega
      subst hje
      rw [List.take_length] at hn
      have hpi : pidx p (t, u) = p.length := pidx_not hn
      have hpa : padd p (t, u) = p ++ [(t, u)] := by unfold padd; rw [if_neg hn]
      rw [hpi, hpa]
      have hb1 : p.length + 1 ≤ 9223372036854775807 := by omega
      have hb2 : (p.length + 1) * 56 ≤ 140737488355328 := by omega
      have hs1 := fun (z x : List FC) => set_snoc (l := p.map fun q => treeC q.1) (n := p.length) (by simp) z x
      have hs2 := fun (z x : List FC) => set_snoc (l := p.map fun q => treeC q.2) (n := p.length) (by simp) z x
      have hg1 := fun (z : List FC) => get_snoc (l := p.map fun q => treeC q.1) (n := p.length) (by simp) z
      have hg2 := fun (z : List FC) => get_snoc (l := p.map fun q => treeC q.2) (n := p.length) (by simp) z
      repeat (first | refine W.seq ?_ | refine W.block ?_)
      refine W.regionDK mixed (by decide) (by rfl) fun N hN => ?_
      repeat (first
        | refine RunD.any (by rfl) (by simp only [pl, o1, o2, o3, plBuiltin, evT, cv, okV, evParts, evCaps, look_cons, look_nil, plLoad, plStore, plAlloc, plBox, plBuild, plSlice, plFieldAddr, plField, plIndexAddr, plIndex, plBin, abin, plUn, plConv, plNil, plExtract, plLen, plMax, plAppend, elemsOf, readAt, ldv, cellsV, toF, allF, splice, afill, zeros, chunk, TK.agg, Nat.reduceAdd, Nat.reduceMul, Nat.reduceSub, Nat.reduceBEq, Nat.reduceEqDiff, Nat.reduceLeDiff, Nat.reduceLT, Nat.reduceMod, Bool.false_eq_true, reduceIte, true_and, and_true, and_self, List.length_cons, List.length_nil, List.length_map, List.length_append, List.map_cons, List.map_nil, List.take_succ_cons, List.take_zero, List.drop_succ_cons, List.drop_zero, List.nil_append, List.cons_append, List.append_nil, List.getElem?_cons_zero, List.getElem?_cons_succ, List.getElem?_map, List.set_cons_zero, List.set_cons_succ, Option.map_some, beq_self_eq_true, List.all_cons, List.all_nil, Int.reduceLE, Int.reduceLT, Int.toNat_zero, Int.reduceToNat, Int.toNat_natCast, Int.natCast_nonneg, Nat.zero_add, Nat.le_refl, Nat.lt_irrefl, gt_iff_lt, decide_true, decide_false, Bool.not_true, Bool.not_false, List.range_succ, List.range_zero, List.getD_cons_zero, List.getD_cons_succ, maxLen, Nat.reducePow, Nat.zero_le, Nat.succ_ne_self, Nat.zero_mod, ty3, ty4, ty9, ty22, ty25, ty28, ty39, ty122, hb1, hb2, hs1, hs2, hg1, hg2, Nat.lt_add_one]; try rfl) (by rfl) (by simp only [put, puts, setT, List.filter_cons, List.filter_nil, Nat.reduceBEq, Bool.false_eq_true, reduceIte, Bool.not_true, Bool.not_false, List.zip_cons_cons, List.zip_nil_left, List.zip_nil_right, List.map_cons, List.map_nil, AB.ren, AC.rens, AC.ren, AV.ren, AV.rens, nm, List.getD_cons_zero, List.getD_cons_succ]; exact ⟨rfl, rfl⟩) ?_
        | refine RunD.skip (by rfl) (by simp only [setT, List.filter_cons, List.filter_nil, Nat.reduceBEq, Bool.false_eq_true, reduceIte, Bool.not_true, Bool.not_false]; try rfl) ?_)
      refine RunD.nil ⟨by kernel_rfl, hN _ _ _ ?_⟩
      clear hN N
      simp only [List.length_cons, List.length_nil, Nat.reduceAdd, Nat.reduceMul, kSeq, kBlock, kFin, reduceIte, Nat.reduceEqDiff]
      repeat (first | refine W.seq ?_ | refine W.block ?_)
      refine W.regionDK mixed (by decide) (by rfl) fun N hN => ?_
      repeat (first
        | refine RunD.any (by rfl) (by simp only [pl, o1, o2, o3, plBuiltin, evT, cv, okV, evParts, evCaps, look_cons, look_nil, plLoad, plStore, plAlloc, plBox, plBuild, plSlice, plFieldAddr, plField, plIndexAddr, plIndex, plBin, abin, plUn, plConv, plNil, plExtract, plLen, plMax, plAppend, elemsOf, readAt, ldv, cellsV, toF, allF, splice, afill, zeros, chunk, TK.agg, Nat.reduceAdd, Nat.reduceMul, Nat.reduceSub, Nat.reduceBEq, Nat.reduceEqDiff, Nat.reduceLeDiff, Nat.reduceLT, Nat.reduceMod, Bool.false_eq_true, reduceIte, true_and, and_true, and_self, List.length_cons, List.length_nil, List.length_map, List.length_append, List.map_cons, List.map_nil, List.take_succ_cons, List.take_zero, List.drop_succ_cons, List.drop_zero, List.nil_append, List.cons_append, List.append_nil, List.getElem?_cons_zero, List.getElem?_cons_succ, List.getElem?_map, List.set_cons_zero, List.set_cons_succ, Option.map_some, beq_self_eq_true, List.all_cons, List.all_nil, Int.reduceLE, Int.reduceLT, Int.toNat_zero, Int.reduceToNat, Int.toNat_natCast, Int.natCast_nonneg, Nat.zero_add, Nat.le_refl, Nat.lt_irrefl, gt_iff_lt, decide_true, decide_false, Bool.not_true, Bool.not_false, List.range_succ, List.range_zero, List.getD_cons_zero, List.getD_cons_succ, maxLen, Nat.reducePow, Nat.zero_le, Nat.succ_ne_self, Nat.zero_mod, ty3, ty4, ty9, ty22, ty25, ty28, ty39, ty122, hb1, hb2, hs1, hs2, hg1, hg2, Nat.lt_add_one]; try rfl) (by rfl) (by simp only [put, puts, setT, List.filter_cons, List.filter_nil, Nat.reduceBEq, Bool.false_eq_true, reduceIte, Bool.not_true, Bool.not_false, List.zip_cons_cons, List.zip_nil_left, List.zip_nil_right, List.map_cons, List.map_nil, AB.ren, AC.rens, AC.ren, AV.ren, AV.rens, nm, List.getD_cons_zero, List.getD_cons_succ]; exact ⟨rfl, rfl⟩) ?_
        | refine RunD.skip (by rfl) (by simp only [setT, List.filter_cons, List.filter_nil, Nat.reduceBEq, Bool.false_eq_true, reduceIte, Bool.not_true, Bool.not_false]; try rfl) ?_)
      refine RunD.nil ⟨by kernel_rfl, hN _ _ _ ?_⟩
      clear hN N
      simp only [List.length_cons, List.length_nil, Nat.reduceAdd, Nat.reduceMul, kSeq, kBlock, kFin, reduceIte, Nat.reduceEqDiff]
      have hw1 : IntKind.i64.wrap (((p.length + 1 : Nat) : Int) - 1) = (p.length : Int) := by rw [wrap_i64] <;> omega
      have hc3 := variable_ok (p.length : Int)
      repeat (first | refine W.seq ?_ | refine W.block ?_)
      refine W.regionK (by decide) fun N hN => ?_
      repeat (first
        | refine RunS.any (by rfl) (by simp only [pl, o1, o2, o3, plBuiltin, evT, cv, okV, evParts, evCaps, look_cons, look_nil, plLoad, plStore, plAlloc, plBox, plBuild, plSlice, plFieldAddr, plField, plIndexAddr, plIndex, plBin, abin, plUn, plConv, plNil, plExtract, plLen, plMax, plAppend, elemsOf, readAt, ldv, cellsV, toF, allF, splice, afill, zeros, chunk, TK.agg, Nat.reduceAdd, Nat.reduceMul, Nat.reduceSub, Nat.reduceBEq, Nat.reduceEqDiff, Nat.reduceLeDiff, Nat.reduceLT, Nat.reduceMod, Bool.false_eq_true, reduceIte, true_and, and_true, and_self, List.length_cons, List.length_nil, List.length_map, List.length_append, List.map_cons, List.map_nil, List.take_succ_cons, List.take_zero, List.drop_succ_cons, List.drop_zero, List.nil_append, List.cons_append, List.append_nil, List.getElem?_cons_zero, List.getElem?_cons_succ, List.getElem?_map, List.set_cons_zero, List.set_cons_succ, Option.map_some, beq_self_eq_true, List.all_cons, List.all_nil, Int.reduceLE, Int.reduceLT, Int.toNat_zero, Int.reduceToNat, Int.toNat_natCast, Int.natCast_nonneg, Nat.zero_add, Nat.le_refl, Nat.lt_irrefl, gt_iff_lt, decide_true, decide_false, Bool.not_true, Bool.not_false, List.range_succ, List.range_zero, List.getD_cons_zero, List.getD_cons_succ, maxLen, Nat.reducePow, Nat.zero_le, Nat.succ_ne_self, Nat.zero_mod, ty3, ty4, ty9, ty22, ty25, ty28, ty39, ty122, hw1]; try rfl) (by rfl) (by simp only [put, puts, setT, List.filter_cons, List.filter_nil, Nat.reduceBEq, Bool.false_eq_true, reduceIte, Bool.not_true, Bool.not_false, List.zip_cons_cons, List.zip_nil_left, List.zip_nil_right, List.map_cons, List.map_nil, AB.ren, AC.rens, AC.ren, AV.ren, AV.rens, nm, List.getD_cons_zero, List.getD_cons_succ]; exact ⟨rfl, rfl⟩) ?_
        | refine RunS.skip (by rfl) (by simp only [setT, List.filter_cons, List.filter_nil, Nat.reduceBEq, Bool.false_eq_true, reduceIte, Bool.not_true, Bool.not_false]; try rfl) ?_)
      refine RunS.callP rfl (by rfl) (hc3) rfl (by simp only [evArgs, evT, cv, okV, look_cons, Nat.reduceBEq, Bool.false_eq_true, reduceIte]; try rfl) (by rfl) (by rfl) ?_
      repeat (first
        | refine RunS.any (by rfl) (by simp only [pl, o1, o2, o3, plBuiltin, evT, cv, okV, evParts, evCaps, look_cons, look_nil, plLoad, plStore, plAlloc, plBox, plBuild, plSlice, plFieldAddr, plField, plIndexAddr, plIndex, plBin, abin, plUn, plConv, plNil, plExtract, plLen, plMax, plAppend, elemsOf, readAt, ldv, cellsV, toF, allF, splice, afill, zeros, chunk, TK.agg, Nat.reduceAdd, Nat.reduceMul, Nat.reduceSub, Nat.reduceBEq, Nat.reduceEqDiff, Nat.reduceLeDiff, Nat.reduceLT, Nat.reduceMod, Bool.false_eq_true, reduceIte, true_and, and_true, and_self, List.length_cons, List.length_nil, List.length_map, List.length_append, List.map_cons, List.map_nil, List.take_succ_cons, List.take_zero, List.drop_succ_cons, List.drop_zero, List.nil_append, List.cons_append, List.append_nil, List.getElem?_cons_zero, List.getElem?_cons_succ, List.getElem?_map, List.set_cons_zero, List.set_cons_succ, Option.map_some, beq_self_eq_true, List.all_cons, List.all_nil, Int.reduceLE, Int.reduceLT, Int.toNat_zero, Int.reduceToNat, Int.toNat_natCast, Int.natCast_nonneg, Nat.zero_add, Nat.le_refl, Nat.lt_irrefl, gt_iff_lt, decide_true, decide_false, Bool.not_true, Bool.not_false, List.range_succ, List.range_zero, List.getD_cons_zero, List.getD_cons_succ, maxLen, Nat.reducePow, Nat.zero_le, Nat.succ_ne_self, Nat.zero_mod, ty3, ty4, ty9, ty22, ty25, ty28, ty39, ty122]; try rfl) (by rfl) (by simp only [put, puts, setT, List.filter_cons, List.filter_nil, Nat.reduceBEq, Bool.false_eq_true, reduceIte, Bool.not_true, Bool.not_false, List.zip_cons_cons, List.zip_nil_left, List.zip_nil_right, List.map_cons, List.map_nil, AB.ren, AC.rens, AC.ren, AV.ren, AV.rens, nm, List.getD_cons_zero, List.getD_cons_succ]; exact ⟨rfl, rfl⟩) ?_
        | refine RunS.skip (by rfl) (by simp only [setT, List.filter_cons, List.filter_nil, Nat.reduceBEq, Bool.false_eq_true, reduceIte, Bool.not_true, Bool.not_false]; try rfl) ?_)
      refine RunS.nil (hN _ _ _ ?_)
      clear hN N
      simp only [List.length_cons, List.length_nil, Nat.reduceAdd, Nat.reduceMul, kSeq, kBlock, kFin, reduceIte, Nat.reduceEqDiff]
      first | refine W.exit ?_ | refine W.ret ?_ | refine W.skip ?_
      try simp only [kSeq, kBlock, kFin, reduceIte, Nat.reduceEqDiff]
      refine Fin.keep (T' := [(6, .one (.ptr 5 0))]) (H' := [(0, .box 122 [.row 1 (p.length + 1), .row 2 (p.length + 1)]), (1, .row 25 4 (p.map (fun q => treeC q.1) ++ [treeC t])), (2, .row 25 4 (p.map (fun q => treeC q.2) ++ [treeC u])), (5, .box 25 (cA (Tm.va p.length)))]) (nx' := 6) ?_ [0, 1, 2] (xs := ?_) ?_ ?_ ?_ ?_
      · refine Wk.keep [] (by rfl) ?_ ?_ <;> simp only [keepT, keepH, look_cons, look_nil, AV.frz, AV.frzs, AC.frz, AC.frzs, AB.frz, lives, List.any_cons, List.any_nil, Nat.reduceBEq, Nat.reduceLT, Bool.false_eq_true, reduceIte, and_true, true_and, and_self, Option.some.injEq, decide_false, decide_true, Bool.or_false, Bool.or_true, Bool.false_or, Bool.true_or, beq_self_eq_true, List.contains_nil, List.contains_cons, List.length_map, List.length_cons, List.length_nil, List.length_append, cA, treeC_eq t, treeC_eq u]
      rotate_left
      · simp only [pl, o1, o2, o3, plBuiltin, evT, cv, okV, evParts, evCaps, look_cons, look_nil, plLoad, plStore, plAlloc, plBox, plBuild, plSlice, plFieldAddr, plField, plIndexAddr, plIndex, plBin, abin, plUn, plConv, plNil, plExtract, plLen, plMax, plAppend, elemsOf, readAt, ldv, cellsV, toF, allF, splice, afill, zeros, chunk, TK.agg, Nat.reduceAdd, Nat.reduceMul, Nat.reduceSub, Nat.reduceBEq, Nat.reduceEqDiff, Nat.reduceLeDiff, Nat.reduceLT, Nat.reduceMod, Bool.false_eq_true, reduceIte, true_and, and_true, and_self, List.length_cons, List.length_nil, List.length_map, List.length_append, List.map_cons, List.map_nil, List.take_succ_cons, List.take_zero, List.drop_succ_cons, List.drop_zero, List.nil_append, List.cons_append, List.append_nil, List.getElem?_cons_zero, List.getElem?_cons_succ, List.getElem?_map, List.set_cons_zero, List.set_cons_succ, Option.map_some, beq_self_eq_true, List.all_cons, List.all_nil, Int.reduceLE, Int.reduceLT, Int.toNat_zero, Int.reduceToNat, Int.toNat_natCast, Int.natCast_nonneg, Nat.zero_add, Nat.le_refl, Nat.lt_irrefl, gt_iff_lt, decide_true, decide_false, Bool.not_true, Bool.not_false, List.range_succ, List.range_zero, List.getD_cons_zero, List.getD_cons_succ, maxLen, Nat.reducePow, Nat.zero_le, Nat.succ_ne_self, Nat.zero_mod, ty3, ty4, ty9, ty22, ty25, ty28, ty39, ty122, resA, cA, treeC_eq t, treeC_eq u]; try rfl
      · simp only [outA, put, puts, setT, List.filter_cons, List.filter_nil, Nat.reduceBEq, Bool.false_eq_true, reduceIte, Bool.not_true, Bool.not_false, List.zip_cons_cons, List.zip_nil_left, List.zip_nil_right, List.map_cons, List.map_nil, AB.ren, AC.rens, AC.ren, AV.ren, AV.rens, nm, List.getD_cons_zero, List.getD_cons_succ, cA, treeC_eq t, treeC_eq u]
      · kernel_rfl
      · simp only [enumL, List.forall_mem_cons, List.not_mem_nil, false_implies, implies_true, and_true, look_cons, look_nil, put, puts, setT, List.filter_cons, List.filter_nil, Nat.reduceBEq, Bool.false_eq_true, reduceIte, Bool.not_true, Bool.not_false, List.zip_cons_cons, List.zip_nil_left, List.zip_nil_right, List.map_cons, List.map_nil, AB.ren, AC.rens, AC.ren, AV.ren, AV.rens, nm, List.getD_cons_zero, List.getD_cons_succ, Nat.reduceAdd, List.map_append, List.length_append, List.length_cons, List.length_nil, cA, treeC_eq t, treeC_eq u]; try trivial
end Go.Proofs.Ytfhgknmkpegpbaa
