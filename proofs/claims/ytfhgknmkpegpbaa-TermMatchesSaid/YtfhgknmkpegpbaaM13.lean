/- Part 13 of the base: the walks and plain facts that the statement rests on. -/
import Derived.Test.YtfhgknmkpegpbaaM12
import Derived.Test.YtfhgknmkpegpbaaM11
import Derived.Test.YtfhgknmkpegpbaaM6

set_option linter.unusedVariables false
set_option linter.unusedSimpArgs false
namespace Go.Proofs.Ytfhgknmkpegpbaa
open Go Go.Abs Go.Proofs Go.RowKit
set_option maxRecDepth 100000 in
theorem intsEq_ok (xs : List Int) (hl : xs.length ≤ 1000000) : ACall Try.prog 34 [.one (.f (intsF xs)), .one (.f (intsF xs))] [] (vB true) [] := by
 have d0 : decide ((xs.length : Int) ≠ (xs.length : Int)) = false := by simp
 refine acall_of Try.func34 (by decide) rfl Try.results34 (by rw [Try.ntmps34]; simp) (by simp) ?_
 rw [Try.ntmps34]
 simp only [enumL, List.length_nil, List.length_cons, Nat.reduceAdd]
 repeat (first
  | refine RunS.mv rfl (by rfl) (by rfl) rfl (by rfl) ?_ | refine RunS.xt rfl (by rfl) (by rfl) (by rfl) rfl (by rfl) ?_
  | refine RunS.v rfl (by rfl) (by rfl) (by simp only [smEval, Nat.reduceAdd, Nat.reduceMul, Nat.reduceSub, Nat.reduceBEq, Nat.reduceEqDiff, Nat.reduceLeDiff, Nat.reduceLT, Nat.reduceMod, reduceIte, Int.reduceLE, Int.reduceLT, Int.reduceToNat, Nat.reducePow, ty3, ty4, ty9, ty22, ty25, ty28, ty39, ty122, d0]; try rfl) (by rfl) (by first | exact ⟨setT_some _ _ _, puts_nil rfl⟩ | exact ⟨setT_some _ _ _, by simp only [smPut, Nat.reduceBEq, reduceIte]; rfl⟩ | exact ⟨setT_none _ _, by simp only [smPut, Nat.reduceBEq, reduceIte]; rfl⟩) ?_
  | refine RunS.any (by rfl) (by simp only [smEval, Nat.reduceAdd, Nat.reduceMul, Nat.reduceSub, Nat.reduceBEq, Nat.reduceEqDiff, Nat.reduceLeDiff, Nat.reduceLT, Nat.reduceMod, reduceIte, Int.reduceLE, Int.reduceLT, Int.reduceToNat, Nat.reducePow, ty3, ty4, ty9, ty22, ty25, ty28, ty39, ty122, d0]; try rfl) (by rfl) (by simp only [smPut, Nat.reduceBEq, reduceIte]; exact ⟨rfl, rfl⟩) ?_
  | refine RunS.sk (by rfl) rfl (by rfl) ?_
  | refine RunS.skip (by rfl) (by simp only [smPut, Nat.reduceBEq, reduceIte]; try rfl) ?_
  | refine W.seq ?_ | refine W.block ?_ | refine W.regionK (by decide) fun N hN => ?_
  | (refine RunS.nil (hN _ _ _ ?_); clear hN N; simp only [smLen, Nat.reduceAdd, Nat.reduceMul, reduceIte, Nat.reduceEqDiff])
  | ((first | refine W.exit ?_ | refine W.ret ?_ | refine W.skip ?_); try simp only [smLen, reduceIte, Nat.reduceEqDiff])
  | refine W.condF (by rfl) ?_ | refine W.condT (by rfl) ?_)
 repeat (first | refine W.seq ?_ | refine W.block ?_)
 refine W.loop ?_
 refine WL.ind (σ := Nat) (nx := 40) (fun j => j ≤ xs.length) (fun j => xs.length - j) (fun j => [(13, vI j), (12, vI xs.length), (0, .one (.f (intsF xs))), (1, .one (.f (intsF xs)))]) (fun _ => []) 0 (by omega) ?_ ?_
 ·refine Wk.keep [] (by rfl) ?_ ?_ <;> simp only [smKeep, Nat.reduceBEq, Nat.reduceLT, reduceIte]
  trivial
 intro j hj
 repeat (first
  | refine RunS.mv rfl (by rfl) (by rfl) rfl (by rfl) ?_ | refine RunS.xt rfl (by rfl) (by rfl) (by rfl) rfl (by rfl) ?_
  | refine RunS.v rfl (by rfl) (by rfl) (by simp only [smEval, Nat.reduceAdd, Nat.reduceMul, Nat.reduceSub, Nat.reduceBEq, Nat.reduceEqDiff, Nat.reduceLeDiff, Nat.reduceLT, Nat.reduceMod, reduceIte, Int.reduceLE, Int.reduceLT, Int.reduceToNat, Nat.reducePow, ty3, ty4, ty9, ty22, ty25, ty28, ty39, ty122]; try rfl) (by rfl) (by first | exact ⟨setT_some _ _ _, puts_nil rfl⟩ | exact ⟨setT_some _ _ _, by simp only [smPut, Nat.reduceBEq, reduceIte]; rfl⟩ | exact ⟨setT_none _ _, by simp only [smPut, Nat.reduceBEq, reduceIte]; rfl⟩) ?_
  | refine RunS.any (by rfl) (by simp only [smEval, Nat.reduceAdd, Nat.reduceMul, Nat.reduceSub, Nat.reduceBEq, Nat.reduceEqDiff, Nat.reduceLeDiff, Nat.reduceLT, Nat.reduceMod, reduceIte, Int.reduceLE, Int.reduceLT, Int.reduceToNat, Nat.reducePow, ty3, ty4, ty9, ty22, ty25, ty28, ty39, ty122]; try rfl) (by rfl) (by simp only [smPut, Nat.reduceBEq, reduceIte]; exact ⟨rfl, rfl⟩) ?_
  | refine RunS.sk (by rfl) rfl (by rfl) ?_
  | refine RunS.skip (by rfl) (by simp only [smPut, Nat.reduceBEq, reduceIte]; try rfl) ?_
  | refine W.seq ?_ | refine W.block ?_ | refine W.regionK (by decide) fun N hN => ?_
  | (refine RunS.nil (hN _ _ _ ?_); clear hN N; simp only [smLen, Nat.reduceAdd, Nat.reduceMul, reduceIte, Nat.reduceEqDiff])
  | ((first | refine W.exit ?_ | refine W.ret ?_ | refine W.skip ?_); try simp only [smLen, reduceIte, Nat.reduceEqDiff])
  | refine W.condF (by rfl) ?_ | refine W.condT (by rfl) ?_)
 refine W.condD (by rfl) (fun hlt => ?_) (fun hge => ?_)
 ·obtain ⟨y, hy⟩ : ∃ y, xs[j]? = some y := ⟨_, List.getElem?_eq_getElem (by omega)⟩
  have hw : IntKind.i64.wrap ((j : Int) + 1) = ((j + 1 : Nat) : Int) := wrap_i64 (by omega) (by omega)
  have d1 : decide (y ≠ y) = false := by simp
  repeat (first
   | refine RunS.mv rfl (by rfl) (by rfl) rfl (by rfl) ?_ | refine RunS.xt rfl (by rfl) (by rfl) (by rfl) rfl (by rfl) ?_
   | refine RunS.v rfl (by rfl) (by rfl) (by simp only [smEval, Nat.reduceAdd, Nat.reduceMul, Nat.reduceSub, Nat.reduceBEq, Nat.reduceEqDiff, Nat.reduceLeDiff, Nat.reduceLT, Nat.reduceMod, reduceIte, Int.reduceLE, Int.reduceLT, Int.reduceToNat, Nat.reducePow, ty3, ty4, ty9, ty22, ty25, ty28, ty39, ty122]; try rfl) (by rfl) (by first | exact ⟨setT_some _ _ _, puts_nil rfl⟩ | exact ⟨setT_some _ _ _, by simp only [smPut, Nat.reduceBEq, reduceIte]; rfl⟩ | exact ⟨setT_none _ _, by simp only [smPut, Nat.reduceBEq, reduceIte]; rfl⟩) ?_
   | refine RunS.any (by rfl) (by simp only [smEval, Nat.reduceAdd, Nat.reduceMul, Nat.reduceSub, Nat.reduceBEq, Nat.reduceEqDiff, Nat.reduceLeDiff, Nat.reduceLT, Nat.reduceMod, reduceIte, Int.reduceLE, Int.reduceLT, Int.reduceToNat, Nat.reducePow, ty3, ty4, ty9, ty22, ty25, ty28, ty39, ty122]; try rfl) (by rfl) (by simp only [smPut, Nat.reduceBEq, reduceIte]; exact ⟨rfl, rfl⟩) ?_
   | refine RunS.sk (by rfl) rfl (by rfl) ?_
   | refine RunS.skip (by rfl) (by simp only [smPut, Nat.reduceBEq, reduceIte]; try rfl) ?_
   | refine W.seq ?_ | refine W.block ?_ | refine W.regionK (by decide) fun N hN => ?_
   | (refine RunS.nil (hN _ _ _ ?_); clear hN N; simp only [smLen, Nat.reduceAdd, Nat.reduceMul, reduceIte, Nat.reduceEqDiff])
   | ((first | refine W.exit ?_ | refine W.ret ?_ | refine W.skip ?_); try simp only [smLen, reduceIte, Nat.reduceEqDiff])
   | refine W.condF (by rfl) ?_ | refine W.condT (by rfl) ?_)
  repeat (first | refine W.seq ?_ | refine W.block ?_)
  refine W.regionDK mixed (by decide) (by rfl) fun N hN => ?_
  repeat (first
   | refine RunD.mv rfl (by rfl) (by rfl) rfl (by rfl) ?_ | refine RunD.xt rfl (by rfl) (by rfl) (by rfl) rfl (by rfl) ?_
   | refine RunD.v rfl (by rfl) (by rfl) (by simp only [smEval, Nat.reduceAdd, Nat.reduceMul, Nat.reduceSub, Nat.reduceBEq, Nat.reduceEqDiff, Nat.reduceLeDiff, Nat.reduceLT, Nat.reduceMod, reduceIte, Int.reduceLE, Int.reduceLT, Int.reduceToNat, Nat.reducePow, ty3, ty4, ty9, ty22, ty25, ty28, ty39, ty122, hy, d1]; try rfl) (by rfl) (by first | exact ⟨setT_some _ _ _, puts_nil rfl⟩ | exact ⟨setT_some _ _ _, by simp only [smPut, Nat.reduceBEq, reduceIte]; rfl⟩ | exact ⟨setT_none _ _, by simp only [smPut, Nat.reduceBEq, reduceIte]; rfl⟩) ?_
   | refine RunD.any (by rfl) (by simp only [smEval, Nat.reduceAdd, Nat.reduceMul, Nat.reduceSub, Nat.reduceBEq, Nat.reduceEqDiff, Nat.reduceLeDiff, Nat.reduceLT, Nat.reduceMod, reduceIte, Int.reduceLE, Int.reduceLT, Int.reduceToNat, Nat.reducePow, ty3, ty4, ty9, ty22, ty25, ty28, ty39, ty122, hy, d1]; try rfl) (by rfl) (by simp only [smPut, Nat.reduceBEq, reduceIte]; exact ⟨rfl, rfl⟩) ?_
   | refine RunD.sk (by rfl) rfl (by rfl) ?_
   | refine RunD.skip (by rfl) (by simp only [smPut, Nat.reduceBEq, reduceIte]; try rfl) ?_)
  refine RunD.nil ⟨by kernel_rfl, hN _ _ _ ?_⟩
  clear hN N
  simp only [smLen, Nat.reduceAdd, Nat.reduceMul, reduceIte, Nat.reduceEqDiff]
  repeat (first
   | refine RunS.mv rfl (by rfl) (by rfl) rfl (by rfl) ?_ | refine RunS.xt rfl (by rfl) (by rfl) (by rfl) rfl (by rfl) ?_
   | refine RunS.v rfl (by rfl) (by rfl) (by simp only [smEval, Nat.reduceAdd, Nat.reduceMul, Nat.reduceSub, Nat.reduceBEq, Nat.reduceEqDiff, Nat.reduceLeDiff, Nat.reduceLT, Nat.reduceMod, reduceIte, Int.reduceLE, Int.reduceLT, Int.reduceToNat, Nat.reducePow, ty3, ty4, ty9, ty22, ty25, ty28, ty39, ty122, hw]; try rfl) (by rfl) (by first | exact ⟨setT_some _ _ _, puts_nil rfl⟩ | exact ⟨setT_some _ _ _, by simp only [smPut, Nat.reduceBEq, reduceIte]; rfl⟩ | exact ⟨setT_none _ _, by simp only [smPut, Nat.reduceBEq, reduceIte]; rfl⟩) ?_
   | refine RunS.any (by rfl) (by simp only [smEval, Nat.reduceAdd, Nat.reduceMul, Nat.reduceSub, Nat.reduceBEq, Nat.reduceEqDiff, Nat.reduceLeDiff, Nat.reduceLT, Nat.reduceMod, reduceIte, Int.reduceLE, Int.reduceLT, Int.reduceToNat, Nat.reducePow, ty3, ty4, ty9, ty22, ty25, ty28, ty39, ty122, hw]; try rfl) (by rfl) (by simp only [smPut, Nat.reduceBEq, reduceIte]; exact ⟨rfl, rfl⟩) ?_
   | refine RunS.sk (by rfl) rfl (by rfl) ?_
   | refine RunS.skip (by rfl) (by simp only [smPut, Nat.reduceBEq, reduceIte]; try rfl) ?_
   | refine W.seq ?_ | refine W.block ?_ | refine W.regionK (by decide) fun N hN => ?_
   | (refine RunS.nil (hN _ _ _ ?_); clear hN N; simp only [smLen, Nat.reduceAdd, Nat.reduceMul, reduceIte, Nat.reduceEqDiff])
   | ((first | refine W.exit ?_ | refine W.ret ?_ | refine W.skip ?_); try simp only [smLen, reduceIte, Nat.reduceEqDiff])
   | refine W.condF (by rfl) ?_ | refine W.condT (by rfl) ?_)
  refine ⟨j + 1, by omega, by omega, ?_⟩
  refine Wk.keep [] (by rfl) ?_ ?_ <;> simp only [smKeep, Nat.reduceBEq, Nat.reduceLT, reduceIte]
 ·repeat (first
   | refine RunS.mv rfl (by rfl) (by rfl) rfl (by rfl) ?_ | refine RunS.xt rfl (by rfl) (by rfl) (by rfl) rfl (by rfl) ?_
   | refine RunS.v rfl (by rfl) (by rfl) (by simp only [smEval, Nat.reduceAdd, Nat.reduceMul, Nat.reduceSub, Nat.reduceBEq, Nat.reduceEqDiff, Nat.reduceLeDiff, Nat.reduceLT, Nat.reduceMod, reduceIte, Int.reduceLE, Int.reduceLT, Int.reduceToNat, Nat.reducePow, ty3, ty4, ty9, ty22, ty25, ty28, ty39, ty122]; try rfl) (by rfl) (by first | exact ⟨setT_some _ _ _, puts_nil rfl⟩ | exact ⟨setT_some _ _ _, by simp only [smPut, Nat.reduceBEq, reduceIte]; rfl⟩ | exact ⟨setT_none _ _, by simp only [smPut, Nat.reduceBEq, reduceIte]; rfl⟩) ?_
   | refine RunS.any (by rfl) (by simp only [smEval, Nat.reduceAdd, Nat.reduceMul, Nat.reduceSub, Nat.reduceBEq, Nat.reduceEqDiff, Nat.reduceLeDiff, Nat.reduceLT, Nat.reduceMod, reduceIte, Int.reduceLE, Int.reduceLT, Int.reduceToNat, Nat.reducePow, ty3, ty4, ty9, ty22, ty25, ty28, ty39, ty122]; try rfl) (by rfl) (by simp only [smPut, Nat.reduceBEq, reduceIte]; exact ⟨rfl, rfl⟩) ?_
   | refine RunS.sk (by rfl) rfl (by rfl) ?_
   | refine RunS.skip (by rfl) (by simp only [smPut, Nat.reduceBEq, reduceIte]; try rfl) ?_
   | refine W.seq ?_ | refine W.block ?_ | refine W.regionK (by decide) fun N hN => ?_
   | (refine RunS.nil (hN _ _ _ ?_); clear hN N; simp only [smLen, Nat.reduceAdd, Nat.reduceMul, reduceIte, Nat.reduceEqDiff])
   | ((first | refine W.exit ?_ | refine W.ret ?_ | refine W.skip ?_); try simp only [smLen, reduceIte, Nat.reduceEqDiff])
   | refine W.condF (by rfl) ?_ | refine W.condT (by rfl) ?_)
  refine Fin.pureS Wk.refl (xs := ?_) ?_ rfl ?_ ?_
  rotate_left
  ·simp only [smEval, Nat.reduceAdd, Nat.reduceMul, Nat.reduceSub, Nat.reduceBEq, Nat.reduceEqDiff, Nat.reduceLeDiff, Nat.reduceLT, Nat.reduceMod, reduceIte, Int.reduceLE, Int.reduceLT, Int.reduceToNat, Nat.reducePow, ty3, ty4, ty9, ty22, ty25, ty28, ty39, ty122, resA]; try rfl
  ·rfl
  ·exact Sub.refl _
theorem two_le {k : Nat} (h : (k + 1) * 56 ≤ 140737488351232) : 2 + (k + 1) ≤ 9223372036854775807 ∧ (2 + (k + 1)) * 56 ≤ 140737488355328 := ⟨by omega, by omega⟩
theorem smallRow (x y : Tm) (l : List Tm) (n : Nat) (hn : n = 2 + l.length) : ACall Try.prog 28 [.one (.row 0 n)] [.row 25 4 (treeC x :: treeC y :: l.map treeC)] (vB (smallB (x :: y :: l))) [.row 25 4 (treeC x :: treeC y :: l.map treeC)] :=
 ACall.rows (small_ok (x :: y :: l)) (by subst hn; simp only [enumL, AV.frzs, AV.frz, AC.frz, look_cons, List.length_cons, List.length_nil, List.length_map, List.range_succ, List.range_zero, List.nil_append, List.contains_cons, beq_self_eq_true, Bool.true_or, reduceIte]; rw [if_pos (by omega)]; rfl)
set_option maxRecDepth 100000 in
set_option maxHeartbeats 4000000 in
theorem matchesLaw_ok (x y : Tm) (l : List Tm) (hlen : l.length * 56 ≤ 140737488351232) : ACall Try.prog 5 [tA x, tA y, tsA l] [] (vB true) [] := by
 have h0 := sane_ok
 cases hb : smallB (x :: y :: l) with
 | false =>
  cases l with
  | nil =>
   have h1 := smallRow x y [] 2 rfl
   rw [hb, treeC_eq x, treeC_eq y] at h1
   refine acall_of Try.func5 (by decide) rfl Try.results5 (by rw [Try.ntmps5]; simp) (by simp) ?_
   rw [Try.ntmps5]
   simp only [enumL, List.length_nil, List.length_cons, Nat.reduceAdd]
   repeat (first
    | refine RunS.mv rfl (by rfl) (by rfl) rfl (by rfl) ?_ | refine RunS.xt rfl (by rfl) (by rfl) (by rfl) rfl (by rfl) ?_
    | refine RunS.v rfl (by rfl) (by rfl) (by simp only [smEval, Nat.reduceAdd, Nat.reduceMul, Nat.reduceSub, Nat.reduceBEq, Nat.reduceEqDiff, Nat.reduceLeDiff, Nat.reduceLT, Nat.reduceMod, reduceIte, Int.reduceLE, Int.reduceLT, Int.reduceToNat, Nat.reducePow, ty3, ty4, ty9, ty22, ty25, ty28, ty39, ty122, treeC_eq x, treeC_eq y]; try rfl) (by rfl) (by first | exact ⟨setT_some _ _ _, puts_nil rfl⟩ | exact ⟨setT_some _ _ _, by simp only [smPut, Nat.reduceBEq, reduceIte]; rfl⟩ | exact ⟨setT_none _ _, by simp only [smPut, Nat.reduceBEq, reduceIte]; rfl⟩) ?_
    | refine RunS.any (by rfl) (by simp only [smEval, Nat.reduceAdd, Nat.reduceMul, Nat.reduceSub, Nat.reduceBEq, Nat.reduceEqDiff, Nat.reduceLeDiff, Nat.reduceLT, Nat.reduceMod, reduceIte, Int.reduceLE, Int.reduceLT, Int.reduceToNat, Nat.reducePow, ty3, ty4, ty9, ty22, ty25, ty28, ty39, ty122, treeC_eq x, treeC_eq y]; try rfl) (by rfl) (by simp only [smPut, Nat.reduceBEq, reduceIte]; exact ⟨rfl, rfl⟩) ?_
    | refine RunS.cl (by rfl) rfl (by rfl) (by first | exact h0) rfl (by rfl) (by rfl) ?_
    | refine RunS.sk (by rfl) rfl (by rfl) ?_
    | refine RunS.skip (by rfl) (by simp only [smPut, Nat.reduceBEq, reduceIte]; try rfl) ?_
    | refine W.seq ?_ | refine W.block ?_ | refine W.regionK (by decide) fun N hN => ?_
    | (refine RunS.nil (hN _ _ _ ?_); clear hN N; simp only [smLen, Nat.reduceAdd, Nat.reduceMul, reduceIte, Nat.reduceEqDiff])
    | ((first | refine W.exit ?_ | refine W.ret ?_ | refine W.skip ?_); try simp only [smLen, reduceIte, Nat.reduceEqDiff])
    | refine W.condF (by rfl) ?_ | refine W.condT (by rfl) ?_)
   refine RunS.callH rfl (by rfl) (h1) [22] rfl rfl (by simp only [smArg, Nat.reduceBEq, reduceIte]; try rfl) (by simp only [smPut, Nat.reduceBEq, reduceIte, List.append_nil]; try rfl) (by rfl) (by simp only [enumL, List.forall_mem_cons, List.not_mem_nil, false_implies, implies_true, and_true, look_cons, look_nil, smPut, Nat.reduceBEq, reduceIte, Nat.reduceAdd]; try trivial) (by simp only [smPut, Nat.reduceBEq, reduceIte]; try rfl) (by simp only [smPut, Nat.reduceBEq, reduceIte]; try rfl) ?_
   repeat (first
    | refine RunS.mv rfl (by rfl) (by rfl) rfl (by rfl) ?_ | refine RunS.xt rfl (by rfl) (by rfl) (by rfl) rfl (by rfl) ?_
    | refine RunS.v rfl (by rfl) (by rfl) (by simp only [smEval, Nat.reduceAdd, Nat.reduceMul, Nat.reduceSub, Nat.reduceBEq, Nat.reduceEqDiff, Nat.reduceLeDiff, Nat.reduceLT, Nat.reduceMod, reduceIte, Int.reduceLE, Int.reduceLT, Int.reduceToNat, Nat.reducePow, ty3, ty4, ty9, ty22, ty25, ty28, ty39, ty122]; try rfl) (by rfl) (by first | exact ⟨setT_some _ _ _, puts_nil rfl⟩ | exact ⟨setT_some _ _ _, by simp only [smPut, Nat.reduceBEq, reduceIte]; rfl⟩ | exact ⟨setT_none _ _, by simp only [smPut, Nat.reduceBEq, reduceIte]; rfl⟩) ?_
    | refine RunS.any (by rfl) (by simp only [smEval, Nat.reduceAdd, Nat.reduceMul, Nat.reduceSub, Nat.reduceBEq, Nat.reduceEqDiff, Nat.reduceLeDiff, Nat.reduceLT, Nat.reduceMod, reduceIte, Int.reduceLE, Int.reduceLT, Int.reduceToNat, Nat.reducePow, ty3, ty4, ty9, ty22, ty25, ty28, ty39, ty122]; try rfl) (by rfl) (by simp only [smPut, Nat.reduceBEq, reduceIte]; exact ⟨rfl, rfl⟩) ?_
    | refine RunS.sk (by rfl) rfl (by rfl) ?_
    | refine RunS.skip (by rfl) (by simp only [smPut, Nat.reduceBEq, reduceIte]; try rfl) ?_
    | refine W.seq ?_ | refine W.block ?_ | refine W.regionK (by decide) fun N hN => ?_
    | (refine RunS.nil (hN _ _ _ ?_); clear hN N; simp only [smLen, Nat.reduceAdd, Nat.reduceMul, reduceIte, Nat.reduceEqDiff])
    | ((first | refine W.exit ?_ | refine W.ret ?_ | refine W.skip ?_); try simp only [smLen, reduceIte, Nat.reduceEqDiff])
    | refine W.condF (by rfl) ?_ | refine W.condT (by rfl) ?_)
   refine Fin.pureS Wk.refl (xs := ?_) ?_ rfl ?_ ?_
   rotate_left
   ·simp only [smEval, Nat.reduceAdd, Nat.reduceMul, Nat.reduceSub, Nat.reduceBEq, Nat.reduceEqDiff, Nat.reduceLeDiff, Nat.reduceLT, Nat.reduceMod, reduceIte, Int.reduceLE, Int.reduceLT, Int.reduceToNat, Nat.reducePow, ty3, ty4, ty9, ty22, ty25, ty28, ty39, ty122, resA]; try rfl
   ·rfl
   ·exact Sub.refl _
  | cons a l =>
   have h1 := smallRow x y (a :: l) (2 + (l.length + 1)) (by simp)
   rw [hb, treeC_eq x, treeC_eq y] at h1
   rw [List.length_cons] at hlen
   obtain ⟨hn3, hn4⟩ := two_le hlen
   refine acall_of Try.func5 (by decide) rfl Try.results5 (by rw [Try.ntmps5]; simp) (by simp) ?_
   rw [Try.ntmps5]
   simp only [enumL, List.length_nil, List.length_cons, Nat.reduceAdd]
   repeat (first
    | refine RunS.mv rfl (by rfl) (by rfl) rfl (by rfl) ?_ | refine RunS.xt rfl (by rfl) (by rfl) (by rfl) rfl (by rfl) ?_
    | refine RunS.v rfl (by rfl) (by rfl) (by simp only [smEval, Nat.reduceAdd, Nat.reduceMul, Nat.reduceSub, Nat.reduceBEq, Nat.reduceEqDiff, Nat.reduceLeDiff, Nat.reduceLT, Nat.reduceMod, reduceIte, Int.reduceLE, Int.reduceLT, Int.reduceToNat, Nat.reducePow, ty3, ty4, ty9, ty22, ty25, ty28, ty39, ty122, treeC_eq x, treeC_eq y, hn3, hn4]; try rfl) (by rfl) (by first | exact ⟨setT_some _ _ _, puts_nil rfl⟩ | exact ⟨setT_some _ _ _, by simp only [smPut, Nat.reduceBEq, reduceIte]; rfl⟩ | exact ⟨setT_none _ _, by simp only [smPut, Nat.reduceBEq, reduceIte]; rfl⟩) ?_
    | refine RunS.any (by rfl) (by simp only [smEval, Nat.reduceAdd, Nat.reduceMul, Nat.reduceSub, Nat.reduceBEq, Nat.reduceEqDiff, Nat.reduceLeDiff, Nat.reduceLT, Nat.reduceMod, reduceIte, Int.reduceLE, Int.reduceLT, Int.reduceToNat, Nat.reducePow, ty3, ty4, ty9, ty22, ty25, ty28, ty39, ty122, treeC_eq x, treeC_eq y, hn3, hn4]; try rfl) (by rfl) (by simp only [smPut, Nat.reduceBEq, reduceIte]; exact ⟨rfl, rfl⟩) ?_
    | refine RunS.cl (by rfl) rfl (by rfl) (by first | exact h0) rfl (by rfl) (by rfl) ?_
    | refine RunS.sk (by rfl) rfl (by rfl) ?_
    | refine RunS.skip (by rfl) (by simp only [smPut, Nat.reduceBEq, reduceIte]; try rfl) ?_
    | refine W.seq ?_ | refine W.block ?_ | refine W.regionK (by decide) fun N hN => ?_
    | (refine RunS.nil (hN _ _ _ ?_); clear hN N; simp only [smLen, Nat.reduceAdd, Nat.reduceMul, reduceIte, Nat.reduceEqDiff])
    | ((first | refine W.exit ?_ | refine W.ret ?_ | refine W.skip ?_); try simp only [smLen, reduceIte, Nat.reduceEqDiff])
    | refine W.condF (by rfl) ?_ | refine W.condT (by rfl) ?_)
   refine RunS.callH rfl (by rfl) (h1) [22] rfl rfl (by simp only [smArg, Nat.reduceBEq, reduceIte]; try rfl) (by simp only [smPut, Nat.reduceBEq, reduceIte, List.append_nil]; try rfl) (by rfl) (by simp only [enumL, List.forall_mem_cons, List.not_mem_nil, false_implies, implies_true, and_true, look_cons, look_nil, smPut, Nat.reduceBEq, reduceIte, Nat.reduceAdd]; try trivial) (by simp only [smPut, Nat.reduceBEq, reduceIte]; try rfl) (by simp only [smPut, Nat.reduceBEq, reduceIte]; try rfl) ?_
   repeat (first
    | refine RunS.mv rfl (by rfl) (by rfl) rfl (by rfl) ?_ | refine RunS.xt rfl (by rfl) (by rfl) (by rfl) rfl (by rfl) ?_
    | refine RunS.v rfl (by rfl) (by rfl) (by simp only [smEval, Nat.reduceAdd, Nat.reduceMul, Nat.reduceSub, Nat.reduceBEq, Nat.reduceEqDiff, Nat.reduceLeDiff, Nat.reduceLT, Nat.reduceMod, reduceIte, Int.reduceLE, Int.reduceLT, Int.reduceToNat, Nat.reducePow, ty3, ty4, ty9, ty22, ty25, ty28, ty39, ty122]; try rfl) (by rfl) (by first | exact ⟨setT_some _ _ _, puts_nil rfl⟩ | exact ⟨setT_some _ _ _, by simp only [smPut, Nat.reduceBEq, reduceIte]; rfl⟩ | exact ⟨setT_none _ _, by simp only [smPut, Nat.reduceBEq, reduceIte]; rfl⟩) ?_
    | refine RunS.any (by rfl) (by simp only [smEval, Nat.reduceAdd, Nat.reduceMul, Nat.reduceSub, Nat.reduceBEq, Nat.reduceEqDiff, Nat.reduceLeDiff, Nat.reduceLT, Nat.reduceMod, reduceIte, Int.reduceLE, Int.reduceLT, Int.reduceToNat, Nat.reducePow, ty3, ty4, ty9, ty22, ty25, ty28, ty39, ty122]; try rfl) (by rfl) (by simp only [smPut, Nat.reduceBEq, reduceIte]; exact ⟨rfl, rfl⟩) ?_
    | refine RunS.sk (by rfl) rfl (by rfl) ?_
    | refine RunS.skip (by rfl) (by simp only [smPut, Nat.reduceBEq, reduceIte]; try rfl) ?_
    | refine W.seq ?_ | refine W.block ?_ | refine W.regionK (by decide) fun N hN => ?_
    | (refine RunS.nil (hN _ _ _ ?_); clear hN N; simp only [smLen, Nat.reduceAdd, Nat.reduceMul, reduceIte, Nat.reduceEqDiff])
    | ((first | refine W.exit ?_ | refine W.ret ?_ | refine W.skip ?_); try simp only [smLen, reduceIte, Nat.reduceEqDiff])
    | refine W.condF (by rfl) ?_ | refine W.condT (by rfl) ?_)
   refine Fin.pureS Wk.refl (xs := ?_) ?_ rfl ?_ ?_
   rotate_left
   ·simp only [smEval, Nat.reduceAdd, Nat.reduceMul, Nat.reduceSub, Nat.reduceBEq, Nat.reduceEqDiff, Nat.reduceLeDiff, Nat.reduceLT, Nat.reduceMod, reduceIte, Int.reduceLE, Int.reduceLT, Int.reduceToNat, Nat.reducePow, ty3, ty4, ty9, ty22, ty25, ty28, ty39, ty122, resA]; try rfl
   ·rfl
   ·exact Sub.refl _
 | true =>
  have hz := smallB_sizes hb
  have hzx := smallB_size hb (List.mem_cons_self ..)
  have hzy := smallB_size hb (List.mem_cons_of_mem _ (List.mem_cons_self ..))
  simp only [Tm.sizes] at hz
  have k1 := normal_ok' l
  have k2 := refNormal_ok l (by omega)
  have k3 := variant_ok' x y
  have k4 := refVariant_ok x y (by omega) (by omega)
  have k5 := match_ok' x y
  have k6 := refMatch_ok x y (by omega) (by omega)
  obtain ⟨m, hm⟩ : ∃ g, g = (if allB l = true then normR l else []) := ⟨_, rfl⟩
  obtain ⟨v, hv⟩ : ∃ g, g = (if allB l = true then varsL l else []) := ⟨_, rfl⟩
  obtain ⟨e, he⟩ : ∃ g, g = errT (allB l) := ⟨_, rfl⟩
  obtain ⟨b, hbb⟩ : ∃ g, g = (if allIs [x, y] = true then vntB x y else false) := ⟨_, rfl⟩
  obtain ⟨f, hf⟩ : ∃ g, g = errT (allIs [x, y]) := ⟨_, rfl⟩
  obtain ⟨s, hs⟩ : ∃ g, g = (if allIs [x, y] = true then matchR x y else none).getD [] := ⟨_, rfl⟩
  obtain ⟨q, hq⟩ : ∃ g, g = (if allIs [x, y] = true then matchR x y else none).isSome := ⟨_, rfl⟩
  have hvl : v.length ≤ 1000000 := by
   rw [hv]; split
   ·have := varsL_len l; omega
   ·simp
  rw [← hm, ← hv, ← he] at k1 k2
  rw [← hbb, ← hf] at k3 k4
  rw [← hs, ← hq, ← hf] at k5 k6
  clear hm hv he hbb hf hs hq hzx hzy
  have s1 := sameAll_ok m m
  have s2 := sameAll_ok s s
  have s3 := intsEq_ok v hvl
  rw [sameL_iff.2 rfl] at s1 s2
  have d1 : decide (e ≠ e) = false := by simp
  have d2 : decide (f ≠ f) = false := by simp
  have d3 : decide (f = f) = true := by simp
  have d4 : (b != b) = false := by cases b <;> rfl
  have d5 : (q == q) = true := by cases q <;> rfl
  cases l with
  | nil =>
   have h1 := smallRow x y [] 2 rfl
   rw [hb, treeC_eq x, treeC_eq y] at h1
   refine acall_of Try.func5 (by decide) rfl Try.results5 (by rw [Try.ntmps5]; simp) (by simp) ?_
   rw [Try.ntmps5]
   simp only [enumL, List.length_nil, List.length_cons, Nat.reduceAdd]
   repeat (first
    | refine RunS.mv rfl (by rfl) (by rfl) rfl (by rfl) ?_ | refine RunS.xt rfl (by rfl) (by rfl) (by rfl) rfl (by rfl) ?_
    | refine RunS.v rfl (by rfl) (by rfl) (by simp only [smEval, Nat.reduceAdd, Nat.reduceMul, Nat.reduceSub, Nat.reduceBEq, Nat.reduceEqDiff, Nat.reduceLeDiff, Nat.reduceLT, Nat.reduceMod, reduceIte, Int.reduceLE, Int.reduceLT, Int.reduceToNat, Nat.reducePow, ty3, ty4, ty9, ty22, ty25, ty28, ty39, ty122, treeC_eq x, treeC_eq y]; try rfl) (by rfl) (by first | exact ⟨setT_some _ _ _, puts_nil rfl⟩ | exact ⟨setT_some _ _ _, by simp only [smPut, Nat.reduceBEq, reduceIte]; rfl⟩ | exact ⟨setT_none _ _, by simp only [smPut, Nat.reduceBEq, reduceIte]; rfl⟩) ?_
    | refine RunS.any (by rfl) (by simp only [smEval, Nat.reduceAdd, Nat.reduceMul, Nat.reduceSub, Nat.reduceBEq, Nat.reduceEqDiff, Nat.reduceLeDiff, Nat.reduceLT, Nat.reduceMod, reduceIte, Int.reduceLE, Int.reduceLT, Int.reduceToNat, Nat.reducePow, ty3, ty4, ty9, ty22, ty25, ty28, ty39, ty122, treeC_eq x, treeC_eq y]; try rfl) (by rfl) (by simp only [smPut, Nat.reduceBEq, reduceIte]; exact ⟨rfl, rfl⟩) ?_
    | refine RunS.cl (by rfl) rfl (by rfl) (by first | exact h0) rfl (by rfl) (by rfl) ?_
    | refine RunS.sk (by rfl) rfl (by rfl) ?_
    | refine RunS.skip (by rfl) (by simp only [smPut, Nat.reduceBEq, reduceIte]; try rfl) ?_
    | refine W.seq ?_ | refine W.block ?_ | refine W.regionK (by decide) fun N hN => ?_
    | (refine RunS.nil (hN _ _ _ ?_); clear hN N; simp only [smLen, Nat.reduceAdd, Nat.reduceMul, reduceIte, Nat.reduceEqDiff])
    | ((first | refine W.exit ?_ | refine W.ret ?_ | refine W.skip ?_); try simp only [smLen, reduceIte, Nat.reduceEqDiff])
    | refine W.condF (by rfl) ?_ | refine W.condT (by rfl) ?_)
   refine RunS.callH rfl (by rfl) (h1) [22] rfl rfl (by simp only [smArg, Nat.reduceBEq, reduceIte]; try rfl) (by simp only [smPut, Nat.reduceBEq, reduceIte, List.append_nil]; try rfl) (by rfl) (by simp only [enumL, List.forall_mem_cons, List.not_mem_nil, false_implies, implies_true, and_true, look_cons, look_nil, smPut, Nat.reduceBEq, reduceIte, Nat.reduceAdd]; try trivial) (by simp only [smPut, Nat.reduceBEq, reduceIte]; try rfl) (by simp only [smPut, Nat.reduceBEq, reduceIte]; try rfl) ?_
   repeat (first
    | refine RunS.mv rfl (by rfl) (by rfl) rfl (by rfl) ?_ | refine RunS.xt rfl (by rfl) (by rfl) (by rfl) rfl (by rfl) ?_
    | refine RunS.v rfl (by rfl) (by rfl) (by simp only [smEval, Nat.reduceAdd, Nat.reduceMul, Nat.reduceSub, Nat.reduceBEq, Nat.reduceEqDiff, Nat.reduceLeDiff, Nat.reduceLT, Nat.reduceMod, reduceIte, Int.reduceLE, Int.reduceLT, Int.reduceToNat, Nat.reducePow, ty3, ty4, ty9, ty22, ty25, ty28, ty39, ty122, d1, d2, d3, d4, d5]; try rfl) (by rfl) (by first | exact ⟨setT_some _ _ _, puts_nil rfl⟩ | exact ⟨setT_some _ _ _, by simp only [smPut, Nat.reduceBEq, reduceIte]; rfl⟩ | exact ⟨setT_none _ _, by simp only [smPut, Nat.reduceBEq, reduceIte]; rfl⟩) ?_
    | refine RunS.any (by rfl) (by simp only [smEval, Nat.reduceAdd, Nat.reduceMul, Nat.reduceSub, Nat.reduceBEq, Nat.reduceEqDiff, Nat.reduceLeDiff, Nat.reduceLT, Nat.reduceMod, reduceIte, Int.reduceLE, Int.reduceLT, Int.reduceToNat, Nat.reducePow, ty3, ty4, ty9, ty22, ty25, ty28, ty39, ty122, d1, d2, d3, d4, d5]; try rfl) (by rfl) (by simp only [smPut, Nat.reduceBEq, reduceIte]; exact ⟨rfl, rfl⟩) ?_
    | refine RunS.cl (by rfl) rfl (by rfl) (by first | exact k1 | exact k2 | exact k3 | exact k4 | exact s1 | exact s3 | exact k5 | exact k6 | exact s2) rfl (by rfl) (by rfl) ?_
    | refine RunS.sk (by rfl) rfl (by rfl) ?_
    | refine RunS.skip (by rfl) (by simp only [smPut, Nat.reduceBEq, reduceIte]; try rfl) ?_
    | refine W.seq ?_ | refine W.block ?_ | refine W.regionK (by decide) fun N hN => ?_
    | (refine RunS.nil (hN _ _ _ ?_); clear hN N; simp only [smLen, Nat.reduceAdd, Nat.reduceMul, reduceIte, Nat.reduceEqDiff])
    | ((first | refine W.exit ?_ | refine W.ret ?_ | refine W.skip ?_); try simp only [smLen, reduceIte, Nat.reduceEqDiff])
    | refine W.condF (by rfl) ?_ | refine W.condT (by rfl) ?_)
   refine Fin.pureS Wk.refl (xs := ?_) ?_ rfl ?_ ?_
   rotate_left
   ·simp only [smEval, Nat.reduceAdd, Nat.reduceMul, Nat.reduceSub, Nat.reduceBEq, Nat.reduceEqDiff, Nat.reduceLeDiff, Nat.reduceLT, Nat.reduceMod, reduceIte, Int.reduceLE, Int.reduceLT, Int.reduceToNat, Nat.reducePow, ty3, ty4, ty9, ty22, ty25, ty28, ty39, ty122, resA]; try rfl
   ·rfl
   ·exact Sub.refl _
  | cons a l =>
   have h1 := smallRow x y (a :: l) (2 + (l.length + 1)) (by simp)
   rw [hb, treeC_eq x, treeC_eq y] at h1
   rw [List.length_cons] at hlen
   obtain ⟨hn3, hn4⟩ := two_le hlen
   refine acall_of Try.func5 (by decide) rfl Try.results5 (by rw [Try.ntmps5]; simp) (by simp) ?_
   rw [Try.ntmps5]
   simp only [enumL, List.length_nil, List.length_cons, Nat.reduceAdd]
   repeat (first
    | refine RunS.mv rfl (by rfl) (by rfl) rfl (by rfl) ?_ | refine RunS.xt rfl (by rfl) (by rfl) (by rfl) rfl (by rfl) ?_
    | refine RunS.v rfl (by rfl) (by rfl) (by simp only [smEval, Nat.reduceAdd, Nat.reduceMul, Nat.reduceSub, Nat.reduceBEq, Nat.reduceEqDiff, Nat.reduceLeDiff, Nat.reduceLT, Nat.reduceMod, reduceIte, Int.reduceLE, Int.reduceLT, Int.reduceToNat, Nat.reducePow, ty3, ty4, ty9, ty22, ty25, ty28, ty39, ty122, treeC_eq x, treeC_eq y, hn3, hn4]; try rfl) (by rfl) (by first | exact ⟨setT_some _ _ _, puts_nil rfl⟩ | exact ⟨setT_some _ _ _, by simp only [smPut, Nat.reduceBEq, reduceIte]; rfl⟩ | exact ⟨setT_none _ _, by simp only [smPut, Nat.reduceBEq, reduceIte]; rfl⟩) ?_
    | refine RunS.any (by rfl) (by simp only [smEval, Nat.reduceAdd, Nat.reduceMul, Nat.reduceSub, Nat.reduceBEq, Nat.reduceEqDiff, Nat.reduceLeDiff, Nat.reduceLT, Nat.reduceMod, reduceIte, Int.reduceLE, Int.reduceLT, Int.reduceToNat, Nat.reducePow, ty3, ty4, ty9, ty22, ty25, ty28, ty39, ty122, treeC_eq x, treeC_eq y, hn3, hn4]; try rfl) (by rfl) (by simp only [smPut, Nat.reduceBEq, reduceIte]; exact ⟨rfl, rfl⟩) ?_
    | refine RunS.cl (by rfl) rfl (by rfl) (by first | exact h0) rfl (by rfl) (by rfl) ?_
    | refine RunS.sk (by rfl) rfl (by rfl) ?_
    | refine RunS.skip (by rfl) (by simp only [smPut, Nat.reduceBEq, reduceIte]; try rfl) ?_
    | refine W.seq ?_ | refine W.block ?_ | refine W.regionK (by decide) fun N hN => ?_
    | (refine RunS.nil (hN _ _ _ ?_); clear hN N; simp only [smLen, Nat.reduceAdd, Nat.reduceMul, reduceIte, Nat.reduceEqDiff])
    | ((first | refine W.exit ?_ | refine W.ret ?_ | refine W.skip ?_); try simp only [smLen, reduceIte, Nat.reduceEqDiff])
    | refine W.condF (by rfl) ?_ | refine W.condT (by rfl) ?_)
   refine RunS.callH rfl (by rfl) (h1) [22] rfl rfl (by simp only [smArg, Nat.reduceBEq, reduceIte]; try rfl) (by simp only [smPut, Nat.reduceBEq, reduceIte, List.append_nil]; try rfl) (by rfl) (by simp only [enumL, List.forall_mem_cons, List.not_mem_nil, false_implies, implies_true, and_true, look_cons, look_nil, smPut, Nat.reduceBEq, reduceIte, Nat.reduceAdd]; try trivial) (by simp only [smPut, Nat.reduceBEq, reduceIte]; try rfl) (by simp only [smPut, Nat.reduceBEq, reduceIte]; try rfl) ?_
   repeat (first
    | refine RunS.mv rfl (by rfl) (by rfl) rfl (by rfl) ?_ | refine RunS.xt rfl (by rfl) (by rfl) (by rfl) rfl (by rfl) ?_
    | refine RunS.v rfl (by rfl) (by rfl) (by simp only [smEval, Nat.reduceAdd, Nat.reduceMul, Nat.reduceSub, Nat.reduceBEq, Nat.reduceEqDiff, Nat.reduceLeDiff, Nat.reduceLT, Nat.reduceMod, reduceIte, Int.reduceLE, Int.reduceLT, Int.reduceToNat, Nat.reducePow, ty3, ty4, ty9, ty22, ty25, ty28, ty39, ty122, d1, d2, d3, d4, d5]; try rfl) (by rfl) (by first | exact ⟨setT_some _ _ _, puts_nil rfl⟩ | exact ⟨setT_some _ _ _, by simp only [smPut, Nat.reduceBEq, reduceIte]; rfl⟩ | exact ⟨setT_none _ _, by simp only [smPut, Nat.reduceBEq, reduceIte]; rfl⟩) ?_
    | refine RunS.any (by rfl) (by simp only [smEval, Nat.reduceAdd, Nat.reduceMul, Nat.reduceSub, Nat.reduceBEq, Nat.reduceEqDiff, Nat.reduceLeDiff, Nat.reduceLT, Nat.reduceMod, reduceIte, Int.reduceLE, Int.reduceLT, Int.reduceToNat, Nat.reducePow, ty3, ty4, ty9, ty22, ty25, ty28, ty39, ty122, d1, d2, d3, d4, d5]; try rfl) (by rfl) (by simp only [smPut, Nat.reduceBEq, reduceIte]; exact ⟨rfl, rfl⟩) ?_
    | refine RunS.cl (by rfl) rfl (by rfl) (by first | exact k1 | exact k2 | exact k3 | exact k4 | exact s1 | exact s3 | exact k5 | exact k6 | exact s2) rfl (by rfl) (by rfl) ?_
    | refine RunS.sk (by rfl) rfl (by rfl) ?_
    | refine RunS.skip (by rfl) (by simp only [smPut, Nat.reduceBEq, reduceIte]; try rfl) ?_
    | refine W.seq ?_ | refine W.block ?_ | refine W.regionK (by decide) fun N hN => ?_
    | (refine RunS.nil (hN _ _ _ ?_); clear hN N; simp only [smLen, Nat.reduceAdd, Nat.reduceMul, reduceIte, Nat.reduceEqDiff])
    | ((first | refine W.exit ?_ | refine W.ret ?_ | refine W.skip ?_); try simp only [smLen, reduceIte, Nat.reduceEqDiff])
    | refine W.condF (by rfl) ?_ | refine W.condT (by rfl) ?_)
   refine Fin.pureS Wk.refl (xs := ?_) ?_ rfl ?_ ?_
   rotate_left
   ·simp only [smEval, Nat.reduceAdd, Nat.reduceMul, Nat.reduceSub, Nat.reduceBEq, Nat.reduceEqDiff, Nat.reduceLeDiff, Nat.reduceLT, Nat.reduceMod, reduceIte, Int.reduceLE, Int.reduceLT, Int.reduceToNat, Nat.reducePow, ty3, ty4, ty9, ty22, ty25, ty28, ty39, ty122, resA]; try rfl
   ·rfl
   ·exact Sub.refl _
end Go.Proofs.Ytfhgknmkpegpbaa
set_option linter.unusedVariables false
set_option linter.unusedSimpArgs false
namespace Go.Proofs.Ytfhgknmkpegpbaa
open Go Go.Abs Go.Proofs Go.RowKit
theorem matchesLaw_calls (x y : Tm) (l : List Tm) (P Q R : Nat → Prop) (w : World) (v1 v2 : Value) (A : Option Addr) (c : Nat) (hx : TmV P w v1 x) (hy : TmV Q w v2 y) (hl : TmC R w A c l) (hlen : l.length * 56 ≤ 140737488351232) :
  Calls Try.prog 5 #[v1, v2, .slice A l.length c] w fun e w' => e = .returned (.bool true) ∧ Below w.heap.size w w' :=
 ACall.law (matchesLaw_ok x y l hlen) w _ (All2.cons hx.all (All2.cons hy.all (All2.cons hl.all (All2.nil _))))
end Go.Proofs.Ytfhgknmkpegpbaa
set_option linter.unusedVariables false
set_option linter.unusedSimpArgs false
namespace Go.Proofs.Ytfhgknmkpegpbaa
open Go.RowKit
theorem sized_terms {H : Type} {enc : TypeId × Value → H} {w : World} {A : Option Addr} {n c j : Nat} {d : DataW H} {p : List MemPlace} {ts : List TypeId} {ds : List (DataW H)} (hs : (DataW.weightsEach Try.prog ts ds).all (· ≤ reachBytes) = true) (ht : ts[j]? = some 22) (hd : ds[j]? = some d)
  (h : DataW.Trod enc Try.prog w 0 (fun _ => true) true 22 (.slice A n c) d p) : n * 56 ≤ 140737488351232 := by
 obtain ⟨fuel, hf⟩ := h
 cases fuel with
 | zero => simp [DataW.trod] at hf
 | succ fuel =>
  have hB : Try.prog.bytesOf 25 = 56 := by kernel_rfl
  rcases DataW.trod_slice Try.underlying22 hf with h0 | ⟨a, len, cap, elems, rest, m, -, hv, hx, -, hl, hm, hlen, -⟩
  ·have h1 := h0.1
   simp [Value.cells] at h1
   omega
  ·simp [Value.cells] at hv
   obtain ⟨hA, hn, hc⟩ := hv
   subst hn
   have hd' : d = .slice (elems.map (·.1)) (rest.map (·.1)) := congrArg Prod.fst hx
   have h2 := sized_slice hs ht (hd.trans (congrArg some hd')) Try.underlying22
   rw [hB, List.length_map, List.length_map] at h2
   have h3 : reachBytes = 140737488351232 := by decide
   rw [h3, hlen] at h2
   have h4 : n * 56 ≤ (n + rest.length) * 56 := Nat.mul_le_mul_right _ (Nat.le_add_right _ _)
   omega
end Go.Proofs.Ytfhgknmkpegpbaa
