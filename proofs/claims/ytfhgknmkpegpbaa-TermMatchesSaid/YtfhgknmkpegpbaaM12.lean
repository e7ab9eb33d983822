/- Part 12 of the base: the walks and plain facts that the statement rests on. -/
import Derived.Test.YtfhgknmkpegpbaaM11
import Derived.Test.YtfhgknmkpegpbaaM10
import Derived.Test.YtfhgknmkpegpbaaM1
import Derived.Test.YtfhgknmkpegpbaaM4
import Derived.Test.YtfhgknmkpegpbaaM6
import Derived.Test.YtfhgknmkpegpbaaM9
import Derived.Test.YtfhgknmkpegpbaaM3
import Derived.Test.YtfhgknmkpegpbaaM5

set_option linter.unusedVariables false
set_option linter.unusedSimpArgs false
namespace Go.Proofs.Ytfhgknmkpegpbaa
open Go Go.Abs Go.Proofs Go.RowKit
abbrev ixS (xs : List Int) (n : Int) : Tm := Tm.va (ixI xs n)
def ixN (xs : List Int) (t : Tm) : Int := if t.k = 1 then ixI xs t.n else t.n
theorem ixS_node {xs : List Int} {t : Tm} (hok : t.okB = true) : t.sub (ixS xs) = .mk t.k (ixN xs t) t.s (t.l.map (Tm.sub (ixS xs))) := by
 unfold ixN
 by_cases hk : t.k = 1
 ·have h := okB_va hok hk
  rw [if_pos hk]
  rw [h]
  rfl
 ·rw [if_neg hk]
  cases t with | mk k n s l =>
  have hk' : ¬ k = 1 := hk
  rw [Tm.sub, if_neg hk', Tm.subs_map]
  rfl
set_option maxRecDepth 100000 in
set_option maxHeartbeats 4000000 in
theorem numbered_ok (xs : List Int) (hl : xs.length ≤ 1000000) (t : Tm) : t.okB = true → t.size ≤ 1000000 → ACall Try.prog 129 [tA t, .one (.f (intsF xs))] [] (tA (t.sub (ixS xs))) [] := by
 induction t using Tm.ind with
 | h t ih =>
 intro hok hsz
 have hin := index_ok xs t.n hl
 refine acall_of Try.func129 (by decide) rfl Try.results129 (by rw [Try.ntmps129]; simp) (by simp) ?_
 rw [Try.ntmps129]
 simp only [enumL, List.length_nil, List.length_cons, Nat.reduceAdd]
 repeat (first | refine W.seq ?_ | refine W.block ?_)
 refine W.regionK (by decide) fun N hN => ?_
 repeat (first
  | refine RunS.any (by rfl) (by simp only [smEval, Nat.reduceAdd, Nat.reduceMul, Nat.reduceSub, Nat.reduceBEq, Nat.reduceEqDiff, Nat.reduceLeDiff, Nat.reduceLT, Nat.reduceMod, reduceIte, Int.reduceLE, Int.reduceLT, Int.reduceToNat, Nat.reducePow, ty3, ty4, ty9, ty22, ty25, ty28, ty39, ty122]; try rfl) (by rfl) (by simp only [smPut, Nat.reduceBEq, reduceIte]; exact ⟨rfl, rfl⟩) ?_
  | refine RunS.skip (by rfl) (by simp only [smPut, Nat.reduceBEq, reduceIte]; try rfl) ?_)
 refine RunS.nil (hN _ _ _ ?_)
 clear hN N
 simp only [smLen, Nat.reduceAdd, Nat.reduceMul, reduceIte, Nat.reduceEqDiff]
 repeat (first | refine W.seq ?_ | refine W.block ?_)
 refine W.regionK (by decide) fun N hN => ?_
 repeat (first
  | refine RunS.any (by rfl) (by simp only [smEval, Nat.reduceAdd, Nat.reduceMul, Nat.reduceSub, Nat.reduceBEq, Nat.reduceEqDiff, Nat.reduceLeDiff, Nat.reduceLT, Nat.reduceMod, reduceIte, Int.reduceLE, Int.reduceLT, Int.reduceToNat, Nat.reducePow, ty3, ty4, ty9, ty22, ty25, ty28, ty39, ty122]; try rfl) (by rfl) (by simp only [smPut, Nat.reduceBEq, reduceIte]; exact ⟨rfl, rfl⟩) ?_
  | refine RunS.skip (by rfl) (by simp only [smPut, Nat.reduceBEq, reduceIte]; try rfl) ?_)
 refine RunS.nil (hN _ _ _ ?_)
 clear hN N
 simp only [smLen, Nat.reduceAdd, Nat.reduceMul, reduceIte, Nat.reduceEqDiff]
 repeat (first | refine W.seq ?_ | refine W.block ?_)
 refine W.regionK (by decide) fun N hN => ?_
 repeat (first
  | refine RunS.any (by rfl) (by simp only [smEval, Nat.reduceAdd, Nat.reduceMul, Nat.reduceSub, Nat.reduceBEq, Nat.reduceEqDiff, Nat.reduceLeDiff, Nat.reduceLT, Nat.reduceMod, reduceIte, Int.reduceLE, Int.reduceLT, Int.reduceToNat, Nat.reducePow, ty3, ty4, ty9, ty22, ty25, ty28, ty39, ty122]; try rfl) (by rfl) (by simp only [smPut, Nat.reduceBEq, reduceIte]; exact ⟨rfl, rfl⟩) ?_
  | refine RunS.skip (by rfl) (by simp only [smPut, Nat.reduceBEq, reduceIte]; try rfl) ?_)
 refine RunS.nil (hN _ _ _ ?_)
 clear hN N
 simp only [smLen, Nat.reduceAdd, Nat.reduceMul, reduceIte, Nat.reduceEqDiff]
 refine W.mid (fun T H nx => Wk 37 0 T H nx [(1, .one (.f (intsF xs))), (2, .one (.ptr 0 0)), (4, .one (.ptr 1 0)), (5, .one (.ptr 9 0))] [(0, .box 25 (cA t)), (1, .box 25 zA), (9, .box 25 [.f (.v (.int .i64 t.k)), .f (.v (.int .i64 (ixN xs t))), .f (.v (.string t.s)), .f (.v (.slice none 0 0))])] 14) ?_ ?_
 ·unfold ixN
  by_cases hk : t.k = 1
  ·have dk : decide (t.k = 1) = true := by simpa using hk
   rw [if_pos hk]
   repeat (first
    | refine RunS.any (by rfl) (by simp only [smEval, Nat.reduceAdd, Nat.reduceMul, Nat.reduceSub, Nat.reduceBEq, Nat.reduceEqDiff, Nat.reduceLeDiff, Nat.reduceLT, Nat.reduceMod, reduceIte, Int.reduceLE, Int.reduceLT, Int.reduceToNat, Nat.reducePow, ty3, ty4, ty9, ty22, ty25, ty28, ty39, ty122, dk]; try rfl) (by rfl) (by simp only [smPut, Nat.reduceBEq, reduceIte]; exact ⟨rfl, rfl⟩) ?_
    | refine RunS.callQ (by rfl) rfl (by simp only [smArg, Nat.reduceBEq, reduceIte]; try rfl) (by first | exact hin) rfl (by rfl) (by rfl) ?_
    | refine RunS.skip (by rfl) (by simp only [smPut, Nat.reduceBEq, reduceIte]; try rfl) ?_
    | refine W.seq ?_ | refine W.block ?_ | refine W.regionK (by decide) fun N hN => ?_
    | (refine RunS.nil (hN _ _ _ ?_); clear hN N; simp only [smLen, Nat.reduceAdd, Nat.reduceMul, reduceIte, Nat.reduceEqDiff])
    | ((first | refine W.exit ?_ | refine W.ret ?_ | refine W.skip ?_); try simp only [smLen, reduceIte, Nat.reduceEqDiff])
    | refine W.condF (by rfl) ?_ | refine W.condT (by rfl) ?_)
   refine Wk.keep [] (by rfl) ?_ ?_ <;> simp only [smKeep, Nat.reduceBEq, Nat.reduceLT, reduceIte]
  ·have dk : decide (t.k = 1) = false := by simpa using hk
   rw [if_neg hk]
   repeat (first
    | refine RunS.any (by rfl) (by simp only [smEval, Nat.reduceAdd, Nat.reduceMul, Nat.reduceSub, Nat.reduceBEq, Nat.reduceEqDiff, Nat.reduceLeDiff, Nat.reduceLT, Nat.reduceMod, reduceIte, Int.reduceLE, Int.reduceLT, Int.reduceToNat, Nat.reducePow, ty3, ty4, ty9, ty22, ty25, ty28, ty39, ty122, dk]; try rfl) (by rfl) (by simp only [smPut, Nat.reduceBEq, reduceIte]; exact ⟨rfl, rfl⟩) ?_
    | refine RunS.skip (by rfl) (by simp only [smPut, Nat.reduceBEq, reduceIte]; try rfl) ?_
    | refine W.seq ?_ | refine W.block ?_ | refine W.regionK (by decide) fun N hN => ?_
    | (refine RunS.nil (hN _ _ _ ?_); clear hN N; simp only [smLen, Nat.reduceAdd, Nat.reduceMul, reduceIte, Nat.reduceEqDiff])
    | ((first | refine W.exit ?_ | refine W.ret ?_ | refine W.skip ?_); try simp only [smLen, reduceIte, Nat.reduceEqDiff])
    | refine W.condF (by rfl) ?_ | refine W.condT (by rfl) ?_)
   refine Wk.keep [] (by rfl) ?_ ?_ <;> simp only [smKeep, Nat.reduceBEq, Nat.reduceLT, reduceIte]
 intro T H nx hw'
 refine W.to ?_ hw'
 clear hw' T H nx
 repeat (first | refine W.seq ?_ | refine W.block ?_)
 refine W.regionK (by decide) fun N hN => ?_
 repeat (first
  | refine RunS.any (by rfl) (by simp only [smEval, Nat.reduceAdd, Nat.reduceMul, Nat.reduceSub, Nat.reduceBEq, Nat.reduceEqDiff, Nat.reduceLeDiff, Nat.reduceLT, Nat.reduceMod, reduceIte, Int.reduceLE, Int.reduceLT, Int.reduceToNat, Nat.reducePow, ty3, ty4, ty9, ty22, ty25, ty28, ty39, ty122]; try rfl) (by rfl) (by simp only [smPut, Nat.reduceBEq, reduceIte]; exact ⟨rfl, rfl⟩) ?_
  | refine RunS.skip (by rfl) (by simp only [smPut, Nat.reduceBEq, reduceIte]; try rfl) ?_)
 refine RunS.nil (hN _ _ _ ?_)
 clear hN N
 simp only [smLen, Nat.reduceAdd, Nat.reduceMul, reduceIte, Nat.reduceEqDiff]
 repeat (first | refine W.seq ?_ | refine W.block ?_)
 refine W.loop ?_
 refine WL.wk (Wk.nilB 9 25 3 25 4 _ rfl rfl rfl) ?_
 refine WL.ind (σ := Nat) (nx := 19) (fun j => j ≤ t.l.length) (fun j => t.l.length - j) (fun j => [(1, .one (.f (intsF xs))), (2, .one (.ptr 0 0)), (4, .one (.ptr 1 0)), (5, .one (.ptr 9 0)), (6, vI j)])
  (fun j => [(0, .box 25 (cA t)), (1, .box 25 zA), (9, .box 25 [.f (.v (.int .i64 t.k)), .f (.v (.int .i64 (ixN xs t))), .f (.v (.string t.s)), .row 18 j]), (18, .row 25 4 (((t.l.take j).map (Tm.sub (ixS xs))).map treeC))]) 0 (Nat.zero_le _) ?_ ?_
 ·simp only [put, Nat.reduceBEq, Bool.false_eq_true, reduceIte]
  refine Wk.keep [] (by rfl) ?_ ?_ <;> simp only [smKeep, Nat.reduceBEq, Nat.reduceLT, reduceIte, List.take_zero, List.map_nil]
  all_goals trivial
 intro j hj
 obtain ⟨os, ho⟩ : ∃ o, o = (t.l.take j).map (Tm.sub (ixS xs)) := ⟨_, rfl⟩
 have hol : os.length = j := by rw [ho]; simp; omega
 rw [← ho]
 repeat (first
  | refine RunS.any (by rfl) (by simp only [smEval, Nat.reduceAdd, Nat.reduceMul, Nat.reduceSub, Nat.reduceBEq, Nat.reduceEqDiff, Nat.reduceLeDiff, Nat.reduceLT, Nat.reduceMod, reduceIte, Int.reduceLE, Int.reduceLT, Int.reduceToNat, Nat.reducePow, ty3, ty4, ty9, ty22, ty25, ty28, ty39, ty122]; try rfl) (by rfl) (by simp only [smPut, Nat.reduceBEq, reduceIte]; exact ⟨rfl, rfl⟩) ?_
  | refine RunS.skip (by rfl) (by simp only [smPut, Nat.reduceBEq, reduceIte]; try rfl) ?_
  | refine W.seq ?_ | refine W.block ?_ | refine W.regionK (by decide) fun N hN => ?_
  | (refine RunS.nil (hN _ _ _ ?_); clear hN N; simp only [smLen, Nat.reduceAdd, Nat.reduceMul, reduceIte, Nat.reduceEqDiff])
  | ((first | refine W.exit ?_ | refine W.ret ?_ | refine W.skip ?_); try simp only [smLen, reduceIte, Nat.reduceEqDiff])
  | refine W.condF (by rfl) ?_ | refine W.condT (by rfl) ?_)
 refine W.condD (by rfl) (fun hlt => ?_) (fun hge => ?_)
 ·obtain ⟨x, hx⟩ : ∃ x, t.l[j]? = some x := ⟨_, List.getElem?_eq_getElem (by omega)⟩
  have hxm := List.mem_of_getElem? hx
  have htk : t.l.take (j + 1) = t.l.take j ++ [x] := take_snoc hx
  have hsx := Tm.size_child hxm
  have hcall := ih x hxm ((okB_parts hok).2 x hxm) (by omega)
  have hjz : j ≤ 1000000 := by have := len_le_sizes t.l; have := t.size_eq; omega
  have hb1 : j + 1 ≤ 9223372036854775807 := by omega
  have hb2 : (j + 1) * 56 ≤ 140737488355328 := by omega
  have hw1 : IntKind.i64.wrap ((j : Int) + 1) = ((j + 1 : Nat) : Int) := wrap_i64 (by omega) (by omega)
  repeat (first
   | refine RunS.any (by rfl) (by simp only [smEval, Nat.reduceAdd, Nat.reduceMul, Nat.reduceSub, Nat.reduceBEq, Nat.reduceEqDiff, Nat.reduceLeDiff, Nat.reduceLT, Nat.reduceMod, reduceIte, Int.reduceLE, Int.reduceLT, Int.reduceToNat, Nat.reducePow, ty3, ty4, ty9, ty22, ty25, ty28, ty39, ty122]; try rfl) (by rfl) (by simp only [smPut, Nat.reduceBEq, reduceIte]; exact ⟨rfl, rfl⟩) ?_
   | refine RunS.skip (by rfl) (by simp only [smPut, Nat.reduceBEq, reduceIte]; try rfl) ?_
   | refine W.seq ?_ | refine W.block ?_ | refine W.regionK (by decide) fun N hN => ?_
   | (refine RunS.nil (hN _ _ _ ?_); clear hN N; simp only [smLen, Nat.reduceAdd, Nat.reduceMul, reduceIte, Nat.reduceEqDiff])
   | ((first | refine W.exit ?_ | refine W.ret ?_ | refine W.skip ?_); try simp only [smLen, reduceIte, Nat.reduceEqDiff])
   | refine W.condF (by rfl) ?_ | refine W.condT (by rfl) ?_)
  repeat (first | refine W.seq ?_ | refine W.block ?_)
  refine W.regionDK mixed (by decide) (by rfl) fun N hN => ?_
  repeat (first
   | refine RunD.any (by rfl) (by simp only [smEval, Nat.reduceAdd, Nat.reduceMul, Nat.reduceSub, Nat.reduceBEq, Nat.reduceEqDiff, Nat.reduceLeDiff, Nat.reduceLT, Nat.reduceMod, reduceIte, Int.reduceLE, Int.reduceLT, Int.reduceToNat, Nat.reducePow, ty3, ty4, ty9, ty22, ty25, ty28, ty39, ty122, hx, treeC_eq, hol, hb1, hb2]; try rfl) (by rfl) (by simp only [smPut, Nat.reduceBEq, reduceIte]; exact ⟨rfl, rfl⟩) ?_
   | refine RunD.skip (by rfl) (by simp only [smPut, Nat.reduceBEq, reduceIte]; try rfl) ?_)
  repeat (first
   | refine RunD.any (by rfl) (by simp only [smEval, Nat.reduceAdd, Nat.reduceMul, Nat.reduceSub, Nat.reduceBEq, Nat.reduceEqDiff, Nat.reduceLeDiff, Nat.reduceLT, Nat.reduceMod, reduceIte, Int.reduceLE, Int.reduceLT, Int.reduceToNat, Nat.reducePow, ty3, ty4, ty9, ty22, ty25, ty28, ty39, ty122, hx, treeC_eq, hol, hb1, hb2]; try rfl) (by rfl) (by simp only [smPut, Nat.reduceBEq, reduceIte]; exact ⟨rfl, rfl⟩) ?_
   | refine RunD.callQ (by rfl) rfl (by simp only [smArg, Nat.reduceBEq, reduceIte]; try rfl) (by first | exact hcall) rfl (by rfl) (by rfl) ?_
   | refine RunD.skip (by rfl) (by simp only [smPut, Nat.reduceBEq, reduceIte]; try rfl) ?_)
  refine RunD.nil ⟨by kernel_rfl, hN _ _ _ ?_⟩
  clear hN N
  simp only [smLen, Nat.reduceAdd, Nat.reduceMul, reduceIte, Nat.reduceEqDiff]
  repeat (first
   | refine RunS.any (by rfl) (by simp only [smEval, Nat.reduceAdd, Nat.reduceMul, Nat.reduceSub, Nat.reduceBEq, Nat.reduceEqDiff, Nat.reduceLeDiff, Nat.reduceLT, Nat.reduceMod, reduceIte, Int.reduceLE, Int.reduceLT, Int.reduceToNat, Nat.reducePow, ty3, ty4, ty9, ty22, ty25, ty28, ty39, ty122, hw1]; try rfl) (by rfl) (by simp only [smPut, Nat.reduceBEq, reduceIte]; exact ⟨rfl, rfl⟩) ?_
   | refine RunS.skip (by rfl) (by simp only [smPut, Nat.reduceBEq, reduceIte]; try rfl) ?_
   | refine W.seq ?_ | refine W.block ?_ | refine W.regionK (by decide) fun N hN => ?_
   | (refine RunS.nil (hN _ _ _ ?_); clear hN N; simp only [smLen, Nat.reduceAdd, Nat.reduceMul, reduceIte, Nat.reduceEqDiff])
   | ((first | refine W.exit ?_ | refine W.ret ?_ | refine W.skip ?_); try simp only [smLen, reduceIte, Nat.reduceEqDiff])
   | refine W.condF (by rfl) ?_ | refine W.condT (by rfl) ?_)
  refine ⟨j + 1, by omega, by omega, ?_⟩
  rw [htk, List.map_append, ← ho]
  refine Wk.keep [] (by rfl) ?_ ?_ <;> simp only [smKeep, Nat.reduceBEq, Nat.reduceLT, reduceIte, treeC_eq, List.map_append, List.map_cons, List.map_nil]
 ·have hje : j = t.l.length := by omega
  rw [ixS_node hok]
  rw [hje, List.take_length] at ho
  rw [← ho]
  repeat (first
   | refine RunS.any (by rfl) (by simp only [smEval, Nat.reduceAdd, Nat.reduceMul, Nat.reduceSub, Nat.reduceBEq, Nat.reduceEqDiff, Nat.reduceLeDiff, Nat.reduceLT, Nat.reduceMod, reduceIte, Int.reduceLE, Int.reduceLT, Int.reduceToNat, Nat.reducePow, ty3, ty4, ty9, ty22, ty25, ty28, ty39, ty122]; try rfl) (by rfl) (by simp only [smPut, Nat.reduceBEq, reduceIte]; exact ⟨rfl, rfl⟩) ?_
   | refine RunS.skip (by rfl) (by simp only [smPut, Nat.reduceBEq, reduceIte]; try rfl) ?_
   | refine W.seq ?_ | refine W.block ?_ | refine W.regionK (by decide) fun N hN => ?_
   | (refine RunS.nil (hN _ _ _ ?_); clear hN N; simp only [smLen, Nat.reduceAdd, Nat.reduceMul, reduceIte, Nat.reduceEqDiff])
   | ((first | refine W.exit ?_ | refine W.ret ?_ | refine W.skip ?_); try simp only [smLen, reduceIte, Nat.reduceEqDiff])
   | refine W.condF (by rfl) ?_ | refine W.condT (by rfl) ?_)
  refine Fin.pureS (T' := [(4, .one (.ptr 1 0))]) (H' := [(1, .box 25 [.f (.v (.int .i64 t.k)), .f (.v (.int .i64 (ixN xs t))), .f (.v (.string t.s)), .f (tsF os)])]) (nx' := 14) ?_ (xs := ?_) ?_ rfl ?_ ?_
  ·refine Wk.keep [18] (by rfl) ?_ ?_ <;> simp only [smKeep, Nat.reduceBEq, Nat.reduceLT, reduceIte, hol]
  rotate_left
  ·simp only [smEval, Nat.reduceAdd, Nat.reduceMul, Nat.reduceSub, Nat.reduceBEq, Nat.reduceEqDiff, Nat.reduceLeDiff, Nat.reduceLT, Nat.reduceMod, reduceIte, Int.reduceLE, Int.reduceLT, Int.reduceToNat, Nat.reducePow, ty3, ty4, ty9, ty22, ty25, ty28, ty39, ty122, resA, hol]; try rfl
  ·rfl
  ·exact Sub.refl _
set_option maxRecDepth 100000 in
set_option maxHeartbeats 4000000 in
theorem refNumbered_ok (l : List Tm) (hsz : Tm.sizes l ≤ 900000) (hok : ∀ t ∈ l, t.okB = true) : ACall Try.prog 87 [tsA l] [] (.tup [tsA (l.map (Tm.sub (ixS (varsL l)))), .one (.f (intsF (varsL l)))]) [] := by
 have hv := varsOf_ok l hsz
 have hvl := varsL_len l
 generalize varsL l = xs at hv hvl ⊢
 refine acall_of Try.func87 (by decide) rfl Try.results87 (by rw [Try.ntmps87]; simp) (by simp) ?_
 rw [Try.ntmps87]
 simp only [enumL, List.length_nil, List.length_cons, Nat.reduceAdd]
 repeat (first
  | refine RunS.any (by rfl) (by simp only [smEval, Nat.reduceAdd, Nat.reduceMul, Nat.reduceSub, Nat.reduceBEq, Nat.reduceEqDiff, Nat.reduceLeDiff, Nat.reduceLT, Nat.reduceMod, reduceIte, Int.reduceLE, Int.reduceLT, Int.reduceToNat, Nat.reducePow, ty3, ty4, ty9, ty22, ty25, ty28, ty39, ty122]; try rfl) (by rfl) (by simp only [smPut, Nat.reduceBEq, reduceIte]; exact ⟨rfl, rfl⟩) ?_
  | refine RunS.callQ (by rfl) rfl (by simp only [smArg, Nat.reduceBEq, reduceIte]; try rfl) (by first | exact hv) rfl (by rfl) (by rfl) ?_
  | refine RunS.skip (by rfl) (by simp only [smPut, Nat.reduceBEq, reduceIte]; try rfl) ?_
  | refine W.seq ?_ | refine W.block ?_ | refine W.regionK (by decide) fun N hN => ?_
  | (refine RunS.nil (hN _ _ _ ?_); clear hN N; simp only [smLen, Nat.reduceAdd, Nat.reduceMul, reduceIte, Nat.reduceEqDiff])
  | ((first | refine W.exit ?_ | refine W.ret ?_ | refine W.skip ?_); try simp only [smLen, reduceIte, Nat.reduceEqDiff])
  | refine W.condF (by rfl) ?_ | refine W.condT (by rfl) ?_)
 repeat (first | refine W.seq ?_ | refine W.block ?_)
 refine W.loop ?_
 refine WL.wk (Wk.nilT 5 25 4 rfl rfl) ?_
 refine WL.ind (σ := Nat) (nx := 29) (fun j => j ≤ l.length) (fun j => l.length - j) (fun j => [(0, tsA l), (4, .one (.f (intsF xs))), (5, .one (.row 28 j)), (6, vI j)])
  (fun j => [(28, .row 25 4 (((l.take j).map (Tm.sub (ixS xs))).map treeC))]) 0 (Nat.zero_le _) ?_ ?_
 ·refine Wk.keep [] (by rfl) ?_ ?_ <;> simp only [smKeep, Nat.reduceBEq, Nat.reduceLT, reduceIte, List.take_zero, List.map_nil]
  all_goals trivial
 intro j hj
 obtain ⟨os, ho⟩ : ∃ o, o = (l.take j).map (Tm.sub (ixS xs)) := ⟨_, rfl⟩
 have hol : os.length = j := by rw [ho]; simp; omega
 rw [← ho]
 repeat (first
  | refine RunS.any (by rfl) (by simp only [smEval, Nat.reduceAdd, Nat.reduceMul, Nat.reduceSub, Nat.reduceBEq, Nat.reduceEqDiff, Nat.reduceLeDiff, Nat.reduceLT, Nat.reduceMod, reduceIte, Int.reduceLE, Int.reduceLT, Int.reduceToNat, Nat.reducePow, ty3, ty4, ty9, ty22, ty25, ty28, ty39, ty122]; try rfl) (by rfl) (by simp only [smPut, Nat.reduceBEq, reduceIte]; exact ⟨rfl, rfl⟩) ?_
  | refine RunS.skip (by rfl) (by simp only [smPut, Nat.reduceBEq, reduceIte]; try rfl) ?_
  | refine W.seq ?_ | refine W.block ?_ | refine W.regionK (by decide) fun N hN => ?_
  | (refine RunS.nil (hN _ _ _ ?_); clear hN N; simp only [smLen, Nat.reduceAdd, Nat.reduceMul, reduceIte, Nat.reduceEqDiff])
  | ((first | refine W.exit ?_ | refine W.ret ?_ | refine W.skip ?_); try simp only [smLen, reduceIte, Nat.reduceEqDiff])
  | refine W.condF (by rfl) ?_ | refine W.condT (by rfl) ?_)
 refine W.condD (by rfl) (fun hlt => ?_) (fun hge => ?_)
 ·obtain ⟨x, hx⟩ : ∃ x, l[j]? = some x := ⟨_, List.getElem?_eq_getElem (by omega)⟩
  have hxm := List.mem_of_getElem? hx
  have htk : l.take (j + 1) = l.take j ++ [x] := take_snoc hx
  have hsx := Tm.size_mem hxm
  have hjz : j ≤ 1000000 := by have := len_le_sizes l; omega
  have hcall := numbered_ok xs (by omega) x (hok x hxm) (by omega)
  have hb1 : j + 1 ≤ 9223372036854775807 := by omega
  have hb2 : (j + 1) * 56 ≤ 140737488355328 := by omega
  have hw1 : IntKind.i64.wrap ((j : Int) + 1) = ((j + 1 : Nat) : Int) := wrap_i64 (by omega) (by omega)
  repeat (first
   | refine RunS.any (by rfl) (by simp only [smEval, Nat.reduceAdd, Nat.reduceMul, Nat.reduceSub, Nat.reduceBEq, Nat.reduceEqDiff, Nat.reduceLeDiff, Nat.reduceLT, Nat.reduceMod, reduceIte, Int.reduceLE, Int.reduceLT, Int.reduceToNat, Nat.reducePow, ty3, ty4, ty9, ty22, ty25, ty28, ty39, ty122, hx, treeC_eq, hol, hb1, hb2, hw1]; try rfl) (by rfl) (by simp only [smPut, Nat.reduceBEq, reduceIte]; exact ⟨rfl, rfl⟩) ?_
   | refine RunS.callQ (by rfl) rfl (by simp only [smArg, Nat.reduceBEq, reduceIte]; try rfl) (by first | exact hcall) rfl (by rfl) (by rfl) ?_
   | refine RunS.skip (by rfl) (by simp only [smPut, Nat.reduceBEq, reduceIte]; try rfl) ?_
   | refine W.seq ?_ | refine W.block ?_ | refine W.regionK (by decide) fun N hN => ?_
   | (refine RunS.nil (hN _ _ _ ?_); clear hN N; simp only [smLen, Nat.reduceAdd, Nat.reduceMul, reduceIte, Nat.reduceEqDiff])
   | ((first | refine W.exit ?_ | refine W.ret ?_ | refine W.skip ?_); try simp only [smLen, reduceIte, Nat.reduceEqDiff])
   | refine W.condF (by rfl) ?_ | refine W.condT (by rfl) ?_)
  refine ⟨j + 1, by omega, by omega, ?_⟩
  rw [htk, List.map_append, ← ho]
  refine Wk.keep [] (by rfl) ?_ ?_ <;> simp only [smKeep, Nat.reduceBEq, Nat.reduceLT, reduceIte, treeC_eq, List.map_append, List.map_cons, List.map_nil]
 ·have hje : j = l.length := by omega
  rw [hje, List.take_length] at ho
  rw [← ho]
  repeat (first
   | refine RunS.any (by rfl) (by simp only [smEval, Nat.reduceAdd, Nat.reduceMul, Nat.reduceSub, Nat.reduceBEq, Nat.reduceEqDiff, Nat.reduceLeDiff, Nat.reduceLT, Nat.reduceMod, reduceIte, Int.reduceLE, Int.reduceLT, Int.reduceToNat, Nat.reducePow, ty3, ty4, ty9, ty22, ty25, ty28, ty39, ty122]; try rfl) (by rfl) (by simp only [smPut, Nat.reduceBEq, reduceIte]; exact ⟨rfl, rfl⟩) ?_
   | refine RunS.skip (by rfl) (by simp only [smPut, Nat.reduceBEq, reduceIte]; try rfl) ?_
   | refine W.seq ?_ | refine W.block ?_ | refine W.regionK (by decide) fun N hN => ?_
   | (refine RunS.nil (hN _ _ _ ?_); clear hN N; simp only [smLen, Nat.reduceAdd, Nat.reduceMul, reduceIte, Nat.reduceEqDiff])
   | ((first | refine W.exit ?_ | refine W.ret ?_ | refine W.skip ?_); try simp only [smLen, reduceIte, Nat.reduceEqDiff])
   | refine W.condF (by rfl) ?_ | refine W.condT (by rfl) ?_)
  refine Fin.pureS (T' := [(2, .one (.f (tsF os))), (3, .one (.f (intsF xs)))]) (H' := []) (nx' := 29) ?_ (xs := ?_) ?_ rfl ?_ ?_
  ·refine Wk.keep [28] (by rfl) ?_ ?_ <;> simp only [smKeep, Nat.reduceBEq, Nat.reduceLT, reduceIte, hol]
  rotate_left
  ·simp only [smEval, Nat.reduceAdd, Nat.reduceMul, Nat.reduceSub, Nat.reduceBEq, Nat.reduceEqDiff, Nat.reduceLeDiff, Nat.reduceLT, Nat.reduceMod, reduceIte, Int.reduceLE, Int.reduceLT, Int.reduceToNat, Nat.reducePow, ty3, ty4, ty9, ty22, ty25, ty28, ty39, ty122, resA, hol]; try rfl
  ·rfl
  ·exact Sub.refl _
set_option maxRecDepth 100000 in
set_option maxHeartbeats 4000000 in
theorem refNormal_ok (l : List Tm) (hsz : Tm.sizes l ≤ 900000) : ACall Try.prog 30 [tsA l] [] (.tup [tsA (if allB l = true then normR l else []), .one (.f (intsF (if allB l = true then varsL l else []))), vI (errT (allB l))]) [] := by
 have h1 := refCheckAll_ok l (by omega)
 have hd : decide (errT false ≠ 0) = true := rfl
 have hd' : decide (errT true ≠ 0) = false := rfl
 cases b1 : allB l
 ·rw [b1] at h1
  refine acall_of Try.func30 (by decide) rfl Try.results30 (by rw [Try.ntmps30]; simp) (by simp) ?_
  rw [Try.ntmps30]
  simp only [enumL, List.length_nil, List.length_cons, Nat.reduceAdd]
  repeat (first
   | refine RunS.any (by rfl) (by simp only [smEval, Nat.reduceAdd, Nat.reduceMul, Nat.reduceSub, Nat.reduceBEq, Nat.reduceEqDiff, Nat.reduceLeDiff, Nat.reduceLT, Nat.reduceMod, reduceIte, Int.reduceLE, Int.reduceLT, Int.reduceToNat, Nat.reducePow, ty3, ty4, ty9, ty22, ty25, ty28, ty39, ty122, hd]; try rfl) (by rfl) (by simp only [smPut, Nat.reduceBEq, reduceIte]; exact ⟨rfl, rfl⟩) ?_
   | refine RunS.callQ (by rfl) rfl (by simp only [smArg, Nat.reduceBEq, reduceIte]; try rfl) (by first | exact h1) rfl (by rfl) (by rfl) ?_
   | refine RunS.skip (by rfl) (by simp only [smPut, Nat.reduceBEq, reduceIte]; try rfl) ?_
   | refine W.seq ?_ | refine W.block ?_ | refine W.regionK (by decide) fun N hN => ?_
   | (refine RunS.nil (hN _ _ _ ?_); clear hN N; simp only [smLen, Nat.reduceAdd, Nat.reduceMul, reduceIte, Nat.reduceEqDiff])
   | ((first | refine W.exit ?_ | refine W.ret ?_ | refine W.skip ?_); try simp only [smLen, reduceIte, Nat.reduceEqDiff])
   | refine W.condF (by rfl) ?_ | refine W.condT (by rfl) ?_)
  refine Fin.pureS Wk.refl (xs := ?_) ?_ rfl ?_ ?_
  rotate_left
  ·simp only [smEval, Nat.reduceAdd, Nat.reduceMul, Nat.reduceSub, Nat.reduceBEq, Nat.reduceEqDiff, Nat.reduceLeDiff, Nat.reduceLT, Nat.reduceMod, reduceIte, Int.reduceLE, Int.reduceLT, Int.reduceToNat, Nat.reducePow, ty3, ty4, ty9, ty22, ty25, ty28, ty39, ty122, resA]; try rfl
  ·rfl
  ·simp only [outA, Bool.false_eq_true, reduceIte]; exact sub_tup3 (sub_nil _) (sub_nil _) (Sub.refl _)
 ·rw [b1] at h1
  have h2 := refNumbered_ok l hsz (fun t ht => Tm.okBs_mem (allB_iff.1 b1).1 ht)
  have e : l.map (Tm.sub (ixS (varsL l))) = normR l := by
   rw [normR_eq b1]
   refine List.map_inj_left.2 fun t ht => (sub_congr t (Tm.okBs_mem (allB_iff.1 b1).1 ht)).2 fun n hn => ?_
   have hm : n ∈ varsL l := hasL_iff.2 ⟨t, ht, hn⟩
   show Tm.va (ixI (varsL l) n) = Tm.va (ixL l n)
   rw [ixL_of hm]; unfold ixI; rw [if_pos hm]
  rw [e] at h2
  refine acall_of Try.func30 (by decide) rfl Try.results30 (by rw [Try.ntmps30]; simp) (by simp) ?_
  rw [Try.ntmps30]
  simp only [enumL, List.length_nil, List.length_cons, Nat.reduceAdd]
  repeat (first
   | refine RunS.any (by rfl) (by simp only [smEval, Nat.reduceAdd, Nat.reduceMul, Nat.reduceSub, Nat.reduceBEq, Nat.reduceEqDiff, Nat.reduceLeDiff, Nat.reduceLT, Nat.reduceMod, reduceIte, Int.reduceLE, Int.reduceLT, Int.reduceToNat, Nat.reducePow, ty3, ty4, ty9, ty22, ty25, ty28, ty39, ty122, hd']; try rfl) (by rfl) (by simp only [smPut, Nat.reduceBEq, reduceIte]; exact ⟨rfl, rfl⟩) ?_
   | refine RunS.callQ (by rfl) rfl (by simp only [smArg, Nat.reduceBEq, reduceIte]; try rfl) (by first | exact h1 | exact h2) rfl (by rfl) (by rfl) ?_
   | refine RunS.skip (by rfl) (by simp only [smPut, Nat.reduceBEq, reduceIte]; try rfl) ?_
   | refine W.seq ?_ | refine W.block ?_ | refine W.regionK (by decide) fun N hN => ?_
   | (refine RunS.nil (hN _ _ _ ?_); clear hN N; simp only [smLen, Nat.reduceAdd, Nat.reduceMul, reduceIte, Nat.reduceEqDiff])
   | ((first | refine W.exit ?_ | refine W.ret ?_ | refine W.skip ?_); try simp only [smLen, reduceIte, Nat.reduceEqDiff])
   | refine W.condF (by rfl) ?_ | refine W.condT (by rfl) ?_)
  refine Fin.pureS Wk.refl (xs := ?_) ?_ rfl ?_ ?_
  rotate_left
  ·simp only [smEval, Nat.reduceAdd, Nat.reduceMul, Nat.reduceSub, Nat.reduceBEq, Nat.reduceEqDiff, Nat.reduceLeDiff, Nat.reduceLT, Nat.reduceMod, reduceIte, Int.reduceLE, Int.reduceLT, Int.reduceToNat, Nat.reducePow, ty3, ty4, ty9, ty22, ty25, ty28, ty39, ty122, resA]; try rfl
  ·rfl
  ·exact Sub.refl _
theorem ix_one {x : Tm} (h : isB x = true) : x.sub (ixS (varsL [x])) = normT (ixL [x]) x := by
 rw [norm_one h]
 refine (sub_congr x (isB_iff.1 h).1).2 fun n hn => ?_
 have hm : n ∈ varsL [x] := hasL_iff.2 ⟨x, by simp, hn⟩
 show Tm.va (ixI (varsL [x]) n) = Tm.va (ixL [x] n)
 rw [ixL_of hm]; unfold ixI; rw [if_pos hm]
theorem numRow (t : Tm) (hok : t.okB = true) (hsz : t.size ≤ 900000) : ACall Try.prog 87 [.one (.row 0 1)] [.row 25 4 [treeC t]] (.tup [tsA [t.sub (ixS (varsL [t]))], .one (.f (intsF (varsL [t])))]) [.dead] :=
 ACall.eat (refNumbered_ok [t] (by simp [Tm.sizes]; omega) (fun x hx => by rw [List.mem_singleton.1 hx]; exact hok)) (by simp only [enumL, AV.frzs, AV.frz, AC.frz, look_cons, List.length_cons, List.length_nil, List.range_succ, List.range_zero, List.nil_append, List.contains_cons, beq_self_eq_true, Bool.true_or, reduceIte]; rfl) rfl
set_option maxRecDepth 100000 in
set_option maxHeartbeats 4000000 in
theorem refVariant_ok (x y : Tm) (hx : x.size ≤ 900000) (hy : y.size ≤ 900000) : ACall Try.prog 32 [tA x, tA y] [] (.tup [vB (if allIs [x, y] = true then vntB x y else false), vI (errT (allIs [x, y]))]) [] := by
 have h1 := refCheck_ok x (by omega)
 have h2 := refCheck_ok y (by omega)
 have hd : decide (errT false ≠ 0) = true := rfl
 have hd' : decide (errT true ≠ 0) = false := rfl
 have ha : allIs [x, y] = (isB x && isB y) := by simp [allIs]
 rw [ha]
 cases b1 : isB x
 ·rw [b1] at h1
  refine acall_of Try.func32 (by decide) rfl Try.results32 (by rw [Try.ntmps32]; simp) (by simp) ?_
  rw [Try.ntmps32]
  simp only [enumL, List.length_nil, List.length_cons, Nat.reduceAdd]
  repeat (first
   | refine RunS.any (by rfl) (by simp only [smEval, Nat.reduceAdd, Nat.reduceMul, Nat.reduceSub, Nat.reduceBEq, Nat.reduceEqDiff, Nat.reduceLeDiff, Nat.reduceLT, Nat.reduceMod, reduceIte, Int.reduceLE, Int.reduceLT, Int.reduceToNat, Nat.reducePow, ty3, ty4, ty9, ty22, ty25, ty28, ty39, ty122, hd]; try rfl) (by rfl) (by simp only [smPut, Nat.reduceBEq, reduceIte]; exact ⟨rfl, rfl⟩) ?_
   | refine RunS.callQ (by rfl) rfl (by simp only [smArg, Nat.reduceBEq, reduceIte]; try rfl) (by first | exact h1) rfl (by rfl) (by rfl) ?_
   | refine RunS.skip (by rfl) (by simp only [smPut, Nat.reduceBEq, reduceIte]; try rfl) ?_
   | refine W.seq ?_ | refine W.block ?_ | refine W.regionK (by decide) fun N hN => ?_
   | (refine RunS.nil (hN _ _ _ ?_); clear hN N; simp only [smLen, Nat.reduceAdd, Nat.reduceMul, reduceIte, Nat.reduceEqDiff])
   | ((first | refine W.exit ?_ | refine W.ret ?_ | refine W.skip ?_); try simp only [smLen, reduceIte, Nat.reduceEqDiff])
   | refine W.condF (by rfl) ?_ | refine W.condT (by rfl) ?_)
  refine Fin.pureS Wk.refl (xs := ?_) ?_ rfl ?_ ?_
  rotate_left
  ·simp only [smEval, Nat.reduceAdd, Nat.reduceMul, Nat.reduceSub, Nat.reduceBEq, Nat.reduceEqDiff, Nat.reduceLeDiff, Nat.reduceLT, Nat.reduceMod, reduceIte, Int.reduceLE, Int.reduceLT, Int.reduceToNat, Nat.reducePow, ty3, ty4, ty9, ty22, ty25, ty28, ty39, ty122, resA]; try rfl
  ·rfl
  ·exact Sub.refl _
 rw [b1] at h1
 cases b2 : isB y
 ·rw [b2] at h2
  refine acall_of Try.func32 (by decide) rfl Try.results32 (by rw [Try.ntmps32]; simp) (by simp) ?_
  rw [Try.ntmps32]
  simp only [enumL, List.length_nil, List.length_cons, Nat.reduceAdd]
  repeat (first
   | refine RunS.any (by rfl) (by simp only [smEval, Nat.reduceAdd, Nat.reduceMul, Nat.reduceSub, Nat.reduceBEq, Nat.reduceEqDiff, Nat.reduceLeDiff, Nat.reduceLT, Nat.reduceMod, reduceIte, Int.reduceLE, Int.reduceLT, Int.reduceToNat, Nat.reducePow, ty3, ty4, ty9, ty22, ty25, ty28, ty39, ty122, hd, hd']; try rfl) (by rfl) (by simp only [smPut, Nat.reduceBEq, reduceIte]; exact ⟨rfl, rfl⟩) ?_
   | refine RunS.callQ (by rfl) rfl (by simp only [smArg, Nat.reduceBEq, reduceIte]; try rfl) (by first | exact h1 | exact h2) rfl (by rfl) (by rfl) ?_
   | refine RunS.skip (by rfl) (by simp only [smPut, Nat.reduceBEq, reduceIte]; try rfl) ?_
   | refine W.seq ?_ | refine W.block ?_ | refine W.regionK (by decide) fun N hN => ?_
   | (refine RunS.nil (hN _ _ _ ?_); clear hN N; simp only [smLen, Nat.reduceAdd, Nat.reduceMul, reduceIte, Nat.reduceEqDiff])
   | ((first | refine W.exit ?_ | refine W.ret ?_ | refine W.skip ?_); try simp only [smLen, reduceIte, Nat.reduceEqDiff])
   | refine W.condF (by rfl) ?_ | refine W.condT (by rfl) ?_)
  refine Fin.pureS Wk.refl (xs := ?_) ?_ rfl ?_ ?_
  rotate_left
  ·simp only [smEval, Nat.reduceAdd, Nat.reduceMul, Nat.reduceSub, Nat.reduceBEq, Nat.reduceEqDiff, Nat.reduceLeDiff, Nat.reduceLT, Nat.reduceMod, reduceIte, Int.reduceLE, Int.reduceLT, Int.reduceToNat, Nat.reducePow, ty3, ty4, ty9, ty22, ty25, ty28, ty39, ty122, resA]; try rfl
  ·rfl
  ·exact Sub.refl _
 rw [b2] at h2
 have h3 := numRow x (isB_iff.1 b1).1 hx
 have h4 := numRow y (isB_iff.1 b2).1 hy
 have h5 := refSame_ok (x.sub (ixS (varsL [x]))) (y.sub (ixS (varsL [y])))
 rw [treeC_eq x] at h3
 rw [treeC_eq y] at h4
 have e : vntB x y = sameB (x.sub (ixS (varsL [x]))) (y.sub (ixS (varsL [y]))) := by unfold vntB; rw [ix_one b1, ix_one b2]
 simp only [Bool.and_self, reduceIte, e]
 refine acall_of Try.func32 (by decide) rfl Try.results32 (by rw [Try.ntmps32]; simp) (by simp) ?_
 rw [Try.ntmps32]
 simp only [enumL, List.length_nil, List.length_cons, Nat.reduceAdd]
 repeat (first
  | refine RunS.any (by rfl) (by simp only [smEval, Nat.reduceAdd, Nat.reduceMul, Nat.reduceSub, Nat.reduceBEq, Nat.reduceEqDiff, Nat.reduceLeDiff, Nat.reduceLT, Nat.reduceMod, reduceIte, Int.reduceLE, Int.reduceLT, Int.reduceToNat, Nat.reducePow, ty3, ty4, ty9, ty22, ty25, ty28, ty39, ty122, hd']; try rfl) (by rfl) (by simp only [smPut, Nat.reduceBEq, reduceIte]; exact ⟨rfl, rfl⟩) ?_
  | refine RunS.callQ (by rfl) rfl (by simp only [smArg, Nat.reduceBEq, reduceIte]; try rfl) (by first | exact h1 | exact h2) rfl (by rfl) (by rfl) ?_
  | refine RunS.skip (by rfl) (by simp only [smPut, Nat.reduceBEq, reduceIte]; try rfl) ?_
  | refine W.seq ?_ | refine W.block ?_ | refine W.regionK (by decide) fun N hN => ?_
  | (refine RunS.nil (hN _ _ _ ?_); clear hN N; simp only [smLen, Nat.reduceAdd, Nat.reduceMul, reduceIte, Nat.reduceEqDiff])
  | ((first | refine W.exit ?_ | refine W.ret ?_ | refine W.skip ?_); try simp only [smLen, reduceIte, Nat.reduceEqDiff])
  | refine W.condF (by rfl) ?_ | refine W.condT (by rfl) ?_)
 refine RunS.callH rfl (by rfl) (h3) [49] rfl rfl (by simp only [smArg, Nat.reduceBEq, reduceIte]; try rfl) (by simp only [smPut, Nat.reduceBEq, reduceIte, List.append_nil]; try rfl) (by rfl) (by simp only [enumL, List.forall_mem_cons, List.not_mem_nil, false_implies, implies_true, and_true, look_cons, look_nil, smPut, Nat.reduceBEq, reduceIte, Nat.reduceAdd]; try trivial) (by simp only [smPut, Nat.reduceBEq, reduceIte]; try rfl) (by simp only [smPut, Nat.reduceBEq, reduceIte]; try rfl) ?_
 repeat (first
  | refine RunS.any (by rfl) (by simp only [smEval, Nat.reduceAdd, Nat.reduceMul, Nat.reduceSub, Nat.reduceBEq, Nat.reduceEqDiff, Nat.reduceLeDiff, Nat.reduceLT, Nat.reduceMod, reduceIte, Int.reduceLE, Int.reduceLT, Int.reduceToNat, Nat.reducePow, ty3, ty4, ty9, ty22, ty25, ty28, ty39, ty122]; try rfl) (by rfl) (by simp only [smPut, Nat.reduceBEq, reduceIte]; exact ⟨rfl, rfl⟩) ?_
  | refine RunS.skip (by rfl) (by simp only [smPut, Nat.reduceBEq, reduceIte]; try rfl) ?_
  | refine W.seq ?_ | refine W.block ?_ | refine W.regionK (by decide) fun N hN => ?_
  | (refine RunS.nil (hN _ _ _ ?_); clear hN N; simp only [smLen, Nat.reduceAdd, Nat.reduceMul, reduceIte, Nat.reduceEqDiff])
  | ((first | refine W.exit ?_ | refine W.ret ?_ | refine W.skip ?_); try simp only [smLen, reduceIte, Nat.reduceEqDiff])
  | refine W.condF (by rfl) ?_ | refine W.condT (by rfl) ?_)
 refine RunS.callH rfl (by rfl) (h4) [81] rfl rfl (by simp only [smArg, Nat.reduceBEq, reduceIte]; try rfl) (by simp only [smPut, Nat.reduceBEq, reduceIte, List.append_nil]; try rfl) (by rfl) (by simp only [enumL, List.forall_mem_cons, List.not_mem_nil, false_implies, implies_true, and_true, look_cons, look_nil, smPut, Nat.reduceBEq, reduceIte, Nat.reduceAdd]; try trivial) (by simp only [smPut, Nat.reduceBEq, reduceIte]; try rfl) (by simp only [smPut, Nat.reduceBEq, reduceIte]; try rfl) ?_
 repeat (first
  | refine RunS.any (by rfl) (by simp only [smEval, Nat.reduceAdd, Nat.reduceMul, Nat.reduceSub, Nat.reduceBEq, Nat.reduceEqDiff, Nat.reduceLeDiff, Nat.reduceLT, Nat.reduceMod, reduceIte, Int.reduceLE, Int.reduceLT, Int.reduceToNat, Nat.reducePow, ty3, ty4, ty9, ty22, ty25, ty28, ty39, ty122]; try rfl) (by rfl) (by simp only [smPut, Nat.reduceBEq, reduceIte]; exact ⟨rfl, rfl⟩) ?_
  | refine RunS.skip (by rfl) (by simp only [smPut, Nat.reduceBEq, reduceIte]; try rfl) ?_
  | refine W.seq ?_ | refine W.block ?_ | refine W.regionK (by decide) fun N hN => ?_
  | (refine RunS.nil (hN _ _ _ ?_); clear hN N; simp only [smLen, Nat.reduceAdd, Nat.reduceMul, reduceIte, Nat.reduceEqDiff])
  | ((first | refine W.exit ?_ | refine W.ret ?_ | refine W.skip ?_); try simp only [smLen, reduceIte, Nat.reduceEqDiff])
  | refine W.condF (by rfl) ?_ | refine W.condT (by rfl) ?_)
 repeat (first | refine W.seq ?_ | refine W.block ?_)
 refine W.regionDK mixed (by decide) (by rfl) fun N hN => ?_
 repeat (first
  | refine RunD.any (by rfl) (by simp only [smEval, Nat.reduceAdd, Nat.reduceMul, Nat.reduceSub, Nat.reduceBEq, Nat.reduceEqDiff, Nat.reduceLeDiff, Nat.reduceLT, Nat.reduceMod, reduceIte, Int.reduceLE, Int.reduceLT, Int.reduceToNat, Nat.reducePow, ty3, ty4, ty9, ty22, ty25, ty28, ty39, ty122]; try rfl) (by rfl) (by simp only [smPut, Nat.reduceBEq, reduceIte]; exact ⟨rfl, rfl⟩) ?_
  | refine RunD.skip (by rfl) (by simp only [smPut, Nat.reduceBEq, reduceIte]; try rfl) ?_)
 repeat (first
  | refine RunD.any (by rfl) (by simp only [smEval, Nat.reduceAdd, Nat.reduceMul, Nat.reduceSub, Nat.reduceBEq, Nat.reduceEqDiff, Nat.reduceLeDiff, Nat.reduceLT, Nat.reduceMod, reduceIte, Int.reduceLE, Int.reduceLT, Int.reduceToNat, Nat.reducePow, ty3, ty4, ty9, ty22, ty25, ty28, ty39, ty122, treeC_eq]; try rfl) (by rfl) (by simp only [smPut, Nat.reduceBEq, reduceIte]; exact ⟨rfl, rfl⟩) ?_
  | refine RunD.callQ (by rfl) rfl (by simp only [smArg, Nat.reduceBEq, reduceIte]; try rfl) (by first | exact h5) rfl (by rfl) (by rfl) ?_
  | refine RunD.skip (by rfl) (by simp only [smPut, Nat.reduceBEq, reduceIte]; try rfl) ?_)
 refine RunD.nil ⟨by kernel_rfl, hN _ _ _ ?_⟩
 clear hN N
 simp only [smLen, Nat.reduceAdd, Nat.reduceMul, reduceIte, Nat.reduceEqDiff]
 repeat (first
  | refine RunS.any (by rfl) (by simp only [smEval, Nat.reduceAdd, Nat.reduceMul, Nat.reduceSub, Nat.reduceBEq, Nat.reduceEqDiff, Nat.reduceLeDiff, Nat.reduceLT, Nat.reduceMod, reduceIte, Int.reduceLE, Int.reduceLT, Int.reduceToNat, Nat.reducePow, ty3, ty4, ty9, ty22, ty25, ty28, ty39, ty122]; try rfl) (by rfl) (by simp only [smPut, Nat.reduceBEq, reduceIte]; exact ⟨rfl, rfl⟩) ?_
  | refine RunS.skip (by rfl) (by simp only [smPut, Nat.reduceBEq, reduceIte]; try rfl) ?_
  | refine W.seq ?_ | refine W.block ?_ | refine W.regionK (by decide) fun N hN => ?_
  | (refine RunS.nil (hN _ _ _ ?_); clear hN N; simp only [smLen, Nat.reduceAdd, Nat.reduceMul, reduceIte, Nat.reduceEqDiff])
  | ((first | refine W.exit ?_ | refine W.ret ?_ | refine W.skip ?_); try simp only [smLen, reduceIte, Nat.reduceEqDiff])
  | refine W.condF (by rfl) ?_ | refine W.condT (by rfl) ?_)
 refine Fin.pureS Wk.refl (xs := ?_) ?_ rfl ?_ ?_
 rotate_left
 ·simp only [smEval, Nat.reduceAdd, Nat.reduceMul, Nat.reduceSub, Nat.reduceBEq, Nat.reduceEqDiff, Nat.reduceLeDiff, Nat.reduceLT, Nat.reduceMod, reduceIte, Int.reduceLE, Int.reduceLT, Int.reduceToNat, Nat.reducePow, ty3, ty4, ty9, ty22, ty25, ty28, ty39, ty122, resA]; try rfl
 ·rfl
 ·exact Sub.refl _
end Go.Proofs.Ytfhgknmkpegpbaa
set_option linter.unusedVariables false
set_option linter.unusedSimpArgs false
namespace Go.Proofs.Ytfhgknmkpegpbaa
open Go Go.Abs Go.Proofs Go.RowKit
theorem refFree_ok (t : Tm) : ACall Try.prog 45 [tA t] [] (vB (freeB t)) [] := bridge (enters Try.func45 (by decide) rfl) fun E w vs hvs => by
 obtain ⟨v, rfl, hv⟩ := args1 hvs
 exact (refFree_calls t _ w v hv.toTmV).mono fun e w' ⟨he, hb⟩ => ⟨_, he, hb, fun _ _ _ => .val rfl⟩
end Go.Proofs.Ytfhgknmkpegpbaa
set_option linter.unusedVariables false
set_option linter.unusedSimpArgs false
namespace Go.Proofs.Ytfhgknmkpegpbaa
open Go Go.Abs Go.Proofs Go.RowKit
def padT (l : List Tm) (m : Nat) : List Tm := l ++ List.replicate (m - l.length) Tm.zero
theorem padT_len (l : List Tm) (m : Nat) : (padT l m).length = max l.length m := by simp [padT]; omega
noncomputable section
mutual
def Tm.rm : Tm → Tm → List Tm → List Tm × Bool
 | .mk k n s l, u, sub => if k = 1 then (match (padT sub (n.toNat + 1))[n.toNat]? with
   | some x => if freeB x = true then ((padT sub (n.toNat + 1)).set n.toNat u, true) else (padT sub (n.toNat + 1), sameB x u)
   | none => (sub, false)) else if k = u.k ∧ n = u.n ∧ s.toList = u.s.toList ∧ l.length = u.l.length then Tm.rms l u.l sub else (sub, false)
def Tm.rms : List Tm → List Tm → List Tm → List Tm × Bool
 | [], _, sub => (sub, true)
 | _ :: _, [], sub => (sub, true)
 | x :: xs, y :: ys, sub => if (Tm.rm x y sub).2 = true then Tm.rms xs ys (Tm.rm x y sub).1 else ((Tm.rm x y sub).1, false)
end
end
theorem Tm.rm_eq (t u : Tm) (sub : List Tm) : t.rm u sub = if t.k = 1 then (match (padT sub (t.n.toNat + 1))[t.n.toNat]? with
      | some x => if freeB x = true then ((padT sub (t.n.toNat + 1)).set t.n.toNat u, true) else (padT sub (t.n.toNat + 1), sameB x u)
      | none => (sub, false)) else if t.k = u.k ∧ t.n = u.n ∧ t.s.toList = u.s.toList ∧ t.l.length = u.l.length then Tm.rms t.l u.l sub else (sub, false) := by
  cases t; rw [Tm.rm]; rfl
theorem Tm.rms_nil (ys sub : List Tm) : Tm.rms [] ys sub = (sub, true) := by rw [Tm.rms]
theorem Tm.rms_cons (x y : Tm) (xs ys sub : List Tm) : Tm.rms (x :: xs) (y :: ys) sub = if (Tm.rm x y sub).2 = true then Tm.rms xs ys (Tm.rm x y sub).1 else ((Tm.rm x y sub).1, false) := by rw [Tm.rms]
theorem rms_step : ∀ (xs ys sub : List Tm) (j : Nat) (x y : Tm), xs[j]? = some x → ys[j]? = some y → Tm.rms (xs.take (j + 1)) ys sub = if (Tm.rms (xs.take j) ys sub).2 = true then x.rm y (Tm.rms (xs.take j) ys sub).1 else Tm.rms (xs.take j) ys sub
 | a :: xs, b :: ys, sub, 0, x, y, hx, hy => by
  simp at hx hy; subst hx; subst hy
  simp only [List.take_succ_cons, List.take_zero, Tm.rms_cons, Tm.rms_nil, reduceIte]
  split
  ·rename_i h; rw [← h]
  ·rename_i h
   have : (a.rm b sub).2 = false := by simpa using h
   rw [← this]
 | a :: xs, b :: ys, sub, j + 1, x, y, hx, hy => by
  simp only [List.take_succ_cons, Tm.rms_cons]
  have ih := rms_step xs ys (a.rm b sub).1 j x y (by simpa using hx) (by simpa using hy)
  by_cases h : (a.rm b sub).2 = true
  ·simp only [h, reduceIte]
   have e : xs.take (j + 1) = (xs.take (j + 1)) := rfl
   exact ih
  ·simp only [h, Bool.false_eq_true, reduceIte]
 | [], _, _, j, x, y, hx, hy => by simp at hx
 | _ :: _, [], _, j, x, y, hx, hy => by simp at hy
theorem rms_stop : ∀ (xs ys sub : List Tm) (j : Nat), xs.length = ys.length → (Tm.rms (xs.take j) ys sub).2 = false → Tm.rms xs ys sub = Tm.rms (xs.take j) ys sub
 | [], ys, sub, j, _, h => by simp
 | a :: xs, [], sub, j, hl, h => by simp at hl
 | a :: xs, b :: ys, sub, 0, hl, h => by simp [Tm.rms_nil] at h
 | a :: xs, b :: ys, sub, j + 1, hl, h => by
  simp only [List.take_succ_cons, Tm.rms_cons] at h ⊢
  by_cases hh : (a.rm b sub).2 = true
  ·simp only [hh, reduceIte] at h ⊢
   exact rms_stop xs ys _ j (by simpa using hl) h
  ·simp only [hh, Bool.false_eq_true, reduceIte]
theorem Tm.rm_len (n : Nat) : (∀ (t u : Tm) (sub : List Tm), t.size ≤ n → t.okB = true → sub.length ≤ 100000 → (t.rm u sub).1.length ≤ 100000) ∧ (∀ (xs ys sub : List Tm), Tm.sizes xs ≤ n → (∀ x ∈ xs, x.okB = true) → sub.length ≤ 100000 → (Tm.rms xs ys sub).1.length ≤ 100000) := by
 induction n with
 | zero =>
  refine ⟨fun t u sub h => by have := t.size_pos; omega, fun xs ys sub h ho hs => ?_⟩
  cases xs with
  | nil => rw [Tm.rms_nil]; exact hs
  | cons a l => rw [Tm.sizes] at h; have := a.size_pos; omega
 | succ n ih =>
  have h1 : ∀ (t u : Tm) (sub : List Tm), t.size ≤ n + 1 → t.okB = true → sub.length ≤ 100000 → (t.rm u sub).1.length ≤ 100000 := fun t u sub h ho hs => by
   rw [t.size_eq] at h
   rw [Tm.rm_eq]
   split
   ·rename_i hk
    have hb := var_bd ho hk
    split
    ·split
     ·simp only [List.length_set, padT_len]; omega
     ·simp only [padT_len]; omega
    ·exact hs
   ·split
    ·exact ih.2 _ _ _ (by omega) (okB_parts ho).2 hs
    ·exact hs
  refine ⟨h1, fun xs => ?_⟩
  induction xs with
  | nil => intro ys sub _ _ hs; rw [Tm.rms_nil]; exact hs
  | cons a l ihl =>
   intro ys sub h ho hs
   rw [Tm.sizes] at h
   have ha := ho a (List.mem_cons_self ..)
   cases ys with
   | nil => rw [Tm.rms]; exact hs
   | cons y ys =>
    rw [Tm.rms_cons]
    split
    ·exact ihl ys _ (by omega) (fun x hx => ho x (List.mem_cons_of_mem _ hx)) (h1 a y sub (by omega) ha hs)
    ·exact h1 a y sub (by omega) ha hs
theorem zero_sub (l : List Tm) : ∀ (i : Nat) (e' : List FC), ((l ++ [Tm.zero]).map treeC)[i]? = some e' → ∃ e, (l.map treeC ++ [[.v (.int .i64 0), .v (.int .i64 0), .v (.string ⟨#[]⟩), .v (.slice none 0 0)]])[i]? = some e ∧ e'.length = e.length ∧
  ∀ (j : Nat) (c' : FC), e'[j]? = some c' → ∃ c, e[j]? = some c ∧ ∀ (w : World) (F : Nat → Prop) (v : Value), Rf w F c v → Rf w F c' v := by
 intro i e' h
 rw [List.map_append, List.map_cons, List.map_nil] at h
 rcases Nat.lt_or_ge i (l.map treeC).length with hl | hl
 ·rw [List.getElem?_append_left hl] at h
  exact ⟨e', by rw [List.getElem?_append_left hl]; exact h, rfl, fun j c' hj => ⟨c', hj, fun _ _ _ h => h⟩⟩
 ·rw [List.getElem?_append_right hl] at h
  have hi : i - (l.map treeC).length = 0 := by have := (List.getElem?_eq_some_iff.1 h).1; simp at this; simpa using this
  rw [hi] at h
  simp at h; subst h
  refine ⟨_, by rw [List.getElem?_append_right hl, hi]; rfl, by rw [treeC_eq]; rfl, fun j c' hj => ?_⟩
  rw [treeC_eq] at hj
  match j with
  | 0 => simp at hj; subst hj; exact ⟨_, rfl, fun _ _ _ h => h⟩
  | 1 => simp at hj; subst hj; exact ⟨_, rfl, fun _ _ _ h => h⟩
  | 2 => simp at hj; subst hj; exact ⟨_, rfl, fun _ _ _ h => h⟩
  | 3 => simp at hj; subst hj; exact ⟨_, rfl, fun _ _ _ h => rf_nil 4 h⟩
  | j + 4 => simp at hj
set_option maxRecDepth 100000 in
set_option maxHeartbeats 4000000 in
theorem rmatch_ok (p : Tm) : ∀ (t : Tm) (sub : List Tm), p.okB = true → p.size ≤ 1000000 → sub.length ≤ 100000 → ACall Try.prog 91 [tA p, tA t, .one (.row 0 sub.length)] [.row 25 4 (sub.map treeC)] (.tup [.one (.row 0 (p.rm t sub).1.length), vB (p.rm t sub).2]) [.row 25 4 ((p.rm t sub).1.map treeC)] := by
 induction p using Tm.ind with
 | h p ih =>
 intro t sub hok hsz hsl
 obtain ⟨R, hR⟩ : ∃ R, R = p.rm t sub := ⟨_, rfl⟩
 rw [← hR]
 rw [Tm.rm_eq] at hR
 by_cases hk : p.k = 1
 ·have dk : decide (p.k = 1) = true := by simpa using hk
  rw [if_pos hk] at hR
  obtain ⟨hn0, hn1⟩ := var_bd hok hk
  obtain ⟨q, hq⟩ : ∃ q, q = padT sub (p.n.toNat + 1) := ⟨_, rfl⟩
  have hql : q.length = max sub.length (p.n.toNat + 1) := by rw [hq, padT_len]
  rw [← hq] at hR
  obtain ⟨x, hx⟩ : ∃ x, q[p.n.toNat]? = some x := ⟨_, List.getElem?_eq_getElem (by omega)⟩
  rw [hx] at hR
  simp only at hR
  refine acall_of Try.func91 (by decide) rfl Try.results91 (by rw [Try.ntmps91]; simp) (by simp) ?_
  rw [Try.ntmps91]
  simp only [enumL, List.length_nil, List.length_cons, Nat.reduceAdd]
  repeat (first
   | refine RunS.any (by rfl) (by simp only [smEval, Nat.reduceAdd, Nat.reduceMul, Nat.reduceSub, Nat.reduceBEq, Nat.reduceEqDiff, Nat.reduceLeDiff, Nat.reduceLT, Nat.reduceMod, reduceIte, Int.reduceLE, Int.reduceLT, Int.reduceToNat, Nat.reducePow, ty3, ty4, ty9, ty22, ty25, ty28, ty39, ty122, dk]; try rfl) (by rfl) (by simp only [smPut, Nat.reduceBEq, reduceIte]; exact ⟨rfl, rfl⟩) ?_
   | refine RunS.skip (by rfl) (by simp only [smPut, Nat.reduceBEq, reduceIte]; try rfl) ?_
   | refine W.seq ?_ | refine W.block ?_ | refine W.regionK (by decide) fun N hN => ?_
   | (refine RunS.nil (hN _ _ _ ?_); clear hN N; simp only [smLen, Nat.reduceAdd, Nat.reduceMul, reduceIte, Nat.reduceEqDiff])
   | ((first | refine W.exit ?_ | refine W.ret ?_ | refine W.skip ?_); try simp only [smLen, reduceIte, Nat.reduceEqDiff])
   | refine W.condF (by rfl) ?_ | refine W.condT (by rfl) ?_)
  repeat (first | refine W.seq ?_ | refine W.block ?_)
  refine W.loop ?_
  refine WL.ind (σ := Nat) (nx := 29) (fun i => i ≤ p.n.toNat + 1 - sub.length) (fun i => p.n.toNat + 1 - sub.length - i) (fun i => [(2, .one (.row 0 (sub.length + i))), (3, .one (.ptr 1 0)), (4, .one (.ptr 2 0))])
   (fun i => [(0, .row 25 4 ((sub ++ List.replicate i Tm.zero).map treeC)), (1, .box 25 (cA p)), (2, .box 25 (cA t))]) 0 (Nat.zero_le _) ?_ ?_
  ·refine Wk.keep [] (by rfl) ?_ ?_ <;> simp only [smKeep, Nat.reduceBEq, Nat.reduceLT, reduceIte, List.replicate_zero, List.append_nil]
   all_goals trivial
  intro i hi
  obtain ⟨ls, hls⟩ : ∃ ls, ls = sub ++ List.replicate i Tm.zero := ⟨_, rfl⟩
  have hll : ls.length = sub.length + i := by rw [hls]; simp
  rw [← hls]
  repeat (first
   | refine RunS.any (by rfl) (by simp only [smEval, Nat.reduceAdd, Nat.reduceMul, Nat.reduceSub, Nat.reduceBEq, Nat.reduceEqDiff, Nat.reduceLeDiff, Nat.reduceLT, Nat.reduceMod, reduceIte, Int.reduceLE, Int.reduceLT, Int.reduceToNat, Nat.reducePow, ty3, ty4, ty9, ty22, ty25, ty28, ty39, ty122]; try rfl) (by rfl) (by simp only [smPut, Nat.reduceBEq, reduceIte]; exact ⟨rfl, rfl⟩) ?_
   | refine RunS.skip (by rfl) (by simp only [smPut, Nat.reduceBEq, reduceIte]; try rfl) ?_
   | refine W.seq ?_ | refine W.block ?_ | refine W.regionK (by decide) fun N hN => ?_
   | (refine RunS.nil (hN _ _ _ ?_); clear hN N; simp only [smLen, Nat.reduceAdd, Nat.reduceMul, reduceIte, Nat.reduceEqDiff])
   | ((first | refine W.exit ?_ | refine W.ret ?_ | refine W.skip ?_); try simp only [smLen, reduceIte, Nat.reduceEqDiff])
   | refine W.condF (by rfl) ?_ | refine W.condT (by rfl) ?_)
  refine W.condD (by rfl) (fun hlt => ?_) (fun hge => ?_)
  ·have hb1 : sub.length + i + 1 ≤ 9223372036854775807 := by omega
   have hb2 : (sub.length + i + 1) * 56 ≤ 140737488355328 := by omega
   repeat (first
    | refine RunS.any (by rfl) (by simp only [smEval, Nat.reduceAdd, Nat.reduceMul, Nat.reduceSub, Nat.reduceBEq, Nat.reduceEqDiff, Nat.reduceLeDiff, Nat.reduceLT, Nat.reduceMod, reduceIte, Int.reduceLE, Int.reduceLT, Int.reduceToNat, Nat.reducePow, ty3, ty4, ty9, ty22, ty25, ty28, ty39, ty122, hll, hb1, hb2]; try rfl) (by rfl) (by simp only [smPut, Nat.reduceBEq, reduceIte]; exact ⟨rfl, rfl⟩) ?_
    | refine RunS.skip (by rfl) (by simp only [smPut, Nat.reduceBEq, reduceIte]; try rfl) ?_
    | refine W.seq ?_ | refine W.block ?_ | refine W.regionK (by decide) fun N hN => ?_
    | (refine RunS.nil (hN _ _ _ ?_); clear hN N; simp only [smLen, Nat.reduceAdd, Nat.reduceMul, reduceIte, Nat.reduceEqDiff])
    | ((first | refine W.exit ?_ | refine W.ret ?_ | refine W.skip ?_); try simp only [smLen, reduceIte, Nat.reduceEqDiff])
    | refine W.condF (by rfl) ?_ | refine W.condT (by rfl) ?_)
   refine ⟨i + 1, by omega, by omega, ?_⟩
   refine (Wk.rowSub 0 25 4 _ ((ls ++ [Tm.zero]).map treeC) rfl (by simp) (zero_sub ls)).trans ?_
   simp only [put, Nat.reduceBEq, Bool.false_eq_true, reduceIte]
   have e : sub ++ List.replicate (i + 1) Tm.zero = ls ++ [Tm.zero] := by rw [hls, List.replicate_succ', List.append_assoc]
   rw [e]
   refine Wk.keep [] (by rfl) ?_ ?_ <;> simp only [smKeep, Nat.reduceBEq, Nat.reduceLT, reduceIte, Nat.add_assoc]
  ·have hie : i = p.n.toNat + 1 - sub.length := by omega
   have e : ls = q := by rw [hls, hq, hie]; rfl
   rw [e] at hll
   rw [e, ← hll]
   have hfree := refFree_ok x
   have hlt : p.n.toNat < q.length := by omega
   cases hf : freeB x
   ·rw [hf] at hR hfree
    simp only [Bool.false_eq_true, reduceIte] at hR
    have hsame := refSame_ok x t
    repeat (first
     | refine RunS.any (by rfl) (by simp only [smEval, Nat.reduceAdd, Nat.reduceMul, Nat.reduceSub, Nat.reduceBEq, Nat.reduceEqDiff, Nat.reduceLeDiff, Nat.reduceLT, Nat.reduceMod, reduceIte, Int.reduceLE, Int.reduceLT, Int.reduceToNat, Nat.reducePow, ty3, ty4, ty9, ty22, ty25, ty28, ty39, ty122, hn0, hlt, hx, treeC_eq x]; try rfl) (by rfl) (by simp only [smPut, Nat.reduceBEq, reduceIte]; exact ⟨rfl, rfl⟩) ?_
     | refine RunS.callQ (by rfl) rfl (by simp only [smArg, Nat.reduceBEq, reduceIte]; try rfl) (by first | exact hfree) rfl (by rfl) (by rfl) ?_
     | refine RunS.skip (by rfl) (by simp only [smPut, Nat.reduceBEq, reduceIte]; try rfl) ?_
     | refine W.seq ?_ | refine W.block ?_ | refine W.regionK (by decide) fun N hN => ?_
     | (refine RunS.nil (hN _ _ _ ?_); clear hN N; simp only [smLen, Nat.reduceAdd, Nat.reduceMul, reduceIte, Nat.reduceEqDiff])
     | ((first | refine W.exit ?_ | refine W.ret ?_ | refine W.skip ?_); try simp only [smLen, reduceIte, Nat.reduceEqDiff])
     | refine W.condF (by rfl) ?_ | refine W.condT (by rfl) ?_)
    repeat (first | refine W.seq ?_ | refine W.block ?_)
    refine W.regionDK mixed (by decide) (by rfl) fun N hN => ?_
    repeat (first
     | refine RunD.any (by rfl) (by simp only [smEval, Nat.reduceAdd, Nat.reduceMul, Nat.reduceSub, Nat.reduceBEq, Nat.reduceEqDiff, Nat.reduceLeDiff, Nat.reduceLT, Nat.reduceMod, reduceIte, Int.reduceLE, Int.reduceLT, Int.reduceToNat, Nat.reducePow, ty3, ty4, ty9, ty22, ty25, ty28, ty39, ty122, hn0, hlt, hx, treeC_eq x]; try rfl) (by rfl) (by simp only [smPut, Nat.reduceBEq, reduceIte]; exact ⟨rfl, rfl⟩) ?_
     | refine RunD.skip (by rfl) (by simp only [smPut, Nat.reduceBEq, reduceIte]; try rfl) ?_)
    repeat (first
     | refine RunD.any (by rfl) (by simp only [smEval, Nat.reduceAdd, Nat.reduceMul, Nat.reduceSub, Nat.reduceBEq, Nat.reduceEqDiff, Nat.reduceLeDiff, Nat.reduceLT, Nat.reduceMod, reduceIte, Int.reduceLE, Int.reduceLT, Int.reduceToNat, Nat.reducePow, ty3, ty4, ty9, ty22, ty25, ty28, ty39, ty122, hn0, hlt, hx, treeC_eq x]; try rfl) (by rfl) (by simp only [smPut, Nat.reduceBEq, reduceIte]; exact ⟨rfl, rfl⟩) ?_
     | refine RunD.callQ (by rfl) rfl (by simp only [smArg, Nat.reduceBEq, reduceIte]; try rfl) (by first | exact hsame) rfl (by rfl) (by rfl) ?_
     | refine RunD.skip (by rfl) (by simp only [smPut, Nat.reduceBEq, reduceIte]; try rfl) ?_)
    refine RunD.nil ⟨by kernel_rfl, hN _ _ _ ?_⟩
    clear hN N
    simp only [smLen, Nat.reduceAdd, Nat.reduceMul, reduceIte, Nat.reduceEqDiff]
    repeat (first
     | refine RunS.any (by rfl) (by simp only [smEval, Nat.reduceAdd, Nat.reduceMul, Nat.reduceSub, Nat.reduceBEq, Nat.reduceEqDiff, Nat.reduceLeDiff, Nat.reduceLT, Nat.reduceMod, reduceIte, Int.reduceLE, Int.reduceLT, Int.reduceToNat, Nat.reducePow, ty3, ty4, ty9, ty22, ty25, ty28, ty39, ty122]; try rfl) (by rfl) (by simp only [smPut, Nat.reduceBEq, reduceIte]; exact ⟨rfl, rfl⟩) ?_
     | refine RunS.skip (by rfl) (by simp only [smPut, Nat.reduceBEq, reduceIte]; try rfl) ?_
     | refine W.seq ?_ | refine W.block ?_ | refine W.regionK (by decide) fun N hN => ?_
     | (refine RunS.nil (hN _ _ _ ?_); clear hN N; simp only [smLen, Nat.reduceAdd, Nat.reduceMul, reduceIte, Nat.reduceEqDiff])
     | ((first | refine W.exit ?_ | refine W.ret ?_ | refine W.skip ?_); try simp only [smLen, reduceIte, Nat.reduceEqDiff])
     | refine W.condF (by rfl) ?_ | refine W.condT (by rfl) ?_)
    subst hR
    refine Fin.keep (T' := [(6, .one (.row 0 q.length)), (7, vB (sameB x t))]) (H' := [(0, .row 25 4 (q.map treeC))]) (nx' := 60) ?_ [0] (xs := ?_) ?_ ?_ ?_ ?_
    ·refine Wk.keep [] (by rfl) ?_ ?_ <;> simp only [smKeep, Nat.reduceBEq, Nat.reduceLT, reduceIte]
    rotate_left
    ·simp only [smEval, Nat.reduceAdd, Nat.reduceMul, Nat.reduceSub, Nat.reduceBEq, Nat.reduceEqDiff, Nat.reduceLeDiff, Nat.reduceLT, Nat.reduceMod, reduceIte, Int.reduceLE, Int.reduceLT, Int.reduceToNat, Nat.reducePow, ty3, ty4, ty9, ty22, ty25, ty28, ty39, ty122, resA]; try rfl
    ·simp only [outA, smPut, Nat.reduceBEq, reduceIte]
    ·kernel_rfl
    ·simp only [enumL, List.forall_mem_cons, List.not_mem_nil, false_implies, implies_true, and_true, look_cons, look_nil, smPut, Nat.reduceBEq, reduceIte, Nat.reduceAdd, List.map_append, List.length_append, List.length_cons, List.length_nil]; try trivial
   ·rw [hf] at hR hfree
    simp only [reduceIte] at hR
    repeat (first
     | refine RunS.any (by rfl) (by simp only [smEval, Nat.reduceAdd, Nat.reduceMul, Nat.reduceSub, Nat.reduceBEq, Nat.reduceEqDiff, Nat.reduceLeDiff, Nat.reduceLT, Nat.reduceMod, reduceIte, Int.reduceLE, Int.reduceLT, Int.reduceToNat, Nat.reducePow, ty3, ty4, ty9, ty22, ty25, ty28, ty39, ty122, hn0, hlt, hx, treeC_eq x]; try rfl) (by rfl) (by simp only [smPut, Nat.reduceBEq, reduceIte]; exact ⟨rfl, rfl⟩) ?_
     | refine RunS.callQ (by rfl) rfl (by simp only [smArg, Nat.reduceBEq, reduceIte]; try rfl) (by first | exact hfree) rfl (by rfl) (by rfl) ?_
     | refine RunS.skip (by rfl) (by simp only [smPut, Nat.reduceBEq, reduceIte]; try rfl) ?_
     | refine W.seq ?_ | refine W.block ?_ | refine W.regionK (by decide) fun N hN => ?_
     | (refine RunS.nil (hN _ _ _ ?_); clear hN N; simp only [smLen, Nat.reduceAdd, Nat.reduceMul, reduceIte, Nat.reduceEqDiff])
     | ((first | refine W.exit ?_ | refine W.ret ?_ | refine W.skip ?_); try simp only [smLen, reduceIte, Nat.reduceEqDiff])
     | refine W.condF (by rfl) ?_ | refine W.condT (by rfl) ?_)
    subst hR
    refine Fin.keep (T' := [(6, .one (.row 0 (q.set p.n.toNat t).length)), (7, vB true)]) (H' := [(0, .row 25 4 ((q.set p.n.toNat t).map treeC))]) (nx' := 60) ?_ [0] (xs := ?_) ?_ ?_ ?_ ?_
    ·refine Wk.keep [] (by rfl) ?_ ?_ <;> simp only [smKeep, Nat.reduceBEq, Nat.reduceLT, reduceIte, List.map_set, treeC_eq t, List.length_set]
    rotate_left
    ·simp only [smEval, Nat.reduceAdd, Nat.reduceMul, Nat.reduceSub, Nat.reduceBEq, Nat.reduceEqDiff, Nat.reduceLeDiff, Nat.reduceLT, Nat.reduceMod, reduceIte, Int.reduceLE, Int.reduceLT, Int.reduceToNat, Nat.reducePow, ty3, ty4, ty9, ty22, ty25, ty28, ty39, ty122, resA, List.map_set, treeC_eq t, List.length_set]; try rfl
    ·simp only [outA, smPut, Nat.reduceBEq, reduceIte, List.map_set, treeC_eq t, List.length_set]
    ·kernel_rfl
    ·simp only [enumL, List.forall_mem_cons, List.not_mem_nil, false_implies, implies_true, and_true, look_cons, look_nil, smPut, Nat.reduceBEq, reduceIte, Nat.reduceAdd, List.map_append, List.length_append, List.length_cons, List.length_nil, List.map_set, treeC_eq t, List.length_set]; try trivial
 ·have dk : decide (p.k = 1) = false := by simpa using hk
  rw [if_neg hk] at hR
  by_cases c1 : p.k = t.k
  case neg =>
   rw [if_neg (fun h => c1 h.1)] at hR
   have d1 : decide (p.k ≠ t.k) = true := by simpa using c1
   subst hR
   refine acall_of Try.func91 (by decide) rfl Try.results91 (by rw [Try.ntmps91]; simp) (by simp) ?_
   rw [Try.ntmps91]
   simp only [enumL, List.length_nil, List.length_cons, Nat.reduceAdd]
   repeat (first
    | refine RunS.any (by rfl) (by simp only [smEval, Nat.reduceAdd, Nat.reduceMul, Nat.reduceSub, Nat.reduceBEq, Nat.reduceEqDiff, Nat.reduceLeDiff, Nat.reduceLT, Nat.reduceMod, reduceIte, Int.reduceLE, Int.reduceLT, Int.reduceToNat, Nat.reducePow, ty3, ty4, ty9, ty22, ty25, ty28, ty39, ty122, dk, d1]; try rfl) (by rfl) (by simp only [smPut, Nat.reduceBEq, reduceIte]; exact ⟨rfl, rfl⟩) ?_
    | refine RunS.skip (by rfl) (by simp only [smPut, Nat.reduceBEq, reduceIte]; try rfl) ?_
    | refine W.seq ?_ | refine W.block ?_ | refine W.regionK (by decide) fun N hN => ?_
    | (refine RunS.nil (hN _ _ _ ?_); clear hN N; simp only [smLen, Nat.reduceAdd, Nat.reduceMul, reduceIte, Nat.reduceEqDiff])
    | ((first | refine W.exit ?_ | refine W.ret ?_ | refine W.skip ?_); try simp only [smLen, reduceIte, Nat.reduceEqDiff])
    | refine W.condF (by rfl) ?_ | refine W.condT (by rfl) ?_)
   refine Fin.keep (T' := [(6, .one (.row 0 sub.length)), (7, vB false)]) (H' := [(0, .row 25 4 (sub.map treeC))]) (nx' := 200) ?_ [0] (xs := ?_) ?_ ?_ ?_ ?_
   ·refine Wk.keep [] (by rfl) ?_ ?_ <;> simp only [smKeep, Nat.reduceBEq, Nat.reduceLT, reduceIte]
   rotate_left
   ·simp only [smEval, Nat.reduceAdd, Nat.reduceMul, Nat.reduceSub, Nat.reduceBEq, Nat.reduceEqDiff, Nat.reduceLeDiff, Nat.reduceLT, Nat.reduceMod, reduceIte, Int.reduceLE, Int.reduceLT, Int.reduceToNat, Nat.reducePow, ty3, ty4, ty9, ty22, ty25, ty28, ty39, ty122, resA]; try rfl
   ·simp only [outA, smPut, Nat.reduceBEq, reduceIte]
   ·kernel_rfl
   ·simp only [enumL, List.forall_mem_cons, List.not_mem_nil, false_implies, implies_true, and_true, look_cons, look_nil, smPut, Nat.reduceBEq, reduceIte, Nat.reduceAdd, List.map_append, List.length_append, List.length_cons, List.length_nil]; try trivial
  have d1 : decide (p.k ≠ t.k) = false := by simpa using c1
  by_cases c2 : p.n = t.n
  case neg =>
   rw [if_neg (fun h => c2 h.2.1)] at hR
   have d2 : decide (p.n ≠ t.n) = true := by simpa using c2
   subst hR
   refine acall_of Try.func91 (by decide) rfl Try.results91 (by rw [Try.ntmps91]; simp) (by simp) ?_
   rw [Try.ntmps91]
   simp only [enumL, List.length_nil, List.length_cons, Nat.reduceAdd]
   repeat (first
    | refine RunS.any (by rfl) (by simp only [smEval, Nat.reduceAdd, Nat.reduceMul, Nat.reduceSub, Nat.reduceBEq, Nat.reduceEqDiff, Nat.reduceLeDiff, Nat.reduceLT, Nat.reduceMod, reduceIte, Int.reduceLE, Int.reduceLT, Int.reduceToNat, Nat.reducePow, ty3, ty4, ty9, ty22, ty25, ty28, ty39, ty122, dk, d1, d2]; try rfl) (by rfl) (by simp only [smPut, Nat.reduceBEq, reduceIte]; exact ⟨rfl, rfl⟩) ?_
    | refine RunS.skip (by rfl) (by simp only [smPut, Nat.reduceBEq, reduceIte]; try rfl) ?_
    | refine W.seq ?_ | refine W.block ?_ | refine W.regionK (by decide) fun N hN => ?_
    | (refine RunS.nil (hN _ _ _ ?_); clear hN N; simp only [smLen, Nat.reduceAdd, Nat.reduceMul, reduceIte, Nat.reduceEqDiff])
    | ((first | refine W.exit ?_ | refine W.ret ?_ | refine W.skip ?_); try simp only [smLen, reduceIte, Nat.reduceEqDiff])
    | refine W.condF (by rfl) ?_ | refine W.condT (by rfl) ?_)
   refine Fin.keep (T' := [(6, .one (.row 0 sub.length)), (7, vB false)]) (H' := [(0, .row 25 4 (sub.map treeC))]) (nx' := 200) ?_ [0] (xs := ?_) ?_ ?_ ?_ ?_
   ·refine Wk.keep [] (by rfl) ?_ ?_ <;> simp only [smKeep, Nat.reduceBEq, Nat.reduceLT, reduceIte]
   rotate_left
   ·simp only [smEval, Nat.reduceAdd, Nat.reduceMul, Nat.reduceSub, Nat.reduceBEq, Nat.reduceEqDiff, Nat.reduceLeDiff, Nat.reduceLT, Nat.reduceMod, reduceIte, Int.reduceLE, Int.reduceLT, Int.reduceToNat, Nat.reducePow, ty3, ty4, ty9, ty22, ty25, ty28, ty39, ty122, resA]; try rfl
   ·simp only [outA, smPut, Nat.reduceBEq, reduceIte]
   ·kernel_rfl
   ·simp only [enumL, List.forall_mem_cons, List.not_mem_nil, false_implies, implies_true, and_true, look_cons, look_nil, smPut, Nat.reduceBEq, reduceIte, Nat.reduceAdd, List.map_append, List.length_append, List.length_cons, List.length_nil]; try trivial
  have d2 : decide (p.n ≠ t.n) = false := by simpa using c2
  by_cases c3 : p.s.toList = t.s.toList
  case neg =>
   rw [if_neg (fun h => c3 h.2.2.1)] at hR
   have d3 : decide (p.s.toList ≠ t.s.toList) = true := by simpa using c3
   subst hR
   refine acall_of Try.func91 (by decide) rfl Try.results91 (by rw [Try.ntmps91]; simp) (by simp) ?_
   rw [Try.ntmps91]
   simp only [enumL, List.length_nil, List.length_cons, Nat.reduceAdd]
   repeat (first
    | refine RunS.any (by rfl) (by simp only [smEval, Nat.reduceAdd, Nat.reduceMul, Nat.reduceSub, Nat.reduceBEq, Nat.reduceEqDiff, Nat.reduceLeDiff, Nat.reduceLT, Nat.reduceMod, reduceIte, Int.reduceLE, Int.reduceLT, Int.reduceToNat, Nat.reducePow, ty3, ty4, ty9, ty22, ty25, ty28, ty39, ty122, dk, d1, d2, d3]; try rfl) (by rfl) (by simp only [smPut, Nat.reduceBEq, reduceIte]; exact ⟨rfl, rfl⟩) ?_
    | refine RunS.skip (by rfl) (by simp only [smPut, Nat.reduceBEq, reduceIte]; try rfl) ?_
    | refine W.seq ?_ | refine W.block ?_ | refine W.regionK (by decide) fun N hN => ?_
    | (refine RunS.nil (hN _ _ _ ?_); clear hN N; simp only [smLen, Nat.reduceAdd, Nat.reduceMul, reduceIte, Nat.reduceEqDiff])
    | ((first | refine W.exit ?_ | refine W.ret ?_ | refine W.skip ?_); try simp only [smLen, reduceIte, Nat.reduceEqDiff])
    | refine W.condF (by rfl) ?_ | refine W.condT (by rfl) ?_)
   refine Fin.keep (T' := [(6, .one (.row 0 sub.length)), (7, vB false)]) (H' := [(0, .row 25 4 (sub.map treeC))]) (nx' := 200) ?_ [0] (xs := ?_) ?_ ?_ ?_ ?_
   ·refine Wk.keep [] (by rfl) ?_ ?_ <;> simp only [smKeep, Nat.reduceBEq, Nat.reduceLT, reduceIte]
   rotate_left
   ·simp only [smEval, Nat.reduceAdd, Nat.reduceMul, Nat.reduceSub, Nat.reduceBEq, Nat.reduceEqDiff, Nat.reduceLeDiff, Nat.reduceLT, Nat.reduceMod, reduceIte, Int.reduceLE, Int.reduceLT, Int.reduceToNat, Nat.reducePow, ty3, ty4, ty9, ty22, ty25, ty28, ty39, ty122, resA]; try rfl
   ·simp only [outA, smPut, Nat.reduceBEq, reduceIte]
   ·kernel_rfl
   ·simp only [enumL, List.forall_mem_cons, List.not_mem_nil, false_implies, implies_true, and_true, look_cons, look_nil, smPut, Nat.reduceBEq, reduceIte, Nat.reduceAdd, List.map_append, List.length_append, List.length_cons, List.length_nil]; try trivial
  have d3 : decide (p.s.toList ≠ t.s.toList) = false := by simpa using c3
  by_cases c4 : p.l.length = t.l.length
  case neg =>
   rw [if_neg (fun h => c4 h.2.2.2)] at hR
   have d4 : decide ((p.l.length : Int) ≠ (t.l.length : Int)) = true := by simp; omega
   subst hR
   refine acall_of Try.func91 (by decide) rfl Try.results91 (by rw [Try.ntmps91]; simp) (by simp) ?_
   rw [Try.ntmps91]
   simp only [enumL, List.length_nil, List.length_cons, Nat.reduceAdd]
   repeat (first
    | refine RunS.any (by rfl) (by simp only [smEval, Nat.reduceAdd, Nat.reduceMul, Nat.reduceSub, Nat.reduceBEq, Nat.reduceEqDiff, Nat.reduceLeDiff, Nat.reduceLT, Nat.reduceMod, reduceIte, Int.reduceLE, Int.reduceLT, Int.reduceToNat, Nat.reducePow, ty3, ty4, ty9, ty22, ty25, ty28, ty39, ty122, dk, d1, d2, d3, d4]; try rfl) (by rfl) (by simp only [smPut, Nat.reduceBEq, reduceIte]; exact ⟨rfl, rfl⟩) ?_
    | refine RunS.skip (by rfl) (by simp only [smPut, Nat.reduceBEq, reduceIte]; try rfl) ?_
    | refine W.seq ?_ | refine W.block ?_ | refine W.regionK (by decide) fun N hN => ?_
    | (refine RunS.nil (hN _ _ _ ?_); clear hN N; simp only [smLen, Nat.reduceAdd, Nat.reduceMul, reduceIte, Nat.reduceEqDiff])
    | ((first | refine W.exit ?_ | refine W.ret ?_ | refine W.skip ?_); try simp only [smLen, reduceIte, Nat.reduceEqDiff])
    | refine W.condF (by rfl) ?_ | refine W.condT (by rfl) ?_)
   refine Fin.keep (T' := [(6, .one (.row 0 sub.length)), (7, vB false)]) (H' := [(0, .row 25 4 (sub.map treeC))]) (nx' := 200) ?_ [0] (xs := ?_) ?_ ?_ ?_ ?_
   ·refine Wk.keep [] (by rfl) ?_ ?_ <;> simp only [smKeep, Nat.reduceBEq, Nat.reduceLT, reduceIte]
   rotate_left
   ·simp only [smEval, Nat.reduceAdd, Nat.reduceMul, Nat.reduceSub, Nat.reduceBEq, Nat.reduceEqDiff, Nat.reduceLeDiff, Nat.reduceLT, Nat.reduceMod, reduceIte, Int.reduceLE, Int.reduceLT, Int.reduceToNat, Nat.reducePow, ty3, ty4, ty9, ty22, ty25, ty28, ty39, ty122, resA]; try rfl
   ·simp only [outA, smPut, Nat.reduceBEq, reduceIte]
   ·kernel_rfl
   ·simp only [enumL, List.forall_mem_cons, List.not_mem_nil, false_implies, implies_true, and_true, look_cons, look_nil, smPut, Nat.reduceBEq, reduceIte, Nat.reduceAdd, List.map_append, List.length_append, List.length_cons, List.length_nil]; try trivial
  have d4 : decide ((p.l.length : Int) ≠ (t.l.length : Int)) = false := by simp; omega
  rw [if_pos ⟨c1, c2, c3, c4⟩] at hR
  have hse := p.size_eq
  refine acall_of Try.func91 (by decide) rfl Try.results91 (by rw [Try.ntmps91]; simp) (by simp) ?_
  rw [Try.ntmps91]
  simp only [enumL, List.length_nil, List.length_cons, Nat.reduceAdd]
  repeat (first
   | refine RunS.any (by rfl) (by simp only [smEval, Nat.reduceAdd, Nat.reduceMul, Nat.reduceSub, Nat.reduceBEq, Nat.reduceEqDiff, Nat.reduceLeDiff, Nat.reduceLT, Nat.reduceMod, reduceIte, Int.reduceLE, Int.reduceLT, Int.reduceToNat, Nat.reducePow, ty3, ty4, ty9, ty22, ty25, ty28, ty39, ty122, dk, d1, d2, d3, d4]; try rfl) (by rfl) (by simp only [smPut, Nat.reduceBEq, reduceIte]; exact ⟨rfl, rfl⟩) ?_
   | refine RunS.skip (by rfl) (by simp only [smPut, Nat.reduceBEq, reduceIte]; try rfl) ?_
   | refine W.seq ?_ | refine W.block ?_ | refine W.regionK (by decide) fun N hN => ?_
   | (refine RunS.nil (hN _ _ _ ?_); clear hN N; simp only [smLen, Nat.reduceAdd, Nat.reduceMul, reduceIte, Nat.reduceEqDiff])
   | ((first | refine W.exit ?_ | refine W.ret ?_ | refine W.skip ?_); try simp only [smLen, reduceIte, Nat.reduceEqDiff])
   | refine W.condF (by rfl) ?_ | refine W.condT (by rfl) ?_)
  clear d1 d2 d3 d4 dk
  repeat (first | refine W.seq ?_ | refine W.block ?_)
  refine W.loop ?_
  refine WL.ind (σ := Nat) (nx := 149) (fun j => j ≤ p.l.length) (fun j => p.l.length - j) (fun j => [(2, .one (.row 0 (Tm.rms (p.l.take j) t.l sub).1.length)), (3, .one (.ptr 1 0)), (4, .one (.ptr 2 0)), (8, vB (Tm.rms (p.l.take j) t.l sub).2), (9, vI j)])
   (fun j => [(0, .row 25 4 ((Tm.rms (p.l.take j) t.l sub).1.map treeC)), (1, .box 25 (cA p)), (2, .box 25 (cA t))]) 0 (Nat.zero_le _) ?_ ?_
  ·refine Wk.keep [] (by rfl) ?_ ?_ <;> simp only [smKeep, Nat.reduceBEq, Nat.reduceLT, reduceIte, List.take_zero, Tm.rms_nil]
   all_goals trivial
  intro j hj
  obtain ⟨S, hS⟩ : ∃ S, S = Tm.rms (p.l.take j) t.l sub := ⟨_, rfl⟩
  have hSl : S.1.length ≤ 100000 := by
   rw [hS]
   exact (Tm.rm_len 1000000).2 _ _ _ (by have := Tm.sizes_le_take p.l j; omega) (fun x hx => (okB_parts hok).2 x (List.mem_of_mem_take hx)) hsl
  rw [← hS]
  have hjz : j ≤ 1000000 := by have := len_le_sizes p.l; omega
  by_cases hlt : j < p.l.length
  ·have dl : decide ((j : Int) < (p.l.length : Int)) = true := by simp; omega
   cases hb : S.2
   ·have e := rms_stop p.l t.l sub j c4 (by rw [← hS]; exact hb)
    rw [e, ← hS] at hR
    subst hR
    repeat (first
     | refine RunS.any (by rfl) (by simp only [smEval, Nat.reduceAdd, Nat.reduceMul, Nat.reduceSub, Nat.reduceBEq, Nat.reduceEqDiff, Nat.reduceLeDiff, Nat.reduceLT, Nat.reduceMod, reduceIte, Int.reduceLE, Int.reduceLT, Int.reduceToNat, Nat.reducePow, ty3, ty4, ty9, ty22, ty25, ty28, ty39, ty122, dl]; try rfl) (by rfl) (by simp only [smPut, Nat.reduceBEq, reduceIte]; exact ⟨rfl, rfl⟩) ?_
     | refine RunS.skip (by rfl) (by simp only [smPut, Nat.reduceBEq, reduceIte]; try rfl) ?_
     | refine W.seq ?_ | refine W.block ?_ | refine W.regionK (by decide) fun N hN => ?_
     | (refine RunS.nil (hN _ _ _ ?_); clear hN N; simp only [smLen, Nat.reduceAdd, Nat.reduceMul, reduceIte, Nat.reduceEqDiff])
     | ((first | refine W.exit ?_ | refine W.ret ?_ | refine W.skip ?_); try simp only [smLen, reduceIte, Nat.reduceEqDiff])
     | refine W.condF (by rfl) ?_ | refine W.condT (by rfl) ?_)
    refine Fin.keep (T' := [(6, .one (.row 0 R.1.length)), (7, vB false)]) (H' := [(0, .row 25 4 (R.1.map treeC))]) (nx' := 200) ?_ [0] (xs := ?_) ?_ ?_ ?_ ?_
    ·refine Wk.keep [] (by rfl) ?_ ?_ <;> simp only [smKeep, Nat.reduceBEq, Nat.reduceLT, reduceIte, hb]
    rotate_left
    ·simp only [smEval, Nat.reduceAdd, Nat.reduceMul, Nat.reduceSub, Nat.reduceBEq, Nat.reduceEqDiff, Nat.reduceLeDiff, Nat.reduceLT, Nat.reduceMod, reduceIte, Int.reduceLE, Int.reduceLT, Int.reduceToNat, Nat.reducePow, ty3, ty4, ty9, ty22, ty25, ty28, ty39, ty122, resA, hb]; try rfl
    ·simp only [outA, smPut, Nat.reduceBEq, reduceIte, hb]
    ·kernel_rfl
    ·simp only [enumL, List.forall_mem_cons, List.not_mem_nil, false_implies, implies_true, and_true, look_cons, look_nil, smPut, Nat.reduceBEq, reduceIte, Nat.reduceAdd, List.map_append, List.length_append, List.length_cons, List.length_nil, hb]; try trivial
   ·obtain ⟨x, hx⟩ : ∃ x, p.l[j]? = some x := ⟨_, List.getElem?_eq_getElem hlt⟩
    obtain ⟨y, hy⟩ : ∃ y, t.l[j]? = some y := ⟨_, List.getElem?_eq_getElem (by omega)⟩
    have hxm := List.mem_of_getElem? hx
    have hsx := Tm.size_child hxm
    have hcall := ih x hxm y S.1 ((okB_parts hok).2 x hxm) (by omega) hSl
    have hstep := rms_step p.l t.l sub j x y hx hy
    rw [← hS, if_pos hb] at hstep
    have hw1 : IntKind.i64.wrap ((j : Int) + 1) = ((j + 1 : Nat) : Int) := wrap_i64 (by omega) (by omega)
    repeat (first
     | refine RunS.any (by rfl) (by simp only [smEval, Nat.reduceAdd, Nat.reduceMul, Nat.reduceSub, Nat.reduceBEq, Nat.reduceEqDiff, Nat.reduceLeDiff, Nat.reduceLT, Nat.reduceMod, reduceIte, Int.reduceLE, Int.reduceLT, Int.reduceToNat, Nat.reducePow, ty3, ty4, ty9, ty22, ty25, ty28, ty39, ty122, dl]; try rfl) (by rfl) (by simp only [smPut, Nat.reduceBEq, reduceIte]; exact ⟨rfl, rfl⟩) ?_
     | refine RunS.skip (by rfl) (by simp only [smPut, Nat.reduceBEq, reduceIte]; try rfl) ?_
     | refine W.seq ?_ | refine W.block ?_ | refine W.regionK (by decide) fun N hN => ?_
     | (refine RunS.nil (hN _ _ _ ?_); clear hN N; simp only [smLen, Nat.reduceAdd, Nat.reduceMul, reduceIte, Nat.reduceEqDiff])
     | ((first | refine W.exit ?_ | refine W.ret ?_ | refine W.skip ?_); try simp only [smLen, reduceIte, Nat.reduceEqDiff])
     | refine W.condF (by rfl) ?_ | refine W.condT (by rfl) ?_)
    repeat (first | refine W.seq ?_ | refine W.block ?_)
    refine W.regionDK mixed (by decide) (by rfl) fun N hN => ?_
    repeat (first
     | refine RunD.any (by rfl) (by simp only [smEval, Nat.reduceAdd, Nat.reduceMul, Nat.reduceSub, Nat.reduceBEq, Nat.reduceEqDiff, Nat.reduceLeDiff, Nat.reduceLT, Nat.reduceMod, reduceIte, Int.reduceLE, Int.reduceLT, Int.reduceToNat, Nat.reducePow, ty3, ty4, ty9, ty22, ty25, ty28, ty39, ty122, hx, hy, treeC_eq x, treeC_eq y]; try rfl) (by rfl) (by simp only [smPut, Nat.reduceBEq, reduceIte]; exact ⟨rfl, rfl⟩) ?_
     | refine RunD.skip (by rfl) (by simp only [smPut, Nat.reduceBEq, reduceIte]; try rfl) ?_)
    refine RunD.callH rfl (by rfl) (hcall) [0] rfl rfl (by simp only [smArg, Nat.reduceBEq, reduceIte]; try rfl) (by simp only [smPut, Nat.reduceBEq, reduceIte, List.append_nil]; try rfl) (by rfl) (by simp only [enumL, List.forall_mem_cons, List.not_mem_nil, false_implies, implies_true, and_true, look_cons, look_nil, smPut, Nat.reduceBEq, reduceIte, Nat.reduceAdd]; try trivial) (by simp only [smPut, Nat.reduceBEq, reduceIte]; try rfl) (by simp only [smPut, Nat.reduceBEq, reduceIte]; try rfl) ?_
    repeat (first
     | refine RunD.any (by rfl) (by simp only [smEval, Nat.reduceAdd, Nat.reduceMul, Nat.reduceSub, Nat.reduceBEq, Nat.reduceEqDiff, Nat.reduceLeDiff, Nat.reduceLT, Nat.reduceMod, reduceIte, Int.reduceLE, Int.reduceLT, Int.reduceToNat, Nat.reducePow, ty3, ty4, ty9, ty22, ty25, ty28, ty39, ty122]; try rfl) (by rfl) (by simp only [smPut, Nat.reduceBEq, reduceIte]; exact ⟨rfl, rfl⟩) ?_
     | refine RunD.skip (by rfl) (by simp only [smPut, Nat.reduceBEq, reduceIte]; try rfl) ?_)
    refine RunD.nil ⟨by kernel_rfl, hN _ _ _ ?_⟩
    clear hN N
    simp only [smLen, Nat.reduceAdd, Nat.reduceMul, reduceIte, Nat.reduceEqDiff]
    repeat (first
     | refine RunS.any (by rfl) (by simp only [smEval, Nat.reduceAdd, Nat.reduceMul, Nat.reduceSub, Nat.reduceBEq, Nat.reduceEqDiff, Nat.reduceLeDiff, Nat.reduceLT, Nat.reduceMod, reduceIte, Int.reduceLE, Int.reduceLT, Int.reduceToNat, Nat.reducePow, ty3, ty4, ty9, ty22, ty25, ty28, ty39, ty122, hw1]; try rfl) (by rfl) (by simp only [smPut, Nat.reduceBEq, reduceIte]; exact ⟨rfl, rfl⟩) ?_
     | refine RunS.skip (by rfl) (by simp only [smPut, Nat.reduceBEq, reduceIte]; try rfl) ?_
     | refine W.seq ?_ | refine W.block ?_ | refine W.regionK (by decide) fun N hN => ?_
     | (refine RunS.nil (hN _ _ _ ?_); clear hN N; simp only [smLen, Nat.reduceAdd, Nat.reduceMul, reduceIte, Nat.reduceEqDiff])
     | ((first | refine W.exit ?_ | refine W.ret ?_ | refine W.skip ?_); try simp only [smLen, reduceIte, Nat.reduceEqDiff])
     | refine W.condF (by rfl) ?_ | refine W.condT (by rfl) ?_)
    refine ⟨j + 1, by omega, by omega, ?_⟩
    rw [hstep]
    refine Wk.keep [] (by rfl) ?_ ?_ <;> simp only [smKeep, Nat.reduceBEq, Nat.reduceLT, reduceIte]
  ·have dl : decide ((j : Int) < (p.l.length : Int)) = false := by simp; omega
   have hje : j = p.l.length := by omega
   rw [hje, List.take_length] at hS
   rw [← hS] at hR
   subst hR
   repeat (first
    | refine RunS.any (by rfl) (by simp only [smEval, Nat.reduceAdd, Nat.reduceMul, Nat.reduceSub, Nat.reduceBEq, Nat.reduceEqDiff, Nat.reduceLeDiff, Nat.reduceLT, Nat.reduceMod, reduceIte, Int.reduceLE, Int.reduceLT, Int.reduceToNat, Nat.reducePow, ty3, ty4, ty9, ty22, ty25, ty28, ty39, ty122, dl]; try rfl) (by rfl) (by simp only [smPut, Nat.reduceBEq, reduceIte]; exact ⟨rfl, rfl⟩) ?_
    | refine RunS.skip (by rfl) (by simp only [smPut, Nat.reduceBEq, reduceIte]; try rfl) ?_
    | refine W.seq ?_ | refine W.block ?_ | refine W.regionK (by decide) fun N hN => ?_
    | (refine RunS.nil (hN _ _ _ ?_); clear hN N; simp only [smLen, Nat.reduceAdd, Nat.reduceMul, reduceIte, Nat.reduceEqDiff])
    | ((first | refine W.exit ?_ | refine W.ret ?_ | refine W.skip ?_); try simp only [smLen, reduceIte, Nat.reduceEqDiff])
    | refine W.condF (by rfl) ?_ | refine W.condT (by rfl) ?_)
   refine Fin.keep (T' := [(6, .one (.row 0 R.1.length)), (7, vB R.2)]) (H' := [(0, .row 25 4 (R.1.map treeC))]) (nx' := 200) ?_ [0] (xs := ?_) ?_ ?_ ?_ ?_
   ·refine Wk.keep [] (by rfl) ?_ ?_ <;> simp only [smKeep, Nat.reduceBEq, Nat.reduceLT, reduceIte]
   rotate_left
   ·simp only [smEval, Nat.reduceAdd, Nat.reduceMul, Nat.reduceSub, Nat.reduceBEq, Nat.reduceEqDiff, Nat.reduceLeDiff, Nat.reduceLT, Nat.reduceMod, reduceIte, Int.reduceLE, Int.reduceLT, Int.reduceToNat, Nat.reducePow, ty3, ty4, ty9, ty22, ty25, ty28, ty39, ty122, resA]; try rfl
   ·simp only [outA, smPut, Nat.reduceBEq, reduceIte]
   ·kernel_rfl
   ·simp only [enumL, List.forall_mem_cons, List.not_mem_nil, false_implies, implies_true, and_true, look_cons, look_nil, smPut, Nat.reduceBEq, reduceIte, Nat.reduceAdd, List.map_append, List.length_append, List.length_cons, List.length_nil]; try trivial
end Go.Proofs.Ytfhgknmkpegpbaa
set_option linter.unusedVariables false
set_option linter.unusedSimpArgs false
namespace Go.Proofs.Ytfhgknmkpegpbaa
open Go.RowKit
theorem padT_pad {l : List Tm} {a m : Nat} (h : a ≤ m) : padT (padT l a) m = padT l m := by
 unfold padT
 rw [List.append_assoc, List.length_append, List.length_replicate, List.replicate_append_replicate]
 congr 2; omega
theorem padT_get {l : List Tm} {m i : Nat} (h : i < l.length) : (padT l m)[i]? = l[i]? := by
 unfold padT; rw [List.getElem?_append_left h]
theorem padT_set {l : List Tm} {m i : Nat} (x : Tm) (h : i < l.length) : (padT l m).set i x = padT (l.set i x) m := by
 unfold padT; rw [List.set_append_left _ _ h, List.length_set]
theorem rm_mat (m : Nat) (N : Nat) : (∀ (p t : Tm) (sub : List Tm), p.size ≤ N → p.okB = true → (∀ n, p.has n → n < m) → sub.length ≤ m →
      p.mat t (padT sub m) = (padT (p.rm t sub).1 m, (p.rm t sub).2) ∧ (p.rm t sub).1.length ≤ m ∧ sub.length ≤ (p.rm t sub).1.length ∧ ((p.rm t sub).2 = true → ∀ n, p.has n → n < (p.rm t sub).1.length)) ∧
    (∀ (ps ts sub : List Tm), Tm.sizes ps ≤ N → (∀ p ∈ ps, p.okB = true) → ps.length = ts.length → (∀ p ∈ ps, ∀ n, p.has n → n < m) → sub.length ≤ m →
      Tm.mats ps ts (padT sub m) = (padT (Tm.rms ps ts sub).1 m, (Tm.rms ps ts sub).2) ∧ (Tm.rms ps ts sub).1.length ≤ m ∧ sub.length ≤ (Tm.rms ps ts sub).1.length ∧ ((Tm.rms ps ts sub).2 = true → ∀ p ∈ ps, ∀ n, p.has n → n < (Tm.rms ps ts sub).1.length)) := by
  induction N with
  | zero =>
    refine ⟨fun p t sub h => by have := p.size_pos; omega, fun ps ts sub h ho hl hn hs => ?_⟩
    cases ps with
    | nil => rw [Tm.mats_nil, Tm.rms_nil]; exact ⟨rfl, hs, Nat.le_refl _, fun _ p hp => by simp at hp⟩
    | cons a l => rw [Tm.sizes] at h; have := a.size_pos; omega
  | succ N ih =>
    have h1 : ∀ (p t : Tm) (sub : List Tm), p.size ≤ N + 1 → p.okB = true → (∀ n, p.has n → n < m) → sub.length ≤ m →
      p.mat t (padT sub m) = (padT (p.rm t sub).1 m, (p.rm t sub).2) ∧ (p.rm t sub).1.length ≤ m ∧ sub.length ≤ (p.rm t sub).1.length ∧ ((p.rm t sub).2 = true → ∀ n, p.has n → n < (p.rm t sub).1.length) := by
      intro p t sub hsz hok hn hs
      rw [Tm.mat_eq, Tm.rm_eq]
      by_cases hk : p.k = 1
      · rw [if_pos hk, if_pos hk]
        have hv := okB_va hok hk
        obtain ⟨b0, b1⟩ := var_bd hok hk
        have hpn : p.has p.n := by rw [hv]; exact has_va.2 rfl
        have hlt := hn _ hpn
        have hl2 : (padT sub (p.n.toNat + 1)).length = max sub.length (p.n.toNat + 1) := padT_len _ _
        have e1 : (padT sub m)[p.n.toNat]? = (padT sub (p.n.toNat + 1))[p.n.toNat]? := by
          rw [← padT_pad (a := p.n.toNat + 1) (m := m) (by omega), padT_get (by omega)]
        obtain ⟨x, hx⟩ : ∃ x, (padT sub (p.n.toNat + 1))[p.n.toNat]? = some x := ⟨_, List.getElem?_eq_getElem (by omega)⟩
        rw [e1, hx]
        have hall : ∀ n, p.has n → n = p.n := fun n h => by rw [hv] at h; exact has_va.1 h
        simp only
        split
        · refine ⟨?_, ?_, ?_, fun _ n h => ?_⟩
          · rw [← padT_pad (l := sub) (a := p.n.toNat + 1) (m := m) (by omega), padT_set _ (by omega)]
          · simp only [List.length_set]; omega
          · simp only [List.length_set]; omega
          · rw [hall n h]; simp only [List.length_set]; omega
        · refine ⟨?_, ?_, ?_, fun _ n h => ?_⟩
          · rw [padT_pad (by omega)]
          · simp only; omega
          · simp only; omega
          · rw [hall n h]; simp only; omega
      · rw [if_neg hk, if_neg hk]
        split
        · rename_i hc
          rw [p.size_eq] at hsz
          have := ih.2 p.l t.l sub (by omega) (okB_parts hok).2 hc.2.2.2 (fun x hx n h => hn n ((has_node hk).2 ⟨x, hx, h⟩)) hs
          exact ⟨this.1, this.2.1, this.2.2.1, fun hh n h => by
            obtain ⟨x, hx, hxn⟩ := (has_node hk).1 h
            exact this.2.2.2 hh x hx n hxn⟩
        · exact ⟨rfl, hs, Nat.le_refl _, fun h => by cases h⟩
    refine ⟨h1, fun ps => ?_⟩
    induction ps with
    | nil => intro ts sub _ _ _ _ hs; rw [Tm.mats_nil, Tm.rms_nil]; exact ⟨rfl, hs, Nat.le_refl _, fun _ p hp => by simp at hp⟩
    | cons a l ihl =>
      intro ts sub hsz hok hl hn hs
      cases ts with
      | nil => simp at hl
      | cons b ts =>
        rw [Tm.sizes] at hsz
        obtain ⟨q1, q2, q3, q4⟩ := h1 a b sub (by omega) (hok a (List.mem_cons_self ..)) (hn a (List.mem_cons_self ..)) hs
        rw [Tm.mats_cons, Tm.rms_cons, q1]
        by_cases hb : (a.rm b sub).2 = true
        · simp only [hb, if_true]
          obtain ⟨r1, r2, r3, r4⟩ := ihl ts (a.rm b sub).1 (by omega) (fun x hx => hok x (List.mem_cons_of_mem _ hx)) (by simpa using hl) (fun x hx => hn x (List.mem_cons_of_mem _ hx)) q2
          refine ⟨r1, r2, by omega, fun hh p hp n h => ?_⟩
          rcases List.mem_cons.1 hp with rfl | hp
          · have := q4 hb n h; omega
          · exact r4 hh p hp n h
        · simp only [hb, Bool.false_eq_true, if_false]
          exact ⟨by simp, q2, q3, fun h => by cases h⟩
theorem maxV_le {xs : List Int} {L : Int} (h0 : 0 ≤ L) (h : ∀ x ∈ xs, x < L) : maxV xs ≤ L := by
 unfold maxV
 have : ∀ (xs : List Int) (a : Int), a ≤ L → (∀ x ∈ xs, x < L) → xs.foldl (fun a x => max a (x + 1)) a ≤ L := fun xs => by
  induction xs with
  | nil => intro a ha _; exact ha
  | cons x r ih => intro a ha hx; exact ih _ (by have := hx x (List.mem_cons_self ..); show max a (x + 1) ≤ L; omega) (fun y hy => hx y (List.mem_cons_of_mem _ hy))
 exact this xs 0 h0 h
theorem matchR_rm {p t : Tm} (hok : p.okB = true) : matchR p t = if (p.rm t []).2 = true then some (p.rm t []).1 else none := by
 have hbd := maxV_bd (xs := varsL [p]) fun x hx => has_bd hok (has_iff.1 hx)
 obtain ⟨M, hM⟩ : ∃ M : Nat, M = (maxV (varsL [p])).toNat := ⟨_, rfl⟩
 have hlt : ∀ n, p.has n → n < (M : Int) := fun n hn => by have := maxV_gt (has_iff.2 hn); omega
 obtain ⟨q1, q2, q3, q4⟩ := (rm_mat M p.size).1 p t [] (Nat.le_refl _) hok hlt (Nat.zero_le _)
 have e : padT [] M = List.replicate M Tm.zero := by simp [padT]
 unfold matchR
 rw [← hM, ← e, q1]
 simp only
 split
 ·rename_i h
  have : maxV (varsL [p]) ≤ ((p.rm t []).1.length : Int) := maxV_le (by omega) fun x hx => by have := q4 h x (has_iff.1 hx); omega
  have hlen : (p.rm t []).1.length = M := by omega
  congr 1
  unfold padT
  rw [hlen]; simp
 ·rfl
end Go.Proofs.Ytfhgknmkpegpbaa
set_option linter.unusedVariables false
set_option linter.unusedSimpArgs false
namespace Go.Proofs.Ytfhgknmkpegpbaa
open Go Go.Abs Go.Proofs Go.RowKit
theorem _root_.Go.Abs.Rv.ints {w : World} {E : En} {A : Option Addr} {n c : Nat} {xs : List Int} (hn : n = xs.length) (hr : Rd w A (xs.flatMap encI)) (hl : xs.length ≤ c) (hc : c ≤ 9223372036854775807) (hA : A = none → c = 0) (hF : ∀ g off, A = some ⟨g, off, none⟩ → xs ≠ [] → E.F g) : Rv w E (.one (.f (intsF xs))) (.slice A n c) := by
 subst hn
 have hlen : (xs.map fun x => [FC.v (.int .i64 x)]).length = xs.length := by simp
 rw [← hlen]
 by_cases hne : xs = []
 ·subst hne
  exact .one (.f (.fz 1 [] A c 0 0 (fun _ _ => undef) (by simp) (by simpa [maxLen] using hc) hA (fun h => absurd rfl h) (by simp) (by simp) (by simp)))
 ·obtain ⟨g, off, rfl, -⟩ := hr.atI (k := 0) (x := xs[0]'(List.length_pos_iff.2 hne)) (by simp)
  have hget : ∀ (i : Nat) (e : List FC), (xs.map fun x => [FC.v (.int .i64 x)])[i]? = some e → ∃ x, xs[i]? = some x ∧ e = [FC.v (.int .i64 x)] := fun i e hi => by
   rw [List.getElem?_map] at hi
   obtain ⟨x, hx, rfl⟩ := Option.map_eq_some_iff.1 hi
   exact ⟨x, hx, rfl⟩
  refine .one (.f (.fz 1 _ _ c g off (fun i _ => .int .i64 (xs.getD i 0)) (by simpa using hl) (by simpa [maxLen] using hc) hA (fun _ => ⟨rfl, hF g off rfl hne⟩) (fun i e hi => ?_) (fun i e j c' hi hj => ?_) (fun i e j c' hi hj => ?_)))
  ·obtain ⟨x, -, rfl⟩ := hget i e hi; rfl
  ·obtain ⟨x, hx, rfl⟩ := hget i e hi
   have hj0 : j = 0 := by have := (List.getElem?_eq_some_iff.1 hj).1; simp at this; exact this
   subst hj0
   obtain ⟨g', off', e1, e2⟩ := hr.atI hx
   simp only [Option.some.injEq, Addr.mk.injEq, and_true] at e1
   obtain ⟨rfl, rfl⟩ := e1
   rw [Nat.mul_one, Nat.add_zero, e2, List.getD_eq_getElem?_getD, hx]; rfl
  ·obtain ⟨x, hx, rfl⟩ := hget i e hi
   have hj0 : j = 0 := by have := (List.getElem?_eq_some_iff.1 hj).1; simp at this; exact this
   subst hj0
   simp at hj; subst hj
   rw [List.getD_eq_getElem?_getD, hx]; exact .v _ rfl
theorem own_ints {w : World} {E : En} {base : Nat} {v : Value} {xs : List Int} (h : w.ownsRow base 3 1 v xs.length (xs.map (Value.int .i64))) (hF : ∀ g, base ≤ g → g < w.heap.size → E.F g) : Rv w E (.one (.f (intsF xs))) v := by
 rcases h.2 with ⟨rfl, hn⟩ | ⟨g, cap, cur, rfl, hg, hh, h1, h2, h3, h4⟩
 ·have : xs = [] := List.length_eq_zero_iff.1 hn
  subst this
  exact Rv.ints rfl (rd_nil _ _) (Nat.le_refl _) (by omega) (fun _ => rfl) (fun g off h => by cases h)
 ·refine Rv.ints rfl (fun hne => ⟨g, 0, rfl, fun j u hj => ?_⟩) h1 (by simpa [maxLen] using h2) (by simp) (fun g' off e hne => ?_)
  ·have hfe : xs.flatMap encI = xs.map (Value.int .i64) := by
    clear h hh h1 h4 hne hj
    induction xs with
    | nil => rfl
    | cons x r ih => simp [List.flatMap_cons, encI, ih]
   rw [hfe] at hj
   rw [Nat.zero_add]; exact cell_take hh h4 hj
  ·simp only [Option.some.injEq, Addr.mk.injEq, and_true] at e
   obtain ⟨rfl, -⟩ := e
   exact hF g hg (by
    rcases Nat.lt_or_ge g w.heap.size with h | h
    ·exact h
    ·rw [Array.getElem?_eq_none h] at hh; cases hh)
theorem variant_ok' (t u : Tm) : ACall Try.prog 31 [tA t, tA u] [] (.tup [vB (if allIs [t, u] = true then vntB t u else false), vI (errT (allIs [t, u]))]) [] := bridge (enters Try.func31 (by decide) rfl) fun E w vs hvs => by
 obtain ⟨v, v2, rfl, hv, hv2⟩ := args2 hvs
 exact (variant_calls t u _ _ w v v2 hv.toTmV hv2.toTmV).mono fun e w' ⟨he, hb⟩ => ⟨_, he, hb, fun E' h1 h2 => Rv.ofTup (All2.cons (.val rfl) (All2.cons (.val rfl) (All2.nil _)))⟩
theorem match_ok' (t u : Tm) : ACall Try.prog 35 [tA t, tA u] [] (.tup [tsA ((if allIs [t, u] = true then matchR t u else none).getD []), vB (if allIs [t, u] = true then matchR t u else none).isSome, vI (errT (allIs [t, u]))]) [] := bridge (enters Try.func35 (by decide) rfl) fun E w vs hvs => by
 obtain ⟨v, v2, rfl, hv, hv2⟩ := args2 hvs
 exact (matchTop_calls t u _ _ w v v2 hv.toTmV hv2.toTmV).mono fun e w' ⟨A, c, he, ht, hb⟩ => ⟨_, he, hb, fun E' h1 h2 => Rv.ofTup (All2.cons (newP ht (fun g h => h) h2) (All2.cons (.val rfl) (All2.cons (.val rfl) (All2.nil _))))⟩
theorem normal_ok' (l : List Tm) : ACall Try.prog 29 [tsA l] [] (.tup [tsA (if allB l = true then normR l else []), .one (.f (intsF (if allB l = true then varsL l else []))), vI (errT (allB l))]) [] := bridge (enters Try.func29 (by decide) rfl) fun E w vs hvs => by
 obtain ⟨v, rfl, hv⟩ := args1 hvs
 obtain ⟨A, c, rfl, hc⟩ := hv.toTmC
 exact (normal_calls l _ A c w hc).mono fun e w' ⟨B, d, v, he, ht, ho, _, hb⟩ => ⟨_, he, hb, fun E' h1 h2 => Rv.ofTup (All2.cons (newP ht (fun g h => h) h2) (All2.cons (own_ints ho h2) (All2.cons (.val rfl) (All2.nil _))))⟩
end Go.Proofs.Ytfhgknmkpegpbaa
set_option linter.unusedVariables false
set_option linter.unusedSimpArgs false
namespace Go.Proofs.Ytfhgknmkpegpbaa
open Go Go.Abs Go.Proofs Go.RowKit
theorem rmNil (p t : Tm) (hok : p.okB = true) (hsz : p.size ≤ 1000000) : ACall Try.prog 91 [tA p, tA t, .val (.slice none 0 0)] [] (.tup [.one (.row 0 (p.rm t []).1.length), vB (p.rm t []).2]) [.row 25 4 ((p.rm t []).1.map treeC)] :=
 ACall.nilA 25 4 (rmatch_ok p t [] hok hsz (by simp)) (fun w E vs hm h => by
  refine ⟨h.1, fun j x hj => ?_⟩
  match j with
  | 0 => exact h.2 0 x hj
  | 1 => exact h.2 1 x hj
  | 2 =>
   simp at hj; subst hj
   obtain ⟨u, h1, h2⟩ := h.2 2 _ rfl
   have := h2.val_inv
   subst this
   exact ⟨_, h1, .one (.row hm)⟩
  | j + 3 => simp at hj)
set_option maxRecDepth 100000 in
set_option maxHeartbeats 4000000 in
theorem refMatch_ok (p t : Tm) (hp : p.size ≤ 1000000) (ht : t.size ≤ 1000000) : ACall Try.prog 36 [tA p, tA t] [] (.tup [tsA ((if allIs [p, t] = true then matchR p t else none).getD []), vB (if allIs [p, t] = true then matchR p t else none).isSome, vI (errT (allIs [p, t]))]) [] := by
 have h1 := refCheck_ok p hp
 have h2 := refCheck_ok t ht
 have hd : decide (errT false ≠ 0) = true := rfl
 have hd' : decide (errT true ≠ 0) = false := rfl
 have ha : allIs [p, t] = (isB p && isB t) := by simp [allIs]
 rw [ha]
 cases b1 : isB p
 ·rw [b1] at h1
  refine acall_of Try.func36 (by decide) rfl Try.results36 (by rw [Try.ntmps36]; simp) (by simp) ?_
  rw [Try.ntmps36]
  simp only [enumL, List.length_nil, List.length_cons, Nat.reduceAdd]
  repeat (first
   | refine RunS.any (by rfl) (by simp only [smEval, Nat.reduceAdd, Nat.reduceMul, Nat.reduceSub, Nat.reduceBEq, Nat.reduceEqDiff, Nat.reduceLeDiff, Nat.reduceLT, Nat.reduceMod, reduceIte, Int.reduceLE, Int.reduceLT, Int.reduceToNat, Nat.reducePow, ty3, ty4, ty9, ty22, ty25, ty28, ty39, ty122, hd]; try rfl) (by rfl) (by simp only [smPut, Nat.reduceBEq, reduceIte]; exact ⟨rfl, rfl⟩) ?_
   | refine RunS.callQ (by rfl) rfl (by simp only [smArg, Nat.reduceBEq, reduceIte]; try rfl) (by first | exact h1) rfl (by rfl) (by rfl) ?_
   | refine RunS.skip (by rfl) (by simp only [smPut, Nat.reduceBEq, reduceIte]; try rfl) ?_
   | refine W.seq ?_ | refine W.block ?_ | refine W.regionK (by decide) fun N hN => ?_
   | (refine RunS.nil (hN _ _ _ ?_); clear hN N; simp only [smLen, Nat.reduceAdd, Nat.reduceMul, reduceIte, Nat.reduceEqDiff])
   | ((first | refine W.exit ?_ | refine W.ret ?_ | refine W.skip ?_); try simp only [smLen, reduceIte, Nat.reduceEqDiff])
   | refine W.condF (by rfl) ?_ | refine W.condT (by rfl) ?_)
  refine Fin.pureS Wk.refl (xs := ?_) ?_ rfl ?_ ?_
  rotate_left
  ·simp only [smEval, Nat.reduceAdd, Nat.reduceMul, Nat.reduceSub, Nat.reduceBEq, Nat.reduceEqDiff, Nat.reduceLeDiff, Nat.reduceLT, Nat.reduceMod, reduceIte, Int.reduceLE, Int.reduceLT, Int.reduceToNat, Nat.reducePow, ty3, ty4, ty9, ty22, ty25, ty28, ty39, ty122, resA]; try rfl
  ·rfl
  ·simp only [outA, Bool.false_and, Bool.false_eq_true, reduceIte, Option.getD_none, Option.isSome_none]; exact sub_tup3 (sub_nil _) (Sub.refl _) (Sub.refl _)
 rw [b1] at h1
 cases b2 : isB t
 ·rw [b2] at h2
  refine acall_of Try.func36 (by decide) rfl Try.results36 (by rw [Try.ntmps36]; simp) (by simp) ?_
  rw [Try.ntmps36]
  simp only [enumL, List.length_nil, List.length_cons, Nat.reduceAdd]
  repeat (first
   | refine RunS.any (by rfl) (by simp only [smEval, Nat.reduceAdd, Nat.reduceMul, Nat.reduceSub, Nat.reduceBEq, Nat.reduceEqDiff, Nat.reduceLeDiff, Nat.reduceLT, Nat.reduceMod, reduceIte, Int.reduceLE, Int.reduceLT, Int.reduceToNat, Nat.reducePow, ty3, ty4, ty9, ty22, ty25, ty28, ty39, ty122, hd, hd']; try rfl) (by rfl) (by simp only [smPut, Nat.reduceBEq, reduceIte]; exact ⟨rfl, rfl⟩) ?_
   | refine RunS.callQ (by rfl) rfl (by simp only [smArg, Nat.reduceBEq, reduceIte]; try rfl) (by first | exact h1 | exact h2) rfl (by rfl) (by rfl) ?_
   | refine RunS.skip (by rfl) (by simp only [smPut, Nat.reduceBEq, reduceIte]; try rfl) ?_
   | refine W.seq ?_ | refine W.block ?_ | refine W.regionK (by decide) fun N hN => ?_
   | (refine RunS.nil (hN _ _ _ ?_); clear hN N; simp only [smLen, Nat.reduceAdd, Nat.reduceMul, reduceIte, Nat.reduceEqDiff])
   | ((first | refine W.exit ?_ | refine W.ret ?_ | refine W.skip ?_); try simp only [smLen, reduceIte, Nat.reduceEqDiff])
   | refine W.condF (by rfl) ?_ | refine W.condT (by rfl) ?_)
  refine Fin.pureS Wk.refl (xs := ?_) ?_ rfl ?_ ?_
  rotate_left
  ·simp only [smEval, Nat.reduceAdd, Nat.reduceMul, Nat.reduceSub, Nat.reduceBEq, Nat.reduceEqDiff, Nat.reduceLeDiff, Nat.reduceLT, Nat.reduceMod, reduceIte, Int.reduceLE, Int.reduceLT, Int.reduceToNat, Nat.reducePow, ty3, ty4, ty9, ty22, ty25, ty28, ty39, ty122, resA]; try rfl
  ·rfl
  ·simp only [outA, Bool.and_false, Bool.false_eq_true, reduceIte, Option.getD_none, Option.isSome_none]; exact sub_tup3 (sub_nil _) (Sub.refl _) (Sub.refl _)
 rw [b2] at h2
 have h3 := rmNil p t (isB_iff.1 b1).1 hp
 simp only [Bool.and_self, reduceIte]
 rw [matchR_rm (isB_iff.1 b1).1]
 generalize p.rm t [] = R at h3 ⊢
 obtain ⟨l, b⟩ := R
 cases b
 ·simp only at h3
  refine acall_of Try.func36 (by decide) rfl Try.results36 (by rw [Try.ntmps36]; simp) (by simp) ?_
  rw [Try.ntmps36]
  simp only [enumL, List.length_nil, List.length_cons, Nat.reduceAdd]
  repeat (first
   | refine RunS.any (by rfl) (by simp only [smEval, Nat.reduceAdd, Nat.reduceMul, Nat.reduceSub, Nat.reduceBEq, Nat.reduceEqDiff, Nat.reduceLeDiff, Nat.reduceLT, Nat.reduceMod, reduceIte, Int.reduceLE, Int.reduceLT, Int.reduceToNat, Nat.reducePow, ty3, ty4, ty9, ty22, ty25, ty28, ty39, ty122, hd']; try rfl) (by rfl) (by simp only [smPut, Nat.reduceBEq, reduceIte]; exact ⟨rfl, rfl⟩) ?_
   | refine RunS.callQ (by rfl) rfl (by simp only [smArg, Nat.reduceBEq, reduceIte]; try rfl) (by first | exact h1 | exact h2) rfl (by rfl) (by rfl) ?_
   | refine RunS.skip (by rfl) (by simp only [smPut, Nat.reduceBEq, reduceIte]; try rfl) ?_
   | refine W.seq ?_ | refine W.block ?_ | refine W.regionK (by decide) fun N hN => ?_
   | (refine RunS.nil (hN _ _ _ ?_); clear hN N; simp only [smLen, Nat.reduceAdd, Nat.reduceMul, reduceIte, Nat.reduceEqDiff])
   | ((first | refine W.exit ?_ | refine W.ret ?_ | refine W.skip ?_); try simp only [smLen, reduceIte, Nat.reduceEqDiff])
   | refine W.condF (by rfl) ?_ | refine W.condT (by rfl) ?_)
  refine RunS.callH rfl (by rfl) (h3) [52] rfl rfl (by simp only [smArg, Nat.reduceBEq, reduceIte]; try rfl) (by simp only [smPut, Nat.reduceBEq, reduceIte, List.append_nil]; try rfl) (by rfl) (by simp only [enumL, List.forall_mem_cons, List.not_mem_nil, false_implies, implies_true, and_true, look_cons, look_nil, smPut, Nat.reduceBEq, reduceIte, Nat.reduceAdd]; try trivial) (by simp only [smPut, Nat.reduceBEq, reduceIte]; try rfl) (by simp only [smPut, Nat.reduceBEq, reduceIte]; try rfl) ?_
  repeat (first
   | refine RunS.any (by rfl) (by simp only [smEval, Nat.reduceAdd, Nat.reduceMul, Nat.reduceSub, Nat.reduceBEq, Nat.reduceEqDiff, Nat.reduceLeDiff, Nat.reduceLT, Nat.reduceMod, reduceIte, Int.reduceLE, Int.reduceLT, Int.reduceToNat, Nat.reducePow, ty3, ty4, ty9, ty22, ty25, ty28, ty39, ty122]; try rfl) (by rfl) (by simp only [smPut, Nat.reduceBEq, reduceIte]; exact ⟨rfl, rfl⟩) ?_
   | refine RunS.skip (by rfl) (by simp only [smPut, Nat.reduceBEq, reduceIte]; try rfl) ?_
   | refine W.seq ?_ | refine W.block ?_ | refine W.regionK (by decide) fun N hN => ?_
   | (refine RunS.nil (hN _ _ _ ?_); clear hN N; simp only [smLen, Nat.reduceAdd, Nat.reduceMul, reduceIte, Nat.reduceEqDiff])
   | ((first | refine W.exit ?_ | refine W.ret ?_ | refine W.skip ?_); try simp only [smLen, reduceIte, Nat.reduceEqDiff])
   | refine W.condF (by rfl) ?_ | refine W.condT (by rfl) ?_)
  refine Fin.pureS Wk.refl (xs := ?_) ?_ rfl ?_ ?_
  rotate_left
  ·simp only [smEval, Nat.reduceAdd, Nat.reduceMul, Nat.reduceSub, Nat.reduceBEq, Nat.reduceEqDiff, Nat.reduceLeDiff, Nat.reduceLT, Nat.reduceMod, reduceIte, Int.reduceLE, Int.reduceLT, Int.reduceToNat, Nat.reducePow, ty3, ty4, ty9, ty22, ty25, ty28, ty39, ty122, resA]; try rfl
  ·rfl
  ·simp only [outA, Bool.false_eq_true, reduceIte, Option.getD_none, Option.isSome_none]; exact sub_tup3 (sub_nil _) (Sub.refl _) (Sub.refl _)
 ·simp only at h3
  refine acall_of Try.func36 (by decide) rfl Try.results36 (by rw [Try.ntmps36]; simp) (by simp) ?_
  rw [Try.ntmps36]
  simp only [enumL, List.length_nil, List.length_cons, Nat.reduceAdd]
  repeat (first
   | refine RunS.any (by rfl) (by simp only [smEval, Nat.reduceAdd, Nat.reduceMul, Nat.reduceSub, Nat.reduceBEq, Nat.reduceEqDiff, Nat.reduceLeDiff, Nat.reduceLT, Nat.reduceMod, reduceIte, Int.reduceLE, Int.reduceLT, Int.reduceToNat, Nat.reducePow, ty3, ty4, ty9, ty22, ty25, ty28, ty39, ty122, hd']; try rfl) (by rfl) (by simp only [smPut, Nat.reduceBEq, reduceIte]; exact ⟨rfl, rfl⟩) ?_
   | refine RunS.callQ (by rfl) rfl (by simp only [smArg, Nat.reduceBEq, reduceIte]; try rfl) (by first | exact h1 | exact h2) rfl (by rfl) (by rfl) ?_
   | refine RunS.skip (by rfl) (by simp only [smPut, Nat.reduceBEq, reduceIte]; try rfl) ?_
   | refine W.seq ?_ | refine W.block ?_ | refine W.regionK (by decide) fun N hN => ?_
   | (refine RunS.nil (hN _ _ _ ?_); clear hN N; simp only [smLen, Nat.reduceAdd, Nat.reduceMul, reduceIte, Nat.reduceEqDiff])
   | ((first | refine W.exit ?_ | refine W.ret ?_ | refine W.skip ?_); try simp only [smLen, reduceIte, Nat.reduceEqDiff])
   | refine W.condF (by rfl) ?_ | refine W.condT (by rfl) ?_)
  refine RunS.callH rfl (by rfl) (h3) [52] rfl rfl (by simp only [smArg, Nat.reduceBEq, reduceIte]; try rfl) (by simp only [smPut, Nat.reduceBEq, reduceIte, List.append_nil]; try rfl) (by rfl) (by simp only [enumL, List.forall_mem_cons, List.not_mem_nil, false_implies, implies_true, and_true, look_cons, look_nil, smPut, Nat.reduceBEq, reduceIte, Nat.reduceAdd]; try trivial) (by simp only [smPut, Nat.reduceBEq, reduceIte]; try rfl) (by simp only [smPut, Nat.reduceBEq, reduceIte]; try rfl) ?_
  repeat (first
   | refine RunS.any (by rfl) (by simp only [smEval, Nat.reduceAdd, Nat.reduceMul, Nat.reduceSub, Nat.reduceBEq, Nat.reduceEqDiff, Nat.reduceLeDiff, Nat.reduceLT, Nat.reduceMod, reduceIte, Int.reduceLE, Int.reduceLT, Int.reduceToNat, Nat.reducePow, ty3, ty4, ty9, ty22, ty25, ty28, ty39, ty122]; try rfl) (by rfl) (by simp only [smPut, Nat.reduceBEq, reduceIte]; exact ⟨rfl, rfl⟩) ?_
   | refine RunS.skip (by rfl) (by simp only [smPut, Nat.reduceBEq, reduceIte]; try rfl) ?_
   | refine W.seq ?_ | refine W.block ?_ | refine W.regionK (by decide) fun N hN => ?_
   | (refine RunS.nil (hN _ _ _ ?_); clear hN N; simp only [smLen, Nat.reduceAdd, Nat.reduceMul, reduceIte, Nat.reduceEqDiff])
   | ((first | refine W.exit ?_ | refine W.ret ?_ | refine W.skip ?_); try simp only [smLen, reduceIte, Nat.reduceEqDiff])
   | refine W.condF (by rfl) ?_ | refine W.condT (by rfl) ?_)
  refine Fin.pureS (T' := [(4, .one (.f (tsF l))), (5, vB true), (6, vI 0)]) (H' := []) (nx' := 200) ?_ (xs := ?_) ?_ rfl ?_ ?_
  ·refine Wk.keep [52] (by rfl) ?_ ?_ <;> simp only [smKeep, Nat.reduceBEq, Nat.reduceLT, reduceIte]
  rotate_left
  ·simp only [smEval, Nat.reduceAdd, Nat.reduceMul, Nat.reduceSub, Nat.reduceBEq, Nat.reduceEqDiff, Nat.reduceLeDiff, Nat.reduceLT, Nat.reduceMod, reduceIte, Int.reduceLE, Int.reduceLT, Int.reduceToNat, Nat.reducePow, ty3, ty4, ty9, ty22, ty25, ty28, ty39, ty122, resA]; try rfl
  ·rfl
  ·exact Sub.refl _
end Go.Proofs.Ytfhgknmkpegpbaa
set_option linter.unusedVariables false
set_option linter.unusedSimpArgs false
namespace Go.Proofs.Ytfhgknmkpegpbaa
open Go Go.Abs Go.Proofs Go.RowKit
abbrev allE (w : World) : En := ⟨fun g => g < w.heap.size, fun _ _ => none, fun _ _ => False⟩
theorem ACall.law {P : Program} {f : FuncId} {args : List AV} {x : Value} (h : ACall P f args [] (.val x) []) (w : World) (vs : Array Value) (hvs : All2 (Rv w (allE w)) args vs.toList) : Calls P f vs w fun e w' => e = .returned x ∧ Below w.heap.size w w' :=
 (h.2.2 (allE w) w vs hvs (fun b y hy => by simp at hy) (fun b b' y y' g hy => by simp at hy) (fun b y g hy => by simp at hy) (fun b n hb => rfl) (fun g hg => hg)).mono (by
  rintro e w' ⟨v, E', rfl, hv, u⟩
  have := hv.val_inv
  subst this
  exact ⟨rfl, u.os, u.tape, u.output, u.grow, fun k hk => u.kept k hk (fun b hb => by simp at hb)⟩)
theorem TmV.all {P : Nat → Prop} {w : World} {v : Value} {t : Tm} (h : TmV P w v t) : Rv w (allE w) (tA t) v := by
 obtain ⟨A, c, rfl, hs, hc⟩ := h
 exact hc.inside.toRvT hs (fun g hg => hg.2)
theorem TmC.all {P : Nat → Prop} {w : World} {A : Option Addr} {c : Nat} {l : List Tm} (h : TmC P w A c l) : Rv w (allE w) (tsA l) (.slice A l.length c) := h.inside.toRv (fun g hg => hg.2)
end Go.Proofs.Ytfhgknmkpegpbaa
