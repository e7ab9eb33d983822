import Derived.Test.YthdlmnkefheliaaD12
import Derived.Deep.RegionLaw
import Derived.WalkSpells
import Derived.WalkLawsBesides
set_option linter.unusedVariables false
set_option linter.unusedSimpArgs false
namespace Go.Proofs.Ythdlmnkefheliaa
open Go.RowKit
def putL (cur : Array Value) : Nat → List Value → Array Value
  | _, [] => cur
  | o, v :: vs => putL (cur.setIfInBounds o v) (o + 1) vs
theorem putL_size : ∀ (vs : List Value) (cur : Array Value) (o : Nat), (putL cur o vs).size = cur.size
  | [], _, _ => rfl
  | v :: vs, cur, o => by rw [putL, putL_size vs]; simp
theorem putL_list : ∀ (vs : List Value) (cur : Array Value) (o : Nat), o + vs.length ≤ cur.size → (putL cur o vs).toList = cur.toList.take o ++ vs ++ cur.toList.drop (o + vs.length)
  | [], cur, o, _ => by simp [putL]
  | v :: vs, cur, o, h => by
    simp only [List.length_cons] at h
    rw [putL, putL_list vs _ _ (by simp; omega)]
    have hl : o + (vs.length + 1) ≤ cur.toList.length := by rw [Array.length_toList]; omega
    rw [Array.toList_setIfInBounds]
    have h1 : (cur.toList.set o v).take (o + 1) = cur.toList.take o ++ [v] := by
      rw [List.take_succ_eq_append_getElem (by rw [List.length_set]; omega), List.take_set_of_le (Nat.le_refl _)]
      simp
    have h2 : (cur.toList.set o v).drop (o + 1 + vs.length) = cur.toList.drop (o + (vs.length + 1)) := by
      rw [List.drop_set_of_lt (by omega)]
      congr 1; omega
    rw [h1, h2]
    simp
theorem blk_setCells {g : Nat} {e : TypeId} : ∀ (vs : List Value) (o : Nat) (w : World) (cur : Array Value), Blk w g e cur → Blk (w.setCells g o vs) g e (putL cur o vs)
  | [], _, _, _, h => h
  | v :: vs, o, w, cur, h => blk_setCells vs (o + 1) _ _ (h.set_ o v)
theorem grown_setCells {g : Nat} : ∀ (vs : List Value) (o : Nat) (w0 w : World), w0.grownBy w (some g) → w0.grownBy (w.setCells g o vs) (some g)
  | [], _, _, _, h => h
  | v :: vs, o, w0, w, h => grown_setCells vs (o + 1) w0 _ (only_setCell h (p := ⟨g, o, none⟩) (.inl rfl) v)

theorem flat_take {T : Type} (enc : T → List Value) (k : Nat) (hk : ∀ x, (enc x).length = k) : ∀ (xs : List T) (i : Nat), (xs.flatMap enc).take (i * k) = (xs.take i).flatMap enc
  | [], i => by simp
  | x :: xs, 0 => by simp
  | x :: xs, i + 1 => by
    simp only [List.flatMap_cons, List.take_succ_cons]
    rw [Nat.succ_mul, Nat.add_comm, ← hk x, List.take_length_add_append, hk x, flat_take enc k hk xs i]
theorem flat_drop {T : Type} (enc : T → List Value) (k : Nat) (hk : ∀ x, (enc x).length = k) : ∀ (xs : List T) (i : Nat), (xs.flatMap enc).drop (i * k) = (xs.drop i).flatMap enc
  | [], i => by simp
  | x :: xs, 0 => by simp
  | x :: xs, i + 1 => by
    simp only [List.flatMap_cons, List.drop_succ_cons]
    rw [Nat.succ_mul, Nat.add_comm, ← hk x, List.drop_length_add_append, hk x, flat_drop enc k hk xs i]
theorem clear54 (W : World) (g off c : Nat) (u0 u1 u2 : Value) (h0 : W.cell? ⟨g, off, none⟩ = some u0) (h1 : W.cell? ⟨g, off + 1, none⟩ = some u1) (h2 : W.cell? ⟨g, off + 2, none⟩ = some u2)
    (f0 : W.frozen? ⟨g, off, none⟩ = false) (f1 : W.frozen? ⟨g, off + 1, none⟩ = false) (f2 : W.frozen? ⟨g, off + 2, none⟩ = false) :
    (Builtin.clear_ #[23] 0 #[.slice (some ⟨g, off, none⟩) 1 c]).run Try.prog W = .ok (.tuple #[]) (((W.setCell ⟨g, off, none⟩ (.int .i64 0)).setCell ⟨g, off + 1, none⟩ (.int .i64 0)).setCell ⟨g, off + 2, none⟩ (.int .i64 0)) := by
  have hz : ∀ w, (zeroValue 54).run Try.prog w = .ok (.agg #[.int .i64 0, .int .i64 0, .int .i64 0]) w := fun w => by kernel_rfl
  have hu := fun w => run_underlying (P := Try.prog) (t := 23) Try.underlying23 w
  simp only [Builtin.clear_]
  go_simp
  rw [show (Builtin.zeroCells #[Value.int IntKind.i64 0, Value.int IntKind.i64 0, Value.int IntKind.i64 0] 1).toList = [Value.int IntKind.i64 0, Value.int IntKind.i64 0, Value.int IntKind.i64 0] from by kernel_rfl]
  go_simp
/-- What Delete leaves in the block. -/
theorem delete_own (B g c n i : Nat) (ms : List (Int × Int × Int)) (cur cur' : Array Value) (w w' : World) (hB : B ≤ g) (hn : n = ms.length) (hi : i < n) (hnc : n ≤ c) (hc : c ≤ 9223372036854775807) (hcs : cur.size = c * 3) (htk : cur.toList.take (n * 3) = ms.flatMap encL)
    (hb : Blk w' g 54 cur') (hs : cur'.size = c * 3) (hl : cur'.toList.take ((n - 1) * 3) = (putL cur (i * 3) ((ms.flatMap encL).drop ((i + 1) * 3))).toList.take ((n - 1) * 3)) :
    w'.ownsRow B 54 3 (.slice (some ⟨g, 0, none⟩) (n - 1) c) (n - 1) ((ms.eraseIdx i).flatMap encL) := by
  have hlen : ((ms.flatMap encL).drop ((i + 1) * 3)).length = (n - (i + 1)) * 3 := by rw [List.length_drop, flatMap_len encL 3 (fun _ => rfl), ← hn, Nat.sub_mul]
  refine ⟨?_, .inr ⟨g, c, cur', rfl, hB, hb, by omega, by simp only [maxLen]; omega, hs, ?_⟩⟩
  · rw [flatMap_len encL 3 (fun _ => rfl), List.length_eraseIdx, if_pos (by omega), ← hn]
  · rw [hl, putL_list _ _ _ (by rw [hlen, hcs]; omega), List.take_append_of_le_length (by
      rw [List.length_append, hlen, List.length_take, Array.length_toList, hcs]; omega)]
    rw [List.take_of_length_le (by rw [List.length_append, hlen, List.length_take, Array.length_toList, hcs]; omega)]
    rw [List.eraseIdx_eq_take_drop_succ, List.flatMap_append, ← flat_take encL 3 (fun _ => rfl), ← flat_drop encL 3 (fun _ => rfl), ← htk, List.take_take, Nat.min_eq_left (by omega)]

theorem grown3 {g a b c : Nat} {x y z : Value} {w w1 : World} (h : w.grownBy w1 (some g)) : w.grownBy (((w1.setCell ⟨g, a, none⟩ x).setCell ⟨g, b, none⟩ y).setCell ⟨g, c, none⟩ z) (some g) :=
  only_setCell (p := ⟨g, c, none⟩) (only_setCell (p := ⟨g, b, none⟩) (only_setCell (p := ⟨g, a, none⟩) h (Or.inl rfl) x) (Or.inl rfl) y) (Or.inl rfl) z
set_option maxRecDepth 100000 in
set_option maxHeartbeats 4000000 in
theorem deleteL_calls (B g c : Nat) (ms : List (Int × Int × Int)) (i : Nat) (w : World) (h : w.ownsRow B 54 3 (.slice (some ⟨g, 0, none⟩) ms.length c) ms.length (ms.flatMap encL)) (hi : i < ms.length) (hl : ms.length ≤ 100000) :
    Calls Try.prog 71 #[.slice (some ⟨g, 0, none⟩) ms.length c, .int .i64 i, .int .i64 ((i : Int) + 1)] w fun e w' => e = .returned (.slice (some ⟨g, 0, none⟩) (ms.length - 1) c) ∧
      (w'.ownsRow B 54 3 (.slice (some ⟨g, 0, none⟩) (ms.length - 1) c) (ms.length - 1) ((ms.eraseIdx i).flatMap encL) ∧ w.grownBy w' (some g)) := by
  obtain ⟨n, hn⟩ : ∃ n, n = ms.length := ⟨_, rfl⟩
  have hnc : n ≤ c ∧ c ≤ 9223372036854775807 := by
    rcases h.2 with ⟨hv, _⟩ | ⟨g', cap, cur, hv, hb, hh, h1, h2, _⟩
    · cases hv
    · injection hv with _ _ hc
      subst hc
      exact ⟨by omega, by simpa [maxLen] using h2⟩
  obtain ⟨hnc, hc63⟩ := hnc
  have hk : i < n := by omega
  have hn1 : n ≤ 100000 := by omega
  have HC63 := Lib.hid hc63; clear hc63
  have Hn := Lib.hid hn
  have H := Lib.hid h; clear h
  rw [← hn] at H ⊢
  clear hn hi hl
  have hic : i ≤ c := by omega
  have hi1 : i + 1 ≤ n := by omega
  have hi2 : i + 1 ≤ c := by omega
  have hi3 : (0 : Int) ≤ (i : Int) + 1 := by omega
  have hi4 : (i : Int) + 1 ≤ (n : Int) := by omega
  obtain ⟨cur, hblk, hcs, htk⟩ : ∃ cur, Blk w g 54 cur ∧ cur.size = c * 3 ∧ cur.toList.take (n * 3) = ms.flatMap encL := by
    rcases H.out.2 with ⟨hv, _⟩ | ⟨g', cap, cur, hv, hb, hh, h1, h2, h3, h4⟩
    · cases hv
    · injection hv with hg _ hc
      injection hg with hg
      injection hg with hg _ _
      subst hc hg
      exact ⟨cur, hh, h3, h4⟩
  have hlen : (ms.flatMap encL).length = n * 3 := by rw [flatMap_len encL 3 (fun _ => rfl), ← Hn.out]
  have hnl : ((ms.flatMap encL).drop ((i + 1) * 3)).length = (n - (i + 1)) * 3 := by rw [List.length_drop, hlen, Nat.sub_mul]
  have hcells : ∀ j u, ((ms.flatMap encL).drop ((i + 1) * 3))[j]? = some u → w.cell? ((⟨g, (i + 1) * 3, none⟩ : Addr).add j) = some u := by
    intro j u hu
    rw [addr_add, hblk.cell, ← Array.getElem?_toList]
    rw [List.getElem?_drop, ← htk, List.getElem?_take] at hu
    split at hu
    · exact hu
    · cases hu
  have hone : ∀ u ∈ (ms.flatMap encL).drop ((i + 1) * 3), u.oneCell' = true := by
    intro u hu
    obtain ⟨x, _, hx⟩ := List.mem_flatMap.1 (List.mem_of_mem_drop hu)
    simp only [encL, List.mem_cons, List.not_mem_nil, or_false] at hx
    rcases hx with rfl | rfl | rfl <;> rfl
  have hspare : ∀ j, j < ((ms.flatMap encL).drop ((i + 1) * 3)).length → (w.cell? ⟨g, 0 + i * 3 + j, none⟩).isSome = true ∧ w.frozen? ⟨g, 0 + i * 3 + j, none⟩ = false := by
    intro j hj
    rw [hnl] at hj
    refine ⟨?_, hblk.frozen _⟩
    rw [hblk.cell, Array.getElem?_eq_getElem (by rw [hcs]; omega)]
    rfl
  obtain ⟨i0, hinf, hz0, hz1, hz2⟩ := info_parts info54
  have HI := Lib.hid (And.intro hinf hz1); clear hinf hz0 hz1 hz2
  have HP := Lib.hid (And.intro hnl (And.intro hcells (And.intro hone hspare))); clear hnl hcells hone hspare
  have HB := Lib.hid hblk; clear hblk
  have hgB : B ≤ g := (H.out.lt g rfl).1
  obtain ⟨n1, hn1'⟩ : ∃ n1, n1 = n - 1 := ⟨_, rfl⟩
  have HN1 := Lib.hid hn1'
  have hs2 : n - n1 = 1 := by omega
  have hs3 : n1 ≤ c := by omega
  have hs4 : ¬ c = n1 := by omega
  have hs5 : n1 < n := by omega
  rw [← hn1']
  clear hn1'
  have HT := Lib.hid (And.intro hcs htk); clear hcs htk hlen
  by_cases hcj : c = i + 1
  · have hin : n1 = i := by have := HN1.out; omega
    have hnn : n = i + 1 := by omega
    have hnil : (ms.flatMap encL).drop ((i + 1) * 3) = [] := List.eq_nil_of_length_eq_zero (by rw [HP.out.1, hnn]; simp)
    have hsz : cur.size = c * 3 := HT.out.1
    have hblk' : Blk w.drew g 54 cur := HB.out
    have hcl := clear54 w.drew g (n1 * 3) (c - n1) _ _ _
      ((hblk'.cell _).trans (Array.getElem?_eq_getElem (by rw [hsz]; omega))) ((hblk'.cell _).trans (Array.getElem?_eq_getElem (by rw [hsz]; omega))) ((hblk'.cell _).trans (Array.getElem?_eq_getElem (by rw [hsz]; omega)))
      (hblk'.frozen _) (hblk'.frozen _) (hblk'.frozen _)
    have HCL := Lib.hid hcl; clear hcl
    have hbw : Blk ((((w.setCell ⟨g, n1 * 3, none⟩ (.int .i64 0)).setCell ⟨g, n1 * 3 + 1, none⟩ (.int .i64 0)).setCell ⟨g, n1 * 3 + 2, none⟩ (.int .i64 0)).drew) g 54 _ := ((HB.out.set_ (n1 * 3) (.int .i64 0)).set_ (n1 * 3 + 1) (.int .i64 0)).set_ (n1 * 3 + 2) (.int .i64 0)
    have HBF := Lib.hid hbw; clear hbw hblk'
    have hfin := delete_own B g c n i ms cur _ w _ hgB Hn.out hk hnc HC63.out HT.out.1 HT.out.2 HBF.out (by simp only [Array.size_setIfInBounds]; exact hsz) (by
        rw [← HN1.out, hnil]
        simp only [Array.toList_setIfInBounds, putL]
        rw [List.take_set_of_le (by omega), List.take_set_of_le (by omega), List.take_set_of_le (by omega)])
    rw [← HN1.out] at hfin
    have HFIN := Lib.hid hfin; clear hfin
    subst hin
    subst hnn
    clear hsz hs4 hs5 hs2
    subst hcj
    have hq1 : n1 + 1 - n1 = 1 := by omega
    have hq2 : ¬ n1 + 1 = n1 := by omega
    rw [hq1] at HCL
    have HNIL := Lib.hid hnil; clear hnil
    clear hic hi1 hi2 hi3 hi4 hnc hk hs3
    have p1 : (n1 : Int) ≤ (n1 : Int) + 1 := by omega
    have p2 : (0 : Int) ≤ (n1 : Int) + 1 := by omega
    have p3 : (0 : Int) ≤ (n1 : Int) := by omega
    go_enter Try.func71, Try.ntmps71
    go_wp2
    go_region_law (refine step_append_room rfl (.tmp 22) (.tmp 25) 23 rfl 54 i0 3 Try.underlying23 HI.out.1 HI.out.2 g 0 n1 (n1 + 1) rfl ⟨g, 0, none⟩ 0 0 [] rfl rfl (fun j u hu => by simp at hu) (fun u hu => by simp at hu) (by omega) (fun j hj => by simp at hj) ?_)
    clear hn1
    go_wp2
    simp only [World.setCells]
    rw [HCL.out]
    go_wp2
    go_ret
    exact ⟨rfl, HFIN.out, only_drew (grown3 (World.grownBy.refl w _))⟩
  · have hs1 : i + (n - (i + 1)) = n1 := by have := HN1.out; omega
    have hbk : Blk (w.drew.setCells g (0 + i * 3) ((ms.flatMap encL).drop ((i + 1) * 3))) g 54 (putL cur (i * 3) ((ms.flatMap encL).drop ((i + 1) * 3))) := by
      have := blk_setCells ((ms.flatMap encL).drop ((i + 1) * 3)) (0 + i * 3) w.drew cur HB.out
      rwa [Nat.zero_add] at this ⊢
    have HBK := Lib.hid hbk; clear hbk
    have Hs1 := Lib.hid hs1; clear hs1
    go_enter Try.func71, Try.ntmps71
    go_wp2
    go_region_law (refine step_append_room rfl (.tmp 22) (.tmp 25) 23 rfl 54 i0 3 Try.underlying23 HI.out.1 HI.out.2 g 0 i c rfl ⟨g, (i + 1) * 3, none⟩ (n - (i + 1)) (c - (i + 1)) ((ms.flatMap encL).drop ((i + 1) * 3)) rfl HP.out.1 HP.out.2.1 HP.out.2.2.1 (by omega) HP.out.2.2.2 ?_)
    have hs1 := Hs1.out
    have hblk' := HBK.out
    rw [Nat.zero_add] at hblk'
    have hsz : (putL cur (i * 3) ((ms.flatMap encL).drop ((i + 1) * 3))).size = c * 3 := by rw [putL_size]; exact HT.out.1
    have hcl := clear54 (w.drew.setCells g (i * 3) ((ms.flatMap encL).drop ((i + 1) * 3))) g (n1 * 3) (c - n1) _ _ _
      ((hblk'.cell _).trans (Array.getElem?_eq_getElem (by rw [hsz]; omega))) ((hblk'.cell _).trans (Array.getElem?_eq_getElem (by rw [hsz]; omega))) ((hblk'.cell _).trans (Array.getElem?_eq_getElem (by rw [hsz]; omega)))
      (hblk'.frozen _) (hblk'.frozen _) (hblk'.frozen _)
    have HCL := Lib.hid hcl; clear hcl
    have HBF := Lib.hid (((hblk'.set_ (n1 * 3) (.int .i64 0)).set_ (n1 * 3 + 1) (.int .i64 0)).set_ (n1 * 3 + 2) (.int .i64 0)); clear hblk'
    have HSZ := Lib.hid hsz; clear hsz
    go_wp2
    rw [HCL.out]
    go_wp2
    go_ret
    refine ⟨rfl, ?_, ?_⟩
    · have := delete_own B g c n i ms cur _ w _ hgB Hn.out hk hnc HC63.out HT.out.1 HT.out.2 HBF.out (by simp only [Array.size_setIfInBounds]; exact HSZ.out) (by
        rw [← HN1.out]
        simp only [Array.toList_setIfInBounds]
        rw [List.take_set_of_le (by omega), List.take_set_of_le (by omega), List.take_set_of_le (by omega)])
      rw [← HN1.out] at this
      exact this
    · exact grown3 (grown_setCells _ _ _ _ (only_drew (World.grownBy.refl w _)))
end Go.Proofs.Ythdlmnkefheliaa
