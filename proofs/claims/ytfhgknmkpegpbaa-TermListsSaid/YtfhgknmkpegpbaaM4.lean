/- Layer 1, part 4 of the base: the walks and plain facts named in NOTES.md as T23, T24, T25, T26, T27, T28, T29, T30, T31, T32. -/
import Derived.Test.YtfhgknmkpegpbaaM3

set_option linter.unusedVariables false
set_option linter.unusedSimpArgs false
namespace Go.Proofs.Ytfhgknmkpegpbaa
open Go.RowKit

mutual
/-- The program's replacing: the tree, and what is left of the budget. -/
def Tm.rep (F : Int → Option Tm) : Tm → Int → Tm × Int
  | .mk k n s l, L => if k = 1 then (match F n with
      | some x => (x, L - x.size)
      | none => (.mk k n s (Tm.reps F l (L - 1)).1, (Tm.reps F l (L - 1)).2)) else (.mk k n s (Tm.reps F l (L - 1)).1, (Tm.reps F l (L - 1)).2)
def Tm.reps (F : Int → Option Tm) : List Tm → Int → List Tm × Int
  | [], L => ([], L)
  | x :: xs, L => if L < 0 then ([], L) else ((Tm.rep F x L).1 :: (Tm.reps F xs (Tm.rep F x L).2).1, (Tm.reps F xs (Tm.rep F x L).2).2)
end
theorem Tm.rep_def (F : Int → Option Tm) (t : Tm) (L : Int) (h : ∀ x, t.k = 1 → F t.n ≠ some x) : t.rep F L = (.mk t.k t.n t.s (Tm.reps F t.l (L - 1)).1, (Tm.reps F t.l (L - 1)).2) := by
  cases t with
  | mk k n s l =>
    rw [Tm.rep]
    by_cases hk : k = 1
    · rw [if_pos hk]
      cases hf : F n with
      | none => rfl
      | some x => exact absurd hf (h x hk)
    · rw [if_neg hk]; rfl
theorem Tm.rep_hit (F : Int → Option Tm) (t : Tm) (L : Int) {x : Tm} (hk : t.k = 1) (h : F t.n = some x) : t.rep F L = (x, L - x.size) := by
  cases t with
  | mk k n s l =>
    have hk' : k = 1 := hk
    rw [Tm.rep, if_pos hk']
    have h' : F n = some x := h
    rw [h']
theorem Tm.reps_nil (F : Int → Option Tm) (L : Int) : Tm.reps F [] L = ([], L) := by rw [Tm.reps]
theorem Tm.reps_cons (F : Int → Option Tm) (x : Tm) (xs : List Tm) (L : Int) : Tm.reps F (x :: xs) L = if L < 0 then ([], L) else ((Tm.rep F x L).1 :: (Tm.reps F xs (Tm.rep F x L).2).1, (Tm.reps F xs (Tm.rep F x L).2).2) := by rw [Tm.reps]
theorem Tm.reps_neg (F : Int → Option Tm) (l : List Tm) {L : Int} (h : L < 0) : Tm.reps F l L = ([], L) := by
  cases l with
  | nil => rw [Tm.reps_nil]
  | cons x xs => rw [Tm.reps_cons, if_pos h]
theorem Tm.rep_bd (F : Int → Option Tm) (hF : ∀ n x, F n = some x → x.size ≤ 1000000) (n : Nat) : (∀ (t : Tm) (L : Int), t.size ≤ n → 0 ≤ L → -1000000 ≤ (t.rep F L).2 ∧ (t.rep F L).2 < L) ∧ (∀ (l : List Tm) (L : Int), Tm.sizes l ≤ n → -1000000 ≤ L → -1000000 ≤ (Tm.reps F l L).2 ∧ (Tm.reps F l L).2 ≤ L) := by
  induction n with
  | zero =>
    refine ⟨fun t _ h => by have := t.size_pos; omega, fun l L h hL => ?_⟩
    cases l with
    | nil => rw [Tm.reps_nil]; exact ⟨hL, Int.le_refl _⟩
    | cons a l => rw [Tm.sizes] at h; have := a.size_pos; omega
  | succ n ih =>
    have h1 : ∀ (t : Tm) (L : Int), t.size ≤ n + 1 → 0 ≤ L → -1000000 ≤ (t.rep F L).2 ∧ (t.rep F L).2 < L := fun t L h hL => by
      rw [t.size_eq] at h
      by_cases hx : ∃ x, t.k = 1 ∧ F t.n = some x
      · obtain ⟨x, hk, hx⟩ := hx
        rw [Tm.rep_hit F t L hk hx]
        have h2 := hF _ _ hx
        have h3 := x.size_pos
        simp only
        omega
      · rw [Tm.rep_def F t L (fun x hk h => hx ⟨x, hk, h⟩)]
        have := ih.2 t.l (L - 1) (by omega) (by omega)
        simp only
        omega
    refine ⟨h1, fun l => ?_⟩
    induction l with
    | nil => intro L _ hL; rw [Tm.reps_nil]; exact ⟨hL, Int.le_refl _⟩
    | cons a l ihl =>
      intro L h hL
      rw [Tm.sizes] at h
      rw [Tm.reps_cons]
      split
      · exact ⟨hL, Int.le_refl _⟩
      · have h2 := h1 a L (by omega) (by omega)
        have h3 := ihl (a.rep F L).2 (by omega) h2.1
        simp only
        omega

theorem pre_mem {t x y : Tm} (hx : x ∈ t.l) (hy : y ∈ x.pre) : y ∈ t.pre := by
  rw [t.pre_eq]
  refine List.mem_cons_of_mem _ ?_
  obtain ⟨k, hk⟩ := List.mem_iff_getElem?.1 hx
  have h1 := congrArg Tm.pres (List.take_append_drop (k + 1) t.l)
  rw [Tm.pres_append, take_snoc hk, Tm.pres_append] at h1
  rw [← h1]
  simp only [Tm.pres, List.append_nil, List.mem_append]
  exact Or.inl (Or.inr hy)
/-- What a replacing function gives. -/
def RetP (Q : Nat → Prop) (w : World) (r : Option Tm) (e : Ending) (w' : World) : Prop :=
  ∃ A c, e = .returned (.tuple #[.agg #[.int .i64 (r.getD Tm.zero).k, .int .i64 (r.getD Tm.zero).n, .string (r.getD Tm.zero).s, .slice A (r.getD Tm.zero).l.length c], .bool r.isSome]) ∧ (r.getD Tm.zero).s.size ≤ 9223372036854775807 ∧ TmC Q w' A c (r.getD Tm.zero).l ∧ Below w.heap.size w w'
/-- A tree and what is left. -/
def RetR (Q : Nat → Prop) (b : Nat) (w : World) (r : Tm × Int) (e : Ending) (w' : World) : Prop :=
  ∃ A c, e = .returned (.agg #[.int .i64 r.1.k, .int .i64 r.1.n, .string r.1.s, .slice A r.1.l.length c]) ∧ r.1.s.size ≤ 9223372036854775807 ∧ TmC (fun g => Q g ∨ w.heap.size ≤ g) w' A c r.1.l ∧ Blk w' b 143 #[.int .i64 r.2] ∧ But b w w'
theorem But.grownBy {b : Nat} {w w' : World} (h : But b w w') : w.grownBy w' (some b) := ⟨h.os, h.tape, h.output, h.size, fun k hk hne => h.block k hk (fun e => hne (by rw [e]))⟩
theorem RowT.but {N : Nat} {P : Nat → Prop} {w w' : World} {v : Value} {l : List Tm} {b : Nat} {T : TypeId} {cs : Array Value} (h : RowT N P w v l) (hb : But b w w') (hB : Blk w b T cs) (hT : T ≠ 25) (hP : ∀ g, P g → g ≠ b) : RowT N P w' v l := by
  obtain ⟨es, h1, h2, h3⟩ := h
  exact ⟨es, h1, h2.kept hb.grownBy (.inr (own_blk_ne h2 hB (Ne.symm hT))), fun e he => ⟨(h3 e he).1, ((h3 e he).2.but hb (fun g hg => hP g hg.1)).mono fun g hg => ⟨hg.1, hg.2.1, Nat.lt_of_lt_of_le hg.2.2 hb.size⟩⟩⟩

set_option maxRecDepth 100000 in
set_option maxHeartbeats 4000000 in
theorem replace_calls (fid cb b N0 : Nat) (F : Int → Option Tm) (Q : Nat → Prop) (E : World → Prop) (hE : ∀ W W', E W → But b W W' → E W') (hQ : ∀ g, Q g → g < N0 ∧ g ≠ b) (hcf : ∀ args w, Sem.run Try.prog (callFunc fid args) w = .ok (.enter fid args) w)
    (hF : ∀ n x, F n = some x → x.size ≤ 1000000) (hf : ∀ (W : World) (n : Int), E W → 0 ≤ n → n < 100000 → Calls Try.prog fid #[.int .i64 n, .pointer (some ⟨cb, 0, none⟩)] W (RetP Q W (F n))) (t : Tm) :
    ∀ (P : Nat → Prop) (w : World) (v : Value) (L : Int), TmV P w v t → Blk w b 143 #[.int .i64 L] → (∀ g, P g → g ≠ b) → E w → N0 ≤ w.heap.size → 0 ≤ L → L ≤ 4000 → t.size ≤ 1000000 → (∀ x ∈ t.pre, x.k = 1 → 0 ≤ x.n ∧ x.n < 100000) →
      Calls Try.prog 127 #[.pointer (some ⟨b, 0, none⟩), v, .func (.func fid) #[] #[.pointer (some ⟨cb, 0, none⟩)]] w (RetR Q b w (t.rep F L)) := by
  induction t using Tm.ind with
  | h t ih =>
    intro P w v L hv hb hP hEw hN0 hL0 hL4 hsz hvar
    obtain ⟨A, c, rfl, hs, hc⟩ := hv
    obtain ⟨i0, hi0⟩ := info25
    have Hi := Lib.hid hi0; clear hi0
    have Ih := Lib.hid ih; clear ih
    obtain ⟨W0, hW0⟩ : ∃ W0, W0 = (w.alloc (.cells #[.int .i64 t.k, .int .i64 t.n, .string t.s, .slice A t.l.length c] 25)).alloc (.cells #[.int .i64 0, .int .i64 0, .string ⟨#[]⟩, .slice none 0 0] 25) := ⟨_, rfl⟩
    have hB0 : Below w.heap.size w W0 := by rw [hW0]; exact ((Below.refl _ _).alloc (Nat.le_refl _) _).alloc (by simp) _
    have hX0 : Blk W0 w.heap.size 25 #[.int .i64 t.k, .int .i64 t.n, .string t.s, .slice A t.l.length c] := by rw [hW0]; exact (Blk.new w 25 _).alloc _
    have hY0 : Blk W0 (w.heap.size + 1) 25 #[.int .i64 0, .int .i64 0, .string ⟨#[]⟩, .slice none 0 0] := by
      rw [hW0]
      have := Blk.new (w.alloc (.cells #[.int .i64 t.k, .int .i64 t.n, .string t.s, .slice A t.l.length c] 25)) 25 #[.int .i64 0, .int .i64 0, .string ⟨#[]⟩, .slice none 0 0]
      rwa [World.size_alloc] at this
    have ly0 := hY0.lt
    have hlc := hc.len.1
    have hlm := hc.len.2.1
    have hll : t.l.length ≤ 1000000 := by
      have h1 := t.size_eq
      have h2 := len_le_sizes t.l
      omega
    have hE0 := hE w W0 hEw (But.of_below hB0 (Nat.le_refl _))
    have hbw := hb.lt
    obtain ⟨bw0, bwf⟩ := Blk.one hb
    have hb0 := hb.below hB0 hb.lt
    have HE0 := Lib.hid hE0; clear hE0
    have HEw := Lib.hid hEw; clear hEw
    have hbk := hb
    have Hcw := Lib.hid hc
    have Hb0 := Lib.hid hb0; clear hb0 hb
    have Hc := Lib.hid (hc.stay hB0 (Nat.le_refl _)); clear hc
    have HX0 := Lib.hid hX0; clear hX0
    have HY0 := Lib.hid hY0; clear hY0
    have HB0 := Lib.hid hB0; clear hB0
    have HW := Lib.hid hW0; clear hW0
    have HP := Lib.hid hP; clear hP
    have Hvar := Lib.hid hvar; clear hvar
    obtain ⟨⟨a0, a1, a2, a3⟩, -⟩ := HX0.out.four
    have HF := Lib.hid hF; clear hF
    obtain ⟨R, hR⟩ : ∃ R, R = t.rep F L := ⟨_, rfl⟩
    rw [← hR]
    have HR := Lib.hid hR; clear hR
    by_cases hk : t.k = 1
    case neg =>
      have d1 : (t.k == 1) = false := by simpa using hk
      have Hrep := Lib.hid (Tm.rep_def F t L (fun x h => absurd h hk))
      clear hk
      obtain ⟨WL, hWL⟩ : ∃ WL, WL = ((w.setCell ⟨b, 0, none⟩ (.int .i64 (L - 1))).alloc (.cells #[.int .i64 t.k, .int .i64 t.n, .string t.s, .slice A t.l.length c] 25)).alloc (.cells #[.int .i64 0, .int .i64 0, .string ⟨#[]⟩, .slice none 0 0] 25) := ⟨_, rfl⟩
      have hsz0 : (w.setCell ⟨b, 0, none⟩ (.int .i64 (L - 1))).heap.size = w.heap.size := by simp
      have HBL := Lib.hid (show But b w WL from by rw [hWL]; exact (((But.refl b w).setCell 0 _).alloc _).alloc _)
      have hsl : w.heap.size + 2 = WL.heap.size := by rw [hWL]; simp
      have HbL := Lib.hid (show Blk WL b 143 #[.int .i64 (L - 1)] from by rw [hWL]; exact ((hbk.set_ 0 (.int .i64 (L - 1))).alloc _).alloc _)
      have HXL := Lib.hid (show Blk WL w.heap.size 25 #[.int .i64 t.k, .int .i64 t.n, .string t.s, .slice A t.l.length c] from by
        rw [hWL]
        have := (Blk.new (w.setCell ⟨b, 0, none⟩ (.int .i64 (L - 1))) 25 #[.int .i64 t.k, .int .i64 t.n, .string t.s, .slice A t.l.length c]).alloc (.cells #[.int .i64 0, .int .i64 0, .string ⟨#[]⟩, .slice none 0 0] 25)
        rwa [hsz0] at this)
      have HYL := Lib.hid (show Blk WL (w.heap.size + 1) 25 #[.int .i64 0, .int .i64 0, .string ⟨#[]⟩, .slice none 0 0] from by
        rw [hWL]
        have := Blk.new ((w.setCell ⟨b, 0, none⟩ (.int .i64 (L - 1))).alloc (.cells #[.int .i64 t.k, .int .i64 t.n, .string t.s, .slice A t.l.length c] 25)) 25 #[.int .i64 0, .int .i64 0, .string ⟨#[]⟩, .slice none 0 0]
        rwa [World.size_alloc, hsz0] at this)
      have HEL := Lib.hid (hE _ _ HEw.out HBL.out)
      have HcL := Lib.hid (Hcw.out.but HBL.out HP.out)
      have HWL := Lib.hid hWL; clear hWL hsz0
      clear a0 a1 a2 a3
      go_enter Try.func127, Try.ntmps127
      go_wp2
      rw [← HWL.out]
      go_loopw [11, 49] (fun u i wr => ∃ (k : Nat) (L' : Int) (ys : List Tm), k ≤ t.l.length ∧ i = .int .i64 k ∧ (RowT WL.heap.size (fun g => Q g ∨ WL.heap.size ≤ g) wr u ys ∧ Blk wr b 143 #[.int .i64 L'] ∧ But b WL wr ∧ -1000000 ≤ L' ∧ L' ≤ 4000 ∧ ys.length ≤ k ∧
        Tm.reps F t.l (L - 1) = (ys ++ (Tm.reps F (t.l.drop k) L').1, (Tm.reps F (t.l.drop k) L').2))) (fun _ i _ => t.l.length - (intOf i).toNat)
      case atStart => exact ⟨0, L - 1, [], Nat.zero_le _, rfl, RowT.nil _ _ _, HbL.out, But.refl _ _, by omega, by omega, Nat.le_refl _, rfl⟩
      case round =>
        obtain ⟨k, L', ys, hk, rfl, hrw, hbl, hB, hL1, hL2, hyl, hlink⟩ := hrel
        have HB := Lib.hid hB; clear hB
        have Hlink := Lib.hid hlink; clear hlink
        have Hrw := Lib.hid hrw; clear hrw
        have Hyl := Lib.hid hyl; clear hyl
        have hbs : wr.heap.size ≥ WL.heap.size := HB.out.size
        have hblt := hbl.lt
        have hx1 : w.heap.size < wr.heap.size := by omega
        have hx2 : w.heap.size + 1 < wr.heap.size := by omega
        have hbw1 : b ≠ w.heap.size := by omega
        have hbw2 : b ≠ w.heap.size + 1 := by omega
        have hbc : wr.cell? ⟨b, 0, none⟩ = some (.int .i64 L') := (Blk.one hbl).1
        have hbs : wr.heap.size ≥ WL.heap.size := HB.out.size
        have Hbl := Lib.hid hbl; clear hbl
        have HX := Lib.hid (HXL.out.but HB.out (by omega))
        have HY := Lib.hid (HYL.out.but HB.out (by omega))
        obtain ⟨⟨y0, y1, y2, y3⟩, ⟨yf0, yf1, yf2, yf3⟩⟩ := HX.out.four
        obtain ⟨⟨z0, z1, z2, z3⟩, ⟨zf0, zf1, zf2, zf3⟩⟩ := HY.out.four
        by_cases hlt : k < t.l.length
        · obtain ⟨x, hx⟩ : ∃ x, t.l[k]? = some x := ⟨_, List.getElem?_eq_getElem hlt⟩
          obtain ⟨g, off, Ai, ci, rfl, hPg, ⟨e0, e1, e2, e3⟩, hxs, hxc⟩ := (HcL.out.but HB.out HP.out).at_ hx
          have hxm := List.mem_of_getElem? hx
          by_cases hneg : L' < 0
          · have dn : decide (L' < 0) = true := decide_eq_true hneg
            have Hfin := Lib.hid (show Tm.reps F t.l (L - 1) = (ys, L') from by rw [Hlink.out, Tm.reps_neg F _ hneg, List.append_nil])
            clear hx
            obtain ⟨A2, c2, rfl, h2⟩ := Hrw.out.toC
            have hylz : ys.length ≤ 1000000 := by have := Hyl.out; omega
            have hob : ∀ g, ((Q g ∨ WL.heap.size ≤ g) ∨ some g = (Value.slice A2 ys.length c2).ownBlock) → (Q g ∨ WL.heap.size ≤ g) := fun g hg => by
              rcases hg with h | h
              · exact h
              · obtain ⟨es, h3, h4, h5⟩ := Hrw.out
                exact Or.inr (h4.lt g h.symm).1
            have hgt : ∀ g, (Q g ∨ WL.heap.size ≤ g) → g ≠ w.heap.size ∧ g ≠ w.heap.size + 1 := fun g hg => by
              rcases hg with h | h
              · have := (hQ g h).1; omega
              · omega
            have H2 := Lib.hid (h2.mono hob); clear h2 hob
            have Hgt := Lib.hid hgt; clear hgt
            go_wp2
            have hF := (((((HY.out.far (p := ⟨w.heap.size, 3, none⟩) (by simp) (.slice A2 ys.length c2)).set_ 0 (.int .i64 t.k)).set_ 1 (.int .i64 t.n)).set_ 2 (.string t.s)).set_ 3 (.slice A2 ys.length c2)).alloc (.cells #[.int .i64 x.k, .int .i64 x.n, .string x.s, .slice Ai x.l.length ci] 25)
            have hBb := (((((Hbl.out.far (p := ⟨w.heap.size, 3, none⟩) hbw1 (.slice A2 ys.length c2)).far (p := ⟨w.heap.size + 1, 0, none⟩) hbw2 (.int .i64 t.k)).far (p := ⟨w.heap.size + 1, 1, none⟩) hbw2 (.int .i64 t.n)).far (p := ⟨w.heap.size + 1, 2, none⟩) hbw2 (.string t.s)).far (p := ⟨w.heap.size + 1, 3, none⟩) hbw2 (.slice A2 ys.length c2)).alloc (.cells #[.int .i64 x.k, .int .i64 x.n, .string x.s, .slice Ai x.l.length ci] 25)
            have hT := ((((((H2.out.setCell ⟨w.heap.size, 3, none⟩ (.slice A2 ys.length c2) (fun g h => (Hgt.out g h).1)).setCell ⟨w.heap.size + 1, 0, none⟩ (.int .i64 t.k) (fun g h => (Hgt.out g h).2)).setCell ⟨w.heap.size + 1, 1, none⟩ (.int .i64 t.n) (fun g h => (Hgt.out g h).2)).setCell ⟨w.heap.size + 1, 2, none⟩ (.string t.s) (fun g h => (Hgt.out g h).2)).setCell ⟨w.heap.size + 1, 3, none⟩ (.slice A2 ys.length c2) (fun g h => (Hgt.out g h).2))).stay ((Below.refl _ _).alloc (Nat.le_refl _) (.cells #[.int .i64 x.k, .int .i64 x.n, .string x.s, .slice Ai x.l.length ci] 25)) (Nat.le_refl _)
            have hBF := ((((((HBL.out.trans HB.out).setCellFar ⟨w.heap.size, 3, none⟩ (Nat.le_refl _) (.slice A2 ys.length c2)).setCellFar ⟨w.heap.size + 1, 0, none⟩ (by simp) (.int .i64 t.k)).setCellFar ⟨w.heap.size + 1, 1, none⟩ (by simp) (.int .i64 t.n)).setCellFar ⟨w.heap.size + 1, 2, none⟩ (by simp) (.string t.s)).setCellFar ⟨w.heap.size + 1, 3, none⟩ (by simp) (.slice A2 ys.length c2)).alloc (.cells #[.int .i64 x.k, .int .i64 x.n, .string x.s, .slice Ai x.l.length ci] 25)
            obtain ⟨⟨q0, q1, q2, q3⟩, -⟩ := hF.four
            have hRR : R = (.mk t.k t.n t.s ys, L') := by rw [HR.out, Hrep.out, Hfin.out]
            refine bodyPost_ret (v := .agg #[.int .i64 t.k, .int .i64 t.n, .string t.s, .slice A2 ys.length c2]) ?_ rfl (R := RetR Q b w R) (by rw [hRR]; exact ⟨A2, c2, rfl, hs, hT.mono (fun g h => by rcases h with h | h; exact Or.inl h; exact Or.inr (by omega)), hBb, hBF⟩)
            generalize (World.alloc _ (.cells #[.int .i64 x.k, .int .i64 x.n, .string x.s, .slice Ai x.l.length ci] 25)) = WF at q0 q1 q2 q3 ⊢
            clear hF hT hBF hBb
            simp [results, Try.results127, go_sem, q0, q1, q2, q3]
          · have dn : decide (L' < 0) = false := decide_eq_false hneg
            have hdrop : t.l.drop k = x :: t.l.drop (k + 1) := by
              obtain ⟨h1, h2⟩ := List.getElem?_eq_some_iff.1 hx
              rw [List.drop_eq_getElem_cons h1, h2]
            have hxz : x.size ≤ 1000000 := by have := Tm.size_child hxm; omega
            have Hlk := Lib.hid (show Tm.reps F t.l (L - 1) = ((ys ++ [(x.rep F L').1]) ++ (Tm.reps F (t.l.drop (k + 1)) (x.rep F L').2).1, (Tm.reps F (t.l.drop (k + 1)) (x.rep F L').2).2) from by
              rw [Hlink.out, hdrop, Tm.reps_cons, if_neg hneg]; simp)
            have hbd := (Tm.rep_bd F HF.out x.size).1 x L' (Nat.le_refl _) (by omega)
            have hbb : Below wr.heap.size wr (wr.alloc (.cells #[.int .i64 x.k, .int .i64 x.n, .string x.s, .slice Ai x.l.length ci] 25)) := (Below.refl _ _).alloc (Nat.le_refl _) _
            have hEr : E (wr.alloc (.cells #[.int .i64 x.k, .int .i64 x.n, .string x.s, .slice Ai x.l.length ci] 25)) := hE _ _ (hE _ _ HEL.out HB.out) (But.of_below hbb (Nat.le_refl _))
            have hcall := Ih.out x hxm P _ _ L' ⟨Ai, ci, rfl, hxs, hxc.stay hbb (Nat.le_refl _)⟩ (Hbl.out.below hbb hblt) HP.out hEr (by have := HBL.out.size; simp; omega) (by omega) hL2 hxz (fun y hy => Hvar.out y (pre_mem hxm hy))
            obtain ⟨r, hr⟩ : ∃ r, r = x.rep F L' := ⟨_, rfl⟩
            rw [← hr] at hcall hbd
            have Hlk2 := Lib.hid (show Tm.reps F t.l (L - 1) = ((ys ++ [r.1]) ++ (Tm.reps F (t.l.drop (k + 1)) r.2).1, (Tm.reps F (t.l.drop (k + 1)) r.2).2) from by rw [hr]; exact Hlk.out)
            have Hcall := Lib.hid hcall; clear hcall hxc hx hEr hdrop hr
            have HBB := Lib.hid hbb; clear hbb
            have Hbd := Lib.hid hbd; clear hbd
            go_wp2_with fail
            refine Hcall.out.mono ?_
            rintro e w2 ⟨A2, c2, rfl, hr1s, hx2, hbk2, hb2⟩
            have hbr : But b wr w2 := (But.of_below HBB.out (Nat.le_refl _)).trans hb2
            have hbr2 : But b wr (w2.alloc (.cells #[.int .i64 r.1.k, .int .i64 r.1.n, .string r.1.s, .slice A2 r.1.l.length c2] 25)) := hbr.alloc _
            have hPr : ∀ g, (Q g ∨ WL.heap.size ≤ g) → g ≠ b := fun g hg => by
              rcases hg with h | h
              · exact (hQ g h).2
              · have := HBL.out.size; omega
            have hrw2 := Hrw.out.but hbr2 Hbl.out (by decide) hPr
            have hx3 := hx2.stay ((Below.refl _ _).alloc (Nat.le_refl _) (.cells #[.int .i64 r.1.k, .int .i64 r.1.n, .string r.1.s, .slice A2 r.1.l.length c2] 25)) (Nat.le_refl _)
            have hob : ∀ g, (Q g ∨ wr.heap.size + 1 ≤ g) → (Q g ∨ WL.heap.size ≤ g) ∧ some g ≠ u11.ownBlock := fun g hg => by
              refine ⟨by rcases hg with h | h; exact Or.inl h; exact Or.inr (by omega), fun e => ?_⟩
              obtain ⟨es, h1, h2, h3⟩ := Hrw.out
              have h4 := h2.lt g e.symm
              rcases hg with h | h
              · have := (hQ g h).1; have := HBL.out.size; omega
              · omega
            obtain ⟨es, hes, hrow, hch⟩ := hrw2
            have hel : es.length ≤ k := by
              have h1 := congrArg List.length hes
              rw [List.length_map] at h1
              have := Hyl.out; omega
            have Hx3 := Lib.hid hx3; clear hx3 hx2
            have Hob := Lib.hid hob; clear hob
            have Hch := Lib.hid hch
            have Hrow := Lib.hid hrow
            have HB2 := Lib.hid (HB.out.trans hbr2)
            have Hbk2 := Lib.hid (hbk2.alloc (.cells #[.int .i64 r.1.k, .int .i64 r.1.n, .string r.1.s, .slice A2 r.1.l.length c2] 25)); clear hbk2
            clear hbr2 hbr hb2 hPr
            have Hes := Lib.hid hes
            have Hel := Lib.hid hel
            have Hr1s := Lib.hid hr1s
            clear hrow hch hes hel hr1s
            go_wp2_with (at_builtin; refine wpList_append_own_at _ rfl (.tmp 58) (.tmp 63) 22 rfl WL.heap.size 25 i0 _ 4 56 Try.underlying22 Hi.out.1 Hi.out.2.1 Hi.out.2.2.1 Hi.out.2.2.2 rfl (by decide) u11 es.length (es.flatMap encE) rfl Hrow.out ⟨w2.heap.size, 0, none⟩ 1 1 [.int .i64 r.1.k, .int .i64 r.1.n, .string r.1.s, .slice A2 r.1.l.length c2] rfl rfl ?c1 ?c2 ?c3 ?c4 ?c5 ?_)
            case c1 =>
              intro j u hu
              rw [add_lit0, (Blk.new w2 25 _).cell j]
              simpa using hu
            case c2 => simp [Value.oneCell']
            case c3 => have := Hel.out; simp only [maxLen]; omega
            case c4 => have := Hel.out; omega
            case c5 => have := HB2.out.size; simpa using this
            intro v' w4 hown hg _ hbk
            have hnew : RowT WL.heap.size (fun g => Q g ∨ WL.heap.size ≤ g) w4 v' (ys ++ [r.1]) :=
              RowT.push es Hes.out Hch.out Hr1s.out Hx3.out (fun g hg' => Hob.out g (by simpa using hg')) hown hg (by simpa using hbk)
            have hbo : u11.ownBlock ≠ some b := own_blk_ne Hrow.out Hbk2.out (by decide)
            have Hb4 := Lib.hid (Hbk2.out.grown hg (fun e => hbo e.symm))
            have HB4 := Lib.hid (show But b WL w4 from ⟨hg.os.trans HB2.out.os, hg.tape.trans HB2.out.tape, hg.output.trans HB2.out.output, Nat.le_trans HB2.out.size hg.size, fun j hj hjb => (hg.block j (Nat.lt_of_lt_of_le hj HB2.out.size) (fun e => by
              have := (Hrow.out.lt j e.symm).1; omega)).trans (HB2.out.block j hj hjb)⟩)
            have Hnew := Lib.hid hnew
            obtain ⟨A', c', rfl⟩ := own_slice hown
            clear hown hg hbk hnew hbo
            go_wp2
            go_roundw
            case rel => exact ⟨k + 1, r.2, ys ++ [r.1], by omega, by go_num, Hnew.out, Hb4.out, HB4.out, Hbd.out.1, by have := Hbd.out.2; omega, by have := Hyl.out; simp; omega, Hlk2.out⟩
            case measure => simp [intOf]; omega
        · have hke : k = t.l.length := by omega
          subst hke
          have Hfin := Lib.hid (show Tm.reps F t.l (L - 1) = (ys, L') from by rw [Hlink.out, List.drop_length, Tm.reps_nil, List.append_nil])
          obtain ⟨A2, c2, rfl, h2⟩ := Hrw.out.toC
          have hylz : ys.length ≤ 1000000 := by have := Hyl.out; omega
          have hob : ∀ g, ((Q g ∨ WL.heap.size ≤ g) ∨ some g = (Value.slice A2 ys.length c2).ownBlock) → (Q g ∨ WL.heap.size ≤ g) := fun g hg => by
            rcases hg with h | h
            · exact h
            · obtain ⟨es, h3, h4, h5⟩ := Hrw.out
              exact Or.inr (h4.lt g h.symm).1
          have hgt : ∀ g, (Q g ∨ WL.heap.size ≤ g) → g ≠ w.heap.size ∧ g ≠ w.heap.size + 1 := fun g hg => by
            rcases hg with h | h
            · have := (hQ g h).1; omega
            · omega
          have H2 := Lib.hid (h2.mono hob); clear h2 hob
          have Hgt := Lib.hid hgt; clear hgt
          go_wp2
          have hF := (((((HY.out.far (p := ⟨w.heap.size, 3, none⟩) (by simp) (.slice A2 ys.length c2)).set_ 0 (.int .i64 t.k)).set_ 1 (.int .i64 t.n)).set_ 2 (.string t.s)).set_ 3 (.slice A2 ys.length c2))
          have hBb := (((((Hbl.out.far (p := ⟨w.heap.size, 3, none⟩) hbw1 (.slice A2 ys.length c2)).far (p := ⟨w.heap.size + 1, 0, none⟩) hbw2 (.int .i64 t.k)).far (p := ⟨w.heap.size + 1, 1, none⟩) hbw2 (.int .i64 t.n)).far (p := ⟨w.heap.size + 1, 2, none⟩) hbw2 (.string t.s)).far (p := ⟨w.heap.size + 1, 3, none⟩) hbw2 (.slice A2 ys.length c2))
          have hT := ((((((H2.out.setCell ⟨w.heap.size, 3, none⟩ (.slice A2 ys.length c2) (fun g h => (Hgt.out g h).1)).setCell ⟨w.heap.size + 1, 0, none⟩ (.int .i64 t.k) (fun g h => (Hgt.out g h).2)).setCell ⟨w.heap.size + 1, 1, none⟩ (.int .i64 t.n) (fun g h => (Hgt.out g h).2)).setCell ⟨w.heap.size + 1, 2, none⟩ (.string t.s) (fun g h => (Hgt.out g h).2)).setCell ⟨w.heap.size + 1, 3, none⟩ (.slice A2 ys.length c2) (fun g h => (Hgt.out g h).2)))
          have hBF := ((((((HBL.out.trans HB.out).setCellFar ⟨w.heap.size, 3, none⟩ (Nat.le_refl _) (.slice A2 ys.length c2)).setCellFar ⟨w.heap.size + 1, 0, none⟩ (by simp) (.int .i64 t.k)).setCellFar ⟨w.heap.size + 1, 1, none⟩ (by simp) (.int .i64 t.n)).setCellFar ⟨w.heap.size + 1, 2, none⟩ (by simp) (.string t.s)).setCellFar ⟨w.heap.size + 1, 3, none⟩ (by simp) (.slice A2 ys.length c2))
          obtain ⟨⟨q0, q1, q2, q3⟩, -⟩ := hF.four
          have hRR : R = (.mk t.k t.n t.s ys, L') := by rw [HR.out, Hrep.out, Hfin.out]
          refine bodyPost_ret (v := .agg #[.int .i64 t.k, .int .i64 t.n, .string t.s, .slice A2 ys.length c2]) ?_ rfl (R := RetR Q b w R) (by rw [hRR]; exact ⟨A2, c2, rfl, hs, hT.mono (fun g h => by rcases h with h | h; exact Or.inl h; exact Or.inr (by omega)), hBb, hBF⟩)
          generalize (World.setCell _ ⟨w.heap.size + 1, 3, none⟩ _) = WF at q0 q1 q2 q3 ⊢
          clear hF hT hBF hBb
          simp [results, Try.results127, go_sem, q0, q1, q2, q3]

    obtain ⟨hv0, hv1⟩ := Hvar.out t (by rw [t.pre_eq]; simp) hk
    have hcall := hf W0 t.n HE0.out hv0 hv1
    have hkk := Lib.hid hk
    cases hfn : F t.n with
    | some x =>
      rw [hfn] at hcall
      have hcall := hcall.mono (R' := fun e w1 => ∃ A1 c1, e = .returned (.tuple #[.agg #[.int .i64 x.k, .int .i64 x.n, .string x.s, .slice A1 x.l.length c1], .bool true]) ∧ x.s.size ≤ 9223372036854775807 ∧ TmC Q w1 A1 c1 x.l ∧ Below W0.heap.size W0 w1) (fun e w1 h => h)
      have Hcall := Lib.hid hcall; clear hcall
      have hxz := HF.out _ _ hfn
      have Hrep := Lib.hid (Tm.rep_hit F t L hkk.out hfn)
      have d1 : (t.k == 1) = true := by simpa using hk
      clear hfn hk
      go_enter Try.func127, Try.ntmps127
      go_wp2_with fail
      rw [← HW.out]
      refine Hcall.out.mono ?_
      rintro e w1 ⟨A1, c1, rfl, hs1, hx1, hb1⟩
      have hB1 := HB0.out.trans (hb1.mono HB0.out.size)
      have hbb := (Below.refl _ _).alloc (Nat.le_refl _) (.cells #[.int .i64 x.k, .int .i64 x.n, .string x.s, .slice A1 x.l.length c1] 25) (a := w1)
      have hcall := size_calls x Q _ _ ⟨A1, c1, rfl, hs1, hx1.stay hbb (Nat.le_refl _)⟩ hxz
      have Hcall2 := Lib.hid hcall; clear hcall
      have HB1 := Lib.hid (hB1.trans (hbb.mono hB1.size))
      have Hx1 := Lib.hid (hx1.stay hbb (Nat.le_refl _)); clear hx1
      have HX1 := Lib.hid ((Blk.new w1 25 #[.int .i64 x.k, .int .i64 x.n, .string x.s, .slice A1 x.l.length c1]))
      have hYa := (HY0.out.below hb1 ly0)
      have HY1 := Lib.hid (hYa.below hbb hYa.lt); clear hYa
      have hba := (Hb0.out.below hb1 (by have := HB0.out.size; omega))
      have Hb1 := Lib.hid (hba.below hbb hba.lt); clear hba
      have hszw1 := hB1.size
      have hbw3 : b ≠ w1.heap.size := by omega
      have hlY1 : w.heap.size + 1 < w1.heap.size := Nat.lt_of_lt_of_le ly0 hb1.size
      have hbw4 : w.heap.size + 1 ≠ w1.heap.size := by omega
      clear hB1 hb1 hbb
      go_wp2_with fail
      refine Hcall2.out.mono ?_
      rintro e w2 ⟨rfl, hb2⟩
      have hsz1 := HB1.out.size
      have lX := HX1.out.lt
      have lY := HY1.out.lt
      have lb := Hb1.out.lt
      have hX2 := HX1.out.below hb2 lX
      have hY2 := HY1.out.below hb2 lY
      have hb2' := Hb1.out.below hb2 lb
      obtain ⟨⟨y0, y1, y2, y3⟩, -⟩ := hX2.four
      obtain ⟨⟨z0, z1, z2, z3⟩, ⟨zf0, zf1, zf2, zf3⟩⟩ := hY2.four
      obtain ⟨p0, pf0⟩ := Blk.one hb2'
      have hbw2 : b ≠ w.heap.size + 1 := by omega
      have HY2 := Lib.hid hY2; clear hY2
      have Hb2 := Lib.hid hb2'; clear hb2'
      have HB2 := Lib.hid (HB1.out.trans (hb2.mono hsz1))
      have H2 := Lib.hid (Hx1.out.stay hb2 (Nat.le_refl _))
      clear hb2 hX2
      go_wp2
      have hF := (((((HY2.out.far (p := ⟨b, 0, none⟩) (Ne.symm hbw2) (.int .i64 (L - x.size))).set_ 0 (.int .i64 x.k)).set_ 1 (.int .i64 x.n)).set_ 2 (.string x.s)).set_ 3 (.slice A1 x.l.length c1))
      have hBb := (((((Hb2.out.set_ 0 (.int .i64 (L - x.size))).far (p := ⟨w.heap.size + 1, 0, none⟩) hbw2 (.int .i64 x.k)).far (p := ⟨w.heap.size + 1, 1, none⟩) hbw2 (.int .i64 x.n)).far (p := ⟨w.heap.size + 1, 2, none⟩) hbw2 (.string x.s)).far (p := ⟨w.heap.size + 1, 3, none⟩) hbw2 (.slice A1 x.l.length c1))
      have hgt : ∀ g, Q g → g ≠ b ∧ g ≠ w.heap.size + 1 := fun g h => ⟨(hQ g h).2, by have := (hQ g h).1; omega⟩
      have hT := (((((H2.out.setCell ⟨b, 0, none⟩ (.int .i64 (L - x.size)) (fun g h => (hgt g h).1)).setCell ⟨w.heap.size + 1, 0, none⟩ (.int .i64 x.k) (fun g h => (hgt g h).2)).setCell ⟨w.heap.size + 1, 1, none⟩ (.int .i64 x.n) (fun g h => (hgt g h).2)).setCell ⟨w.heap.size + 1, 2, none⟩ (.string x.s) (fun g h => (hgt g h).2)).setCell ⟨w.heap.size + 1, 3, none⟩ (.slice A1 x.l.length c1) (fun g h => (hgt g h).2))
      have hBF := ((((((But.of_below HB2.out (Nat.le_refl _)).setCell (b := b) 0 (.int .i64 (L - x.size))).setCellFar ⟨w.heap.size + 1, 0, none⟩ (by simp) (.int .i64 x.k)).setCellFar ⟨w.heap.size + 1, 1, none⟩ (by simp) (.int .i64 x.n)).setCellFar ⟨w.heap.size + 1, 2, none⟩ (by simp) (.string x.s)).setCellFar ⟨w.heap.size + 1, 3, none⟩ (by simp) (.slice A1 x.l.length c1))
      obtain ⟨⟨q0, q1, q2, q3⟩, -⟩ := hF.four
      have hRR : R = (x, L - x.size) := by rw [HR.out, Hrep.out]
      refine bodyPost_ret (v := .agg #[.int .i64 x.k, .int .i64 x.n, .string x.s, .slice A1 x.l.length c1]) ?_ rfl (R := RetR Q b w R) (by rw [hRR]; exact ⟨A1, c1, rfl, hs1, hT.mono (fun g h => Or.inl h), hBb, hBF⟩)
      generalize (World.setCell _ ⟨w.heap.size + 1, 3, none⟩ _) = WF at q0 q1 q2 q3 ⊢
      clear hF hT hBF hBb
      simp [results, Try.results127, go_sem, q0, q1, q2, q3]
    | none =>
      rw [hfn] at hcall
      have hcall := hcall.mono (R' := fun e w1 => ∃ A1 c1, e = .returned (.tuple #[.agg #[.int .i64 0, .int .i64 0, .string ⟨#[]⟩, .slice A1 0 c1], .bool false]) ∧ Below W0.heap.size W0 w1) (fun e w1 h => by
        obtain ⟨A1, c1, h1, -, -, h2⟩ := h
        exact ⟨A1, c1, h1, h2⟩)
      have Hcall := Lib.hid hcall; clear hcall
      have Hrep := Lib.hid (Tm.rep_def F t L (fun x _ h => by rw [hfn] at h; cases h))
      have d1 : (t.k == 1) = true := by simpa using hk
      clear hfn hk
      go_enter Try.func127, Try.ntmps127
      go_wp2_with fail
      rw [← HW.out]
      refine Hcall.out.mono ?_
      rintro e w1 ⟨A1, c1, rfl, hb1⟩
      have hB1 := HB0.out.trans (hb1.mono HB0.out.size)
      have hX1 := HX0.out.below hb1 (by omega)
      have hY1 := HY0.out.below hb1 ly0
      have hb1' := Hb0.out.below hb1 (by have := HB0.out.size; omega)
      have hc1 := Hc.out.stay hb1 (Nat.le_refl _)
      have hszw1 := hB1.size
      have hlY1 : w.heap.size + 1 < w1.heap.size := Nat.lt_of_lt_of_le ly0 hb1.size
      have hbw1' : b < w1.heap.size := by omega
      have hbx1 : b ≠ w.heap.size := by omega
      have hbx2 : b ≠ w.heap.size + 1 := by omega
      have hbx3 : b ≠ w1.heap.size := by omega
      have hlX1 : w.heap.size < w1.heap.size := by omega
      obtain ⟨p0, pf0⟩ := Blk.one hb1'
      obtain ⟨⟨y0, y1, y2, y3⟩, -⟩ := hX1.four
      obtain ⟨WL, hWL⟩ : ∃ WL, WL = (w1.setCell ⟨b, 0, none⟩ (.int .i64 (L - 1))).alloc (.cells #[.int .i64 0, .int .i64 0, .string ⟨#[]⟩, .slice A1 0 c1] 25) := ⟨_, rfl⟩
      have HBL := Lib.hid (show But b w WL from by rw [hWL]; exact ((But.of_below hB1 (Nat.le_refl _)).setCell (b := b) 0 _).alloc _)
      have hsl : w.heap.size + 2 ≤ WL.heap.size := by rw [hWL]; simp; omega
      have HbL := Lib.hid (show Blk WL b 143 #[.int .i64 (L - 1)] from by rw [hWL]; exact (hb1'.set_ 0 (.int .i64 (L - 1))).alloc _)
      have HXL := Lib.hid (show Blk WL w.heap.size 25 #[.int .i64 t.k, .int .i64 t.n, .string t.s, .slice A t.l.length c] from by rw [hWL]; exact (hX1.far (p := ⟨b, 0, none⟩) (Ne.symm hbx1) _).alloc _)
      have HYL := Lib.hid (show Blk WL (w.heap.size + 1) 25 #[.int .i64 0, .int .i64 0, .string ⟨#[]⟩, .slice none 0 0] from by rw [hWL]; exact (hY1.far (p := ⟨b, 0, none⟩) (Ne.symm hbx2) _).alloc _)
      have HEL := Lib.hid (hE _ _ HEw.out HBL.out)
      have HcL := Lib.hid (Hcw.out.but HBL.out HP.out)
      have HWL := Lib.hid hWL; clear hWL
      clear a0 a1 a2 a3 hX1 hY1 hb1' hb1 hB1 hc1
      go_wp2
      rw [← HWL.out]
      clear y0 y1 y2 y3 p0 pf0
      go_loopw [11, 49] (fun u i wr => ∃ (k : Nat) (L' : Int) (ys : List Tm), k ≤ t.l.length ∧ i = .int .i64 k ∧ (RowT WL.heap.size (fun g => Q g ∨ WL.heap.size ≤ g) wr u ys ∧ Blk wr b 143 #[.int .i64 L'] ∧ But b WL wr ∧ -1000000 ≤ L' ∧ L' ≤ 4000 ∧ ys.length ≤ k ∧
        Tm.reps F t.l (L - 1) = (ys ++ (Tm.reps F (t.l.drop k) L').1, (Tm.reps F (t.l.drop k) L').2))) (fun _ i _ => t.l.length - (intOf i).toNat)
      case atStart => exact ⟨0, L - 1, [], Nat.zero_le _, rfl, RowT.nil _ _ _, HbL.out, But.refl _ _, by omega, by omega, Nat.le_refl _, rfl⟩
      case round =>
        obtain ⟨k, L', ys, hk, rfl, hrw, hbl, hB, hL1, hL2, hyl, hlink⟩ := hrel
        have HB := Lib.hid hB; clear hB
        have Hlink := Lib.hid hlink; clear hlink
        have Hrw := Lib.hid hrw; clear hrw
        have Hyl := Lib.hid hyl; clear hyl
        have hbs : wr.heap.size ≥ WL.heap.size := HB.out.size
        have hblt := hbl.lt
        have hx1 : w.heap.size < wr.heap.size := by omega
        have hx2 : w.heap.size + 1 < wr.heap.size := by omega
        have hbw1 : b ≠ w.heap.size := by omega
        have hbw2 : b ≠ w.heap.size + 1 := by omega
        have hbc : wr.cell? ⟨b, 0, none⟩ = some (.int .i64 L') := (Blk.one hbl).1
        have hbs : wr.heap.size ≥ WL.heap.size := HB.out.size
        have Hbl := Lib.hid hbl; clear hbl
        have HX := Lib.hid (HXL.out.but HB.out (by omega))
        have HY := Lib.hid (HYL.out.but HB.out (by omega))
        obtain ⟨⟨y0, y1, y2, y3⟩, ⟨yf0, yf1, yf2, yf3⟩⟩ := HX.out.four
        obtain ⟨⟨z0, z1, z2, z3⟩, ⟨zf0, zf1, zf2, zf3⟩⟩ := HY.out.four
        by_cases hlt : k < t.l.length
        · obtain ⟨x, hx⟩ : ∃ x, t.l[k]? = some x := ⟨_, List.getElem?_eq_getElem hlt⟩
          obtain ⟨g, off, Ai, ci, rfl, hPg, ⟨e0, e1, e2, e3⟩, hxs, hxc⟩ := (HcL.out.but HB.out HP.out).at_ hx
          have hxm := List.mem_of_getElem? hx
          by_cases hneg : L' < 0
          · have dn : decide (L' < 0) = true := decide_eq_true hneg
            have Hfin := Lib.hid (show Tm.reps F t.l (L - 1) = (ys, L') from by rw [Hlink.out, Tm.reps_neg F _ hneg, List.append_nil])
            clear hx
            obtain ⟨A2, c2, rfl, h2⟩ := Hrw.out.toC
            have hylz : ys.length ≤ 1000000 := by have := Hyl.out; omega
            have hob : ∀ g, ((Q g ∨ WL.heap.size ≤ g) ∨ some g = (Value.slice A2 ys.length c2).ownBlock) → (Q g ∨ WL.heap.size ≤ g) := fun g hg => by
              rcases hg with h | h
              · exact h
              · obtain ⟨es, h3, h4, h5⟩ := Hrw.out
                exact Or.inr (h4.lt g h.symm).1
            have hgt : ∀ g, (Q g ∨ WL.heap.size ≤ g) → g ≠ w.heap.size ∧ g ≠ w.heap.size + 1 := fun g hg => by
              rcases hg with h | h
              · have := (hQ g h).1; omega
              · omega
            have H2 := Lib.hid (h2.mono hob); clear h2 hob
            have Hgt := Lib.hid hgt; clear hgt
            go_wp2
            have hF := (((((HY.out.far (p := ⟨w.heap.size, 3, none⟩) (by simp) (.slice A2 ys.length c2)).set_ 0 (.int .i64 t.k)).set_ 1 (.int .i64 t.n)).set_ 2 (.string t.s)).set_ 3 (.slice A2 ys.length c2)).alloc (.cells #[.int .i64 x.k, .int .i64 x.n, .string x.s, .slice Ai x.l.length ci] 25)
            have hBb := (((((Hbl.out.far (p := ⟨w.heap.size, 3, none⟩) hbw1 (.slice A2 ys.length c2)).far (p := ⟨w.heap.size + 1, 0, none⟩) hbw2 (.int .i64 t.k)).far (p := ⟨w.heap.size + 1, 1, none⟩) hbw2 (.int .i64 t.n)).far (p := ⟨w.heap.size + 1, 2, none⟩) hbw2 (.string t.s)).far (p := ⟨w.heap.size + 1, 3, none⟩) hbw2 (.slice A2 ys.length c2)).alloc (.cells #[.int .i64 x.k, .int .i64 x.n, .string x.s, .slice Ai x.l.length ci] 25)
            have hT := ((((((H2.out.setCell ⟨w.heap.size, 3, none⟩ (.slice A2 ys.length c2) (fun g h => (Hgt.out g h).1)).setCell ⟨w.heap.size + 1, 0, none⟩ (.int .i64 t.k) (fun g h => (Hgt.out g h).2)).setCell ⟨w.heap.size + 1, 1, none⟩ (.int .i64 t.n) (fun g h => (Hgt.out g h).2)).setCell ⟨w.heap.size + 1, 2, none⟩ (.string t.s) (fun g h => (Hgt.out g h).2)).setCell ⟨w.heap.size + 1, 3, none⟩ (.slice A2 ys.length c2) (fun g h => (Hgt.out g h).2))).stay ((Below.refl _ _).alloc (Nat.le_refl _) (.cells #[.int .i64 x.k, .int .i64 x.n, .string x.s, .slice Ai x.l.length ci] 25)) (Nat.le_refl _)
            have hBF := ((((((HBL.out.trans HB.out).setCellFar ⟨w.heap.size, 3, none⟩ (Nat.le_refl _) (.slice A2 ys.length c2)).setCellFar ⟨w.heap.size + 1, 0, none⟩ (by simp) (.int .i64 t.k)).setCellFar ⟨w.heap.size + 1, 1, none⟩ (by simp) (.int .i64 t.n)).setCellFar ⟨w.heap.size + 1, 2, none⟩ (by simp) (.string t.s)).setCellFar ⟨w.heap.size + 1, 3, none⟩ (by simp) (.slice A2 ys.length c2)).alloc (.cells #[.int .i64 x.k, .int .i64 x.n, .string x.s, .slice Ai x.l.length ci] 25)
            obtain ⟨⟨q0, q1, q2, q3⟩, -⟩ := hF.four
            have hRR : R = (.mk t.k t.n t.s ys, L') := by rw [HR.out, Hrep.out, Hfin.out]
            refine bodyPost_ret (v := .agg #[.int .i64 t.k, .int .i64 t.n, .string t.s, .slice A2 ys.length c2]) ?_ rfl (R := RetR Q b w R) (by rw [hRR]; exact ⟨A2, c2, rfl, hs, hT.mono (fun g h => by rcases h with h | h; exact Or.inl h; exact Or.inr (by omega)), hBb, hBF⟩)
            generalize (World.alloc _ (.cells #[.int .i64 x.k, .int .i64 x.n, .string x.s, .slice Ai x.l.length ci] 25)) = WF at q0 q1 q2 q3 ⊢
            clear hF hT hBF hBb
            simp [results, Try.results127, go_sem, q0, q1, q2, q3]
          · have dn : decide (L' < 0) = false := decide_eq_false hneg
            have hdrop : t.l.drop k = x :: t.l.drop (k + 1) := by
              obtain ⟨h1, h2⟩ := List.getElem?_eq_some_iff.1 hx
              rw [List.drop_eq_getElem_cons h1, h2]
            have hxz : x.size ≤ 1000000 := by have := Tm.size_child hxm; omega
            have Hlk := Lib.hid (show Tm.reps F t.l (L - 1) = ((ys ++ [(x.rep F L').1]) ++ (Tm.reps F (t.l.drop (k + 1)) (x.rep F L').2).1, (Tm.reps F (t.l.drop (k + 1)) (x.rep F L').2).2) from by
              rw [Hlink.out, hdrop, Tm.reps_cons, if_neg hneg]; simp)
            have hbd := (Tm.rep_bd F HF.out x.size).1 x L' (Nat.le_refl _) (by omega)
            have hbb : Below wr.heap.size wr (wr.alloc (.cells #[.int .i64 x.k, .int .i64 x.n, .string x.s, .slice Ai x.l.length ci] 25)) := (Below.refl _ _).alloc (Nat.le_refl _) _
            have hEr : E (wr.alloc (.cells #[.int .i64 x.k, .int .i64 x.n, .string x.s, .slice Ai x.l.length ci] 25)) := hE _ _ (hE _ _ HEL.out HB.out) (But.of_below hbb (Nat.le_refl _))
            have hcall := Ih.out x hxm P _ _ L' ⟨Ai, ci, rfl, hxs, hxc.stay hbb (Nat.le_refl _)⟩ (Hbl.out.below hbb hblt) HP.out hEr (by have := HBL.out.size; simp; omega) (by omega) hL2 hxz (fun y hy => Hvar.out y (pre_mem hxm hy))
            obtain ⟨r, hr⟩ : ∃ r, r = x.rep F L' := ⟨_, rfl⟩
            rw [← hr] at hcall hbd
            have Hlk2 := Lib.hid (show Tm.reps F t.l (L - 1) = ((ys ++ [r.1]) ++ (Tm.reps F (t.l.drop (k + 1)) r.2).1, (Tm.reps F (t.l.drop (k + 1)) r.2).2) from by rw [hr]; exact Hlk.out)
            have Hcall := Lib.hid hcall; clear hcall hxc hx hEr hdrop hr
            have HBB := Lib.hid hbb; clear hbb
            have Hbd := Lib.hid hbd; clear hbd
            go_wp2_with fail
            refine Hcall.out.mono ?_
            rintro e w2 ⟨A2, c2, rfl, hr1s, hx2, hbk2, hb2⟩
            have hbr : But b wr w2 := (But.of_below HBB.out (Nat.le_refl _)).trans hb2
            have hbr2 : But b wr (w2.alloc (.cells #[.int .i64 r.1.k, .int .i64 r.1.n, .string r.1.s, .slice A2 r.1.l.length c2] 25)) := hbr.alloc _
            have hPr : ∀ g, (Q g ∨ WL.heap.size ≤ g) → g ≠ b := fun g hg => by
              rcases hg with h | h
              · exact (hQ g h).2
              · have := HBL.out.size; omega
            have hrw2 := Hrw.out.but hbr2 Hbl.out (by decide) hPr
            have hx3 := hx2.stay ((Below.refl _ _).alloc (Nat.le_refl _) (.cells #[.int .i64 r.1.k, .int .i64 r.1.n, .string r.1.s, .slice A2 r.1.l.length c2] 25)) (Nat.le_refl _)
            have hob : ∀ g, (Q g ∨ wr.heap.size + 1 ≤ g) → (Q g ∨ WL.heap.size ≤ g) ∧ some g ≠ u11.ownBlock := fun g hg => by
              refine ⟨by rcases hg with h | h; exact Or.inl h; exact Or.inr (by omega), fun e => ?_⟩
              obtain ⟨es, h1, h2, h3⟩ := Hrw.out
              have h4 := h2.lt g e.symm
              rcases hg with h | h
              · have := (hQ g h).1; have := HBL.out.size; omega
              · omega
            obtain ⟨es, hes, hrow, hch⟩ := hrw2
            have hel : es.length ≤ k := by
              have h1 := congrArg List.length hes
              rw [List.length_map] at h1
              have := Hyl.out; omega
            have Hx3 := Lib.hid hx3; clear hx3 hx2
            have Hob := Lib.hid hob; clear hob
            have Hch := Lib.hid hch
            have Hrow := Lib.hid hrow
            have HB2 := Lib.hid (HB.out.trans hbr2)
            have Hbk2 := Lib.hid (hbk2.alloc (.cells #[.int .i64 r.1.k, .int .i64 r.1.n, .string r.1.s, .slice A2 r.1.l.length c2] 25)); clear hbk2
            clear hbr2 hbr hb2 hPr
            have Hes := Lib.hid hes
            have Hel := Lib.hid hel
            have Hr1s := Lib.hid hr1s
            clear hrow hch hes hel hr1s
            go_wp2_with (at_builtin; refine wpList_append_own_at _ rfl (.tmp 58) (.tmp 63) 22 rfl WL.heap.size 25 i0 _ 4 56 Try.underlying22 Hi.out.1 Hi.out.2.1 Hi.out.2.2.1 Hi.out.2.2.2 rfl (by decide) u11 es.length (es.flatMap encE) rfl Hrow.out ⟨w2.heap.size, 0, none⟩ 1 1 [.int .i64 r.1.k, .int .i64 r.1.n, .string r.1.s, .slice A2 r.1.l.length c2] rfl rfl ?c1 ?c2 ?c3 ?c4 ?c5 ?_)
            case c1 =>
              intro j u hu
              rw [add_lit0, (Blk.new w2 25 _).cell j]
              simpa using hu
            case c2 => simp [Value.oneCell']
            case c3 => have := Hel.out; simp only [maxLen]; omega
            case c4 => have := Hel.out; omega
            case c5 => have := HB2.out.size; simpa using this
            intro v' w4 hown hg _ hbk
            have hnew : RowT WL.heap.size (fun g => Q g ∨ WL.heap.size ≤ g) w4 v' (ys ++ [r.1]) :=
              RowT.push es Hes.out Hch.out Hr1s.out Hx3.out (fun g hg' => Hob.out g (by simpa using hg')) hown hg (by simpa using hbk)
            have hbo : u11.ownBlock ≠ some b := own_blk_ne Hrow.out Hbk2.out (by decide)
            have Hb4 := Lib.hid (Hbk2.out.grown hg (fun e => hbo e.symm))
            have HB4 := Lib.hid (show But b WL w4 from ⟨hg.os.trans HB2.out.os, hg.tape.trans HB2.out.tape, hg.output.trans HB2.out.output, Nat.le_trans HB2.out.size hg.size, fun j hj hjb => (hg.block j (Nat.lt_of_lt_of_le hj HB2.out.size) (fun e => by
              have := (Hrow.out.lt j e.symm).1; omega)).trans (HB2.out.block j hj hjb)⟩)
            have Hnew := Lib.hid hnew
            obtain ⟨A', c', rfl⟩ := own_slice hown
            clear hown hg hbk hnew hbo
            go_wp2
            go_roundw
            case rel => exact ⟨k + 1, r.2, ys ++ [r.1], by omega, by go_num, Hnew.out, Hb4.out, HB4.out, Hbd.out.1, by have := Hbd.out.2; omega, by have := Hyl.out; simp; omega, Hlk2.out⟩
            case measure => simp [intOf]; omega
        · have hke : k = t.l.length := by omega
          subst hke
          have Hfin := Lib.hid (show Tm.reps F t.l (L - 1) = (ys, L') from by rw [Hlink.out, List.drop_length, Tm.reps_nil, List.append_nil])
          obtain ⟨A2, c2, rfl, h2⟩ := Hrw.out.toC
          have hylz : ys.length ≤ 1000000 := by have := Hyl.out; omega
          have hob : ∀ g, ((Q g ∨ WL.heap.size ≤ g) ∨ some g = (Value.slice A2 ys.length c2).ownBlock) → (Q g ∨ WL.heap.size ≤ g) := fun g hg => by
            rcases hg with h | h
            · exact h
            · obtain ⟨es, h3, h4, h5⟩ := Hrw.out
              exact Or.inr (h4.lt g h.symm).1
          have hgt : ∀ g, (Q g ∨ WL.heap.size ≤ g) → g ≠ w.heap.size ∧ g ≠ w.heap.size + 1 := fun g hg => by
            rcases hg with h | h
            · have := (hQ g h).1; omega
            · omega
          have H2 := Lib.hid (h2.mono hob); clear h2 hob
          have Hgt := Lib.hid hgt; clear hgt
          go_wp2
          have hF := (((((HY.out.far (p := ⟨w.heap.size, 3, none⟩) (by simp) (.slice A2 ys.length c2)).set_ 0 (.int .i64 t.k)).set_ 1 (.int .i64 t.n)).set_ 2 (.string t.s)).set_ 3 (.slice A2 ys.length c2))
          have hBb := (((((Hbl.out.far (p := ⟨w.heap.size, 3, none⟩) hbw1 (.slice A2 ys.length c2)).far (p := ⟨w.heap.size + 1, 0, none⟩) hbw2 (.int .i64 t.k)).far (p := ⟨w.heap.size + 1, 1, none⟩) hbw2 (.int .i64 t.n)).far (p := ⟨w.heap.size + 1, 2, none⟩) hbw2 (.string t.s)).far (p := ⟨w.heap.size + 1, 3, none⟩) hbw2 (.slice A2 ys.length c2))
          have hT := ((((((H2.out.setCell ⟨w.heap.size, 3, none⟩ (.slice A2 ys.length c2) (fun g h => (Hgt.out g h).1)).setCell ⟨w.heap.size + 1, 0, none⟩ (.int .i64 t.k) (fun g h => (Hgt.out g h).2)).setCell ⟨w.heap.size + 1, 1, none⟩ (.int .i64 t.n) (fun g h => (Hgt.out g h).2)).setCell ⟨w.heap.size + 1, 2, none⟩ (.string t.s) (fun g h => (Hgt.out g h).2)).setCell ⟨w.heap.size + 1, 3, none⟩ (.slice A2 ys.length c2) (fun g h => (Hgt.out g h).2)))
          have hBF := ((((((HBL.out.trans HB.out).setCellFar ⟨w.heap.size, 3, none⟩ (Nat.le_refl _) (.slice A2 ys.length c2)).setCellFar ⟨w.heap.size + 1, 0, none⟩ (by simp) (.int .i64 t.k)).setCellFar ⟨w.heap.size + 1, 1, none⟩ (by simp) (.int .i64 t.n)).setCellFar ⟨w.heap.size + 1, 2, none⟩ (by simp) (.string t.s)).setCellFar ⟨w.heap.size + 1, 3, none⟩ (by simp) (.slice A2 ys.length c2))
          obtain ⟨⟨q0, q1, q2, q3⟩, -⟩ := hF.four
          have hRR : R = (.mk t.k t.n t.s ys, L') := by rw [HR.out, Hrep.out, Hfin.out]
          refine bodyPost_ret (v := .agg #[.int .i64 t.k, .int .i64 t.n, .string t.s, .slice A2 ys.length c2]) ?_ rfl (R := RetR Q b w R) (by rw [hRR]; exact ⟨A2, c2, rfl, hs, hT.mono (fun g h => by rcases h with h | h; exact Or.inl h; exact Or.inr (by omega)), hBb, hBF⟩)
          generalize (World.setCell _ ⟨w.heap.size + 1, 3, none⟩ _) = WF at q0 q1 q2 q3 ⊢
          clear hF hT hBF hBb
          simp [results, Try.results127, go_sem, q0, q1, q2, q3]

end Go.Proofs.Ytfhgknmkpegpbaa

set_option linter.unusedVariables false
set_option linter.unusedSimpArgs false
namespace Go.Proofs.Ytfhgknmkpegpbaa
open Go.RowKit

def pickF (l : List Tm) (n : Int) : Option Tm := match l[n.toNat]? with
  | some x => if freeB x = true then none else some x
  | none => none

set_option maxRecDepth 100000 in
set_option maxHeartbeats 4000000 in
theorem picked_calls (A : Option Addr) (n c : Nat) (w : World) : Calls Try.prog 94 #[.slice A n c] w fun e w' => e = .returned (.func (.func 133) #[] #[.pointer (some ⟨w.heap.size, 0, none⟩)]) ∧ w' = w.alloc (.cells #[.slice A n c] 22) := by
  go_enter Try.func94, Try.ntmps94
  go_wp2
  go_ret
  exact ⟨rfl, rfl⟩

set_option maxRecDepth 100000 in
set_option maxHeartbeats 4000000 in
theorem picked1_calls (l : List Tm) (Q : Nat → Prop) (A : Option Addr) (c cb : Nat) (w : World) (n : Int) (hb : Blk w cb 22 #[.slice A l.length c]) (hl : TmC Q w A c l) (h0 : 0 ≤ n) (hn : n < 100000) :
    Calls Try.prog 133 #[.int .i64 n, .pointer (some ⟨cb, 0, none⟩)] w (RetP Q w (pickF l n)) := by
  have hlc := hl.len.1
  have hlm := hl.len.2.1
  obtain ⟨b0, -⟩ := Blk.one hb
  have hlt := hb.lt
  by_cases hge : (l.length : Int) ≤ n
  · have hp : pickF l n = none := by unfold pickF; rw [List.getElem?_eq_none (by omega)]
    rw [hp]
    have d1 : decide ((l.length : Int) ≤ n) = true := decide_eq_true hge
    clear hl hp
    go_enter Try.func133, Try.ntmps133
    go_wp2
    refine bodyPost_ret (v := .tuple #[.agg #[.int .i64 0, .int .i64 0, .string ⟨#[]⟩, .slice none 0 0], .bool false]) (by simp [results, Try.results133, go_sem]) rfl (R := RetP Q w none) ⟨none, 0, rfl, by decide, TmC.nil _ _ (by omega) (fun _ => rfl), ?_⟩
    exact (Below.refl _ _).alloc (Nat.le_refl _) _
  · have hlt2 : n.toNat < l.length := by omega
    obtain ⟨x, hx⟩ : ∃ x, l[n.toNat]? = some x := ⟨_, List.getElem?_eq_getElem hlt2⟩
    have hp : pickF l n = if freeB x = true then none else some x := by unfold pickF; rw [hx]
    have d1 : decide ((l.length : Int) ≤ n) = false := decide_eq_false hge
    obtain ⟨m, rfl⟩ : ∃ m : Nat, n = m := ⟨n.toNat, by omega⟩
    rw [show (m : Int).toNat = m from rfl] at hx
    obtain ⟨g, off, Ai, ci, rfl, hQg, ⟨e0, e1, e2, e3⟩, hxs, hxc⟩ := hl.at_ hx
    have hbb : Below w.heap.size w (w.alloc (.cells #[.int .i64 0, .int .i64 0, .string ⟨#[]⟩, .slice none 0 0] 25)) := (Below.refl _ _).alloc (Nat.le_refl _) _
    have hcall := free_calls x Q _ _ ⟨Ai, ci, rfl, hxs, hxc.stay hbb (Nat.le_refl _)⟩
    obtain ⟨r, hr⟩ : ∃ r, r = pickF l m := ⟨_, rfl⟩
    rw [← hr]
    obtain ⟨fb, hfb⟩ : ∃ fb, fb = freeB x := ⟨_, rfl⟩
    rw [← hfb] at hcall hp
    have Hr := Lib.hid (hr.trans hp); clear hr hp hfb
    have Hcall := Lib.hid hcall; clear hcall
    have Hxc := Lib.hid hxc; clear hxc hl hx
    have Hbk := Lib.hid hb; clear hb
    have HY := Lib.hid (Blk.new w 25 #[.int .i64 0, .int .i64 0, .string ⟨#[]⟩, .slice none 0 0])
    have HBB := Lib.hid hbb; clear hbb
    have hm1 : m < l.length := by omega
    clear hge hlt2 hn h0
    have d2 : decide (l.length ≤ m) = false := decide_eq_false (by omega)
    have hgl : g < w.heap.size := World.block_lt_of_cell? w _ e0
    have d2 : decide (l.length ≤ m) = false := decide_eq_false (by omega)
    go_enter Try.func133, Try.ntmps133
    go_wp2_with fail
    refine Hcall.out.mono ?_
    rintro e w1 ⟨rfl, hb1⟩
    have hB1 : Below w.heap.size w w1 := HBB.out.trans (hb1.mono HBB.out.size)
    have q0 := (hB1.cell (p := ⟨g, off + m * 4, none⟩) (World.block_lt_of_cell? w _ e0)).trans e0
    have q1 := (hB1.cell (p := ⟨g, off + m * 4 + 1, none⟩) (World.block_lt_of_cell? w _ e1)).trans e1
    have q2 := (hB1.cell (p := ⟨g, off + m * 4 + 2, none⟩) (World.block_lt_of_cell? w _ e2)).trans e2
    have q3 := (hB1.cell (p := ⟨g, off + m * 4 + 3, none⟩) (World.block_lt_of_cell? w _ e3)).trans e3
    have c0 := (hB1.cell (p := ⟨cb, 0, none⟩) hlt).trans b0
    have hY1 := HY.out.below hb1 HY.out.lt
    obtain ⟨⟨d0, d1, d2, d3⟩, ⟨g0, g1, g2, g3⟩⟩ := hY1.four
    have HY1 := Lib.hid hY1; clear hY1
    have Hx1 := Lib.hid (Hxc.out.inside.stay hB1 (Nat.le_refl _))
    have HB1 := Lib.hid hB1; clear hB1 hb1
    clear e0 e1 e2 e3 b0
    cases fb
    · have hr := Hr.out
      rw [if_neg (by simp)] at hr
      subst hr
      have hlw : w.heap.size < w1.heap.size := HY1.out.lt
      have hgw : g < w.heap.size → g ≠ w.heap.size := fun h => by omega
      go_wp2
      have hF := ((((HY1.out.set_ 0 (.int .i64 x.k)).set_ 1 (.int .i64 x.n)).set_ 2 (.string x.s)).set_ 3 (.slice Ai x.l.length ci))
      have hBF := ((((HB1.out.setCell (p := ⟨w.heap.size, 0, none⟩) (Nat.le_refl _) (.int .i64 x.k)).setCell (p := ⟨w.heap.size, 1, none⟩) (Nat.le_refl _) (.int .i64 x.n)).setCell (p := ⟨w.heap.size, 2, none⟩) (Nat.le_refl _) (.string x.s)).setCell (p := ⟨w.heap.size, 3, none⟩) (Nat.le_refl _) (.slice Ai x.l.length ci))
      obtain ⟨⟨z0, z1, z2, z3⟩, -⟩ := hF.four
      have hT := ((((Hx1.out.setCell ⟨w.heap.size, 0, none⟩ (.int .i64 x.k) (fun g h e => by simp at e; omega)).setCell ⟨w.heap.size, 1, none⟩ (.int .i64 x.n) (fun g h e => by simp at e; omega)).setCell ⟨w.heap.size, 2, none⟩ (.string x.s) (fun g h e => by simp at e; omega)).setCell ⟨w.heap.size, 3, none⟩ (.slice Ai x.l.length ci) (fun g h e => by simp at e; omega))
      refine bodyPost_ret (v := .tuple #[.agg #[.int .i64 x.k, .int .i64 x.n, .string x.s, .slice Ai x.l.length ci], .bool true]) ?_ rfl (R := RetP Q w (some x)) ⟨Ai, ci, rfl, hxs, hT.mono (fun g h => h.1), hBF⟩
      clear hT
      generalize (World.setCell _ ⟨w.heap.size, 3, none⟩ _) = WF at z0 z1 z2 z3 ⊢
      clear hF hBF
      simp [results, Try.results133, go_sem, z0, z1, z2, z3]
    · have hr := Hr.out
      rw [if_pos rfl] at hr
      subst hr
      go_wp2
      have hF := ((((HY1.out.set_ 0 (.int .i64 0)).set_ 1 (.int .i64 0)).set_ 2 (.string ⟨#[]⟩)).set_ 3 (.slice none 0 0))
      have hBF := ((((HB1.out.setCell (p := ⟨w.heap.size, 0, none⟩) (Nat.le_refl _) (.int .i64 0)).setCell (p := ⟨w.heap.size, 1, none⟩) (Nat.le_refl _) (.int .i64 0)).setCell (p := ⟨w.heap.size, 2, none⟩) (Nat.le_refl _) (.string ⟨#[]⟩)).setCell (p := ⟨w.heap.size, 3, none⟩) (Nat.le_refl _) (.slice none 0 0))
      obtain ⟨⟨z0, z1, z2, z3⟩, -⟩ := hF.four
      refine bodyPost_ret (v := .tuple #[.agg #[.int .i64 0, .int .i64 0, .string ⟨#[]⟩, .slice none 0 0], .bool false]) ?_ rfl (R := RetP Q w none) ⟨none, 0, rfl, by decide, TmC.nil _ _ (by omega) (fun _ => rfl), hBF⟩
      generalize (World.setCell _ ⟨w.heap.size, 3, none⟩ _) = WF at z0 z1 z2 z3 ⊢
      clear hF hBF
      simp [results, Try.results133, go_sem, z0, z1, z2, z3]
end Go.Proofs.Ytfhgknmkpegpbaa

set_option linter.unusedVariables false
set_option linter.unusedSimpArgs false
namespace Go.Proofs.Ytfhgknmkpegpbaa
open Go.RowKit

theorem findI_step {q : Tm → Bool} {l : List Tm} {k : Nat} {x : Tm} (h : ∀ y ∈ l.take k, q y = false) (hx : l[k]? = some x) (hq : q x = true) : findI q l = k := by
  refine findI_some ?_
  rw [List.findIdx?_eq_some_iff_getElem]
  obtain ⟨h1, h2⟩ := List.getElem?_eq_some_iff.1 hx
  refine ⟨h1, by rw [h2]; exact hq, fun j hj => ?_⟩
  have := h l[j] (by rw [List.mem_take_iff_getElem]; exact ⟨j, by omega, rfl⟩)
  simp [this]
theorem findI_miss {q : Tm → Bool} {l : List Tm} (h : ∀ y ∈ l, q y = false) : findI q l = -1 := findI_none (by rw [List.findIdx?_eq_none_iff]; intro x hx; exact h x hx)

set_option maxRecDepth 100000 in
set_option maxHeartbeats 4000000 in
theorem indexFuncT_calls (fid : Nat) (q : Tm → Bool) (l : List Tm) (P : Nat → Prop) (A : Option Addr) (c : Nat) (w : World) (hc : TmC P w A c l)
    (hcf : ∀ args w, Sem.run Try.prog (callFunc fid args) w = .ok (.enter fid args) w)
    (hf : ∀ x ∈ l, ∀ W v, TmV P W v x → Calls Try.prog fid #[v] W (RetB W (q x))) :
    Calls Try.prog 123 #[.slice A l.length c, .func (.func fid) #[] #[]] w (RetN w (findI q l)) := by
  have hlc := hc.len.1
  have hlm := hc.len.2.1
  have Hc := Lib.hid hc; clear hc
  have Hf := Lib.hid hf; clear hf
  go_enter Try.func123, Try.ntmps123
  go_wp2
  go_loopw [8] (fun i wr => ∃ k : Nat, k ≤ l.length ∧ i = .int .i64 k ∧ (∀ y ∈ l.take k, q y = false) ∧ Below w.heap.size w wr) (fun i _ => l.length - (intOf i).toNat)
  case atStart => exact ⟨0, Nat.zero_le _, rfl, by simp, Below.refl _ _⟩
  case round =>
    obtain ⟨k, hk, rfl, hal, hB⟩ := hrel
    have HB := Lib.hid hB; clear hB
    have Hal := Lib.hid hal; clear hal
    by_cases hlt : k < l.length
    · obtain ⟨x, hx⟩ : ∃ x, l[k]? = some x := ⟨_, List.getElem?_eq_getElem hlt⟩
      obtain ⟨g, off, Ai, ci, rfl, -, ⟨e0, e1, e2, e3⟩, hxs, hxc⟩ := (Hc.out.stay HB.out (Nat.le_refl _)).at_ hx
      have hxm := List.mem_of_getElem? hx
      have hcall := Hf.out x hxm wr _ ⟨Ai, ci, rfl, hxs, hxc⟩
      obtain ⟨b, hb'⟩ : ∃ b, b = q x := ⟨_, rfl⟩
      rw [← hb'] at hcall
      have Hcall := Lib.hid hcall; clear hcall hxc
      have Hx := Lib.hid hx; clear hx
      have Hb := Lib.hid hb'; clear hb'
      go_wp2_with fail
      refine Hcall.out.mono ?_
      rintro e w2 ⟨rfl, hb⟩
      have HB2 := Lib.hid (HB.out.trans (hb.mono HB.out.size)); clear hb
      cases b
      · have Hal2 := Lib.hid (show ∀ y ∈ l.take (k + 1), q y = false from by
          rw [take_snoc Hx.out]
          intro y hy
          rcases List.mem_append.1 hy with h | h
          · exact Hal.out y h
          · rw [List.mem_singleton.1 h]; exact Hb.out.symm)
        go_wp2
        go_roundw
        case rel => exact ⟨k + 1, by omega, by go_num, Hal2.out, HB2.out⟩
        case measure => simp [intOf]; omega
      · have Hr := Lib.hid (findI_step Hal.out Hx.out Hb.out.symm)
        go_wp2
        go_ret
        exact ⟨by rw [Hr.out]; rfl, HB2.out⟩
    · have hke : k = l.length := by omega
      subst hke
      have Hr := Lib.hid (findI_miss (q := q) (l := l) (by have := Hal.out; rwa [List.take_length] at this))
      go_wp2
      go_ret
      exact ⟨by rw [Hr.out]; rfl, HB.out⟩

set_option maxRecDepth 100000 in
set_option maxHeartbeats 4000000 in
theorem containsFuncT_calls (fid : Nat) (q : Tm → Bool) (l : List Tm) (P : Nat → Prop) (A : Option Addr) (c : Nat) (w : World) (hc : TmC P w A c l)
    (hcf : ∀ args w, Sem.run Try.prog (callFunc fid args) w = .ok (.enter fid args) w)
    (hf : ∀ x ∈ l, ∀ W v, TmV P W v x → Calls Try.prog fid #[v] W (RetB W (q x))) :
    Calls Try.prog 81 #[.slice A l.length c, .func (.func fid) #[] #[]] w (RetB w (l.any q)) := by
  have hcall := indexFuncT_calls fid q l P A c w hc hcf hf
  have hr := any_findI q l
  obtain ⟨r, hr2⟩ : ∃ r, r = l.any q := ⟨_, rfl⟩
  rw [← hr2] at hr ⊢
  obtain ⟨i, hi⟩ : ∃ i, i = findI q l := ⟨_, rfl⟩
  rw [← hi] at hcall hr
  have Hr := Lib.hid hr; clear hr hr2
  have Hcall := Lib.hid hcall; clear hcall hf hc hi
  go_enter Try.func81, Try.ntmps81
  go_wp2_with fail
  refine Hcall.out.mono ?_
  rintro e w2 ⟨rfl, hb⟩
  have HB := Lib.hid hb; clear hb
  go_wp2
  go_ret
  exact ⟨by rw [Hr.out]; rfl, HB.out⟩

def badB (t : Tm) : Bool := !freeB t && !isB t
set_option maxRecDepth 100000 in
set_option maxHeartbeats 4000000 in
theorem bad_calls (t : Tm) (P : Nat → Prop) (w : World) (v : Value) (hv : TmV P w v t) : Calls Try.prog 132 #[v] w (RetB w (badB t)) := by
  obtain ⟨A, c, rfl, hs, hc⟩ := hv
  have hbb : Below w.heap.size w (w.alloc (.cells #[.int .i64 t.k, .int .i64 t.n, .string t.s, .slice A t.l.length c] 25)) := (Below.refl _ _).alloc (Nat.le_refl _) _
  have hX := Blk.new w 25 #[.int .i64 t.k, .int .i64 t.n, .string t.s, .slice A t.l.length c]
  have hc0 := hc.stay hbb (Nat.le_refl _)
  have hcall := free_calls t P _ _ ⟨A, c, rfl, hs, hc0⟩
  obtain ⟨fb, hfb⟩ : ∃ fb, fb = freeB t := ⟨_, rfl⟩
  obtain ⟨ib, hib⟩ : ∃ ib, ib = isB t := ⟨_, rfl⟩
  obtain ⟨r, hr⟩ : ∃ r, r = badB t := ⟨_, rfl⟩
  rw [← hr]
  unfold badB at hr
  rw [← hfb, ← hib] at hr
  rw [← hfb] at hcall
  have Hr := Lib.hid hr; clear hr hfb
  have Hib := Lib.hid hib; clear hib
  have Hcall := Lib.hid hcall; clear hcall
  have HX := Lib.hid hX; clear hX
  have Hc := Lib.hid hc0; clear hc hc0
  have HB := Lib.hid hbb; clear hbb
  go_enter Try.func132, Try.ntmps132
  go_wp2_with fail
  refine Hcall.out.mono ?_
  rintro e w1 ⟨rfl, hb1⟩
  have hX1 := HX.out.below hb1 HX.out.lt
  obtain ⟨⟨a0, a1, a2, a3⟩, -⟩ := hX1.four
  clear hX1
  have hcall := check_calls t P w1 _ ⟨A, c, rfl, hs, Hc.out.stay hb1 (Nat.le_refl _)⟩
  rw [← Hib.out] at hcall
  have Hcall2 := Lib.hid hcall; clear hcall
  have HB1 := Lib.hid (HB.out.trans (hb1.mono HB.out.size)); clear hb1
  cases fb
  · go_wp2_with fail
    refine Hcall2.out.mono ?_
    rintro e w2 ⟨rfl, hb2⟩
    have HB2 := Lib.hid (HB1.out.trans (hb2.mono HB1.out.size)); clear hb2
    cases ib
    · have he : (errT false != 0) = true := rfl
      have hr := Hr.out
      subst hr
      go_wp2
      go_ret
      exact ⟨rfl, HB2.out⟩
    · have he : (errT true != 0) = false := rfl
      have hr := Hr.out
      subst hr
      go_wp2
      go_ret
      exact ⟨rfl, HB2.out⟩
  · have hr := Hr.out
    subst hr
    go_wp2
    go_ret
    exact ⟨rfl, HB1.out⟩

def subB (l : List Tm) : Bool := decide (l.length ≤ 100000) && !l.any badB
set_option maxRecDepth 100000 in
set_option maxHeartbeats 4000000 in
theorem substitution_calls (l : List Tm) (P : Nat → Prop) (A : Option Addr) (c : Nat) (w : World) (hc : TmC P w A c l) : Calls Try.prog 93 #[.slice A l.length c] w (RetB w (subB l)) := by
  have hlc := hc.len.1
  have hlm := hc.len.2.1
  have hcall := containsFuncT_calls 132 badB l P A c w hc (fun _ _ => rfl) (fun x hx W v hv => bad_calls x P W v hv)
  have Hcall := Lib.hid hcall; clear hcall
  obtain ⟨b, hb⟩ : ∃ b, b = l.any badB := ⟨_, rfl⟩
  rw [← hb] at Hcall
  obtain ⟨r, hr⟩ : ∃ r, r = subB l := ⟨_, rfl⟩
  rw [← hr]
  unfold subB at hr
  rw [← hb] at hr
  clear hb hc
  by_cases hle : l.length ≤ 100000
  · have Hr := Lib.hid (show r = !b from by rw [hr, decide_eq_true hle]; rfl); clear hr
    have d1 : decide ((l.length : Int) ≤ 100000) = true := decide_eq_true (by omega)
    have d2 : decide (l.length ≤ 100000) = true := decide_eq_true (by omega)
    clear hle
    go_enter Try.func93, Try.ntmps93
    go_wp2_with fail
    refine Hcall.out.mono ?_
    rintro e w2 ⟨rfl, hb⟩
    have HB := Lib.hid hb; clear hb
    go_wp2
    go_ret
    exact ⟨by rw [Hr.out]; rfl, HB.out⟩
  · have Hr := Lib.hid (show r = false from by rw [hr, decide_eq_false hle]; rfl); clear hr
    have d1 : decide ((l.length : Int) ≤ 100000) = false := decide_eq_false (by omega)
    have d2 : decide (l.length ≤ 100000) = false := decide_eq_false (by omega)
    clear hle
    go_enter Try.func93, Try.ntmps93
    go_wp2
    go_ret
    exact ⟨by rw [Hr.out]; rfl, Below.refl _ _⟩
end Go.Proofs.Ytfhgknmkpegpbaa

set_option linter.unusedVariables false
set_option linter.unusedSimpArgs false
namespace Go.Proofs.Ytfhgknmkpegpbaa
open Go.RowKit

def repT (F : Int → Option Tm) (t : Tm) : Option Tm := if (t.rep F 4000).2 < 0 then none else if isB (t.rep F 4000).1 = true then some (t.rep F 4000).1 else none

set_option maxRecDepth 100000 in
set_option maxHeartbeats 4000000 in
theorem replaced_calls (fid cb : Nat) (F : Int → Option Tm) (Q : Nat → Prop) (E : World → Prop) (w : World) (hE : ∀ b W W', w.heap.size ≤ b → E W → But b W W' → E W') (hQ : ∀ g, Q g → g < w.heap.size)
    (hcf : ∀ args w, Sem.run Try.prog (callFunc fid args) w = .ok (.enter fid args) w)
    (hF : ∀ n x, F n = some x → x.size ≤ 1000000) (hf : ∀ (W : World) (n : Int), E W → 0 ≤ n → n < 100000 → Calls Try.prog fid #[.int .i64 n, .pointer (some ⟨cb, 0, none⟩)] W (RetP Q W (F n))) (t : Tm)
    (P : Nat → Prop) (v : Value) (hv : TmV P w v t) (hEw : E w) (hsz : t.size ≤ 1000000) (hvar : ∀ x ∈ t.pre, x.k = 1 → 0 ≤ x.n ∧ x.n < 100000) :
    Calls Try.prog 85 #[v, .func (.func fid) #[] #[.pointer (some ⟨cb, 0, none⟩)]] w (RetME w (repT F t) 2) := by
  obtain ⟨A, c, rfl, hs, hc⟩ := hv
  obtain ⟨Wa, hWa⟩ : ∃ Wa, Wa = (w.alloc (.cells #[.int .i64 t.k, .int .i64 t.n, .string t.s, .slice A t.l.length c] 25)).alloc (.cells #[.int .i64 0, .int .i64 0, .string ⟨#[]⟩, .slice none 0 0] 25) := ⟨_, rfl⟩
  have hBa : Below w.heap.size w Wa := by rw [hWa]; exact ((Below.refl _ _).alloc (Nat.le_refl _) _).alloc (by simp) _
  have hYa : Blk Wa (w.heap.size + 1) 25 #[.int .i64 0, .int .i64 0, .string ⟨#[]⟩, .slice none 0 0] := by
    rw [hWa]
    have := Blk.new (w.alloc (.cells #[.int .i64 t.k, .int .i64 t.n, .string t.s, .slice A t.l.length c] 25)) 25 #[.int .i64 0, .int .i64 0, .string ⟨#[]⟩, .slice none 0 0]
    rwa [World.size_alloc] at this
  have hsa : Wa.heap.size = w.heap.size + 1 + 1 := by rw [hWa]; simp
  obtain ⟨W0, hW0⟩ : ∃ W0, W0 = Wa.alloc (.cells #[.int .i64 4000] 143) := ⟨_, rfl⟩
  have hB0 : Below w.heap.size w W0 := by rw [hW0]; exact hBa.alloc (by omega) _
  have hY0 : Blk W0 (w.heap.size + 1) 25 #[.int .i64 0, .int .i64 0, .string ⟨#[]⟩, .slice none 0 0] := by rw [hW0]; exact hYa.alloc _
  have hb0 : Blk W0 (w.heap.size + 1 + 1) 143 #[.int .i64 4000] := by rw [hW0, ← hsa]; exact Blk.new _ _ _
  have hs0 : w.heap.size + 1 + 1 < W0.heap.size := hb0.lt
  have hE0 := hE (w.heap.size + 1 + 1) w W0 (by omega) hEw (But.of_below hB0 (Nat.le_refl _))
  have hc0 := hc.inside.stay hB0 (Nat.le_refl _)
  have hcall := replace_calls fid cb (w.heap.size + 1 + 1) w.heap.size F Q E (fun W W' h1 h2 => hE _ W W' (by omega) h1 h2) (fun g h => ⟨hQ g h, by have := hQ g h; omega⟩) hcf hF hf t (fun g => P g ∧ g < w.heap.size) W0 _ 4000 ⟨A, c, rfl, hs, hc0⟩ hb0 (fun g h => by have := h.2; omega) hE0 (by omega) (by omega) (by omega) hsz hvar
  have hbd := (Tm.rep_bd F hF t.size).1 t 4000 (Nat.le_refl _) (by omega)
  obtain ⟨r, hr⟩ : ∃ r, r = t.rep F 4000 := ⟨_, rfl⟩
  obtain ⟨R, hR⟩ : ∃ R, R = repT F t := ⟨_, rfl⟩
  rw [← hR]
  unfold repT at hR
  rw [← hr] at hcall hR hbd
  have HR := Lib.hid hR; clear hR hr
  have Hcall := Lib.hid hcall; clear hcall
  have Hbd := Lib.hid hbd; clear hbd
  have HY0 := Lib.hid hY0; clear hY0 hYa
  have HB0 := Lib.hid hB0; clear hB0 hBa hb0 hE0 hc0 hc hf hF hE hEw hvar hQ
  have HWa := Lib.hid hWa; clear hWa
  have HW0 := Lib.hid hW0; clear hW0
  have Hsa := Lib.hid hsa; clear hsa
  go_enter Try.func85, Try.ntmps85
  go_wp2_with fail
  rw [← HWa.out, ← HW0.out]
  refine Hcall.out.mono ?_
  rintro e w1 ⟨A1, c1, rfl, hs1, hx1, hbb1, hb1⟩
  have hlb := hbb1.lt
  obtain ⟨p0, -⟩ := Blk.one hbb1
  have hY1 := HY0.out.but hb1 (by omega)
  have hB1 : Below w.heap.size w w1 := HB0.out.trans (hb1.below (by omega) (by omega))
  have hlY := hY1.lt
  have hbbx := (Below.refl _ _).alloc (Nat.le_refl _) (.cells #[.int .i64 r.1.k, .int .i64 r.1.n, .string r.1.s, .slice A1 r.1.l.length c1] 25) (a := w1)
  have hcall := limited_calls r.1 _ _ _ ⟨A1, c1, rfl, hs1, hx1.stay hbbx (Nat.le_refl _)⟩
  have HY1 := Lib.hid hY1; clear hY1
  have HY2 := Lib.hid (HY1.out.below hbbx hlY)
  have HB1 := Lib.hid hB1
  have HB2 := Lib.hid (hB1.trans (hbbx.mono hB1.size))
  have Hlim := Lib.hid hcall; clear hcall hB1 hbbx hx1 hb1 hbb1
  have hw1s := HB1.out.size
  by_cases hneg : r.2 < 0
  · have d1 : decide (r.2 < 0) = true := decide_eq_true hneg
    have hr := HR.out
    rw [if_pos hneg] at hr
    subst hr
    obtain ⟨⟨d0, d1', d2, d3⟩, ⟨g0, g1, g2, g3⟩⟩ := HY1.out.four
    clear Hlim
    go_wp2
    have hF := (((((HY1.out.set_ 0 (.int .i64 0)).set_ 1 (.int .i64 0)).set_ 2 (.string ⟨#[]⟩)).set_ 3 (.slice none 0 0))).alloc (.cells #[.int .i64 r.1.k, .int .i64 r.1.n, .string r.1.s, .slice A1 r.1.l.length c1] 25)
    have hBF := (((((HB1.out.setCell (p := ⟨w.heap.size + 1, 0, none⟩) (by simp) (.int .i64 0)).setCell (p := ⟨w.heap.size + 1, 1, none⟩) (by simp) (.int .i64 0)).setCell (p := ⟨w.heap.size + 1, 2, none⟩) (by simp) (.string ⟨#[]⟩)).setCell (p := ⟨w.heap.size + 1, 3, none⟩) (by simp) (.slice none 0 0))).alloc (by simpa using hw1s) (.cells #[.int .i64 r.1.k, .int .i64 r.1.n, .string r.1.s, .slice A1 r.1.l.length c1] 25)
    obtain ⟨⟨z0, z1, z2, z3⟩, -⟩ := hF.four
    refine bodyPost_ret (v := .tuple #[.agg #[.int .i64 0, .int .i64 0, .string ⟨#[]⟩, .slice none 0 0], .int .i64 2]) ?_ rfl (R := RetME w none 2) ⟨none, 0, rfl, by decide, TmC.nil _ _ (by omega) (fun _ => rfl), hBF⟩
    generalize (World.alloc _ (.cells #[.int .i64 r.1.k, .int .i64 r.1.n, .string r.1.s, .slice A1 r.1.l.length c1] 25)) = WF at z0 z1 z2 z3 ⊢
    clear hF hBF
    simp [results, Try.results85, go_sem, z0, z1, z2, z3]
  · have d1 : decide (r.2 < 0) = false := decide_eq_false hneg
    have hr := HR.out
    rw [if_neg hneg] at hr
    rw [← hr] at Hlim
    have Hlim2 := Lib.hid Hlim.out
    clear Hlim hr HR
    go_wp2_with fail
    refine Hlim2.out.mono ?_
    rintro e w2 ⟨A2, c2, rfl, hs2, hx2, hb2⟩
    generalize hz : (if R.isSome = true then (0 : Int) else 2) = er
    have Hz := Lib.hid hz; clear hz
    have hY3 := HY2.out.below hb2 HY2.out.lt
    obtain ⟨⟨d0, d1, d2, d3⟩, ⟨g0, g1, g2, g3⟩⟩ := hY3.four
    have HY3 := Lib.hid hY3; clear hY3
    have HB3 := Lib.hid (HB2.out.trans (hb2.mono HB2.out.size)); clear hb2
    have Hx2 := Lib.hid hx2; clear hx2
    go_wp2
    have hF := (((((HY3.out.set_ 0 (.int .i64 (R.getD Tm.zero).k)).set_ 1 (.int .i64 (R.getD Tm.zero).n)).set_ 2 (.string (R.getD Tm.zero).s)).set_ 3 (.slice A2 (R.getD Tm.zero).l.length c2)))
    have hBF := (((((HB3.out.setCell (p := ⟨w.heap.size + 1, 0, none⟩) (by simp) (.int .i64 (R.getD Tm.zero).k)).setCell (p := ⟨w.heap.size + 1, 1, none⟩) (by simp) (.int .i64 (R.getD Tm.zero).n)).setCell (p := ⟨w.heap.size + 1, 2, none⟩) (by simp) (.string (R.getD Tm.zero).s)).setCell (p := ⟨w.heap.size + 1, 3, none⟩) (by simp) (.slice A2 (R.getD Tm.zero).l.length c2)))
    obtain ⟨⟨z0, z1, z2, z3⟩, -⟩ := hF.four
    have hT := ((((Hx2.out.setCell ⟨w.heap.size + 1, 0, none⟩ (.int .i64 (R.getD Tm.zero).k) (fun g h e => by simp at e h; omega)).setCell ⟨w.heap.size + 1, 1, none⟩ (.int .i64 (R.getD Tm.zero).n) (fun g h e => by simp at e h; omega)).setCell ⟨w.heap.size + 1, 2, none⟩ (.string (R.getD Tm.zero).s) (fun g h e => by simp at e h; omega)).setCell ⟨w.heap.size + 1, 3, none⟩ (.slice A2 (R.getD Tm.zero).l.length c2) (fun g h e => by simp at e h; omega))
    refine bodyPost_ret (v := .tuple #[.agg #[.int .i64 (R.getD Tm.zero).k, .int .i64 (R.getD Tm.zero).n, .string (R.getD Tm.zero).s, .slice A2 (R.getD Tm.zero).l.length c2], .int .i64 er]) ?_ rfl (R := RetME w R 2) ⟨A2, c2, by rw [Hz.out], hs2, hT.mono (fun g h => by simp at h; omega), hBF⟩
    generalize (World.setCell _ ⟨w.heap.size + 1, 3, none⟩ _) = WF at z0 z1 z2 z3 ⊢
    clear hF hT hBF
    simp [results, Try.results85, go_sem, z0, z1, z2, z3]
end Go.Proofs.Ytfhgknmkpegpbaa

set_option linter.unusedVariables false
set_option linter.unusedSimpArgs false
namespace Go.Proofs.Ytfhgknmkpegpbaa
open Go.RowKit

theorem var_bd {t : Tm} (h : t.okB = true) (hk : t.k = 1) : 0 ≤ t.n ∧ t.n < 100000 := by
  rw [Tm.okB_eq, Bool.and_eq_true] at h
  have h1 := h.1
  unfold nodeB at h1
  rw [if_pos hk] at h1
  simp only [Bool.and_eq_true, decide_eq_true_eq] at h1
  exact ⟨h1.1.2, h1.2⟩
theorem okB_pre (t : Tm) : t.okB = true → ∀ x ∈ t.pre, x.okB = true := by
  induction t using Tm.ind with
  | h t ih =>
    intro h x hx
    rw [t.pre_eq] at hx
    rcases List.mem_cons.1 hx with rfl | hx
    · exact h
    · have : ∀ l : List Tm, (∀ y ∈ l, y ∈ t.l) → x ∈ Tm.pres l → x.okB = true := by
        intro l
        induction l with
        | nil => intro _ hx; simp [Tm.pres] at hx
        | cons a l ihl =>
          intro hl hx
          rw [Tm.pres, List.mem_append] at hx
          rcases hx with hx | hx
          · exact ih a (hl a (by simp)) (okB_mem h (hl a (by simp))) x hx
          · exact ihl (fun y hy => hl y (by simp [hy])) hx
      exact this t.l (fun y hy => hy) hx
theorem pickF_size {l : List Tm} (h : subB l = true) {n : Int} {x : Tm} (hx : pickF l n = some x) : x.size ≤ 1000000 := by
  unfold subB at h
  rw [Bool.and_eq_true] at h
  unfold pickF at hx
  split at hx
  · rename_i y hy
    split at hx
    · cases hx
    · rename_i hf
      injection hx with hx
      subst hx
      have h2 := h.2
      simp only [Bool.not_eq_true', List.any_eq_false] at h2
      have h3 := h2 y (List.mem_of_getElem? hy)
      unfold badB at h3
      have h4 : isB y = true := by
        cases hb : isB y
        · exfalso; apply h3; rw [hb]; simp at hf; simp [hf]
        · rfl
      have := (isB_iff.1 h4).2.1
      omega
  · cases hx
/-- What Subst gives. -/
def substR (t : Tm) (l : List Tm) : Option Tm := if isB t = true ∧ subB l = true then repT (pickF l) t else none
def substE (t : Tm) (l : List Tm) : Int := if isB t = true then (if subB l = true then 2 else 1) else 3

set_option maxRecDepth 100000 in
set_option maxHeartbeats 4000000 in
theorem subst_calls (t : Tm) (l : List Tm) (P Q : Nat → Prop) (w : World) (v : Value) (A : Option Addr) (c : Nat) (hv : TmV P w v t) (hl : TmC Q w A c l) :
    Calls Try.prog 42 #[v, .slice A l.length c] w (RetME w (substR t l) (substE t l)) := by
  obtain ⟨B, d, rfl, hs, hc⟩ := hv
  obtain ⟨W0, hW0⟩ : ∃ W0, W0 = (w.alloc (.cells #[.int .i64 t.k, .int .i64 t.n, .string t.s, .slice B t.l.length d] 25)).alloc (.cells #[.int .i64 0, .int .i64 0, .string ⟨#[]⟩, .slice none 0 0] 25) := ⟨_, rfl⟩
  have hB0 : Below w.heap.size w W0 := by rw [hW0]; exact ((Below.refl _ _).alloc (Nat.le_refl _) _).alloc (by simp) _
  have hX0 : Blk W0 w.heap.size 25 #[.int .i64 t.k, .int .i64 t.n, .string t.s, .slice B t.l.length d] := by rw [hW0]; exact (Blk.new w 25 _).alloc _
  have hY0 : Blk W0 (w.heap.size + 1) 25 #[.int .i64 0, .int .i64 0, .string ⟨#[]⟩, .slice none 0 0] := by
    rw [hW0]
    have := Blk.new (w.alloc (.cells #[.int .i64 t.k, .int .i64 t.n, .string t.s, .slice B t.l.length d] 25)) 25 #[.int .i64 0, .int .i64 0, .string ⟨#[]⟩, .slice none 0 0]
    rwa [World.size_alloc] at this
  have hc0 := hc.inside.stay hB0 (Nat.le_refl _)
  have hl0 := hl.inside.stay hB0 (Nat.le_refl _)
  have hcall := check_calls t _ W0 _ ⟨B, d, rfl, hs, hc0⟩
  obtain ⟨tb, htb⟩ : ∃ tb, tb = isB t := ⟨_, rfl⟩
  obtain ⟨lb, hlb⟩ : ∃ lb, lb = subB l := ⟨_, rfl⟩
  obtain ⟨R, hR⟩ : ∃ R, R = substR t l := ⟨_, rfl⟩
  obtain ⟨er, her⟩ : ∃ er, er = substE t l := ⟨_, rfl⟩
  rw [← hR, ← her]
  unfold substR at hR
  unfold substE at her
  rw [← htb] at hcall hR her
  rw [← hlb] at hR her
  have Hcall := Lib.hid hcall; clear hcall
  have HR := Lib.hid hR; clear hR
  have Her := Lib.hid her; clear her
  have Htb := Lib.hid htb; clear htb
  have Hlb := Lib.hid hlb; clear hlb
  have Hc0 := Lib.hid hc0; clear hc0 hc
  have Hl0 := Lib.hid hl0; clear hl0 hl
  have HX0 := Lib.hid hX0; clear hX0
  have HY0 := Lib.hid hY0; clear hY0
  have HB0 := Lib.hid hB0; clear hB0
  have HW0 := Lib.hid hW0; clear hW0
  go_enter Try.func42, Try.ntmps42
  go_wp2_with fail
  rw [← HW0.out]
  go_wp2_with fail
  refine Hcall.out.mono ?_
  rintro e w1 ⟨rfl, hb1⟩
  have hX1 := HX0.out.below hb1 HX0.out.lt
  have hY1 := HY0.out.below hb1 HY0.out.lt
  have hlX1 := hX1.lt
  have hlY1 := hY1.lt
  obtain ⟨⟨a0, a1, a2, a3⟩, -⟩ := hX1.four
  obtain ⟨⟨d0, d1, d2, d3⟩, ⟨g0, g1, g2, g3⟩⟩ := hY1.four
  have HX1 := Lib.hid hX1; clear hX1
  have HY1 := Lib.hid hY1; clear hY1
  have Hc1 := Lib.hid (Hc0.out.stay hb1 (Nat.le_refl _))
  have Hl1 := Lib.hid (Hl0.out.stay hb1 (Nat.le_refl _))
  have HB1 := Lib.hid (HB0.out.trans (hb1.mono HB0.out.size)); clear hb1
  cases tb
  · have he : (errT false != 0) = true := rfl
    have hr : R = none := by have := HR.out; simpa using this
    have her : er = 3 := by have := Her.out; simpa using this
    subst hr her
    go_wp2
    have hF := ((((HY1.out.set_ 0 (.int .i64 0)).set_ 1 (.int .i64 0)).set_ 2 (.string ⟨#[]⟩)).set_ 3 (.slice none 0 0))
    have hBF := ((((HB1.out.setCell (p := ⟨w.heap.size + 1, 0, none⟩) (by simp) (.int .i64 0)).setCell (p := ⟨w.heap.size + 1, 1, none⟩) (by simp) (.int .i64 0)).setCell (p := ⟨w.heap.size + 1, 2, none⟩) (by simp) (.string ⟨#[]⟩)).setCell (p := ⟨w.heap.size + 1, 3, none⟩) (by simp) (.slice none 0 0))
    obtain ⟨⟨z0, z1, z2, z3⟩, -⟩ := hF.four
    refine bodyPost_ret (v := .tuple #[.agg #[.int .i64 0, .int .i64 0, .string ⟨#[]⟩, .slice none 0 0], .int .i64 3]) ?_ rfl (R := RetME w none 3) ⟨none, 0, rfl, by decide, TmC.nil _ _ (by omega) (fun _ => rfl), hBF⟩
    generalize (World.setCell _ ⟨w.heap.size + 1, 3, none⟩ _) = WF at z0 z1 z2 z3 ⊢
    clear hF hBF
    simp [results, Try.results42, go_sem, z0, z1, z2, z3]
    try rfl
  have he : (errT true != 0) = false := rfl
  have hcall := substitution_calls l _ A c w1 Hl1.out
  rw [← Hlb.out] at hcall
  have Hcall2 := Lib.hid hcall; clear hcall Hcall
  go_wp2_with fail
  refine Hcall2.out.mono ?_
  rintro e w2 ⟨rfl, hb2⟩
  have hX2 := HX1.out.below hb2 HX1.out.lt
  have hY2 := HY1.out.below hb2 HY1.out.lt
  have hlX2 := hX2.lt
  have hlY2 := hY2.lt
  clear a0 a1 a2 a3 d0 d1 d2 d3 g0 g1 g2 g3
  obtain ⟨⟨a0, a1, a2, a3⟩, -⟩ := hX2.four
  obtain ⟨⟨d0, d1, d2, d3⟩, ⟨g0, g1, g2, g3⟩⟩ := hY2.four
  have HX2 := Lib.hid hX2; clear hX2
  have HY2 := Lib.hid hY2; clear hY2
  have Hc2 := Lib.hid (Hc1.out.stay hb2 (Nat.le_refl _))
  have Hl2 := Lib.hid (Hl1.out.stay hb2 (Nat.le_refl _))
  have HB2 := Lib.hid (HB1.out.trans (hb2.mono HB1.out.size)); clear hb2
  cases lb
  · have hr : R = none := by have := HR.out; simpa using this
    have her : er = 1 := by have := Her.out; simpa using this
    subst hr her
    go_wp2
    have hF := ((((HY2.out.set_ 0 (.int .i64 0)).set_ 1 (.int .i64 0)).set_ 2 (.string ⟨#[]⟩)).set_ 3 (.slice none 0 0))
    have hBF := ((((HB2.out.setCell (p := ⟨w.heap.size + 1, 0, none⟩) (by simp) (.int .i64 0)).setCell (p := ⟨w.heap.size + 1, 1, none⟩) (by simp) (.int .i64 0)).setCell (p := ⟨w.heap.size + 1, 2, none⟩) (by simp) (.string ⟨#[]⟩)).setCell (p := ⟨w.heap.size + 1, 3, none⟩) (by simp) (.slice none 0 0))
    obtain ⟨⟨z0, z1, z2, z3⟩, -⟩ := hF.four
    refine bodyPost_ret (v := .tuple #[.agg #[.int .i64 0, .int .i64 0, .string ⟨#[]⟩, .slice none 0 0], .int .i64 1]) ?_ rfl (R := RetME w none 1) ⟨none, 0, rfl, by decide, TmC.nil _ _ (by omega) (fun _ => rfl), hBF⟩
    generalize (World.setCell _ ⟨w.heap.size + 1, 3, none⟩ _) = WF at z0 z1 z2 z3 ⊢
    clear hF hBF
    simp [results, Try.results42, go_sem, z0, z1, z2, z3]
    try rfl
  have hr : R = repT (pickF l) t := by have := HR.out; simpa using this
  have her : er = 2 := by have := Her.out; simpa using this
  subst her
  have Hr := Lib.hid hr; clear hr HR Her
  have hsz : t.size ≤ 1000000 := by have := (isB_iff.1 Htb.out.symm).2.1; omega
  have hvar : ∀ x ∈ t.pre, x.k = 1 → 0 ≤ x.n ∧ x.n < 100000 := fun x hx hk => var_bd (okB_pre t (isB_iff.1 Htb.out.symm).1 x hx) hk
  have hrep : ∀ W, Below w2.heap.size w2 W → Blk W w2.heap.size 22 #[.slice A l.length c] → Calls Try.prog 85 #[.agg #[.int .i64 t.k, .int .i64 t.n, .string t.s, .slice B t.l.length d], .func (.func 133) #[] #[.pointer (some ⟨w2.heap.size, 0, none⟩)]] W (RetME W R 2) := fun W hW hbk => by
    have hsW := hW.size
    have hw2s := HB2.out.size
    rw [Hr.out]
    refine replaced_calls 133 w2.heap.size (pickF l) (fun g => Q g ∧ g < w.heap.size) (fun W' => Blk W' w2.heap.size 22 #[.slice A l.length c] ∧ TmC (fun g => Q g ∧ g < w.heap.size) W' A c l) W (fun b W' W'' h1 h2 h3 => ⟨h2.1.but h3 (by have := hbk.lt; omega), h2.2.but h3 (fun g hg => by have := hg.2; omega)⟩) (fun g hg => by have := hg.2; omega) (fun _ _ => rfl)
      (fun n x hx => pickF_size Hlb.out.symm hx) (fun W' n h1 h2 h3 => picked1_calls l _ A c w2.heap.size W' n h1.1 h1.2 h2 h3) t _ _ ⟨B, d, rfl, hs, Hc2.out.stay hW (Nat.le_refl _)⟩ ⟨hbk, Hl2.out.stay hW (Nat.le_refl _)⟩ hsz hvar
  have Hrep := Lib.hid hrep; clear hrep hsz hvar
  go_wp2_with fail
  (first | go_region_with (first
      | (go_at_call 94; refine (picked_calls _ _ _ _).mono ?_; rintro e w' ⟨rfl, rfl⟩)
      | (go_at_call 85; refine (Hrep.out _ ((Below.refl _ _).alloc (Nat.le_refl _) _).drew (Blk.new _ _ _).drew).mono ?_; rintro e w3 ⟨A2, c2, rfl, hs2, hx2, hb3⟩; generalize hz : (if R.isSome = true then (0 : Int) else 2) = er2; have Hz := Lib.hid hz; clear hz; have hY3 := (((HY2.out.alloc (.cells #[.slice A l.length c] 22)).drew).below hb3 (by simp; omega)); obtain ⟨⟨u0, u1, u2, u3⟩, ⟨v0, v1, v2, v3⟩⟩ := hY3.four; have HY3 := Lib.hid hY3; clear hY3; have hX3 := (((HX2.out.alloc (.cells #[.slice A l.length c] 22)).drew).below hb3 (by simp; omega)); obtain ⟨⟨s0, s1, s2, s3⟩, -⟩ := hX3.four; clear hX3; have hB3 := HB2.out.trans ((((Below.refl w2.heap.size w2).alloc (Nat.le_refl _) (.cells #[.slice A l.length c] 22)).drew.trans (hb3.mono (by simp))).mono HB2.out.size); have HB3 := Lib.hid hB3; clear hB3 hb3;have Hx2 := Lib.hid hx2; clear hx2)) | fail)
  all_goals
    go_wp2
    have hF := ((((HY3.out.set_ 0 (.int .i64 (R.getD Tm.zero).k)).set_ 1 (.int .i64 (R.getD Tm.zero).n)).set_ 2 (.string (R.getD Tm.zero).s)).set_ 3 (.slice A2 (R.getD Tm.zero).l.length c2))
    have hBF := ((((HB3.out.setCell (p := ⟨w.heap.size + 1, 0, none⟩) (by simp) (.int .i64 (R.getD Tm.zero).k)).setCell (p := ⟨w.heap.size + 1, 1, none⟩) (by simp) (.int .i64 (R.getD Tm.zero).n)).setCell (p := ⟨w.heap.size + 1, 2, none⟩) (by simp) (.string (R.getD Tm.zero).s)).setCell (p := ⟨w.heap.size + 1, 3, none⟩) (by simp) (.slice A2 (R.getD Tm.zero).l.length c2))
    have hsw := HB2.out.size
    have hT := ((((Hx2.out.setCell ⟨w.heap.size + 1, 0, none⟩ (.int .i64 (R.getD Tm.zero).k) (fun g h e => by simp at e h; omega)).setCell ⟨w.heap.size + 1, 1, none⟩ (.int .i64 (R.getD Tm.zero).n) (fun g h e => by simp at e h; omega)).setCell ⟨w.heap.size + 1, 2, none⟩ (.string (R.getD Tm.zero).s) (fun g h e => by simp at e h; omega)).setCell ⟨w.heap.size + 1, 3, none⟩ (.slice A2 (R.getD Tm.zero).l.length c2) (fun g h e => by simp at e h; omega))
    obtain ⟨⟨z0, z1, z2, z3⟩, -⟩ := hF.four
    refine bodyPost_ret (v := .tuple #[.agg #[.int .i64 (R.getD Tm.zero).k, .int .i64 (R.getD Tm.zero).n, .string (R.getD Tm.zero).s, .slice A2 (R.getD Tm.zero).l.length c2], .int .i64 er2]) ?_ (by simp [go_sem]) (R := RetME w R 2) ⟨A2, c2, by rw [Hz.out], hs2, hT.mono (fun g h => by simp at h; omega), hBF⟩
    generalize (World.setCell _ ⟨w.heap.size + 1, 3, none⟩ _) = WF at z0 z1 z2 z3 ⊢
    clear hF hT hBF
    simp [results, Try.results42, go_sem, z0, z1, z2, z3]
end Go.Proofs.Ytfhgknmkpegpbaa

set_option linter.unusedVariables false
set_option linter.unusedSimpArgs false
namespace Go.Proofs.Ytfhgknmkpegpbaa
open Go.RowKit

/-- A result that is a slice of numbers and an error. -/
def RetVE (w : World) (xs : List Int) (er : Int) (e : Ending) (w' : World) : Prop :=
  ∃ v, e = .returned (.tuple #[v, .int .i64 er]) ∧ w'.ownsRow w.heap.size 3 1 v xs.length (xs.map (Value.int .i64)) ∧ (v = .slice none 0 0 ↔ xs = []) ∧ Below w.heap.size w w'

set_option maxRecDepth 100000 in
set_option maxHeartbeats 4000000 in
theorem varsTop_calls (l : List Tm) (P : Nat → Prop) (A : Option Addr) (c : Nat) (w : World) (hc : TmC P w A c l) : Calls Try.prog 43 #[.slice A l.length c] w (RetVE w (if allB l = true then varsL l else []) (errT (allB l))) := by
  have hcall := checkAll_calls l P A c w hc
  obtain ⟨b, hb⟩ : ∃ b, b = allB l := ⟨_, rfl⟩
  obtain ⟨xs, hxs⟩ : ∃ xs, xs = (if b = true then varsL l else []) := ⟨_, rfl⟩
  rw [← hb] at hcall ⊢
  rw [← hxs]
  have Hxs := Lib.hid hxs; clear hxs
  have Hb := Lib.hid hb; clear hb
  have Hcall := Lib.hid hcall; clear hcall
  have Hc := Lib.hid hc; clear hc
  go_enter Try.func43, Try.ntmps43
  go_wp2_with fail
  refine Hcall.out.mono ?_
  rintro e w1 ⟨rfl, hb1⟩
  have hc1 := Hc.out.stay hb1 (Nat.le_refl _)
  have HB1 := Lib.hid hb1; clear hb1
  cases b
  · have he : (errT false != 0) = true := rfl
    have hx : xs = [] := by have := Hxs.out; simpa using this
    subst hx
    go_wp2
    exact bodyPost_ret (v := .tuple #[.slice none 0 0, .int .i64 (errT false)]) (by simp [results, Try.results43, go_sem]) rfl (R := RetVE w [] _) ⟨_, rfl, World.ownsRow_nil _ _ _ _, by simp, HB1.out⟩
  · have he : (errT true != 0) = false := rfl
    have hx : xs = varsL l := by have := Hxs.out; simpa using this
    have h1 := allB_iff.1 Hb.out.symm
    have hcall := vars_calls l P A c w1 hc1 h1.1 (by omega)
    rw [← hx] at hcall
    have Hcall2 := Lib.hid hcall; clear hcall hx h1 hc1 Hcall
    go_wp2_with fail
    refine Hcall2.out.mono ?_
    rintro e w2 ⟨v, rfl, hrow, hnil, hb2⟩
    have HB2 := Lib.hid (HB1.out.trans (hb2.mono HB1.out.size))
    have Hrow := Lib.hid (own_lower hrow HB1.out.size); clear hrow hb2
    have Hnil := Lib.hid hnil; clear hnil
    go_wp2
    exact bodyPost_ret (v := .tuple #[v, .int .i64 0]) (by simp [results, Try.results43, go_sem]) rfl (R := RetVE w xs _) ⟨_, rfl, Hrow.out, Hnil.out, HB2.out⟩

/-- A slice of slices of numbers. -/
abbrev IV := List Int × Option Addr × Nat
def encS (x : IV) : List Value := [.slice x.2.1 x.1.length x.2.2]
def SlC (P : Nat → Prop) (w : World) (A : Option Addr) (c : Nat) (ls : List (List Int)) : Prop :=
  ∃ es : List IV, ls = es.map (fun e => e.1) ∧ ls.length ≤ c ∧ c ≤ 9223372036854775807 ∧ (A = none → c = 0) ∧ (ls ≠ [] → ∃ g off, A = some ⟨g, off, none⟩ ∧ P g) ∧ Rd w A (es.flatMap encS) ∧
    ∀ e ∈ es, e.1.length ≤ e.2.2 ∧ e.2.2 ≤ 9223372036854775807 ∧ (e.1 ≠ [] → ∃ g off, e.2.1 = some ⟨g, off, none⟩ ∧ P g) ∧ Rd w e.2.1 (e.1.flatMap encI)
theorem SlC.stay {P : Nat → Prop} {w w' : World} {A : Option Addr} {c B : Nat} {ls : List (List Int)} (h : SlC P w A c ls) (hb : Below B w w') (hB : w.heap.size ≤ B) : SlC P w' A c ls := by
  obtain ⟨es, h1, h2, h3, h4, h5, h6, h7⟩ := h
  exact ⟨es, h1, h2, h3, h4, h5, h6.below hb hB, fun e he => ⟨(h7 e he).1, (h7 e he).2.1, (h7 e he).2.2.1, (h7 e he).2.2.2.below hb hB⟩⟩
theorem SlC.at_ {P : Nat → Prop} {w : World} {A : Option Addr} {c k : Nat} {ls : List (List Int)} {x : List Int} (h : SlC P w A c ls) (hx : ls[k]? = some x) :
    ∃ g off Ai ci, A = some ⟨g, off, none⟩ ∧ w.cell? ⟨g, off + k, none⟩ = some (.slice Ai x.length ci) ∧ x.length ≤ ci ∧ ci ≤ 9223372036854775807 ∧ Rd w Ai (x.flatMap encI) := by
  obtain ⟨es, rfl, h2, h3, h4, h5, h6, h7⟩ := h
  rw [List.getElem?_map] at hx
  cases he : es[k]? with
  | none => rw [he] at hx; simp at hx
  | some e =>
    rw [he] at hx
    simp at hx
    subst hx
    obtain ⟨g, off, hA, hcell⟩ := Rows.at 1 (fun _ => rfl) (by omega) h6 (ne_of_get he)
    have h8 := h7 e (List.mem_of_getElem? he)
    have h9 := hcell k e 0 _ he rfl
    rw [Nat.mul_one, Nat.add_zero] at h9
    exact ⟨g, off, e.2.1, e.2.2, hA, h9, h8.1, h8.2.1, h8.2.2.2⟩

set_option maxRecDepth 100000 in
set_option maxHeartbeats 4000000 in
theorem equalRows_calls (xs ys : List (List Int)) (A : Option Addr) (c : Nat) (B : Option Addr) (d : Nat) (P Q : Nat → Prop) (w : World) (hx : SlC P w A c xs) (hy : SlC Q w B d ys) :
    Calls Try.prog 76 #[.slice A xs.length c, .slice B ys.length d, .func (.func 34) #[] #[]] w (RetB w (decide (xs = ys))) := by
  have hx1 : xs.length ≤ 9223372036854775807 := by obtain ⟨es, h1, h2, h3, -⟩ := hx; omega
  have hy1 : ys.length ≤ 9223372036854775807 := by obtain ⟨es, h1, h2, h3, -⟩ := hy; omega
  have Hx := Lib.hid hx; clear hx
  have Hy := Lib.hid hy; clear hy
  have hcf : ∀ args w, Sem.run Try.prog (callFunc 34 args) w = .ok (.enter 34 args) w := fun _ _ => rfl
  by_cases hlen : xs.length = ys.length
  case neg =>
    have Hr := Lib.hid (show decide (xs = ys) = false from decide_eq_false_iff_not.2 (fun e => hlen (by rw [e])))
    have hb : ((xs.length : Int) != (ys.length : Int)) = true := by simp; omega
    have hb2 : (xs.length != ys.length) = true := by simpa using hlen
    clear hlen
    go_enter Try.func76, Try.ntmps76
    go_wp2
    go_ret
    exact ⟨by rw [Hr.out]; rfl, Below.refl _ _⟩
  have Hlen := Lib.hid hlen
  go_enter Try.func76, Try.ntmps76
  rw [← hlen]
  clear hlen
  go_wp2
  go_loopw [17] (fun i wr => ∃ k : Nat, k ≤ xs.length ∧ i = .int .i64 k ∧ xs.take k = ys.take k ∧ Below w.heap.size w wr) (fun i _ => xs.length - (intOf i).toNat)
  case atStart => exact ⟨0, Nat.zero_le _, rfl, by simp, Below.refl _ _⟩
  case round =>
    obtain ⟨k, hk, rfl, heq, hB⟩ := hrel
    have Heq := Lib.hid heq; clear heq
    have HB := Lib.hid hB; clear hB
    by_cases hlt : k < xs.length
    · obtain ⟨x, hx⟩ : ∃ x, xs[k]? = some x := ⟨_, List.getElem?_eq_getElem hlt⟩
      obtain ⟨y, hy⟩ : ∃ y, ys[k]? = some y := ⟨_, List.getElem?_eq_getElem (by rw [← Hlen.out]; exact hlt)⟩
      obtain ⟨g, off, Ai, ci, rfl, e0, hxl, hxm, hxr⟩ := (Hx.out.stay HB.out (Nat.le_refl _)).at_ hx
      obtain ⟨g', off', Bi, di, rfl, f0, hyl, hym, hyr⟩ := (Hy.out.stay HB.out (Nat.le_refl _)).at_ hy
      obtain ⟨r, hr⟩ : ∃ r, r = decide (x = y) := ⟨_, rfl⟩
      have hcall := equalInt_calls x y Ai ci Bi di wr hxr hyr hxl hxm hyl hym
      rw [← hr] at hcall
      have Hcall := Lib.hid hcall; clear hcall hxr hyr
      have Hxx := Lib.hid hx; clear hx
      have Hyy := Lib.hid hy; clear hy
      have Hr := Lib.hid hr; clear hr
      have hlt' : k < ys.length := by rw [← Hlen.out]; exact hlt
      have hlen' : (k : Int) < (ys.length : Int) := by omega
      go_wp2_with fail
      refine Hcall.out.mono ?_
      rintro e w1 ⟨rfl, hb⟩
      have HB1 := Lib.hid (HB.out.trans (hb.mono HB.out.size)); clear hb
      cases r
      · have Hf' := Lib.hid (show decide (xs = ys) = false from decide_eq_false_iff_not.2 (fun e => by
          subst e
          have h1 := Hxx.out.symm.trans Hyy.out
          injection h1 with h1
          exact (decide_eq_false_iff_not.1 Hr.out.symm) h1))
        go_wp2
        go_ret
        exact ⟨by rw [Hf'.out]; rfl, HB1.out⟩
      · have hxy := of_decide_eq_true Hr.out.symm
        have Hnx := Lib.hid (show xs.take (k + 1) = ys.take (k + 1) from by rw [take_snoc Hxx.out, take_snoc Hyy.out, Heq.out, hxy])
        clear hxy
        go_wp2
        go_roundw
        case rel => exact ⟨k + 1, by omega, by go_num, Hnx.out, HB1.out⟩
        case measure => simp [intOf]; omega
    · have hke : k = xs.length := by omega
      subst hke
      have Hf' := Lib.hid (show decide (xs = ys) = true from decide_eq_true (by
        have := Heq.out
        rw [List.take_length, Hlen.out, List.take_length] at this
        exact this))
      go_wp2
      go_ret
      exact ⟨by rw [Hf'.out]; rfl, HB.out⟩
end Go.Proofs.Ytfhgknmkpegpbaa

set_option linter.unusedVariables false
set_option linter.unusedSimpArgs false
namespace Go.Proofs.Ytfhgknmkpegpbaa
open Go.RowKit

noncomputable section
mutual
/-- The program's matching: the substitution, and whether it can. -/
def Tm.mat : Tm → Tm → List Tm → List Tm × Bool
  | .mk k n s l, u, sub => if k = 1 then (match sub[n.toNat]? with
      | some x => if freeB x = true then (sub.set n.toNat u, true) else (sub, sameB x u)
      | none => (sub, false)) else if k = u.k ∧ n = u.n ∧ s.toList = u.s.toList ∧ l.length = u.l.length then Tm.mats l u.l sub else (sub, false)
def Tm.mats : List Tm → List Tm → List Tm → List Tm × Bool
  | [], _, sub => (sub, true)
  | _ :: _, [], sub => (sub, true)
  | x :: xs, y :: ys, sub => if (Tm.mat x y sub).2 = true then Tm.mats xs ys (Tm.mat x y sub).1 else ((Tm.mat x y sub).1, false)
end
end
theorem Tm.mat_eq (t u : Tm) (sub : List Tm) : t.mat u sub = if t.k = 1 then (match sub[t.n.toNat]? with
      | some x => if freeB x = true then (sub.set t.n.toNat u, true) else (sub, sameB x u)
      | none => (sub, false)) else if t.k = u.k ∧ t.n = u.n ∧ t.s.toList = u.s.toList ∧ t.l.length = u.l.length then Tm.mats t.l u.l sub else (sub, false) := by
  cases t; rw [Tm.mat]; rfl
theorem Tm.mats_nil (ys sub : List Tm) : Tm.mats [] ys sub = (sub, true) := by rw [Tm.mats]
theorem Tm.mats_cons (x y : Tm) (xs ys sub : List Tm) : Tm.mats (x :: xs) (y :: ys) sub = if (Tm.mat x y sub).2 = true then Tm.mats xs ys (Tm.mat x y sub).1 else ((Tm.mat x y sub).1, false) := by rw [Tm.mats]
theorem Tm.mat_len (n : Nat) : (∀ (t u : Tm) (sub : List Tm), t.size ≤ n → (t.mat u sub).1.length = sub.length) ∧ (∀ (xs ys sub : List Tm), Tm.sizes xs ≤ n → (Tm.mats xs ys sub).1.length = sub.length) := by
  induction n with
  | zero =>
    refine ⟨fun t u sub h => by have := t.size_pos; omega, fun xs ys sub h => ?_⟩
    cases xs with
    | nil => rw [Tm.mats_nil]
    | cons a l => rw [Tm.sizes] at h; have := a.size_pos; omega
  | succ n ih =>
    have h1 : ∀ (t u : Tm) (sub : List Tm), t.size ≤ n + 1 → (t.mat u sub).1.length = sub.length := fun t u sub h => by
      rw [t.size_eq] at h
      rw [Tm.mat_eq]
      split
      · split
        · split <;> simp
        · rfl
      · split
        · exact ih.2 _ _ _ (by omega)
        · rfl
    refine ⟨h1, fun xs => ?_⟩
    induction xs with
    | nil => intro ys sub _; rw [Tm.mats_nil]
    | cons a l ihl =>
      intro ys sub h
      rw [Tm.sizes] at h
      cases ys with
      | nil => rw [Tm.mats]
      | cons y ys =>
        rw [Tm.mats_cons]
        split
        · rw [ihl ys _ (by omega)]; exact h1 a y sub (by omega)
        · exact h1 a y sub (by omega)

/-- A block whose cells read as trees. -/
def SubC (P : Nat → Prop) (w : World) (g : Nat) (sub : List Tm) : Prop :=
  ∃ es : List EV, sub = es.map (fun e => e.1) ∧ Blk w g 25 (es.flatMap encE).toArray ∧ ∀ e ∈ es, e.1.s.size ≤ 9223372036854775807 ∧ TmC P w e.2.1 e.2.2 e.1.l
theorem flatMap_set4 : ∀ (es : List EV) (n : Nat) (e : EV), n < es.length → ((((es.flatMap encE).set (n * 4) (.int .i64 e.1.k)).set (n * 4 + 1) (.int .i64 e.1.n)).set (n * 4 + 2) (.string e.1.s)).set (n * 4 + 3) (.slice e.2.1 e.1.l.length e.2.2) = (es.set n e).flatMap encE
  | [], n, e, h => by simp at h
  | a :: es, 0, e, h => by simp [encE]
  | a :: es, n + 1, e, h => by
    have ih := flatMap_set4 es n e (by simpa using h)
    rw [List.set_cons_succ, List.flatMap_cons, List.flatMap_cons, ← ih]
    have h4 : (n + 1) * 4 = n * 4 + 4 := by omega
    rw [h4]
    simp [encE, show n * 4 + 4 + 1 = n * 4 + 1 + 4 from by omega, show n * 4 + 4 + 2 = n * 4 + 2 + 4 from by omega, show n * 4 + 4 + 3 = n * 4 + 3 + 4 from by omega]
theorem SubC.cells {P : Nat → Prop} {w : World} {g n : Nat} {sub : List Tm} {x : Tm} (h : SubC P w g sub) (hx : sub[n]? = some x) :
    ∃ A c, w.cell? ⟨g, n * 4, none⟩ = some (.int .i64 x.k) ∧ w.cell? ⟨g, n * 4 + 1, none⟩ = some (.int .i64 x.n) ∧ w.cell? ⟨g, n * 4 + 2, none⟩ = some (.string x.s) ∧ w.cell? ⟨g, n * 4 + 3, none⟩ = some (.slice A x.l.length c) ∧ x.s.size ≤ 9223372036854775807 ∧ TmC P w A c x.l := by
  obtain ⟨es, rfl, h2, h3⟩ := h
  rw [List.getElem?_map] at hx
  cases he : es[n]? with
  | none => rw [he] at hx; simp at hx
  | some e =>
    rw [he] at hx
    simp at hx
    subst hx
    have hf : ∀ j, j < 4 → w.cell? ⟨g, n * 4 + j, none⟩ = (encE e)[j]? := fun j hj => by
      rw [h2.cell, List.getElem?_toArray, flatMap_get encE 4 encE_len es n j e he hj]
    exact ⟨e.2.1, e.2.2, hf 0 (by omega), hf 1 (by omega), hf 2 (by omega), hf 3 (by omega), h3 e (List.mem_of_getElem? he)⟩
theorem SubC.frozen {P : Nat → Prop} {w : World} {g : Nat} {sub : List Tm} (h : SubC P w g sub) (i : Nat) : w.frozen? ⟨g, i, none⟩ = false := by
  obtain ⟨es, _, h2, _⟩ := h; exact h2.frozen i
theorem SubC.lt {P : Nat → Prop} {w : World} {g : Nat} {sub : List Tm} (h : SubC P w g sub) : g < w.heap.size := by
  obtain ⟨es, _, h2, _⟩ := h; exact h2.lt
theorem SubC.below {P : Nat → Prop} {w w' : World} {g B : Nat} {sub : List Tm} (h : SubC P w g sub) (hb : Below B w w') (hB : w.heap.size ≤ B) : SubC P w' g sub := by
  obtain ⟨es, h1, h2, h3⟩ := h
  exact ⟨es, h1, h2.below hb (Nat.lt_of_lt_of_le h2.lt hB), fun e he => ⟨(h3 e he).1, (h3 e he).2.stay hb hB⟩⟩
theorem SubC.put {P : Nat → Prop} {w : World} {g n : Nat} {sub : List Tm} {u : Tm} {A : Option Addr} {c : Nat} (h : SubC P w g sub) (hn : n < sub.length) (hs : u.s.size ≤ 9223372036854775807) (hu : TmC P w A c u.l) (hP : ∀ j, P j → j ≠ g) :
    SubC P ((((w.setCell ⟨g, n * 4, none⟩ (.int .i64 u.k)).setCell ⟨g, n * 4 + 1, none⟩ (.int .i64 u.n)).setCell ⟨g, n * 4 + 2, none⟩ (.string u.s)).setCell ⟨g, n * 4 + 3, none⟩ (.slice A u.l.length c)) g (sub.set n u) := by
  obtain ⟨es, rfl, h2, h3⟩ := h
  rw [List.length_map] at hn
  have hk : ∀ {A' c'} {l' : List Tm}, TmC P w A' c' l' → TmC P ((((w.setCell ⟨g, n * 4, none⟩ (.int .i64 u.k)).setCell ⟨g, n * 4 + 1, none⟩ (.int .i64 u.n)).setCell ⟨g, n * 4 + 2, none⟩ (.string u.s)).setCell ⟨g, n * 4 + 3, none⟩ (.slice A u.l.length c)) A' c' l' := fun h =>
    (((h.setCell _ _ (fun j hj => hP j hj)).setCell _ _ (fun j hj => hP j hj)).setCell _ _ (fun j hj => hP j hj)).setCell _ _ (fun j hj => hP j hj)
  refine ⟨es.set n (u, A, c), by rw [List.map_set], ?_, fun e he => ?_⟩
  · have h4 := (((h2.set_ (n * 4) (.int .i64 u.k)).set_ (n * 4 + 1) (.int .i64 u.n)).set_ (n * 4 + 2) (.string u.s)).set_ (n * 4 + 3) (.slice A u.l.length c)
    rw [← flatMap_set4 es n (u, A, c) hn]
    simpa using h4
  · rcases List.mem_or_eq_of_mem_set he with h5 | h5
    · exact ⟨(h3 e h5).1, hk (h3 e h5).2⟩
    · subst h5
      exact ⟨hs, hk hu⟩
end Go.Proofs.Ytfhgknmkpegpbaa

set_option linter.unusedVariables false
set_option linter.unusedSimpArgs false
namespace Go.Proofs.Ytfhgknmkpegpbaa
open Go.RowKit

def RetS (P : Nat → Prop) (g : Nat) (w : World) (r : List Tm × Bool) (e : Ending) (w' : World) : Prop := e = .returned (.bool r.2) ∧ SubC P w' g r.1 ∧ But g w w'
theorem SubC.but {P : Nat → Prop} {w w' : World} {g : Nat} {sub : List Tm} (h : SubC P w g sub) (hb : Below w.heap.size w w') : SubC P w' g sub := h.below hb (Nat.le_refl _)
theorem but_cell {b : Nat} {W W' : World} {g o : Nat} {v : Value} (hb : But b W W') (hne : g ≠ b) (h : W.cell? ⟨g, o, none⟩ = some v) : W'.cell? ⟨g, o, none⟩ = some v := by
  rw [cell_of_heap (hb.block g (World.block_lt_of_cell? W _ h) hne)]; exact h
theorem mats_step {xs ys sub : List Tm} {k : Nat} {x y : Tm} (hx : xs[k]? = some x) (hy : ys[k]? = some y) : Tm.mats (xs.drop k) (ys.drop k) sub = if (x.mat y sub).2 = true then Tm.mats (xs.drop (k + 1)) (ys.drop (k + 1)) (x.mat y sub).1 else ((x.mat y sub).1, false) := by
  obtain ⟨h1, h2⟩ := List.getElem?_eq_some_iff.1 hx
  obtain ⟨h3, h4⟩ := List.getElem?_eq_some_iff.1 hy
  rw [List.drop_eq_getElem_cons h1, h2, List.drop_eq_getElem_cons h3, h4, Tm.mats_cons]

set_option maxRecDepth 100000 in
set_option maxHeartbeats 4000000 in
theorem match_calls (t : Tm) : ∀ (P : Nat → Prop) (w : World) (v v2 : Value) (u : Tm) (sub : List Tm) (g0 : Nat), TmV P w v t → TmV P w v2 u → SubC P w g0 sub → (∀ h, P h → h ≠ g0) → sub.length ≤ 100000 → (∀ x ∈ t.pre, x.k = 1 → 0 ≤ x.n ∧ x.n < sub.length) →
    Calls Try.prog 89 #[v, v2, .slice (some ⟨g0, 0, none⟩) sub.length sub.length] w (RetS P g0 w (t.mat u sub)) := by
  induction t using Tm.ind with
  | h t ih =>
    intro P w v v2 u sub g0 hv hv2 hsub hP hsl hvar
    obtain ⟨A, c, rfl, hs, hc⟩ := hv
    obtain ⟨B, d, rfl, hs', hd⟩ := hv2
    have Ih := Lib.hid ih; clear ih
    obtain ⟨W0, hW0⟩ : ∃ W0, W0 = (w.alloc (.cells #[.int .i64 t.k, .int .i64 t.n, .string t.s, .slice A t.l.length c] 25)).alloc (.cells #[.int .i64 u.k, .int .i64 u.n, .string u.s, .slice B u.l.length d] 25) := ⟨_, rfl⟩
    have hB0 : Below w.heap.size w W0 := by rw [hW0]; exact ((Below.refl _ _).alloc (Nat.le_refl _) _).alloc (by simp) _
    have hX0 : Blk W0 w.heap.size 25 #[.int .i64 t.k, .int .i64 t.n, .string t.s, .slice A t.l.length c] := by rw [hW0]; exact (Blk.new w 25 _).alloc _
    have hY0 : Blk W0 (w.heap.size + 1) 25 #[.int .i64 u.k, .int .i64 u.n, .string u.s, .slice B u.l.length d] := by
      rw [hW0]
      have := Blk.new (w.alloc (.cells #[.int .i64 t.k, .int .i64 t.n, .string t.s, .slice A t.l.length c] 25)) 25 #[.int .i64 u.k, .int .i64 u.n, .string u.s, .slice B u.l.length d]
      rwa [World.size_alloc] at this
    have ly0 := hY0.lt
    have lg0 := hsub.lt
    have hlc := hc.len.1
    have hlm := hc.len.2.1
    have hld := hd.len.1
    have hln := hd.len.2.1
    have Hc := Lib.hid (hc.stay hB0 (Nat.le_refl _)); clear hc
    have Hd := Lib.hid (hd.stay hB0 (Nat.le_refl _)); clear hd
    have Hs0 := Lib.hid (hsub.below hB0 (Nat.le_refl _))
    have Hsw := Lib.hid hsub; clear hsub
    have HX0 := Lib.hid hX0; clear hX0
    have HY0 := Lib.hid hY0; clear hY0
    have HB0 := Lib.hid hB0; clear hB0
    have HW := Lib.hid hW0; clear hW0
    have HP := Lib.hid hP; clear hP
    have Hvar := Lib.hid hvar; clear hvar
    have hmt := Tm.mat_eq t u sub
    obtain ⟨R, hR⟩ : ∃ R, R = t.mat u sub := ⟨_, rfl⟩
    rw [← hR] at hmt ⊢
    have Hmt := Lib.hid hmt; clear hmt hR
    have HbW := Lib.hid (But.of_below (b := g0) HB0.out (Nat.le_refl _))
    obtain ⟨⟨a0, a1, a2, a3⟩, -⟩ := HX0.out.four
    obtain ⟨⟨b0, b1, b2, b3⟩, -⟩ := HY0.out.four
    by_cases hkv : t.k = 1
    case pos =>
      obtain ⟨hv0, hv1⟩ := Hvar.out t (by rw [t.pre_eq]; simp) hkv
      obtain ⟨m, hm⟩ : ∃ m : Nat, t.n = m := ⟨t.n.toNat, by omega⟩
      have hm1 : m < sub.length := by omega
      obtain ⟨x, hx⟩ : ∃ x, sub[m]? = some x := ⟨_, List.getElem?_eq_getElem hm1⟩
      have Hmt2 := Lib.hid (show R = if freeB x = true then (sub.set m u, true) else (sub, sameB x u) from by rw [Hmt.out, if_pos hkv, hm, show (m : Int).toNat = m from rfl, hx])
      have dkv : (t.k == 1) = true := by simpa using hkv
      rw [hm] at HW HX0 ⊢
      obtain ⟨Ax, cx, e0, e1, e2, e3, hxs, hxc⟩ := Hsw.out.cells hx
      have hxc := hxc.stay HB0.out (Nat.le_refl _)
      obtain ⟨fb, hfb⟩ : ∃ fb, fb = freeB x := ⟨_, rfl⟩
      have hcall := free_calls x P W0 _ ⟨Ax, cx, rfl, hxs, hxc⟩
      rw [← hfb] at hcall
      have Hfb := Lib.hid hfb; clear hfb
      have Hcall := Lib.hid hcall; clear hcall
      have Hxc := Lib.hid hxc; clear hxc
      have HXm := HX0
      clear hkv hv0 hv1 hm a0 a1 a2 a3 Hmt
      have hm0 : (0 : Int) ≤ (m : Int) := by omega
      have hm2 : (m : Int) < (sub.length : Int) := by omega
      have hx' := hx
      have Hx := Lib.hid hx; clear hx hx'
      go_enter Try.func89, Try.ntmps89
      go_wp2_with fail
      rw [← HW.out]
      refine Hcall.out.mono ?_
      rintro e w1 ⟨rfl, hb1⟩
      have hX1 := HXm.out.below hb1 (Nat.lt_of_succ_lt ly0)
      have hY1 := HY0.out.below hb1 ly0
      obtain ⟨⟨a0, a1, a2, a3⟩, -⟩ := hX1.four
      obtain ⟨⟨c0, c1, c2, c3⟩, -⟩ := hY1.four
      clear hX1 hY1 b0 b1 b2 b3
      have hS1 := Hs0.out.below hb1 (Nat.le_refl _)
      have hf0 := hS1.frozen (m * 4)
      have hf1 := hS1.frozen (m * 4 + 1)
      have hf2 := hS1.frozen (m * 4 + 2)
      have hf3 := hS1.frozen (m * 4 + 3)
      obtain ⟨Ay, cy, q0, q1, q2, q3, hys, hyc⟩ := hS1.cells Hx.out
      have HS1 := Lib.hid hS1; clear hS1
      have hd1 := Hd.out.stay hb1 (Nat.le_refl _)
      have Hd1 := Lib.hid hd1; clear hd1
      have Hyc := Lib.hid hyc; clear hyc
      have hw1 := hb1.size
      have HB1 := Lib.hid (HB0.out.trans (hb1.mono HB0.out.size)); clear hb1
      clear e0 e1 e2 e3
      have n3 : w.heap.size ≠ g0 := by omega
      have n4 : w.heap.size + 1 ≠ g0 := by omega
      cases fb
      · have Hf := Lib.hid (show R = (sub, sameB x u) from by rw [Hmt2.out, ← Hfb.out]; simp)
        obtain ⟨sb, hsb⟩ : ∃ sb, sb = sameB x u := ⟨_, rfl⟩
        have hcall := same_calls x P P w1.drew _ _ u ⟨Ay, cy, rfl, hys, Hyc.out.kept (fun _ _ _ => rfl)⟩ ⟨B, d, rfl, hs', Hd1.out.kept (fun _ _ _ => rfl)⟩
        rw [← hsb] at hcall
        have Hf2 := Lib.hid (show R = (sub, sb) from by rw [Hf.out, hsb])
        have Hcall2 := Lib.hid hcall; clear hcall hsb Hcall Hmt2 Hf
        go_wp2_with fail
        go_region_held3 (fun W => W.cell? ⟨w.heap.size, 1, none⟩ = some (.int .i64 m) ∧ W.cell? ⟨w.heap.size + 1, 0, none⟩ = some (.int .i64 u.k) ∧ W.cell? ⟨w.heap.size + 1, 1, none⟩ = some (.int .i64 u.n) ∧ W.cell? ⟨w.heap.size + 1, 2, none⟩ = some (.string u.s) ∧ W.cell? ⟨w.heap.size + 1, 3, none⟩ = some (.slice B u.l.length d) ∧ W.cell? ⟨g0, m * 4, none⟩ = some (.int .i64 x.k) ∧ W.cell? ⟨g0, m * 4 + 1, none⟩ = some (.int .i64 x.n) ∧ W.cell? ⟨g0, m * 4 + 2, none⟩ = some (.string x.s) ∧ W.cell? ⟨g0, m * 4 + 3, none⟩ = some (.slice Ay x.l.length cy))
          (first
            | exact ⟨a1, c0, c1, c2, c3, q0, q1, q2, q3⟩
            | (go_split_ands; refine ⟨?_, ?_, ?_, ?_, ?_, ?_, ?_, ?_, ?_⟩ <;> exact keep_cell hb (by assumption)))
          ((go_at_call 24; refine Hcall2.out.mono ?_; rintro e w2 ⟨rfl, hb⟩))
        have hb' : Below w1.heap.size w1 w2 := (Below.refl _ w1).drew.trans hb
        have HS2 := Lib.hid (HS1.out.below hb' (Nat.le_refl _))
        have HB2 := Lib.hid (But.of_below (b := g0) (HB1.out.trans (hb'.mono HB1.out.size)) (Nat.le_refl _))
        clear hb hb'
        go_wp2
        go_ret
        exact ⟨by rw [Hf2.out]; rfl, by rw [Hf2.out]; exact HS2.out, HB2.out⟩
      · have Hf := Lib.hid (show R = (sub.set m u, true) from by rw [Hmt2.out, ← Hfb.out]; simp)
        clear Hmt2
        go_wp2
        go_ret
        refine ⟨by rw [Hf.out]; rfl, ?_, ?_⟩
        · rw [Hf.out]
          exact HS1.out.put hm1 hs' Hd1.out HP.out
        · exact (((((But.of_below (b := g0) HB1.out (Nat.le_refl _)).setCell _ _).setCell _ _).setCell _ _).setCell _ _)
    have dkv : (t.k == 1) = false := by simpa using hkv
    have Hmt2 := Lib.hid (show R = if t.k = u.k ∧ t.n = u.n ∧ t.s.toList = u.s.toList ∧ t.l.length = u.l.length then Tm.mats t.l u.l sub else (sub, false) from by rw [Hmt.out, if_neg hkv])
    clear Hmt hkv
    by_cases hk : t.k = u.k
    case neg =>
      have Hr := Lib.hid (show R = (sub, false) from by rw [Hmt2.out, if_neg (fun h => hk h.1)])
      have h1 : (t.k != u.k) = true := by simpa using hk
      clear a0 a1 a2 a3 b0 b1 b2 b3
      go_enter Try.func89, Try.ntmps89
      go_wp2
      go_ret
      exact ⟨by rw [Hr.out]; rfl, by rw [Hr.out, ← HW.out]; exact Hs0.out, by rw [← HW.out]; exact HbW.out⟩
    have hk1 : (t.k != u.k) = false := by simpa using hk
    have Hk := Lib.hid hk; clear hk
    by_cases hn : t.n = u.n
    case neg =>
      have Hr := Lib.hid (show R = (sub, false) from by rw [Hmt2.out, if_neg (fun h => hn h.2.1)])
      have h1 : (t.n != u.n) = true := by simpa using hn
      clear a0 a1 a2 a3 b0 b1 b2 b3
      go_enter Try.func89, Try.ntmps89
      go_wp2
      go_ret
      exact ⟨by rw [Hr.out]; rfl, by rw [Hr.out, ← HW.out]; exact Hs0.out, by rw [← HW.out]; exact HbW.out⟩
    have hn1 : (t.n != u.n) = false := by simpa using hn
    have Hn := Lib.hid hn; clear hn
    by_cases hss : t.s.toList = u.s.toList
    case neg =>
      have Hr := Lib.hid (show R = (sub, false) from by rw [Hmt2.out, if_neg (fun h => hss h.2.2.1)])
      have h1 : (t.s.toList == u.s.toList) = false := by simpa using hss
      clear a0 a1 a2 a3 b0 b1 b2 b3
      go_enter Try.func89, Try.ntmps89
      go_wp2
      go_ret
      exact ⟨by rw [Hr.out]; rfl, by rw [Hr.out, ← HW.out]; exact Hs0.out, by rw [← HW.out]; exact HbW.out⟩
    have hs1 : (t.s.toList == u.s.toList) = true := by simpa using hss
    have Hss := Lib.hid hss; clear hss
    by_cases hll : t.l.length = u.l.length
    case neg =>
      have Hr := Lib.hid (show R = (sub, false) from by rw [Hmt2.out, if_neg (fun h => hll h.2.2.2)])
      have h1 : ((t.l.length : Int) != (u.l.length : Int)) = true := by simp; omega
      have h2 : (t.l.length != u.l.length) = true := by simpa using hll
      clear hll
      clear a0 a1 a2 a3 b0 b1 b2 b3
      go_enter Try.func89, Try.ntmps89
      go_wp2
      go_ret
      exact ⟨by rw [Hr.out]; rfl, by rw [Hr.out, ← HW.out]; exact Hs0.out, by rw [← HW.out]; exact HbW.out⟩
    have hl1 : ((t.l.length : Int) != (u.l.length : Int)) = false := by simp; omega
    have hl2 : (t.l.length != u.l.length) = false := by simpa using hll
    have Hr := Lib.hid (show R = Tm.mats t.l u.l sub from by rw [Hmt2.out, if_pos ⟨Hk.out, Hn.out, Hss.out, hll⟩])
    have Hll := Lib.hid hll; clear hll
    have hlen63 : t.l.length ≤ 9223372036854775807 := by omega
    clear a0 a1 a2 a3 b0 b1 b2 b3
    go_enter Try.func89, Try.ntmps89
    go_wp2
    clear hl1 hl2 hs1 hn1 hk1 dkv
    go_loopw [60] (fun i wr => ∃ (k : Nat) (sub' : List Tm), k ≤ t.l.length ∧ i = .int .i64 k ∧ (SubC P wr g0 sub' ∧ But g0 W0 wr ∧ sub'.length = sub.length ∧ Tm.mats t.l u.l sub = Tm.mats (t.l.drop k) (u.l.drop k) sub')) (fun i _ => t.l.length - (intOf i).toNat)
    case atStart => exact ⟨0, sub, Nat.zero_le _, rfl, by rw [← HW.out]; exact Hs0.out, by rw [← HW.out]; exact But.refl _ _, rfl, rfl⟩
    case round =>
      obtain ⟨k, sub', hk, rfl, hsb, hB, hsl', hlink⟩ := hrel
      have hlg := hsb.lt
      have hX := HX0.out.but hB (by omega)
      have hY := HY0.out.but hB (by omega)
      obtain ⟨⟨a0, a1, a2, a3⟩, -⟩ := hX.four
      obtain ⟨⟨b0, b1, b2, b3⟩, -⟩ := hY.four
      have Hsb := Lib.hid hsb; clear hsb
      have Hlink := Lib.hid hlink; clear hlink
      have Hsl := Lib.hid hsl'; clear hsl'
      have hws := hB.size
      have HB := Lib.hid hB; clear hB hX hY
      by_cases hlt : k < t.l.length
      · obtain ⟨x, hx⟩ : ∃ x, t.l[k]? = some x := ⟨_, List.getElem?_eq_getElem hlt⟩
        obtain ⟨y, hy⟩ : ∃ y, u.l[k]? = some y := ⟨_, List.getElem?_eq_getElem (by rw [← Hll.out]; exact hlt)⟩
        obtain ⟨g, off, Ai, ci, rfl, hPg, ⟨e0, e1, e2, e3⟩, hxs, hxc⟩ := (Hc.out.but HB.out HP.out).at_ hx
        obtain ⟨g', off', Bi, di, rfl, hPg', ⟨f0, f1, f2, f3⟩, hys, hyc⟩ := (Hd.out.but HB.out HP.out).at_ hy
        have hxm := List.mem_of_getElem? hx
        obtain ⟨r, hr⟩ : ∃ r, r = x.mat y sub' := ⟨_, rfl⟩
        have hcall := Ih.out x hxm P wr.drew _ _ y sub' g0 ⟨Ai, ci, rfl, hxs, hxc.kept (fun _ _ _ => rfl)⟩ ⟨Bi, di, rfl, hys, hyc.kept (fun _ _ _ => rfl)⟩ (Hsb.out.but (Below.refl _ wr).drew) HP.out (by rw [Hsl.out]; exact hsl) (fun z hz hz1 => by rw [Hsl.out]; exact Hvar.out z (pre_mem hxm hz) hz1)
        rw [← hr, Hsl.out] at hcall
        have hst := mats_step (sub := sub') hx hy
        rw [← hr] at hst
        have Hst := Lib.hid (Hlink.out.trans hst); clear hst
        have hrl : r.1.length = sub'.length := by rw [hr]; exact (Tm.mat_len x.size).1 x y sub' (Nat.le_refl _)
        have Hrl := Lib.hid (hrl.trans Hsl.out); clear hrl
        have Hcall := Lib.hid hcall; clear hcall hxc hyc hx hy hr
        have hk0 : (0 : Int) ≤ (k : Int) := by omega
        have hk1 : (k : Int) < (t.l.length : Int) := by omega
        have hk2 : (k : Int) < (u.l.length : Int) := by have := Hll.out; omega
        have hk3 : k < u.l.length := by omega
        have n1 := HP.out g hPg
        have n2 := HP.out g' hPg'
        have n3 : w.heap.size ≠ g0 := by omega
        have n4 : w.heap.size + 1 ≠ g0 := by omega
        go_wp2_with fail
        go_region_held3 (fun W => W.cell? ⟨w.heap.size, 3, none⟩ = some (.slice (some ⟨g, off, none⟩) t.l.length c) ∧ W.cell? ⟨w.heap.size + 1, 3, none⟩ = some (.slice (some ⟨g', off', none⟩) u.l.length d) ∧ W.cell? ⟨g, off + k * 4, none⟩ = some (.int .i64 x.k) ∧ W.cell? ⟨g, off + k * 4 + 1, none⟩ = some (.int .i64 x.n) ∧ W.cell? ⟨g, off + k * 4 + 2, none⟩ = some (.string x.s) ∧ W.cell? ⟨g, off + k * 4 + 3, none⟩ = some (.slice Ai x.l.length ci) ∧ W.cell? ⟨g', off' + k * 4, none⟩ = some (.int .i64 y.k) ∧ W.cell? ⟨g', off' + k * 4 + 1, none⟩ = some (.int .i64 y.n) ∧ W.cell? ⟨g', off' + k * 4 + 2, none⟩ = some (.string y.s) ∧ W.cell? ⟨g', off' + k * 4 + 3, none⟩ = some (.slice Bi y.l.length di))
          (first
            | exact ⟨a3, b3, e0, e1, e2, e3, f0, f1, f2, f3⟩
            | (go_split_ands; refine ⟨?_, ?_, ?_, ?_, ?_, ?_, ?_, ?_, ?_, ?_⟩ <;> exact but_cell hb (by assumption) (by assumption)))
          ((go_at_call 89; refine Hcall.out.mono ?_; rintro e w1 ⟨rfl, hsb2, hb⟩))
        have HB1 := Lib.hid (HB.out.trans (show But g0 wr w1 from ⟨hb.os, hb.tape, hb.output, hb.size, hb.block⟩)); clear hb
        have Hsb2 := Lib.hid hsb2; clear hsb2
        clear a0 a1 a2 a3 b0 b1 b2 b3 e0 e1 e2 e3 f0 f1 f2 f3
        obtain ⟨rs, rb⟩ := r
        cases rb
        · have Hf := Lib.hid (show R = (rs, false) from by rw [Hr.out, Hst.out, if_neg (by simp)])
          go_wp2
          go_ret
          exact ⟨by rw [Hf.out]; rfl, by rw [Hf.out]; exact Hsb2.out, HbW.out.trans HB1.out⟩
        · have Hst2 := Lib.hid (show Tm.mats t.l u.l sub = Tm.mats (t.l.drop (k + 1)) (u.l.drop (k + 1)) rs from by rw [Hst.out, if_pos rfl])
          go_wp2
          go_roundw
          case rel => exact ⟨k + 1, rs, by omega, by go_num, Hsb2.out, HB1.out, Hrl.out, Hst2.out⟩
          case measure => simp [intOf]; omega
      · have hke : k = t.l.length := by omega
        subst hke
        have Hf := Lib.hid (show R = (sub', true) from by rw [Hr.out, Hlink.out, List.drop_length, Tm.mats_nil])
        go_wp2
        go_ret
        exact ⟨by rw [Hf.out]; rfl, by rw [Hf.out]; exact Hsb.out, HbW.out.trans HB.out⟩
end Go.Proofs.Ytfhgknmkpegpbaa

set_option linter.unusedVariables false
set_option linter.unusedSimpArgs false
namespace Go.Proofs.Ytfhgknmkpegpbaa
open Go.RowKit

abbrev zc : Array Value := #[.int .i64 0, .int .i64 0, .string ⟨#[]⟩, .slice none 0 0]
theorem mkT (m : Nat) (hm : m ≤ 100000) (W : World) : (Instr.makeSlice 22 (.int .i64 (m : Int)) (.int .i64 (m : Int))).run Try.prog W = .ok (.slice (some ⟨W.heap.size, 0, none⟩) m m) (W.alloc (.cells (madeCells zc (m * 4)) 25)) := by
  obtain ⟨i0, hi, hz0, hz1, hz2⟩ := info25
  have h := run_make_rowN (P := Try.prog) 22 25 i0 _ Try.underlying22 hi hz0 .i64 .i64 m m (Nat.le_refl _) (by rw [hz2]; omega) (by omega) W
  rw [hz1] at h
  exact h
abbrev zE : EV := (Tm.zero, none, 0)
theorem rep_zero (m : Nat) : (List.replicate m zE).flatMap encE = (madeCells zc (m * 4)).toList := by
  apply List.ext_getElem?
  intro i
  have hlen : ((List.replicate m zE).flatMap encE).length = m * 4 := by rw [flatMap_len encE 4 encE_len, List.length_replicate]
  by_cases hi : i < m * 4
  · have h1 : i = i / 4 * 4 + i % 4 := by omega
    have h2 : (List.replicate m zE)[i / 4]? = some zE := by rw [List.getElem?_replicate, if_pos (by omega)]
    have h3 := flatMap_get encE 4 encE_len (List.replicate m zE) (i / 4) (i % 4) zE h2 (by omega)
    rw [← h1] at h3
    rw [h3]
    have h4 : i % 4 = 0 ∨ i % 4 = 1 ∨ i % 4 = 2 ∨ i % 4 = 3 := by omega
    rcases h4 with h | h | h | h <;> simp [encE, madeCells, h, hi, Tm.zero, Tm.k, Tm.n, Tm.s, Tm.l]
  · rw [List.getElem?_eq_none (by omega), List.getElem?_eq_none (by simp [madeCells]; omega)]
theorem SubC.made (P : Nat → Prop) (w : World) (m : Nat) : SubC P (w.alloc (.cells (madeCells zc (m * 4)) 25)) w.heap.size (List.replicate m Tm.zero) := by
  refine ⟨List.replicate m zE, by simp, ?_, fun e he => ?_⟩
  · have := Blk.new w 25 (madeCells zc (m * 4))
    rw [rep_zero]
    simpa using this
  · obtain rfl := (List.mem_replicate.1 he).2
    exact ⟨by show (0 : Nat) ≤ _; omega, TmC.nil _ _ (show (0 : Nat) ≤ _ by omega) (fun _ => rfl)⟩

/-- How long the substitution of a match is. -/
def maxV (xs : List Int) : Int := xs.foldl (fun a x => max a (x + 1)) 0
theorem maxV_snoc (xs : List Int) (x : Int) : maxV (xs ++ [x]) = max (maxV xs) (x + 1) := by simp [maxV]
theorem maxV_bd {xs : List Int} (h : ∀ x ∈ xs, 0 ≤ x ∧ x < 100000) : 0 ≤ maxV xs ∧ maxV xs ≤ 100000 := by
  have : ∀ (l : List Int) (a : Int), 0 ≤ a → a ≤ 100000 → (∀ x ∈ l, 0 ≤ x ∧ x < 100000) → 0 ≤ l.foldl (fun a x => max a (x + 1)) a ∧ l.foldl (fun a x => max a (x + 1)) a ≤ 100000 := by
    intro l
    induction l with
    | nil => intro a h1 h2 _; exact ⟨h1, h2⟩
    | cons x l ih =>
      intro a h1 h2 hl
      have := hl x (by simp)
      exact ih (max a (x + 1)) (by omega) (by omega) (fun y hy => hl y (by simp [hy]))
  exact this xs 0 (by omega) (by omega) h
theorem varsFrom_mem {acc : List Int} {l : List Tm} {x : Int} (h : x ∈ varsFrom acc l) : x ∈ acc ∨ ∃ t ∈ l, t.k = 1 ∧ t.n = x := by
  induction l generalizing acc with
  | nil => exact Or.inl h
  | cons t l ih =>
    rcases ih (acc := varsAcc acc t) h with h1 | ⟨u, h1, h2⟩
    · unfold varsAcc at h1
      split at h1
      · rename_i hc
        rcases List.mem_append.1 h1 with h2 | h2
        · exact Or.inl h2
        · exact Or.inr ⟨t, by simp, hc.1, ((List.mem_singleton.1 h2).symm)⟩
      · exact Or.inl h1
    · exact Or.inr ⟨u, by simp [h1], h2⟩
theorem varsFrom_keep {acc : List Int} {l : List Tm} {x : Int} (h : x ∈ acc) : x ∈ varsFrom acc l := by
  induction l generalizing acc with
  | nil => exact h
  | cons t l ih =>
    refine ih (acc := varsAcc acc t) ?_
    unfold varsAcc
    split
    · exact List.mem_append.2 (Or.inl h)
    · exact h
theorem varsFrom_has {acc : List Int} {l : List Tm} {t : Tm} (ht : t ∈ l) (hk : t.k = 1) : t.n ∈ varsFrom acc l := by
  induction l generalizing acc with
  | nil => simp at ht
  | cons u l ih =>
    rcases List.mem_cons.1 ht with rfl | h
    · refine varsFrom_keep (acc := varsAcc acc t) (l := l) ?_
      unfold varsAcc
      split
      · simp
      · rename_i hc
        by_cases hm : t.n ∈ acc
        · exact hm
        · exact absurd ⟨hk, hm⟩ hc
    · exact ih h
theorem maxV_gt {xs : List Int} {x : Int} (h : x ∈ xs) : x < maxV xs := by
  have : ∀ (l : List Int) (a : Int), a ≤ l.foldl (fun a x => max a (x + 1)) a ∧ (x ∈ l → x < l.foldl (fun a x => max a (x + 1)) a) := by
    intro l
    induction l with
    | nil => intro a; exact ⟨Int.le_refl _, fun h => by simp at h⟩
    | cons y l ih =>
      intro a
      have h1 := ih (max a (y + 1))
      refine ⟨by have := h1.1; simp only [List.foldl_cons]; omega, fun hx => ?_⟩
      rcases List.mem_cons.1 hx with rfl | hx
      · have := h1.1; simp only [List.foldl_cons]; omega
      · exact h1.2 hx
  exact (this xs 0).2 h
end Go.Proofs.Ytfhgknmkpegpbaa

set_option linter.unusedVariables false
set_option linter.unusedSimpArgs false
namespace Go.Proofs.Ytfhgknmkpegpbaa
open Go.RowKit

/-- A block whose cells read as trees, element i in blocks that R i lets. -/
def SubI (R : Nat → Nat → Prop) (w : World) (g : Nat) (sub : List Tm) : Prop :=
  ∃ es : List EV, sub = es.map (fun e => e.1) ∧ Blk w g 25 (es.flatMap encE).toArray ∧ ∀ i e, es[i]? = some e → e.1.s.size ≤ 9223372036854775807 ∧ TmC (R i) w e.2.1 e.2.2 e.1.l
theorem SubC.toI {P : Nat → Prop} {w : World} {g : Nat} {sub : List Tm} (h : SubC P w g sub) : SubI (fun _ => P) w g sub := by
  obtain ⟨es, h1, h2, h3⟩ := h
  exact ⟨es, h1, h2, fun i e he => h3 e (List.mem_of_getElem? he)⟩
theorem SubI.mono {R R' : Nat → Nat → Prop} {w : World} {g : Nat} {sub : List Tm} (h : SubI R w g sub) (hR : ∀ i, i < sub.length → ∀ j, R i j → R' i j) : SubI R' w g sub := by
  obtain ⟨es, rfl, h2, h3⟩ := h
  refine ⟨es, rfl, h2, fun i e he => ⟨(h3 i e he).1, (h3 i e he).2.mono (hR i ?_)⟩⟩
  rw [List.length_map]
  exact (List.getElem?_eq_some_iff.1 he).1
theorem SubI.toC {P : Nat → Prop} {w : World} {g : Nat} {sub : List Tm} (h : SubI (fun _ => P) w g sub) : SubC P w g sub := by
  obtain ⟨es, h1, h2, h3⟩ := h
  refine ⟨es, h1, h2, fun e he => ?_⟩
  obtain ⟨i, hi⟩ := List.mem_iff_getElem?.1 he
  exact h3 i e hi
theorem SubI.lt {R : Nat → Nat → Prop} {w : World} {g : Nat} {sub : List Tm} (h : SubI R w g sub) : g < w.heap.size := by obtain ⟨es, _, h2, _⟩ := h; exact h2.lt
theorem SubI.frozen {R : Nat → Nat → Prop} {w : World} {g : Nat} {sub : List Tm} (h : SubI R w g sub) (i : Nat) : w.frozen? ⟨g, i, none⟩ = false := by obtain ⟨es, _, h2, _⟩ := h; exact h2.frozen i
theorem SubI.below {R : Nat → Nat → Prop} {w w' : World} {g B : Nat} {sub : List Tm} (h : SubI R w g sub) (hb : Below B w w') (hB : w.heap.size ≤ B) : SubI R w' g sub := by
  obtain ⟨es, h1, h2, h3⟩ := h
  exact ⟨es, h1, h2.below hb (Nat.lt_of_lt_of_le h2.lt hB), fun i e he => ⟨(h3 i e he).1, (h3 i e he).2.stay hb hB⟩⟩
theorem SubI.cells {R : Nat → Nat → Prop} {w : World} {g n : Nat} {sub : List Tm} {x : Tm} (h : SubI R w g sub) (hx : sub[n]? = some x) :
    ∃ A c, w.cell? ⟨g, n * 4, none⟩ = some (.int .i64 x.k) ∧ w.cell? ⟨g, n * 4 + 1, none⟩ = some (.int .i64 x.n) ∧ w.cell? ⟨g, n * 4 + 2, none⟩ = some (.string x.s) ∧ w.cell? ⟨g, n * 4 + 3, none⟩ = some (.slice A x.l.length c) ∧ x.s.size ≤ 9223372036854775807 ∧ TmC (R n) w A c x.l := by
  obtain ⟨es, rfl, h2, h3⟩ := h
  rw [List.getElem?_map] at hx
  cases he : es[n]? with
  | none => rw [he] at hx; simp at hx
  | some e =>
    rw [he] at hx
    simp at hx
    subst hx
    have hf : ∀ j, j < 4 → w.cell? ⟨g, n * 4 + j, none⟩ = (encE e)[j]? := fun j hj => by
      rw [h2.cell, List.getElem?_toArray, flatMap_get encE 4 encE_len es n j e he hj]
    exact ⟨e.2.1, e.2.2, hf 0 (by omega), hf 1 (by omega), hf 2 (by omega), hf 3 (by omega), h3 n e he⟩
theorem SubI.put {R R' : Nat → Nat → Prop} {w : World} {g n : Nat} {sub : List Tm} {u : Tm} {A : Option Addr} {c : Nat} (h : SubI R w g sub) (hn : sub[n]? = some u) (hs : u.s.size ≤ 9223372036854775807) (hu : TmC (R' n) w A c u.l) (hP : ∀ i j, (R i j ∨ R' i j) → j ≠ g) (hR : ∀ i, i ≠ n → ∀ j, R i j → R' i j) :
    SubI R' ((((w.setCell ⟨g, n * 4, none⟩ (.int .i64 u.k)).setCell ⟨g, n * 4 + 1, none⟩ (.int .i64 u.n)).setCell ⟨g, n * 4 + 2, none⟩ (.string u.s)).setCell ⟨g, n * 4 + 3, none⟩ (.slice A u.l.length c)) g sub := by
  obtain ⟨es, rfl, h2, h3⟩ := h
  have hnl : n < es.length := by have := (List.getElem?_eq_some_iff.1 hn).1; rwa [List.length_map] at this
  have hk : ∀ {i : Nat} {A' c'} {l' : List Tm}, TmC (R' i) w A' c' l' → TmC (R' i) ((((w.setCell ⟨g, n * 4, none⟩ (.int .i64 u.k)).setCell ⟨g, n * 4 + 1, none⟩ (.int .i64 u.n)).setCell ⟨g, n * 4 + 2, none⟩ (.string u.s)).setCell ⟨g, n * 4 + 3, none⟩ (.slice A u.l.length c)) A' c' l' := fun h =>
    (((h.setCell _ _ (fun j hj => hP _ j (Or.inr hj))).setCell _ _ (fun j hj => hP _ j (Or.inr hj))).setCell _ _ (fun j hj => hP _ j (Or.inr hj))).setCell _ _ (fun j hj => hP _ j (Or.inr hj))
  refine ⟨es.set n (u, A, c), ?_, ?_, fun i e he => ?_⟩
  · rw [List.map_set]
    apply List.ext_getElem?
    intro i
    rw [List.getElem?_set]
    split
    · rename_i hi
      subst hi
      rw [hn]; simp [hnl]
    · rfl
  · have h4 := (((h2.set_ (n * 4) (.int .i64 u.k)).set_ (n * 4 + 1) (.int .i64 u.n)).set_ (n * 4 + 2) (.string u.s)).set_ (n * 4 + 3) (.slice A u.l.length c)
    rw [← flatMap_set4 es n (u, A, c) hnl]
    simpa using h4
  · rw [List.getElem?_set] at he
    split at he
    · rename_i hi
      subst hi
      simp [hnl] at he
      subst he
      exact ⟨hs, hk hu⟩
    · rename_i hi
      exact ⟨(h3 i e he).1, hk ((h3 i e he).2.mono (hR i (Ne.symm hi)))⟩
end Go.Proofs.Ytfhgknmkpegpbaa
