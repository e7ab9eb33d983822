/- Part 10 of the base: the walks and plain facts that the statement rests on. -/
import Derived.Test.YtfhgknmkpegpbaaM9
import Derived.Test.YtfhgknmkpegpbaaM1
import Derived.Test.YtfhgknmkpegpbaaM2

set_option linter.unusedVariables false
set_option linter.unusedSimpArgs false
namespace Go.Proofs.Ytfhgknmkpegpbaa
open Go.RowKit
theorem below_alloc (W : World) (o : Obj) : Below W.heap.size W (W.alloc o) := (Below.refl _ _).alloc (Nat.le_refl _) _
def cellsL : Nat → List Int | 20 => [] | 21 => [0] | 22 => [1] | 23 => [1, 0] | _ => [1, 1]
def cellsF (i : Nat) (x : Value) (w : World) : Prop := ∃ g, x = .slice (some ⟨g, 0, none⟩) (cellsL i).length (cellsL i).length ∧ Blk w g 3 ((cellsL i).map (Value.int .i64)).toArray
theorem cellsF_below {i : Nat} {x : Value} {w w' : World} (h : cellsF i x w) (hb : Below w.heap.size w w') : cellsF i x w' := by
 obtain ⟨g, h1, h2⟩ := h; exact ⟨g, h1, h2.below hb h2.lt⟩
def S6 (WS : World) (b : Nat) (A : Option Addr) (n c : Nat) (W2 : World) : Prop := Hid (Below WS.heap.size WS W2) ∧ W2.cell? ⟨b, 0, none⟩ = some (.int .i64 5) ∧ W2.cell? ⟨b, 1, none⟩ = some (.int .i64 0) ∧ W2.cell? ⟨b, 2, none⟩ = some (.string ⟨#[102]⟩) ∧ W2.cell? ⟨b, 3, none⟩ = some (.slice A n c)
theorem S6.below {WS : World} {b : Nat} {A : Option Addr} {n c : Nat} {W2 W3 : World} (h : S6 WS b A n c W2) (hb : Below W2.heap.size W2 W3) : S6 WS b A n c W3 :=
 ⟨Lib.hid (h.1.out.trans (hb.mono h.1.out.size)), keep_cell hb h.2.1, keep_cell hb h.2.2.1, keep_cell hb h.2.2.2.1, keep_cell hb h.2.2.2.2⟩
theorem wpOp_at {P : Program} {ops : Array Oper} {Q : Exit → Act → World → Prop} {i : Nat} {K : Act → World → Prop} {a : Act} {w : World} (hi : (ops[i]?).isSome = true)
  (h : ∀ o, ops[i]? = some o → ∀ K' : Act → World → Prop, (∀ a w, K a w → K' a w) → if Region.wanted o (yielded ops a.tmps) = true then Oper.wp P o a w K' Q else K' (a.put o.dst undef) w) : wpOp P ops Q i K a w := by
 cases ho : ops[i]? with
 | none => rw [ho] at hi; cases hi
 | some o => exact wpOp_step ho (fun K' hK => h o ho K' hK)
def put5 (a : Act) (i d : Nat) (vals : Nat → Value) : Act := ((((a.put (some d) (vals i)).put (some (d + 1)) (vals (i + 1))).put (some (d + 2)) (vals (i + 2))).put (some (d + 3)) (vals (i + 3))).put (some (d + 4)) (vals (i + 4))
theorem put5_put (a : Act) (i d : Nat) (vals : Nat → Value) (x : Value) (k : Nat) (hk : k < 5) : (put5 a i d vals).put (some (d + k)) x = put5 a i d (fun j => if j = i + k then x else vals j) := by
 have key : ∀ (t : Array Value) (d1 d2 : Nat) (u v : Value), d1 ≠ d2 → (t.setIfInBounds d1 u).setIfInBounds d2 v = (t.setIfInBounds d2 v).setIfInBounds d1 u := fun t d1 d2 u v h => Array.setIfInBounds_comm u v h
 have same : ∀ (t : Array Value) (d1 : Nat) (u v : Value), (t.setIfInBounds d1 u).setIfInBounds d1 v = t.setIfInBounds d1 v := fun t d1 u v => Array.setIfInBounds_setIfInBounds ..
 unfold put5
 simp only [Act.put]
 match k, hk with
 | 0, _ =>
  simp only [Nat.add_zero, if_true, if_neg (show ¬ i + 1 = i from by omega), if_neg (show ¬ i + 2 = i from by omega), if_neg (show ¬ i + 3 = i from by omega), if_neg (show ¬ i + 4 = i from by omega)]
  rw [key _ (d + 4) d _ _ (by omega), key _ (d + 3) d _ _ (by omega), key _ (d + 2) d _ _ (by omega), key _ (d + 1) d _ _ (by omega), same]
 | 1, _ =>
  simp only [if_true, if_neg (show ¬ i = i + 1 from by omega), if_neg (show ¬ i + 2 = i + 1 from by omega), if_neg (show ¬ i + 3 = i + 1 from by omega), if_neg (show ¬ i + 4 = i + 1 from by omega)]
  rw [key _ (d + 4) (d + 1) _ _ (by omega), key _ (d + 3) (d + 1) _ _ (by omega), key _ (d + 2) (d + 1) _ _ (by omega), same]
 | 2, _ =>
  simp only [if_true, if_neg (show ¬ i = i + 2 from by omega), if_neg (show ¬ i + 1 = i + 2 from by omega), if_neg (show ¬ i + 3 = i + 2 from by omega), if_neg (show ¬ i + 4 = i + 2 from by omega)]
  rw [key _ (d + 4) (d + 2) _ _ (by omega), key _ (d + 3) (d + 2) _ _ (by omega), same]
 | 3, _ =>
  simp only [if_true, if_neg (show ¬ i = i + 3 from by omega), if_neg (show ¬ i + 1 = i + 3 from by omega), if_neg (show ¬ i + 2 = i + 3 from by omega), if_neg (show ¬ i + 4 = i + 3 from by omega)]
  rw [key _ (d + 4) (d + 3) _ _ (by omega), same]
 | 4, _ =>
  simp only [if_true, if_neg (show ¬ i = i + 4 from by omega), if_neg (show ¬ i + 1 = i + 4 from by omega), if_neg (show ¬ i + 2 = i + 4 from by omega), if_neg (show ¬ i + 3 = i + 4 from by omega)]
  rw [same]
theorem five_allocs {P : Program} {ops : Array Oper} {Q : Exit → Act → World → Prop} {md : Region.Mode} {S : World → Prop} {a : Act} {w : World} {listed : Array Bool} {fuel : Nat} (i d : Nat) {L : (Nat → Bool) → Array Bool} {F : Nat → Value → World → Prop}
  (h0 : put5 a i d (fun _ => undef) = a) (hL0 : L (fun _ => false) = listed)
  (hLc : ∀ b b' : Nat → Bool, (∀ j ∈ [i, i + 1, i + 2, i + 3, i + 4], b j = b' j) → L b = L b')
  (hready : ∀ b : Nat → Bool, (∃ j ∈ [i, i + 1, i + 2, i + 3, i + 4], b j = false) → Region.ready md ops (L b) = [i, i + 1, i + 2, i + 3, i + 4].filter (fun j => !b j))
  (hset : ∀ (b : Nat → Bool) (k : Nat), k ∈ [i, i + 1, i + 2, i + 3, i + 4] → (L b).setIfInBounds k true = L (fun j => if j = k then true else b j))
  (hs0 : ∀ o, ops[i + 0]? = some o → (∀ vals : Nat → Value, Region.wanted o (yielded ops (put5 a i d vals).tmps) = true) ∧ ∀ (A : Act) (w : World) (K : Act → World → Prop), S w → (∀ x w', S w' → Below w.heap.size w w' → F (i + 0) x w' → K (A.put (some (d + 0)) x) w') → Oper.wp P o A w K Q)
  (hs1 : ∀ o, ops[i + 1]? = some o → (∀ vals : Nat → Value, Region.wanted o (yielded ops (put5 a i d vals).tmps) = true) ∧ ∀ (A : Act) (w : World) (K : Act → World → Prop), S w → (∀ x w', S w' → Below w.heap.size w w' → F (i + 1) x w' → K (A.put (some (d + 1)) x) w') → Oper.wp P o A w K Q)
  (hs2 : ∀ o, ops[i + 2]? = some o → (∀ vals : Nat → Value, Region.wanted o (yielded ops (put5 a i d vals).tmps) = true) ∧ ∀ (A : Act) (w : World) (K : Act → World → Prop), S w → (∀ x w', S w' → Below w.heap.size w w' → F (i + 2) x w' → K (A.put (some (d + 2)) x) w') → Oper.wp P o A w K Q)
  (hs3 : ∀ o, ops[i + 3]? = some o → (∀ vals : Nat → Value, Region.wanted o (yielded ops (put5 a i d vals).tmps) = true) ∧ ∀ (A : Act) (w : World) (K : Act → World → Prop), S w → (∀ x w', S w' → Below w.heap.size w w' → F (i + 3) x w' → K (A.put (some (d + 3)) x) w') → Oper.wp P o A w K Q)
  (hs4 : ∀ o, ops[i + 4]? = some o → (∀ vals : Nat → Value, Region.wanted o (yielded ops (put5 a i d vals).tmps) = true) ∧ ∀ (A : Act) (w : World) (K : Act → World → Prop), S w → (∀ x w', S w' → Below w.heap.size w w' → F (i + 4) x w' → K (A.put (some (d + 4)) x) w') → Oper.wp P o A w K Q)
  (hsz : (ops[i + 4]?).isSome = true)
  (hF : ∀ k x (w w' : World), F k x w → Below w.heap.size w w' → F k x w')
  (hfin : ∀ vals w, S w → (∀ k ∈ [i, i + 1, i + 2, i + 3, i + 4], F k (vals k) w) → wpAnyH P md ops Q S fuel (L (fun _ => true)) (put5 a i d vals) w)
  (hS : S w) : wpAnyH P md ops Q S (fuel + 5) listed a w := by
 have h := allocsH (P := P) (ops := ops) (Q := Q) (md := md) (S := S) [i, i + 1, i + 2, i + 3, i + 4] L (put5 a i d) F fuel hLc hready hset (fun k hk vals w K hS hK => by
  obtain ⟨j, hj, rfl⟩ : ∃ j, j < 5 ∧ k = i + j := by
   simp only [List.mem_cons, List.not_mem_nil, or_false] at hk
   rcases hk with rfl | rfl | rfl | rfl | rfl
   ·exact ⟨0, by omega, rfl⟩
   ·exact ⟨1, by omega, rfl⟩
   ·exact ⟨2, by omega, rfl⟩
   ·exact ⟨3, by omega, rfl⟩
   ·exact ⟨4, by omega, rfl⟩
  have hstep : ∀ k, k < 5 → ∀ (vals : Nat → Value) (w : World) (K : Act → World → Prop), S w → (∀ x w', S w' → Below w.heap.size w w' → F (i + k) x w' → K ((put5 a i d vals).put (some (d + k)) x) w') → wpOp P ops Q (i + k) K (put5 a i d vals) w := fun k hk => by
   have gen : ∀ m, (∀ o, ops[m]? = some o → (∀ vals : Nat → Value, Region.wanted o (yielded ops (put5 a i d vals).tmps) = true) ∧ ∀ (A : Act) (w : World) (K : Act → World → Prop), S w → (∀ x w', S w' → Below w.heap.size w w' → F m x w' → K (A.put (some (d + k)) x) w') → Oper.wp P o A w K Q) →
     m ≤ i + 4 → ∀ (vals : Nat → Value) (w : World) (K : Act → World → Prop), S w → (∀ x w', S w' → Below w.heap.size w w' → F m x w' → K ((put5 a i d vals).put (some (d + k)) x) w') → wpOp P ops Q m K (put5 a i d vals) w := fun m hm hmi vals w K hS hK => by
    refine wpOp_at ?_ (fun o ho K2 hK2 => ?_)
    ·have : i + 4 < ops.size := by
      rcases Nat.lt_or_ge (i + 4) ops.size with h | h
      ·exact h
      ·rw [Array.getElem?_eq_none h] at hsz; cases hsz
     rw [Array.getElem?_eq_getElem (by omega)]; rfl
    ·rw [if_pos ((hm o ho).1 vals)]
     exact (hm o ho).2 _ w K2 hS (fun x w' h1 h2 h3 => hK2 _ _ (hK x w' h1 h2 h3))
   match k, hk with
   | 0, _ => exact gen (i + 0) hs0 (by omega)
   | 1, _ => exact gen (i + 1) hs1 (by omega)
   | 2, _ => exact gen (i + 2) hs2 (by omega)
   | 3, _ => exact gen (i + 3) hs3 (by omega)
   | 4, _ => exact gen (i + 4) hs4 (by omega)
  exact hstep j hj vals w K hS (fun x w' h1 h2 h3 => by rw [put5_put a i d vals x j hj]; exact hK x w' h1 h2 h3)) hF hfin 5 (fun _ => false) (fun _ => undef) w (by simp) (by simp) hS (fun k _ h => by cases h)
 rw [h0, hL0] at h
 exact h
abbrev AllB : Nat → Prop := fun _ => True
theorem rows_lit {W : World} {b g0 g1 g2 g3 g4 : Nat} (h0 : Blk W g0 3 #[]) (h1 : Blk W g1 3 #[.int .i64 0]) (h2 : Blk W g2 3 #[.int .i64 1]) (h3 : Blk W g3 3 #[.int .i64 1, .int .i64 0]) (h4 : Blk W g4 3 #[.int .i64 1, .int .i64 1])
  (hb : Blk W b 39 #[.slice (some ⟨g0, 0, none⟩) 0 0, .slice (some ⟨g1, 0, none⟩) 1 1, .slice (some ⟨g2, 0, none⟩) 1 1, .slice (some ⟨g3, 0, none⟩) 2 2, .slice (some ⟨g4, 0, none⟩) 2 2]) : SlC AllB W (some ⟨b, 0, none⟩) 5 [[], [0], [1], [1, 0], [1, 1]] := by
 have rd : ∀ {g : Nat} {cs : List Value} {T : TypeId}, Blk W g T cs.toArray → Rd W (some ⟨g, 0, none⟩) cs := fun h _ => ⟨_, _, rfl, fun j v hj => by rw [Nat.zero_add, h.cell j]; simpa using hj⟩
 refine ⟨[([], some ⟨g0, 0, none⟩, 0), ([0], some ⟨g1, 0, none⟩, 1), ([1], some ⟨g2, 0, none⟩, 1), ([1, 0], some ⟨g3, 0, none⟩, 2), ([1, 1], some ⟨g4, 0, none⟩, 2)], rfl, by decide, by decide, fun e => (by cases e), fun _ => ⟨b, 0, rfl, trivial⟩, rd hb, fun e he => ?_⟩
 simp only [List.mem_cons, List.not_mem_nil, or_false] at he
 rcases he with rfl | rfl | rfl | rfl | rfl
 ·exact ⟨Nat.le_refl _, by show (0 : Nat) ≤ _; omega, fun h => absurd rfl h, rd_nil _ _⟩
 ·exact ⟨Nat.le_refl _, by show (1 : Nat) ≤ _; omega, fun _ => ⟨g1, 0, rfl, trivial⟩, rd h1⟩
 ·exact ⟨Nat.le_refl _, by show (1 : Nat) ≤ _; omega, fun _ => ⟨g2, 0, rfl, trivial⟩, rd h2⟩
 ·exact ⟨Nat.le_refl _, by show (2 : Nat) ≤ _; omega, fun _ => ⟨g3, 0, rfl, trivial⟩, rd h3⟩
 ·exact ⟨Nat.le_refl _, by show (2 : Nat) ≤ _; omega, fun _ => ⟨g4, 0, rfl, trivial⟩, rd h4⟩
theorem vX (n : Int) (w : World) : Calls Try.prog 44 #[.int .i64 n] w fun e w' => e = .returned (.agg #[.int .i64 1, .int .i64 n, .string ⟨#[]⟩, .slice none 0 0]) ∧ Below w.heap.size w w' := v_calls n w
theorem aX (s : ByteArray) (w : World) : Calls Try.prog 75 #[.string s] w fun e w' => e = .returned (.agg #[.int .i64 3, .int .i64 0, .string s, .slice none 0 0]) ∧ Below w.heap.size w w' := a_calls s w
theorem fX (s : ByteArray) (A : Option Addr) (n c : Nat) (w : World) : Calls Try.prog 74 #[.string s, .slice A n c] w fun e w' => e = .returned (.agg #[.int .i64 5, .int .i64 0, .string s, .slice A n c]) ∧ Below w.heap.size w w' := f_calls s A n c w
theorem lit_make (W : World) (es : List EV) (h : ∀ e ∈ es, e.1.s.size ≤ 9223372036854775807 ∧ TmC AllB W e.2.1 e.2.2 e.1.l) (hl : es.length ≤ 100) : TmC AllB (W.alloc (.cells (es.flatMap encE).toArray 25)) (some ⟨W.heap.size, 0, none⟩) es.length (es.map (fun e => e.1)) :=
 TmC.lit es (fun e he => ⟨(h e he).1, (h e he).2.stay ((Below.refl _ _).alloc (Nat.le_refl _) _) (Nat.le_refl _)⟩) (Blk.new _ _ _) trivial (by omega)
theorem nilC (W : World) : TmC AllB W none 0 [] := TmC.nil _ _ (by omega) (fun _ => rfl)
set_option maxRecDepth 100000 in
set_option maxHeartbeats 40000000 in
theorem sane_calls (w : World) : Calls Try.prog 16 #[] w fun e w' => e = .returned (.bool true) ∧ Below w.heap.size w w' := by
 have HB := Lib.hid (Below.refl w.heap.size w)
 go_enter Try.func16, Try.ntmps16
 go_wp2_with fail
 refine (vX 0 _).mono ?_
 rintro e w1 ⟨rfl, hb⟩
 replace HB := Lib.hid (HB.out.trans (hb.mono HB.out.size))
 clear hb
 go_wp2_with fail
 refine (aX sa _).mono ?_
 rintro e w2 ⟨rfl, hb⟩
 replace HB := Lib.hid (HB.out.trans (hb.mono HB.out.size))
 clear hb
 go_wp2_with fail
 refine (aX se _).mono ?_
 rintro e w3 ⟨rfl, hb⟩
 replace HB := Lib.hid (HB.out.trans (hb.mono HB.out.size))
 clear hb
 obtain ⟨W4, hW4⟩ : ∃ W4, W4 = w3.alloc (.cells #[.int .i64 3, .int .i64 0, .string sa, .slice none 0 0, .int .i64 3, .int .i64 0, .string se, .slice none 0 0] 25) := ⟨_, rfl⟩
 have hbW4 : Below w3.heap.size w3 W4 := by rw [hW4]; exact below_alloc _ _
 have L4 : Hid (TmC AllB W4 (some ⟨w3.heap.size, 0, none⟩) 2 [Tm.at' sa, Tm.at' se]) := Lib.hid (by
  rw [hW4]
  refine lit_make w3 [(Tm.at' sa, none, 0), (Tm.at' se, none, 0)] (fun e he => ?_) (by simp)
  simp only [List.mem_cons, List.not_mem_nil, or_false] at he
  rcases he with rfl | rfl
  ·exact ⟨by show ByteArray.size sa ≤ 9223372036854775807; decide, nilC _⟩
  ·exact ⟨by show ByteArray.size se ≤ 9223372036854775807; decide, nilC _⟩)
 replace HB := Lib.hid (HB.out.trans (hbW4.mono HB.out.size))
 clear hbW4
 go_wp2_with fail
 rw [← hW4]
 clear hW4
 refine (fX sd _ _ _ _).mono ?_
 rintro e w5 ⟨rfl, hb⟩
 replace HB := Lib.hid (HB.out.trans (hb.mono HB.out.size))
 replace L4 := Lib.hid (L4.out.stay hb (Nat.le_refl _))
 clear hb
 obtain ⟨W6, hW6⟩ : ∃ W6, W6 = w5.alloc (.cells #[.int .i64 1, .int .i64 0, .string ⟨#[]⟩, .slice none 0 0, .int .i64 5, .int .i64 0, .string sd, .slice (some ⟨w3.heap.size, 0, none⟩) 2 2] 25) := ⟨_, rfl⟩
 have hbW6 : Below w5.heap.size w5 W6 := by rw [hW6]; exact below_alloc _ _
 have L6 : Hid (TmC AllB W6 (some ⟨w5.heap.size, 0, none⟩) 2 [Tm.va 0, Tm.fn sd [Tm.at' sa, Tm.at' se]]) := Lib.hid (by
  rw [hW6]
  refine lit_make w5 [(Tm.va 0, none, 0), (Tm.fn sd [Tm.at' sa, Tm.at' se], some ⟨w3.heap.size, 0, none⟩, 2)] (fun e he => ?_) (by simp)
  simp only [List.mem_cons, List.not_mem_nil, or_false] at he
  rcases he with rfl | rfl
  ·exact ⟨by show ByteArray.size ⟨#[]⟩ ≤ 9223372036854775807; decide, nilC _⟩
  ·exact ⟨by show ByteArray.size sd ≤ 9223372036854775807; decide, L4.out⟩)
 replace HB := Lib.hid (HB.out.trans (hbW6.mono HB.out.size))
 replace L4 := Lib.hid (L4.out.stay hbW6 (Nat.le_refl _))
 clear hbW6
 clear L4
 go_wp2_with fail
 rw [← hW6]
 clear hW6
 refine (fX sf _ _ _ _).mono ?_
 rintro e w7 ⟨rfl, hb⟩
 replace HB := Lib.hid (HB.out.trans (hb.mono HB.out.size))
 replace L6 := Lib.hid (L6.out.stay hb (Nat.le_refl _))
 clear hb
 obtain ⟨W8, hW8⟩ : ∃ W8, W8 = w7.alloc (.cells #[.int .i64 5, .int .i64 0, .string sf, .slice (some ⟨w5.heap.size, 0, none⟩) 2 2] 25) := ⟨_, rfl⟩
 have hbW8 : Below w7.heap.size w7 W8 := by rw [hW8]; exact below_alloc _ _
 have BX : Hid (Blk W8 w7.heap.size 25 #[.int .i64 5, .int .i64 0, .string sf, .slice (some ⟨w5.heap.size, 0, none⟩) 2 2]) := Lib.hid (by rw [hW8]; exact Blk.new _ _ _)
 replace HB := Lib.hid (HB.out.trans (hbW8.mono HB.out.size))
 replace L6 := Lib.hid (L6.out.stay hbW8 (Nat.le_refl _))
 clear hbW8
 have hc := size_calls sX AllB W8 _ ⟨some ⟨w5.heap.size, 0, none⟩, 2, rfl, by decide, L6.out⟩ (by decide)
 rw [sX_size, sX_depth] at hc
 have Hc := Lib.hid hc; clear hc
 go_wp2_with fail
 rw [← hW8]
 clear hW8
 refine (Hc.out).mono ?_
 rintro e w9 ⟨rfl, hb⟩
 replace HB := Lib.hid (HB.out.trans (hb.mono HB.out.size))
 replace L6 := Lib.hid (L6.out.stay hb (Nat.le_refl _))
 replace BX := Lib.hid (BX.out.below hb BX.out.lt)
 clear hb
 clear Hc
 go_wp2_with fail
 refine (aX sa _).mono ?_
 rintro e w10 ⟨rfl, hb⟩
 replace HB := Lib.hid (HB.out.trans (hb.mono HB.out.size))
 replace L6 := Lib.hid (L6.out.stay hb (Nat.le_refl _))
 replace BX := Lib.hid (BX.out.below hb BX.out.lt)
 clear hb
 obtain ⟨W11, hW11⟩ : ∃ W11, W11 = w10.alloc (.cells #[.int .i64 3, .int .i64 0, .string sa, .slice none 0 0] 25) := ⟨_, rfl⟩
 have hbW11 : Below w10.heap.size w10 W11 := by rw [hW11]; exact below_alloc _ _
 have L11 : Hid (TmC AllB W11 (some ⟨w10.heap.size, 0, none⟩) 1 [Tm.at' sa]) := Lib.hid (by
  rw [hW11]
  refine lit_make w10 [(Tm.at' sa, none, 0)] (fun e he => ?_) (by simp)
  simp only [List.mem_cons, List.not_mem_nil, or_false] at he
  subst he
  exact ⟨by show ByteArray.size sa ≤ 9223372036854775807; decide, nilC _⟩)
 replace HB := Lib.hid (HB.out.trans (hbW11.mono HB.out.size))
 replace L6 := Lib.hid (L6.out.stay hbW11 (Nat.le_refl _))
 replace BX := Lib.hid (BX.out.below hbW11 BX.out.lt)
 clear hbW11
 go_wp2_with fail
 rw [← hW11]
 clear hW11
 refine (fX sg _ _ _ _).mono ?_
 rintro e w12 ⟨rfl, hb⟩
 replace HB := Lib.hid (HB.out.trans (hb.mono HB.out.size))
 replace L6 := Lib.hid (L6.out.stay hb (Nat.le_refl _))
 replace L11 := Lib.hid (L11.out.stay hb (Nat.le_refl _))
 replace BX := Lib.hid (BX.out.below hb BX.out.lt)
 clear hb
 go_wp2_with fail
 refine (aX sa _).mono ?_
 rintro e w13 ⟨rfl, hb⟩
 replace HB := Lib.hid (HB.out.trans (hb.mono HB.out.size))
 replace L6 := Lib.hid (L6.out.stay hb (Nat.le_refl _))
 replace L11 := Lib.hid (L11.out.stay hb (Nat.le_refl _))
 replace BX := Lib.hid (BX.out.below hb BX.out.lt)
 clear hb
 go_wp2_with fail
 refine (aX sb _).mono ?_
 rintro e w14 ⟨rfl, hb⟩
 replace HB := Lib.hid (HB.out.trans (hb.mono HB.out.size))
 replace L6 := Lib.hid (L6.out.stay hb (Nat.le_refl _))
 replace L11 := Lib.hid (L11.out.stay hb (Nat.le_refl _))
 replace BX := Lib.hid (BX.out.below hb BX.out.lt)
 clear hb
 obtain ⟨W15, hW15⟩ : ∃ W15, W15 = w14.alloc (.cells #[.int .i64 3, .int .i64 0, .string sa, .slice none 0 0, .int .i64 3, .int .i64 0, .string sb, .slice none 0 0] 25) := ⟨_, rfl⟩
 have hbW15 : Below w14.heap.size w14 W15 := by rw [hW15]; exact below_alloc _ _
 have L15 : Hid (TmC AllB W15 (some ⟨w14.heap.size, 0, none⟩) 2 [Tm.at' sa, Tm.at' sb]) := Lib.hid (by
  rw [hW15]
  refine lit_make w14 [(Tm.at' sa, none, 0), (Tm.at' sb, none, 0)] (fun e he => ?_) (by simp)
  simp only [List.mem_cons, List.not_mem_nil, or_false] at he
  rcases he with rfl | rfl
  ·exact ⟨by show ByteArray.size sa ≤ 9223372036854775807; decide, nilC _⟩
  ·exact ⟨by show ByteArray.size sb ≤ 9223372036854775807; decide, nilC _⟩)
 replace HB := Lib.hid (HB.out.trans (hbW15.mono HB.out.size))
 replace L6 := Lib.hid (L6.out.stay hbW15 (Nat.le_refl _))
 replace L11 := Lib.hid (L11.out.stay hbW15 (Nat.le_refl _))
 replace BX := Lib.hid (BX.out.below hbW15 BX.out.lt)
 clear hbW15
 go_wp2_with fail
 rw [← hW15]
 clear hW15
 refine (fX sf _ _ _ _).mono ?_
 rintro e w16 ⟨rfl, hb⟩
 replace HB := Lib.hid (HB.out.trans (hb.mono HB.out.size))
 replace L6 := Lib.hid (L6.out.stay hb (Nat.le_refl _))
 replace L11 := Lib.hid (L11.out.stay hb (Nat.le_refl _))
 replace L15 := Lib.hid (L15.out.stay hb (Nat.le_refl _))
 replace BX := Lib.hid (BX.out.below hb BX.out.lt)
 clear hb
 have hc := compareTop_calls (Tm.fn sg [Tm.at' sa]) (Tm.fn sf [Tm.at' sa, Tm.at' sb]) AllB AllB w16 _ _ ⟨some ⟨w10.heap.size, 0, none⟩, 1, rfl, by decide, L11.out⟩ ⟨some ⟨w14.heap.size, 0, none⟩, 2, rfl, by decide, L15.out⟩
 rw [s_cmp.1, s_cmp.2] at hc
 have Hc := Lib.hid hc; clear hc
 clear L11 L15
 go_wp2_with fail
 refine (Hc.out).mono ?_
 rintro e w17 ⟨rfl, hb⟩
 replace HB := Lib.hid (HB.out.trans (hb.mono HB.out.size))
 replace L6 := Lib.hid (L6.out.stay hb (Nat.le_refl _))
 replace BX := Lib.hid (BX.out.below hb BX.out.lt)
 clear hb
 clear Hc
 have hc := pathsTop_calls sX AllB w17 _ ⟨some ⟨w5.heap.size, 0, none⟩, 2, rfl, by decide, L6.out⟩
 rw [sX_ok, if_pos rfl, s_paths, show errT true = 0 from rfl] at hc
 have Hc := Lib.hid hc; clear hc
 obtain ⟨⟨x0, x1, x2, x3⟩, -⟩ := BX.out.four
 have xl := BX.out.lt
 clear L6
 go_wp2_with fail
 refine (Hc.out).mono ?_
 rintro e w18 ⟨AP, cp, rfl, hsp, hb⟩
 replace HB := Lib.hid (HB.out.trans (hb.mono HB.out.size))
 clear hb
 clear Hc
 clear x0 x1 x2 x3 xl
 clear BX
 have HSP := Lib.hid (show SlC _ w18 AP cp [[], [0], [1], [1, 0], [1, 1]] from hsp); clear hsp
 go_wp2_with fail
 refine (vX 0 _).mono ?_
 rintro e w19 ⟨rfl, hb⟩
 replace HB := Lib.hid (HB.out.trans (hb.mono HB.out.size))
 replace HSP := Lib.hid (SlC.stay HSP.out hb (Nat.le_refl _))
 clear hb
 go_wp2_with fail
 refine (vX 1 _).mono ?_
 rintro e w20 ⟨rfl, hb⟩
 replace HB := Lib.hid (HB.out.trans (hb.mono HB.out.size))
 replace HSP := Lib.hid (SlC.stay HSP.out hb (Nat.le_refl _))
 clear hb
 obtain ⟨W21, hW21⟩ : ∃ W21, W21 = w20.alloc (.cells #[.int .i64 1, .int .i64 0, .string ⟨#[]⟩, .slice none 0 0, .int .i64 1, .int .i64 1, .string ⟨#[]⟩, .slice none 0 0] 25) := ⟨_, rfl⟩
 have hbW21 : Below w20.heap.size w20 W21 := by rw [hW21]; exact below_alloc _ _
 have L21 : Hid (TmC AllB W21 (some ⟨w20.heap.size, 0, none⟩) 2 [Tm.va 0, Tm.va 1]) := Lib.hid (by
  rw [hW21]
  refine lit_make w20 [(Tm.va 0, none, 0), (Tm.va 1, none, 0)] (fun e he => ?_) (by simp)
  simp only [List.mem_cons, List.not_mem_nil, or_false] at he
  rcases he with rfl | rfl
  ·exact ⟨by show ByteArray.size ⟨#[]⟩ ≤ 9223372036854775807; decide, nilC _⟩
  ·exact ⟨by show ByteArray.size ⟨#[]⟩ ≤ 9223372036854775807; decide, nilC _⟩)
 replace HB := Lib.hid (HB.out.trans (hbW21.mono HB.out.size))
 replace HSP := Lib.hid (SlC.stay HSP.out hbW21 (Nat.le_refl _))
 clear hbW21
 go_wp2_with fail
 rw [← hW21]
 clear hW21
 refine (fX sf _ _ _ _).mono ?_
 rintro e w22 ⟨rfl, hb⟩
 replace HB := Lib.hid (HB.out.trans (hb.mono HB.out.size))
 replace L21 := Lib.hid (L21.out.stay hb (Nat.le_refl _))
 replace HSP := Lib.hid (SlC.stay HSP.out hb (Nat.le_refl _))
 clear hb
 go_wp2_with fail
 refine (vX 1 _).mono ?_
 rintro e w23 ⟨rfl, hb⟩
 replace HB := Lib.hid (HB.out.trans (hb.mono HB.out.size))
 replace L21 := Lib.hid (L21.out.stay hb (Nat.le_refl _))
 replace HSP := Lib.hid (SlC.stay HSP.out hb (Nat.le_refl _))
 clear hb
 obtain ⟨W24, hW24⟩ : ∃ W24, W24 = w23.alloc (.cells #[.int .i64 1, .int .i64 1, .string ⟨#[]⟩, .slice none 0 0] 25) := ⟨_, rfl⟩
 have hbW24 : Below w23.heap.size w23 W24 := by rw [hW24]; exact below_alloc _ _
 have L24 : Hid (TmC AllB W24 (some ⟨w23.heap.size, 0, none⟩) 1 [Tm.va 1]) := Lib.hid (by
  rw [hW24]
  refine lit_make w23 [(Tm.va 1, none, 0)] (fun e he => ?_) (by simp)
  simp only [List.mem_cons, List.not_mem_nil, or_false] at he
  subst he
  exact ⟨by show ByteArray.size ⟨#[]⟩ ≤ 9223372036854775807; decide, nilC _⟩)
 replace HB := Lib.hid (HB.out.trans (hbW24.mono HB.out.size))
 replace L21 := Lib.hid (L21.out.stay hbW24 (Nat.le_refl _))
 replace HSP := Lib.hid (SlC.stay HSP.out hbW24 (Nat.le_refl _))
 clear hbW24
 go_wp2_with fail
 rw [← hW24]
 clear hW24
 refine (fX sg _ _ _ _).mono ?_
 rintro e w25 ⟨rfl, hb⟩
 replace HB := Lib.hid (HB.out.trans (hb.mono HB.out.size))
 replace L21 := Lib.hid (L21.out.stay hb (Nat.le_refl _))
 replace L24 := Lib.hid (L24.out.stay hb (Nat.le_refl _))
 replace HSP := Lib.hid (SlC.stay HSP.out hb (Nat.le_refl _))
 clear hb
 go_wp2_with fail
 refine (aX sa _).mono ?_
 rintro e w26 ⟨rfl, hb⟩
 replace HB := Lib.hid (HB.out.trans (hb.mono HB.out.size))
 replace L21 := Lib.hid (L21.out.stay hb (Nat.le_refl _))
 replace L24 := Lib.hid (L24.out.stay hb (Nat.le_refl _))
 replace HSP := Lib.hid (SlC.stay HSP.out hb (Nat.le_refl _))
 clear hb
 obtain ⟨W27, hW27⟩ : ∃ W27, W27 = w26.alloc (.cells #[.int .i64 5, .int .i64 0, .string sg, .slice (some ⟨w23.heap.size, 0, none⟩) 1 1, .int .i64 3, .int .i64 0, .string sa, .slice none 0 0] 25) := ⟨_, rfl⟩
 have hbW27 : Below w26.heap.size w26 W27 := by rw [hW27]; exact below_alloc _ _
 have L27 : Hid (TmC AllB W27 (some ⟨w26.heap.size, 0, none⟩) 2 [Tm.fn sg [Tm.va 1], Tm.at' sa]) := Lib.hid (by
  rw [hW27]
  refine lit_make w26 [(Tm.fn sg [Tm.va 1], some ⟨w23.heap.size, 0, none⟩, 1), (Tm.at' sa, none, 0)] (fun e he => ?_) (by simp)
  simp only [List.mem_cons, List.not_mem_nil, or_false] at he
  rcases he with rfl | rfl
  ·exact ⟨by show ByteArray.size sg ≤ 9223372036854775807; decide, L24.out⟩
  ·exact ⟨by show ByteArray.size sa ≤ 9223372036854775807; decide, nilC _⟩)
 replace HB := Lib.hid (HB.out.trans (hbW27.mono HB.out.size))
 replace L21 := Lib.hid (L21.out.stay hbW27 (Nat.le_refl _))
 replace L24 := Lib.hid (L24.out.stay hbW27 (Nat.le_refl _))
 replace HSP := Lib.hid (SlC.stay HSP.out hbW27 (Nat.le_refl _))
 clear hbW27
 clear L24
 have hc := subst_calls sP sQ AllB AllB W27 _ (some ⟨w26.heap.size, 0, none⟩) 2 ⟨some ⟨w20.heap.size, 0, none⟩, 2, rfl, by decide, L21.out⟩ L27.out
 rw [s_subst.1, s_subst.2] at hc
 have hc2 : Calls Try.prog 42 _ W27 fun e w2 => ∃ A c, e = .returned (.tuple #[.agg #[.int .i64 5, .int .i64 0, .string sf, .slice A 2 c], .int .i64 0]) ∧ TmC AllB w2 A c sR.l ∧ Below W27.heap.size W27 w2 := hc.mono (fun e w2 ⟨A, c, h1, _, h3, h4⟩ => ⟨A, c, h1, h3.mono (fun _ _ => trivial), h4⟩)
 have Hc := Lib.hid hc2; clear hc hc2
 clear L21 L27
 go_wp2_with fail
 rw [← hW27]
 clear hW27
 refine (Hc.out).mono ?_
 rintro e w28 ⟨AS, cs, rfl, hsc, hb⟩
 replace HB := Lib.hid (HB.out.trans (hb.mono HB.out.size))
 replace HSP := Lib.hid (SlC.stay HSP.out hb (Nat.le_refl _))
 clear hb
 clear Hc
 have HSS : Hid (TmC AllB w28 AS cs sR.l) := Lib.hid hsc; clear hsc
 obtain ⟨W29, hW29⟩ : ∃ W29, W29 = w28.alloc (.cells #[.int .i64 5, .int .i64 0, .string sf, .slice AS 2 cs] 25) := ⟨_, rfl⟩
 have hbW29 : Below w28.heap.size w28 W29 := by rw [hW29]; exact below_alloc _ _
 have BY : Hid (Blk W29 w28.heap.size 25 #[.int .i64 5, .int .i64 0, .string sf, .slice AS 2 cs]) := Lib.hid (by rw [hW29]; exact Blk.new _ _ _)
 replace HB := Lib.hid (HB.out.trans (hbW29.mono HB.out.size))
 replace HSS := Lib.hid (HSS.out.stay hbW29 (Nat.le_refl _))
 replace HSP := Lib.hid (SlC.stay HSP.out hbW29 (Nat.le_refl _))
 clear hbW29
 go_wp2_with fail
 rw [← hW29]
 clear hW29
 obtain ⟨⟨y0, y1, y2, y3⟩, -⟩ := BY.out.four
 have yl := BY.out.lt
 refine wp_region_noPanic ?_
 refine wp_region_held_drew (S := S6 W29 w28.heap.size AS 2 cs) (by kernel_rfl) ?_ (fun hHeld => ?_)
 ·exact ⟨Lib.hid ((Below.refl _ _).drew), y0, y1, y2, y3⟩
 refine takeH (i := 0) (d := 59) (.int .i64 5) (by kernel_rfl) (by kernel_rfl) (by kernel_rfl) (by kernel_rfl) (fun _ _ _ _ h => h) (fun o ho => ?_) hHeld ?_
 ·simp only [List.getElem?_toArray, List.getElem?_cons_zero, List.getElem?_cons_succ, Option.some.injEq] at ho
  subst ho
  refine Or.inl ⟨by rfl, fun w hSw => ?_⟩
  go_simp
 simp only [Act.put, List.setIfInBounds_toArray, List.set_cons_zero, List.set_cons_succ]
 refine takeH (i := 1) (d := 60) (.bool false) (by kernel_rfl) (by kernel_rfl) (by kernel_rfl) (by kernel_rfl) (fun _ _ _ _ h => h) (fun o ho => ?_) hHeld ?_
 ·simp only [List.getElem?_toArray, List.getElem?_cons_zero, List.getElem?_cons_succ, Option.some.injEq] at ho
  subst ho
  refine Or.inl ⟨by rfl, fun w hSw => ?_⟩
  go_simp
 simp only [Act.put, List.setIfInBounds_toArray, List.set_cons_zero, List.set_cons_succ]
 refine takeH (i := 2) (d := 61) (.bool false) (by kernel_rfl) (by kernel_rfl) (by kernel_rfl) (by kernel_rfl) (fun _ _ _ _ h => h) (fun o ho => ?_) hHeld ?_
 ·simp only [List.getElem?_toArray, List.getElem?_cons_zero, List.getElem?_cons_succ, Option.some.injEq] at ho
  subst ho
  refine Or.inl ⟨by rfl, fun w hSw => ?_⟩
  go_simp
 simp only [Act.put, List.setIfInBounds_toArray, List.set_cons_zero, List.set_cons_succ]
 refine takeH (i := 3) (d := 62) (.int .i64 3) (by kernel_rfl) (by kernel_rfl) (by kernel_rfl) (by kernel_rfl) (fun _ _ _ _ h => h) (fun o ho => ?_) hHeld ?_
 ·simp only [List.getElem?_toArray, List.getElem?_cons_zero, List.getElem?_cons_succ, Option.some.injEq] at ho
  subst ho
  refine Or.inl ⟨by rfl, fun w hSw => ?_⟩
  go_simp
 simp only [Act.put, List.setIfInBounds_toArray, List.set_cons_zero, List.set_cons_succ]
 refine takeH (i := 4) (d := 63) (.bool false) (by kernel_rfl) (by kernel_rfl) (by kernel_rfl) (by kernel_rfl) (fun _ _ _ _ h => h) (fun o ho => ?_) hHeld ?_
 ·simp only [List.getElem?_toArray, List.getElem?_cons_zero, List.getElem?_cons_succ, Option.some.injEq] at ho
  subst ho
  refine Or.inl ⟨by rfl, fun w hSw => ?_⟩
  go_simp
 simp only [Act.put, List.setIfInBounds_toArray, List.set_cons_zero, List.set_cons_succ]
 refine takeH (i := 5) (d := 64) (.bool false) (by kernel_rfl) (by kernel_rfl) (by kernel_rfl) (by kernel_rfl) (fun _ _ _ _ h => h) (fun o ho => ?_) hHeld ?_
 ·simp only [List.getElem?_toArray, List.getElem?_cons_zero, List.getElem?_cons_succ, Option.some.injEq] at ho
  subst ho
  refine Or.inl ⟨by rfl, fun w hSw => ?_⟩
  go_simp
 simp only [Act.put, List.setIfInBounds_toArray, List.set_cons_zero, List.set_cons_succ]
 refine takeH (i := 6) (d := 65) (.bool false) (by kernel_rfl) (by kernel_rfl) (by kernel_rfl) (by kernel_rfl) (fun _ _ _ _ h => h) (fun o ho => ?_) hHeld ?_
 ·simp only [List.getElem?_toArray, List.getElem?_cons_zero, List.getElem?_cons_succ, Option.some.injEq] at ho
  subst ho
  refine Or.inl ⟨by rfl, fun w hSw => ?_⟩
  go_simp
 simp only [Act.put, List.setIfInBounds_toArray, List.set_cons_zero, List.set_cons_succ]
 refine takeH (i := 7) (d := 66) (.int .i64 (-1)) (by kernel_rfl) (by kernel_rfl) (by kernel_rfl) (by kernel_rfl) (fun _ _ _ _ h => h) (fun o ho => ?_) hHeld ?_
 ·simp only [List.getElem?_toArray, List.getElem?_cons_zero, List.getElem?_cons_succ, Option.some.injEq] at ho
  subst ho
  refine Or.inl ⟨by rfl, fun w hSw => ?_⟩
  go_simp
 simp only [Act.put, List.setIfInBounds_toArray, List.set_cons_zero, List.set_cons_succ]
 refine takeH (i := 8) (d := 67) (.bool false) (by kernel_rfl) (by kernel_rfl) (by kernel_rfl) (by kernel_rfl) (fun _ _ _ _ h => h) (fun o ho => ?_) hHeld ?_
 ·simp only [List.getElem?_toArray, List.getElem?_cons_zero, List.getElem?_cons_succ, Option.some.injEq] at ho
  subst ho
  refine Or.inl ⟨by rfl, fun w hSw => ?_⟩
  go_simp
 simp only [Act.put, List.setIfInBounds_toArray, List.set_cons_zero, List.set_cons_succ]
 refine takeH (i := 9) (d := 68) (.bool false) (by kernel_rfl) (by kernel_rfl) (by kernel_rfl) (by kernel_rfl) (fun _ _ _ _ h => h) (fun o ho => ?_) hHeld ?_
 ·simp only [List.getElem?_toArray, List.getElem?_cons_zero, List.getElem?_cons_succ, Option.some.injEq] at ho
  subst ho
  refine Or.inl ⟨by rfl, fun w hSw => ?_⟩
  go_simp
 simp only [Act.put, List.setIfInBounds_toArray, List.set_cons_zero, List.set_cons_succ]
 refine takeH (i := 10) (d := 69) (.bool false) (by kernel_rfl) (by kernel_rfl) (by kernel_rfl) (by kernel_rfl) (fun _ _ _ _ h => h) (fun o ho => ?_) hHeld ?_
 ·simp only [List.getElem?_toArray, List.getElem?_cons_zero, List.getElem?_cons_succ, Option.some.injEq] at ho
  subst ho
  refine Or.inl ⟨by rfl, fun w hSw => ?_⟩
  go_simp
 simp only [Act.put, List.setIfInBounds_toArray, List.set_cons_zero, List.set_cons_succ]
 refine takeH (i := 11) (d := 70) (.int .i64 0) (by kernel_rfl) (by kernel_rfl) (by kernel_rfl) (by kernel_rfl) (fun _ _ _ _ h => h) (fun o ho => ?_) hHeld ?_
 ·simp only [List.getElem?_toArray, List.getElem?_cons_zero, List.getElem?_cons_succ, Option.some.injEq] at ho
  subst ho
  refine Or.inl ⟨by rfl, fun w hSw => ?_⟩
  go_simp
 simp only [Act.put, List.setIfInBounds_toArray, List.set_cons_zero, List.set_cons_succ]
 refine takeH (i := 12) (d := 71) (.bool false) (by kernel_rfl) (by kernel_rfl) (by kernel_rfl) (by kernel_rfl) (fun _ _ _ _ h => h) (fun o ho => ?_) hHeld ?_
 ·simp only [List.getElem?_toArray, List.getElem?_cons_zero, List.getElem?_cons_succ, Option.some.injEq] at ho
  subst ho
  refine Or.inl ⟨by rfl, fun w hSw => ?_⟩
  go_simp
 simp only [Act.put, List.setIfInBounds_toArray, List.set_cons_zero, List.set_cons_succ]
 refine takeH (i := 13) (d := 72) (.bool false) (by kernel_rfl) (by kernel_rfl) (by kernel_rfl) (by kernel_rfl) (fun _ _ _ _ h => h) (fun o ho => ?_) hHeld ?_
 ·simp only [List.getElem?_toArray, List.getElem?_cons_zero, List.getElem?_cons_succ, Option.some.injEq] at ho
  subst ho
  refine Or.inl ⟨by rfl, fun w hSw => ?_⟩
  go_simp
 simp only [Act.put, List.setIfInBounds_toArray, List.set_cons_zero, List.set_cons_succ]
 refine takeH (i := 14) (d := 73) (.bool false) (by kernel_rfl) (by kernel_rfl) (by kernel_rfl) (by kernel_rfl) (fun _ _ _ _ h => h) (fun o ho => ?_) hHeld ?_
 ·simp only [List.getElem?_toArray, List.getElem?_cons_zero, List.getElem?_cons_succ, Option.some.injEq] at ho
  subst ho
  refine Or.inl ⟨by rfl, fun w hSw => ?_⟩
  go_simp
 simp only [Act.put, List.setIfInBounds_toArray, List.set_cons_zero, List.set_cons_succ]
 refine takeH (i := 15) (d := 74) (.int .i64 0) (by kernel_rfl) (by kernel_rfl) (by kernel_rfl) (by kernel_rfl) (fun _ _ _ _ h => h) (fun o ho => ?_) hHeld ?_
 ·simp only [List.getElem?_toArray, List.getElem?_cons_zero, List.getElem?_cons_succ, Option.some.injEq] at ho
  subst ho
  refine Or.inl ⟨by rfl, fun w hSw => ?_⟩
  go_simp
 simp only [Act.put, List.setIfInBounds_toArray, List.set_cons_zero, List.set_cons_succ]
 refine takeH (i := 16) (d := 75) (.bool false) (by kernel_rfl) (by kernel_rfl) (by kernel_rfl) (by kernel_rfl) (fun _ _ _ _ h => h) (fun o ho => ?_) hHeld ?_
 ·simp only [List.getElem?_toArray, List.getElem?_cons_zero, List.getElem?_cons_succ, Option.some.injEq] at ho
  subst ho
  refine Or.inl ⟨by rfl, fun w hSw => ?_⟩
  go_simp
 simp only [Act.put, List.setIfInBounds_toArray, List.set_cons_zero, List.set_cons_succ]
 refine takeH (i := 17) (d := 76) (.bool false) (by kernel_rfl) (by kernel_rfl) (by kernel_rfl) (by kernel_rfl) (fun _ _ _ _ h => h) (fun o ho => ?_) hHeld ?_
 ·simp only [List.getElem?_toArray, List.getElem?_cons_zero, List.getElem?_cons_succ, Option.some.injEq] at ho
  subst ho
  refine Or.inl ⟨by rfl, fun w hSw => ?_⟩
  go_simp
 simp only [Act.put, List.setIfInBounds_toArray, List.set_cons_zero, List.set_cons_succ]
 refine takeH (i := 18) (d := 77) (.bool false) (by kernel_rfl) (by kernel_rfl) (by kernel_rfl) (by kernel_rfl) (fun _ _ _ _ h => h) (fun o ho => ?_) hHeld ?_
 ·simp only [List.getElem?_toArray, List.getElem?_cons_zero, List.getElem?_cons_succ, Option.some.injEq] at ho
  subst ho
  refine Or.inl ⟨by rfl, fun w hSw => ?_⟩
  go_simp
 simp only [Act.put, List.setIfInBounds_toArray, List.set_cons_zero, List.set_cons_succ]
 refine takeH (i := 19) (d := 78) (.slice AP 5 cp) (by kernel_rfl) (by kernel_rfl) (by kernel_rfl) (by kernel_rfl) (fun _ _ _ _ h => h) (fun o ho => ?_) hHeld ?_
 ·simp only [List.getElem?_toArray, List.getElem?_cons_zero, List.getElem?_cons_succ, Option.some.injEq] at ho
  subst ho
  refine Or.inl ⟨by rfl, fun w hSw => ?_⟩
  go_simp
 simp only [Act.put, List.setIfInBounds_toArray, List.set_cons_zero, List.set_cons_succ]
 refine five_allocs 20 79 (L := fun d => #[true, true, true, true, true, true, true, true, true, true, true, true, true, true, true, true, true, true, true, true, d 20, d 21, d 22, d 23, d 24, false, false, false, false, false, false, false, false, false, false, false, false, false, false, false, false, false, false, false]) (F := cellsF) (fuel := 19) (by rfl) rfl ?_ ?_ ?_ ?_ ?_ ?_ ?_ ?_ (by kernel_rfl) (fun i x w w2 => cellsF_below) ?_ hHeld
 ·intro d d2 h; simp only [h 20 (by decide), h 21 (by decide), h 22 (by decide), h 23 (by decide), h 24 (by decide)]
 ·intro d hd
  generalize h0 : d 20 = c0 at *; generalize h1 : d 21 = c1 at *; generalize h2 : d 22 = c2 at *; generalize h3 : d 23 = c3 at *; generalize h4 : d 24 = c4 at *
  simp only [List.filter, h0, h1, h2, h3, h4]
  cases c0 <;> cases c1 <;> cases c2 <;> cases c3 <;> cases c4 <;> first | (exfalso; obtain ⟨i, hi, hdi⟩ := hd; simp only [List.mem_cons, List.not_mem_nil, or_false] at hi; rcases hi with rfl | rfl | rfl | rfl | rfl <;> (first | (rw [h0] at hdi; cases hdi; done) | (rw [h1] at hdi; cases hdi; done) | (rw [h2] at hdi; cases hdi; done) | (rw [h3] at hdi; cases hdi; done) | (rw [h4] at hdi; cases hdi; done))) | kernel_rfl
 ·intro d i hi; simp only [List.mem_cons, List.not_mem_nil, or_false] at hi; rcases hi with rfl | rfl | rfl | rfl | rfl <;> rfl
 ·intro o ho
  simp only [Nat.reduceAdd, List.getElem?_toArray, List.getElem?_cons_zero, List.getElem?_cons_succ, Option.some.injEq] at ho
  subst ho
  refine ⟨fun vals => by kernel_rfl, fun AA w2 K2 hS hK => ?_⟩
  go_simp
  exact hK _ _ (hS.below (below_alloc _ _)) (below_alloc _ _) ⟨_, rfl, Blk.new _ _ _⟩
 ·intro o ho
  simp only [Nat.reduceAdd, List.getElem?_toArray, List.getElem?_cons_zero, List.getElem?_cons_succ, Option.some.injEq] at ho
  subst ho
  refine ⟨fun vals => by kernel_rfl, fun AA w2 K2 hS hK => ?_⟩
  go_simp
  exact hK _ _ (hS.below (below_alloc _ _)) (below_alloc _ _) ⟨_, rfl, Blk.new _ _ _⟩
 ·intro o ho
  simp only [Nat.reduceAdd, List.getElem?_toArray, List.getElem?_cons_zero, List.getElem?_cons_succ, Option.some.injEq] at ho
  subst ho
  refine ⟨fun vals => by kernel_rfl, fun AA w2 K2 hS hK => ?_⟩
  go_simp
  exact hK _ _ (hS.below (below_alloc _ _)) (below_alloc _ _) ⟨_, rfl, Blk.new _ _ _⟩
 ·intro o ho
  simp only [Nat.reduceAdd, List.getElem?_toArray, List.getElem?_cons_zero, List.getElem?_cons_succ, Option.some.injEq] at ho
  subst ho
  refine ⟨fun vals => by kernel_rfl, fun AA w2 K2 hS hK => ?_⟩
  go_simp
  exact hK _ _ (hS.below (below_alloc _ _)) (below_alloc _ _) ⟨_, rfl, Blk.new _ _ _⟩
 ·intro o ho
  simp only [Nat.reduceAdd, List.getElem?_toArray, List.getElem?_cons_zero, List.getElem?_cons_succ, Option.some.injEq] at ho
  subst ho
  refine ⟨fun vals => by kernel_rfl, fun AA w2 K2 hS hK => ?_⟩
  go_simp
  exact hK _ _ (hS.below (below_alloc _ _)) (below_alloc _ _) ⟨_, rfl, Blk.new _ _ _⟩
 intro vals w2 hHeld hv
 dsimp only
 obtain ⟨g0, e0, k0⟩ := hv 20 (by simp)
 replace e0 : vals 20 = .slice (some ⟨g0, 0, none⟩) 0 0 := e0
 replace k0 : Blk w2 g0 3 #[] := k0
 obtain ⟨g1, e1, k1⟩ := hv 21 (by simp)
 replace e1 : vals 21 = .slice (some ⟨g1, 0, none⟩) 1 1 := e1
 replace k1 : Blk w2 g1 3 #[.int .i64 0] := k1
 obtain ⟨g2, e2, k2⟩ := hv 22 (by simp)
 replace e2 : vals 22 = .slice (some ⟨g2, 0, none⟩) 1 1 := e2
 replace k2 : Blk w2 g2 3 #[.int .i64 1] := k2
 obtain ⟨g3, e3, k3⟩ := hv 23 (by simp)
 replace e3 : vals 23 = .slice (some ⟨g3, 0, none⟩) 2 2 := e3
 replace k3 : Blk w2 g3 3 #[.int .i64 1, .int .i64 0] := k3
 obtain ⟨g4, e4, k4⟩ := hv 24 (by simp)
 replace e4 : vals 24 = .slice (some ⟨g4, 0, none⟩) 2 2 := e4
 replace k4 : Blk w2 g4 3 #[.int .i64 1, .int .i64 1] := k4
 simp only [put5, Nat.reduceAdd, Act.put, List.setIfInBounds_toArray, List.set_cons_zero, List.set_cons_succ, e0, e1, e2, e3, e4]
 clear e0 e1 e2 e3 e4 hv
 refine stepH (i := 25) (by kernel_rfl) (by kernel_rfl) (fun o ho K2 hK => ?_)
 simp only [List.getElem?_toArray, List.getElem?_cons_zero, List.getElem?_cons_succ, Option.some.injEq] at ho
 subst ho
 go_simp
 obtain ⟨W30, hW30⟩ : ∃ W30, W30 = w2.alloc (.cells #[.slice (some ⟨g0, 0, none⟩) 0 0, .slice (some ⟨g1, 0, none⟩) 1 1, .slice (some ⟨g2, 0, none⟩) 1 1, .slice (some ⟨g3, 0, none⟩) 2 2, .slice (some ⟨g4, 0, none⟩) 2 2] 39) := ⟨_, rfl⟩
 have hbW30 : Below w2.heap.size w2 W30 := by rw [hW30]; exact below_alloc _ _
 rw [← hW30]
 refine hK.out _ _ (hHeld.below hbW30) (fun hHeld => ?_)
 clear hK K2
 try simp only [Act.put, List.setIfInBounds_toArray, List.set_cons_zero, List.set_cons_succ]
 have hrow : SlC AllB W30 (some ⟨w2.heap.size, 0, none⟩) 5 [[], [0], [1], [1, 0], [1, 1]] := rows_lit (k0.below hbW30 k0.lt) (k1.below hbW30 k1.lt) (k2.below hbW30 k2.lt) (k3.below hbW30 k3.lt) (k4.below hbW30 k4.lt) (by rw [hW30]; exact Blk.new _ _ _)
 have hsp := SlC.stay HSP.out hHeld.1.out (Nat.le_refl _)
 have hc := equalRows_calls _ _ _ _ _ _ _ _ W30 hsp hrow
 rw [decide_eq_true rfl] at hc
 have Hc := Lib.hid hc; clear hc hrow hsp k0 k1 k2 k3 k4 HSP
 clear hbW30 hW30
 refine stepH (i := 26) (by kernel_rfl) (by kernel_rfl) (fun o ho K2 hK => ?_)
 simp only [List.getElem?_toArray, List.getElem?_cons_zero, List.getElem?_cons_succ, Option.some.injEq] at ho
 subst ho
 go_simp
 refine (Hc.out).mono ?_
 rintro e w31x ⟨rfl, hb⟩
 dsimp only
 refine hK.out _ _ (hHeld.below hb) (fun hHeld => ?_)
 clear hK K2
 try simp only [Act.put, List.setIfInBounds_toArray, List.set_cons_zero, List.set_cons_succ]
 clear hb
 clear Hc
 refine takeH (i := 27) (d := 86) (.bool false) (by kernel_rfl) (by kernel_rfl) (by kernel_rfl) (by kernel_rfl) (fun _ _ _ _ h => h) (fun o ho => ?_) hHeld ?_
 ·simp only [List.getElem?_toArray, List.getElem?_cons_zero, List.getElem?_cons_succ, Option.some.injEq] at ho
  subst ho
  refine Or.inl ⟨by rfl, fun w hSw => ?_⟩
  go_simp
 simp only [Act.put, List.setIfInBounds_toArray, List.set_cons_zero, List.set_cons_succ]
 refine takeH (i := 28) (d := 87) (.bool false) (by kernel_rfl) (by kernel_rfl) (by kernel_rfl) (by kernel_rfl) (fun _ _ _ _ h => h) (fun o ho => ?_) hHeld ?_
 ·simp only [List.getElem?_toArray, List.getElem?_cons_zero, List.getElem?_cons_succ, Option.some.injEq] at ho
  subst ho
  refine Or.inl ⟨by rfl, fun w hSw => ?_⟩
  go_simp
 simp only [Act.put, List.setIfInBounds_toArray, List.set_cons_zero, List.set_cons_succ]
 refine takeH (i := 29) (d := 88) (.bool false) (by kernel_rfl) (by kernel_rfl) (by kernel_rfl) (by kernel_rfl) (fun _ _ _ _ h => h) (fun o ho => ?_) hHeld ?_
 ·simp only [List.getElem?_toArray, List.getElem?_cons_zero, List.getElem?_cons_succ, Option.some.injEq] at ho
  subst ho
  refine Or.inl ⟨by rfl, fun w hSw => ?_⟩
  go_simp
 simp only [Act.put, List.setIfInBounds_toArray, List.set_cons_zero, List.set_cons_succ]
 refine takeH (i := 30) (d := 89) (.int .i64 0) (by kernel_rfl) (by kernel_rfl) (by kernel_rfl) (by kernel_rfl) (fun _ _ _ _ h => h) (fun o ho => ?_) hHeld ?_
 ·simp only [List.getElem?_toArray, List.getElem?_cons_zero, List.getElem?_cons_succ, Option.some.injEq] at ho
  subst ho
  refine Or.inl ⟨by rfl, fun w hSw => ?_⟩
  go_simp
 simp only [Act.put, List.setIfInBounds_toArray, List.set_cons_zero, List.set_cons_succ]
 refine takeH (i := 31) (d := 90) (.bool false) (by kernel_rfl) (by kernel_rfl) (by kernel_rfl) (by kernel_rfl) (fun _ _ _ _ h => h) (fun o ho => ?_) hHeld ?_
 ·simp only [List.getElem?_toArray, List.getElem?_cons_zero, List.getElem?_cons_succ, Option.some.injEq] at ho
  subst ho
  refine Or.inl ⟨by rfl, fun w hSw => ?_⟩
  go_simp
 simp only [Act.put, List.setIfInBounds_toArray, List.set_cons_zero, List.set_cons_succ]
 refine takeH (i := 32) (d := 91) (.bool false) (by kernel_rfl) (by kernel_rfl) (by kernel_rfl) (by kernel_rfl) (fun _ _ _ _ h => h) (fun o ho => ?_) hHeld ?_
 ·simp only [List.getElem?_toArray, List.getElem?_cons_zero, List.getElem?_cons_succ, Option.some.injEq] at ho
  subst ho
  refine Or.inl ⟨by rfl, fun w hSw => ?_⟩
  go_simp
 simp only [Act.put, List.setIfInBounds_toArray, List.set_cons_zero, List.set_cons_succ]
 refine takeH (i := 33) (d := 92) (.bool false) (by kernel_rfl) (by kernel_rfl) (by kernel_rfl) (by kernel_rfl) (fun _ _ _ _ h => h) (fun o ho => ?_) hHeld ?_
 ·simp only [List.getElem?_toArray, List.getElem?_cons_zero, List.getElem?_cons_succ, Option.some.injEq] at ho
  subst ho
  refine Or.inl ⟨by rfl, fun w hSw => ?_⟩
  go_simp
 simp only [Act.put, List.setIfInBounds_toArray, List.set_cons_zero, List.set_cons_succ]
 refine takeH (i := 34) (d := 93) (.agg #[.int .i64 5, .int .i64 0, .string sf, .slice AS 2 cs]) (by kernel_rfl) (by kernel_rfl) (by kernel_rfl) (by kernel_rfl) (fun _ _ _ _ h => h) (fun o ho => ?_) hHeld ?_
 ·simp only [List.getElem?_toArray, List.getElem?_cons_zero, List.getElem?_cons_succ, Option.some.injEq] at ho
  subst ho
  refine Or.inl ⟨by rfl, fun w hSw => ?_⟩
  obtain ⟨-, s0, s1, s2, s3⟩ := hSw
  go_simp
 simp only [Act.put, List.setIfInBounds_toArray, List.set_cons_zero, List.set_cons_succ]
 refine stepH (i := 35) (by kernel_rfl) (by kernel_rfl) (fun o ho K2 hK => ?_)
 simp only [List.getElem?_toArray, List.getElem?_cons_zero, List.getElem?_cons_succ, Option.some.injEq] at ho
 subst ho
 go_simp
 refine (vX 1 _).mono ?_
 rintro e w32x ⟨rfl, hb⟩
 dsimp only
 refine hK.out _ _ (hHeld.below hb) (fun hHeld => ?_)
 clear hK K2
 try simp only [Act.put, List.setIfInBounds_toArray, List.set_cons_zero, List.set_cons_succ]
 clear hb
 refine stepH (i := 36) (by kernel_rfl) (by kernel_rfl) (fun o ho K2 hK => ?_)
 simp only [List.getElem?_toArray, List.getElem?_cons_zero, List.getElem?_cons_succ, Option.some.injEq] at ho
 subst ho
 go_simp
 obtain ⟨W33, hW33⟩ : ∃ W33, W33 = w32x.alloc (.cells #[.int .i64 1, .int .i64 1, .string ⟨#[]⟩, .slice none 0 0] 25) := ⟨_, rfl⟩
 have hbW33 : Below w32x.heap.size w32x W33 := by rw [hW33]; exact below_alloc _ _
 rw [← hW33]
 refine hK.out _ _ (hHeld.below hbW33) (fun hHeld => ?_)
 clear hK K2
 try simp only [Act.put, List.setIfInBounds_toArray, List.set_cons_zero, List.set_cons_succ]
 have R33 : Hid (TmC AllB W33 (some ⟨w32x.heap.size, 0, none⟩) 1 [Tm.va 1]) := Lib.hid (by
  rw [hW33]
  refine lit_make w32x [(Tm.va 1, none, 0)] (fun e he => ?_) (by simp)
  simp only [List.mem_cons, List.not_mem_nil, or_false] at he
  subst he
  exact ⟨by show ByteArray.size ⟨#[]⟩ ≤ 9223372036854775807; decide, nilC _⟩)
 clear hbW33 hW33
 refine stepH (i := 37) (by kernel_rfl) (by kernel_rfl) (fun o ho K2 hK => ?_)
 simp only [List.getElem?_toArray, List.getElem?_cons_zero, List.getElem?_cons_succ, Option.some.injEq] at ho
 subst ho
 go_simp
 refine (fX sg _ _ _ _).mono ?_
 rintro e w34x ⟨rfl, hb⟩
 dsimp only
 refine hK.out _ _ (hHeld.below hb) (fun hHeld => ?_)
 clear hK K2
 try simp only [Act.put, List.setIfInBounds_toArray, List.set_cons_zero, List.set_cons_succ]
 replace R33 := Lib.hid (R33.out.stay hb (Nat.le_refl _))
 clear hb
 refine stepH (i := 38) (by kernel_rfl) (by kernel_rfl) (fun o ho K2 hK => ?_)
 simp only [List.getElem?_toArray, List.getElem?_cons_zero, List.getElem?_cons_succ, Option.some.injEq] at ho
 subst ho
 go_simp
 refine (aX sa _).mono ?_
 rintro e w35x ⟨rfl, hb⟩
 dsimp only
 refine hK.out _ _ (hHeld.below hb) (fun hHeld => ?_)
 clear hK K2
 try simp only [Act.put, List.setIfInBounds_toArray, List.set_cons_zero, List.set_cons_succ]
 replace R33 := Lib.hid (R33.out.stay hb (Nat.le_refl _))
 clear hb
 refine stepH (i := 39) (by kernel_rfl) (by kernel_rfl) (fun o ho K2 hK => ?_)
 simp only [List.getElem?_toArray, List.getElem?_cons_zero, List.getElem?_cons_succ, Option.some.injEq] at ho
 subst ho
 go_simp
 obtain ⟨W36, hW36⟩ : ∃ W36, W36 = w35x.alloc (.cells #[.int .i64 5, .int .i64 0, .string sg, .slice (some ⟨w32x.heap.size, 0, none⟩) 1 1, .int .i64 3, .int .i64 0, .string sa, .slice none 0 0] 25) := ⟨_, rfl⟩
 have hbW36 : Below w35x.heap.size w35x W36 := by rw [hW36]; exact below_alloc _ _
 rw [← hW36]
 refine hK.out _ _ (hHeld.below hbW36) (fun hHeld => ?_)
 clear hK K2
 try simp only [Act.put, List.setIfInBounds_toArray, List.set_cons_zero, List.set_cons_succ]
 have R36 : Hid (TmC AllB W36 (some ⟨w35x.heap.size, 0, none⟩) 2 [Tm.fn sg [Tm.va 1], Tm.at' sa]) := Lib.hid (by
  rw [hW36]
  refine lit_make w35x [(Tm.fn sg [Tm.va 1], some ⟨w32x.heap.size, 0, none⟩, 1), (Tm.at' sa, none, 0)] (fun e he => ?_) (by simp)
  simp only [List.mem_cons, List.not_mem_nil, or_false] at he
  rcases he with rfl | rfl
  ·exact ⟨by show ByteArray.size sg ≤ 9223372036854775807; decide, R33.out⟩
  ·exact ⟨by show ByteArray.size sa ≤ 9223372036854775807; decide, nilC _⟩)
 clear R33
 clear hbW36 hW36
 refine stepH (i := 40) (by kernel_rfl) (by kernel_rfl) (fun o ho K2 hK => ?_)
 simp only [List.getElem?_toArray, List.getElem?_cons_zero, List.getElem?_cons_succ, Option.some.injEq] at ho
 subst ho
 go_simp
 refine (fX sf _ _ _ _).mono ?_
 rintro e w37x ⟨rfl, hb⟩
 dsimp only
 refine hK.out _ _ (hHeld.below hb) (fun hHeld => ?_)
 clear hK K2
 try simp only [Act.put, List.setIfInBounds_toArray, List.set_cons_zero, List.set_cons_succ]
 replace R36 := Lib.hid (R36.out.stay hb (Nat.le_refl _))
 clear hb
 have hc := refSame_calls sR AllB AllB w37x (.agg #[.int .i64 5, .int .i64 0, .string sf, .slice AS 2 cs]) (.agg #[.int .i64 5, .int .i64 0, .string sf, .slice (some ⟨w35x.heap.size, 0, none⟩) 2 2]) sR ⟨AS, cs, rfl, by decide, HSS.out.stay hHeld.1.out (Nat.le_refl _)⟩ ⟨some ⟨w35x.heap.size, 0, none⟩, 2, rfl, by decide, R36.out⟩
 rw [sameB_refl] at hc
 have Hc := Lib.hid hc; clear hc
 clear R36 HSS
 refine stepH (i := 41) (by kernel_rfl) (by kernel_rfl) (fun o ho K2 hK => ?_)
 simp only [List.getElem?_toArray, List.getElem?_cons_zero, List.getElem?_cons_succ, Option.some.injEq] at ho
 subst ho
 go_simp
 refine (Hc.out).mono ?_
 rintro e w38x ⟨rfl, hb⟩
 dsimp only
 refine hK.out _ _ (hHeld.below hb) (fun hHeld => ?_)
 clear hK K2
 try simp only [Act.put, List.setIfInBounds_toArray, List.set_cons_zero, List.set_cons_succ]
 clear hb
 clear Hc
 refine takeH (i := 42) (d := 101) (.bool false) (by kernel_rfl) (by kernel_rfl) (by kernel_rfl) (by kernel_rfl) (fun _ _ _ _ h => h) (fun o ho => ?_) hHeld ?_
 ·simp only [List.getElem?_toArray, List.getElem?_cons_zero, List.getElem?_cons_succ, Option.some.injEq] at ho
  subst ho
  refine Or.inl ⟨by rfl, fun w hSw => ?_⟩
  go_simp
 simp only [Act.put, List.setIfInBounds_toArray, List.set_cons_zero, List.set_cons_succ]
 refine takeH (i := 43) (d := 102) (.bool false) (by kernel_rfl) (by kernel_rfl) (by kernel_rfl) (by kernel_rfl) (fun _ _ _ _ h => h) (fun o ho => ?_) hHeld ?_
 ·simp only [List.getElem?_toArray, List.getElem?_cons_zero, List.getElem?_cons_succ, Option.some.injEq] at ho
  subst ho
  refine Or.inl ⟨by rfl, fun w hSw => ?_⟩
  go_simp
 simp only [Act.put, List.setIfInBounds_toArray, List.set_cons_zero, List.set_cons_succ]
 refine wpAnyH_done (by kernel_rfl) ?_ _
 refine NoPanic.normal ?_
 replace HB := Lib.hid (HB.out.trans (hHeld.1.out.mono HB.out.size))
 clear hHeld
 clear y0 y1 y2 y3 yl
 clear BY
 go_wp2_with fail
 refine (vX 0 _).mono ?_
 rintro e w39 ⟨rfl, hb⟩
 replace HB := Lib.hid (HB.out.trans (hb.mono HB.out.size))
 clear hb
 go_wp2_with fail
 refine (vX 0 _).mono ?_
 rintro e w40 ⟨rfl, hb⟩
 replace HB := Lib.hid (HB.out.trans (hb.mono HB.out.size))
 clear hb
 obtain ⟨W41, hW41⟩ : ∃ W41, W41 = w40.alloc (.cells #[.int .i64 1, .int .i64 0, .string ⟨#[]⟩, .slice none 0 0, .int .i64 1, .int .i64 0, .string ⟨#[]⟩, .slice none 0 0] 25) := ⟨_, rfl⟩
 have hbW41 : Below w40.heap.size w40 W41 := by rw [hW41]; exact below_alloc _ _
 have L41 : Hid (TmC AllB W41 (some ⟨w40.heap.size, 0, none⟩) 2 [Tm.va 0, Tm.va 0]) := Lib.hid (by
  rw [hW41]
  refine lit_make w40 [(Tm.va 0, none, 0), (Tm.va 0, none, 0)] (fun e he => ?_) (by simp)
  simp only [List.mem_cons, List.not_mem_nil, or_false] at he
  rcases he with rfl | rfl
  ·exact ⟨by show ByteArray.size ⟨#[]⟩ ≤ 9223372036854775807; decide, nilC _⟩
  ·exact ⟨by show ByteArray.size ⟨#[]⟩ ≤ 9223372036854775807; decide, nilC _⟩)
 replace HB := Lib.hid (HB.out.trans (hbW41.mono HB.out.size))
 clear hbW41
 go_wp2_with fail
 rw [← hW41]
 clear hW41
 refine (fX sf _ _ _ _).mono ?_
 rintro e w42 ⟨rfl, hb⟩
 replace HB := Lib.hid (HB.out.trans (hb.mono HB.out.size))
 replace L41 := Lib.hid (L41.out.stay hb (Nat.le_refl _))
 clear hb
 go_wp2_with fail
 refine (aX sa _).mono ?_
 rintro e w43 ⟨rfl, hb⟩
 replace HB := Lib.hid (HB.out.trans (hb.mono HB.out.size))
 replace L41 := Lib.hid (L41.out.stay hb (Nat.le_refl _))
 clear hb
 go_wp2_with fail
 refine (aX sa _).mono ?_
 rintro e w44 ⟨rfl, hb⟩
 replace HB := Lib.hid (HB.out.trans (hb.mono HB.out.size))
 replace L41 := Lib.hid (L41.out.stay hb (Nat.le_refl _))
 clear hb
 obtain ⟨W45, hW45⟩ : ∃ W45, W45 = w44.alloc (.cells #[.int .i64 3, .int .i64 0, .string sa, .slice none 0 0, .int .i64 3, .int .i64 0, .string sa, .slice none 0 0] 25) := ⟨_, rfl⟩
 have hbW45 : Below w44.heap.size w44 W45 := by rw [hW45]; exact below_alloc _ _
 have L45 : Hid (TmC AllB W45 (some ⟨w44.heap.size, 0, none⟩) 2 [Tm.at' sa, Tm.at' sa]) := Lib.hid (by
  rw [hW45]
  refine lit_make w44 [(Tm.at' sa, none, 0), (Tm.at' sa, none, 0)] (fun e he => ?_) (by simp)
  simp only [List.mem_cons, List.not_mem_nil, or_false] at he
  rcases he with rfl | rfl
  ·exact ⟨by show ByteArray.size sa ≤ 9223372036854775807; decide, nilC _⟩
  ·exact ⟨by show ByteArray.size sa ≤ 9223372036854775807; decide, nilC _⟩)
 replace HB := Lib.hid (HB.out.trans (hbW45.mono HB.out.size))
 replace L41 := Lib.hid (L41.out.stay hbW45 (Nat.le_refl _))
 clear hbW45
 go_wp2_with fail
 rw [← hW45]
 clear hW45
 refine (fX sf _ _ _ _).mono ?_
 rintro e w46 ⟨rfl, hb⟩
 replace HB := Lib.hid (HB.out.trans (hb.mono HB.out.size))
 replace L41 := Lib.hid (L41.out.stay hb (Nat.le_refl _))
 replace L45 := Lib.hid (L45.out.stay hb (Nat.le_refl _))
 clear hb
 have hc := matchTop_calls sM sM1 AllB AllB w46 _ _ ⟨some ⟨w40.heap.size, 0, none⟩, 2, rfl, by decide, L41.out⟩ ⟨some ⟨w44.heap.size, 0, none⟩, 2, rfl, by decide, L45.out⟩
 rw [sM_all.1, if_pos rfl, s_match1, show errT true = 0 from rfl] at hc
 clear L41 L45
 have hc2 : Calls Try.prog 35 _ w46 fun e w2 => ∃ A c, e = .returned (.tuple #[.slice A 1 c, .bool true, .int .i64 0]) ∧ TmC AllB w2 A c [Tm.at' sa] ∧ Below w46.heap.size w46 w2 := hc.mono (fun e w2 ⟨A, c, h1, h3, h4⟩ => ⟨A, c, h1, h3.mono (fun _ _ => trivial), h4⟩)
 have Hc := Lib.hid hc2; clear hc hc2
 go_wp2_with fail
 refine (Hc.out).mono ?_
 rintro e w47 ⟨AM, cm, rfl, hsm, hb⟩
 replace HB := Lib.hid (HB.out.trans (hb.mono HB.out.size))
 clear hb
 clear Hc
 have HSM := Lib.hid hsm; clear hsm
 go_wp2_with fail
 refine (vX 0 _).mono ?_
 rintro e w48 ⟨rfl, hb⟩
 replace HB := Lib.hid (HB.out.trans (hb.mono HB.out.size))
 replace HSM := Lib.hid (HSM.out.stay hb (Nat.le_refl _))
 clear hb
 go_wp2_with fail
 refine (vX 0 _).mono ?_
 rintro e w49 ⟨rfl, hb⟩
 replace HB := Lib.hid (HB.out.trans (hb.mono HB.out.size))
 replace HSM := Lib.hid (HSM.out.stay hb (Nat.le_refl _))
 clear hb
 obtain ⟨W50, hW50⟩ : ∃ W50, W50 = w49.alloc (.cells #[.int .i64 1, .int .i64 0, .string ⟨#[]⟩, .slice none 0 0, .int .i64 1, .int .i64 0, .string ⟨#[]⟩, .slice none 0 0] 25) := ⟨_, rfl⟩
 have hbW50 : Below w49.heap.size w49 W50 := by rw [hW50]; exact below_alloc _ _
 have L50 : Hid (TmC AllB W50 (some ⟨w49.heap.size, 0, none⟩) 2 [Tm.va 0, Tm.va 0]) := Lib.hid (by
  rw [hW50]
  refine lit_make w49 [(Tm.va 0, none, 0), (Tm.va 0, none, 0)] (fun e he => ?_) (by simp)
  simp only [List.mem_cons, List.not_mem_nil, or_false] at he
  rcases he with rfl | rfl
  ·exact ⟨by show ByteArray.size ⟨#[]⟩ ≤ 9223372036854775807; decide, nilC _⟩
  ·exact ⟨by show ByteArray.size ⟨#[]⟩ ≤ 9223372036854775807; decide, nilC _⟩)
 replace HB := Lib.hid (HB.out.trans (hbW50.mono HB.out.size))
 replace HSM := Lib.hid (HSM.out.stay hbW50 (Nat.le_refl _))
 clear hbW50
 go_wp2_with fail
 rw [← hW50]
 clear hW50
 refine (fX sf _ _ _ _).mono ?_
 rintro e w51 ⟨rfl, hb⟩
 replace HB := Lib.hid (HB.out.trans (hb.mono HB.out.size))
 replace HSM := Lib.hid (HSM.out.stay hb (Nat.le_refl _))
 replace L50 := Lib.hid (L50.out.stay hb (Nat.le_refl _))
 clear hb
 go_wp2_with fail
 refine (aX sa _).mono ?_
 rintro e w52 ⟨rfl, hb⟩
 replace HB := Lib.hid (HB.out.trans (hb.mono HB.out.size))
 replace HSM := Lib.hid (HSM.out.stay hb (Nat.le_refl _))
 replace L50 := Lib.hid (L50.out.stay hb (Nat.le_refl _))
 clear hb
 go_wp2_with fail
 refine (aX sb _).mono ?_
 rintro e w53 ⟨rfl, hb⟩
 replace HB := Lib.hid (HB.out.trans (hb.mono HB.out.size))
 replace HSM := Lib.hid (HSM.out.stay hb (Nat.le_refl _))
 replace L50 := Lib.hid (L50.out.stay hb (Nat.le_refl _))
 clear hb
 obtain ⟨W54, hW54⟩ : ∃ W54, W54 = w53.alloc (.cells #[.int .i64 3, .int .i64 0, .string sa, .slice none 0 0, .int .i64 3, .int .i64 0, .string sb, .slice none 0 0] 25) := ⟨_, rfl⟩
 have hbW54 : Below w53.heap.size w53 W54 := by rw [hW54]; exact below_alloc _ _
 have L54 : Hid (TmC AllB W54 (some ⟨w53.heap.size, 0, none⟩) 2 [Tm.at' sa, Tm.at' sb]) := Lib.hid (by
  rw [hW54]
  refine lit_make w53 [(Tm.at' sa, none, 0), (Tm.at' sb, none, 0)] (fun e he => ?_) (by simp)
  simp only [List.mem_cons, List.not_mem_nil, or_false] at he
  rcases he with rfl | rfl
  ·exact ⟨by show ByteArray.size sa ≤ 9223372036854775807; decide, nilC _⟩
  ·exact ⟨by show ByteArray.size sb ≤ 9223372036854775807; decide, nilC _⟩)
 replace HB := Lib.hid (HB.out.trans (hbW54.mono HB.out.size))
 replace HSM := Lib.hid (HSM.out.stay hbW54 (Nat.le_refl _))
 replace L50 := Lib.hid (L50.out.stay hbW54 (Nat.le_refl _))
 clear hbW54
 go_wp2_with fail
 rw [← hW54]
 clear hW54
 refine (fX sf _ _ _ _).mono ?_
 rintro e w55 ⟨rfl, hb⟩
 replace HB := Lib.hid (HB.out.trans (hb.mono HB.out.size))
 replace HSM := Lib.hid (HSM.out.stay hb (Nat.le_refl _))
 replace L50 := Lib.hid (L50.out.stay hb (Nat.le_refl _))
 replace L54 := Lib.hid (L54.out.stay hb (Nat.le_refl _))
 clear hb
 have hc := matchTop_calls sM sM2 AllB AllB w55 _ _ ⟨some ⟨w49.heap.size, 0, none⟩, 2, rfl, by decide, L50.out⟩ ⟨some ⟨w53.heap.size, 0, none⟩, 2, rfl, by decide, L54.out⟩
 rw [sM_all.2, if_pos rfl, s_match2, show errT true = 0 from rfl] at hc
 clear L50 L54
 have hc2 : Calls Try.prog 35 _ w55 fun e w2 => ∃ A c, e = .returned (.tuple #[.slice A 0 c, .bool false, .int .i64 0]) ∧ Below w55.heap.size w55 w2 := hc.mono (fun e w2 ⟨A, c, h1, h3, h4⟩ => ⟨A, c, h1, h4⟩)
 have Hc := Lib.hid hc2; clear hc hc2
 go_wp2_with fail
 refine (Hc.out).mono ?_
 rintro e w56 ⟨A0, c0, rfl, hb⟩
 replace HB := Lib.hid (HB.out.trans (hb.mono HB.out.size))
 replace HSM := Lib.hid (HSM.out.stay hb (Nat.le_refl _))
 clear hb
 clear Hc
 go_wp2_with fail
 refine (aX sa _).mono ?_
 rintro e w57 ⟨rfl, hb⟩
 replace HB := Lib.hid (HB.out.trans (hb.mono HB.out.size))
 replace HSM := Lib.hid (HSM.out.stay hb (Nat.le_refl _))
 clear hb
 go_wp2_with fail
 refine (aX sa _).mono ?_
 rintro e w58 ⟨rfl, hb⟩
 replace HB := Lib.hid (HB.out.trans (hb.mono HB.out.size))
 replace HSM := Lib.hid (HSM.out.stay hb (Nat.le_refl _))
 clear hb
 obtain ⟨W59, hW59⟩ : ∃ W59, W59 = w58.alloc (.cells #[.int .i64 3, .int .i64 0, .string sa, .slice none 0 0] 25) := ⟨_, rfl⟩
 have hbW59 : Below w58.heap.size w58 W59 := by rw [hW59]; exact below_alloc _ _
 have L59 : Hid (TmC AllB W59 (some ⟨w58.heap.size, 0, none⟩) 1 [Tm.at' sa]) := Lib.hid (by
  rw [hW59]
  refine lit_make w58 [(Tm.at' sa, none, 0)] (fun e he => ?_) (by simp)
  simp only [List.mem_cons, List.not_mem_nil, or_false] at he
  subst he
  exact ⟨by show ByteArray.size sa ≤ 9223372036854775807; decide, nilC _⟩)
 replace HB := Lib.hid (HB.out.trans (hbW59.mono HB.out.size))
 replace HSM := Lib.hid (HSM.out.stay hbW59 (Nat.le_refl _))
 clear hbW59
 go_wp2_with fail
 rw [← hW59]
 clear hW59
 refine (fX sg _ _ _ _).mono ?_
 rintro e w60 ⟨rfl, hb⟩
 replace HB := Lib.hid (HB.out.trans (hb.mono HB.out.size))
 replace HSM := Lib.hid (HSM.out.stay hb (Nat.le_refl _))
 replace L59 := Lib.hid (L59.out.stay hb (Nat.le_refl _))
 clear hb
 go_wp2_with fail
 refine (aX sa _).mono ?_
 rintro e w61 ⟨rfl, hb⟩
 replace HB := Lib.hid (HB.out.trans (hb.mono HB.out.size))
 replace HSM := Lib.hid (HSM.out.stay hb (Nat.le_refl _))
 replace L59 := Lib.hid (L59.out.stay hb (Nat.le_refl _))
 clear hb
 obtain ⟨W62, hW62⟩ : ∃ W62, W62 = w61.alloc (.cells #[.int .i64 3, .int .i64 0, .string sa, .slice none 0 0, .int .i64 5, .int .i64 0, .string sg, .slice (some ⟨w58.heap.size, 0, none⟩) 1 1, .int .i64 3, .int .i64 0, .string sa, .slice none 0 0] 25) := ⟨_, rfl⟩
 have hbW62 : Below w61.heap.size w61 W62 := by rw [hW62]; exact below_alloc _ _
 have L62 : Hid (TmC AllB W62 (some ⟨w61.heap.size, 0, none⟩) 3 [Tm.at' sa, Tm.fn sg [Tm.at' sa], Tm.at' sa]) := Lib.hid (by
  rw [hW62]
  refine lit_make w61 [(Tm.at' sa, none, 0), (Tm.fn sg [Tm.at' sa], some ⟨w58.heap.size, 0, none⟩, 1), (Tm.at' sa, none, 0)] (fun e he => ?_) (by simp)
  simp only [List.mem_cons, List.not_mem_nil, or_false] at he
  rcases he with rfl | rfl | rfl
  ·exact ⟨by show ByteArray.size sa ≤ 9223372036854775807; decide, nilC _⟩
  ·exact ⟨by show ByteArray.size sg ≤ 9223372036854775807; decide, L59.out⟩
  ·exact ⟨by show ByteArray.size sa ≤ 9223372036854775807; decide, nilC _⟩)
 replace HB := Lib.hid (HB.out.trans (hbW62.mono HB.out.size))
 replace HSM := Lib.hid (HSM.out.stay hbW62 (Nat.le_refl _))
 replace L59 := Lib.hid (L59.out.stay hbW62 (Nat.le_refl _))
 clear hbW62
 clear L59
 go_wp2_with fail
 rw [← hW62]
 clear hW62
 refine (fX sf _ _ _ _).mono ?_
 rintro e w63 ⟨rfl, hb⟩
 replace HB := Lib.hid (HB.out.trans (hb.mono HB.out.size))
 replace HSM := Lib.hid (HSM.out.stay hb (Nat.le_refl _))
 replace L62 := Lib.hid (L62.out.stay hb (Nat.le_refl _))
 clear hb
 go_wp2_with fail
 refine (aX sb _).mono ?_
 rintro e w64 ⟨rfl, hb⟩
 replace HB := Lib.hid (HB.out.trans (hb.mono HB.out.size))
 replace HSM := Lib.hid (HSM.out.stay hb (Nat.le_refl _))
 replace L62 := Lib.hid (L62.out.stay hb (Nat.le_refl _))
 clear hb
 go_wp2_with fail
 refine (aX sb _).mono ?_
 rintro e w65 ⟨rfl, hb⟩
 replace HB := Lib.hid (HB.out.trans (hb.mono HB.out.size))
 replace HSM := Lib.hid (HSM.out.stay hb (Nat.le_refl _))
 replace L62 := Lib.hid (L62.out.stay hb (Nat.le_refl _))
 clear hb
 obtain ⟨W66, hW66⟩ : ∃ W66, W66 = w65.alloc (.cells #[.int .i64 3, .int .i64 0, .string sb, .slice none 0 0] 25) := ⟨_, rfl⟩
 have hbW66 : Below w65.heap.size w65 W66 := by rw [hW66]; exact below_alloc _ _
 have L66 : Hid (TmC AllB W66 (some ⟨w65.heap.size, 0, none⟩) 1 [Tm.at' sb]) := Lib.hid (by
  rw [hW66]
  refine lit_make w65 [(Tm.at' sb, none, 0)] (fun e he => ?_) (by simp)
  simp only [List.mem_cons, List.not_mem_nil, or_false] at he
  subst he
  exact ⟨by show ByteArray.size sb ≤ 9223372036854775807; decide, nilC _⟩)
 replace HB := Lib.hid (HB.out.trans (hbW66.mono HB.out.size))
 replace HSM := Lib.hid (HSM.out.stay hbW66 (Nat.le_refl _))
 replace L62 := Lib.hid (L62.out.stay hbW66 (Nat.le_refl _))
 clear hbW66
 go_wp2_with fail
 rw [← hW66]
 clear hW66
 refine (fX sg _ _ _ _).mono ?_
 rintro e w67 ⟨rfl, hb⟩
 replace HB := Lib.hid (HB.out.trans (hb.mono HB.out.size))
 replace HSM := Lib.hid (HSM.out.stay hb (Nat.le_refl _))
 replace L62 := Lib.hid (L62.out.stay hb (Nat.le_refl _))
 replace L66 := Lib.hid (L66.out.stay hb (Nat.le_refl _))
 clear hb
 go_wp2_with fail
 refine (aX sc _).mono ?_
 rintro e w68 ⟨rfl, hb⟩
 replace HB := Lib.hid (HB.out.trans (hb.mono HB.out.size))
 replace HSM := Lib.hid (HSM.out.stay hb (Nat.le_refl _))
 replace L62 := Lib.hid (L62.out.stay hb (Nat.le_refl _))
 replace L66 := Lib.hid (L66.out.stay hb (Nat.le_refl _))
 clear hb
 obtain ⟨W69, hW69⟩ : ∃ W69, W69 = w68.alloc (.cells #[.int .i64 3, .int .i64 0, .string sb, .slice none 0 0, .int .i64 5, .int .i64 0, .string sg, .slice (some ⟨w65.heap.size, 0, none⟩) 1 1, .int .i64 3, .int .i64 0, .string sc, .slice none 0 0] 25) := ⟨_, rfl⟩
 have hbW69 : Below w68.heap.size w68 W69 := by rw [hW69]; exact below_alloc _ _
 have L69 : Hid (TmC AllB W69 (some ⟨w68.heap.size, 0, none⟩) 3 [Tm.at' sb, Tm.fn sg [Tm.at' sb], Tm.at' sc]) := Lib.hid (by
  rw [hW69]
  refine lit_make w68 [(Tm.at' sb, none, 0), (Tm.fn sg [Tm.at' sb], some ⟨w65.heap.size, 0, none⟩, 1), (Tm.at' sc, none, 0)] (fun e he => ?_) (by simp)
  simp only [List.mem_cons, List.not_mem_nil, or_false] at he
  rcases he with rfl | rfl | rfl
  ·exact ⟨by show ByteArray.size sb ≤ 9223372036854775807; decide, nilC _⟩
  ·exact ⟨by show ByteArray.size sg ≤ 9223372036854775807; decide, L66.out⟩
  ·exact ⟨by show ByteArray.size sc ≤ 9223372036854775807; decide, nilC _⟩)
 replace HB := Lib.hid (HB.out.trans (hbW69.mono HB.out.size))
 replace HSM := Lib.hid (HSM.out.stay hbW69 (Nat.le_refl _))
 replace L62 := Lib.hid (L62.out.stay hbW69 (Nat.le_refl _))
 replace L66 := Lib.hid (L66.out.stay hbW69 (Nat.le_refl _))
 clear hbW69
 clear L66
 go_wp2_with fail
 rw [← hW69]
 clear hW69
 refine (fX sf _ _ _ _).mono ?_
 rintro e w70 ⟨rfl, hb⟩
 replace HB := Lib.hid (HB.out.trans (hb.mono HB.out.size))
 replace HSM := Lib.hid (HSM.out.stay hb (Nat.le_refl _))
 replace L62 := Lib.hid (L62.out.stay hb (Nat.le_refl _))
 replace L69 := Lib.hid (L69.out.stay hb (Nat.le_refl _))
 clear hb
 have hc := generalTop_calls sG1 sG2 AllB AllB w70 _ _ ⟨some ⟨w61.heap.size, 0, none⟩, 3, rfl, by decide, L62.out⟩ ⟨some ⟨w68.heap.size, 0, none⟩, 3, rfl, by decide, L69.out⟩
 rw [sG_all, if_pos rfl, s_gen] at hc
 clear L62 L69
 have hc2 : Calls Try.prog 37 _ w70 fun e w2 => ∃ A c, e = .returned (.tuple #[.agg #[.int .i64 5, .int .i64 0, .string sf, .slice A 3 c], .int .i64 0]) ∧ TmC AllB w2 A c sG.l ∧ Below w70.heap.size w70 w2 := hc.mono (fun e w2 ⟨A, c, h1, _, h3, h4⟩ => ⟨A, c, h1, h3.mono (fun _ _ => trivial), h4⟩)
 have Hc := Lib.hid hc2; clear hc hc2
 go_wp2_with fail
 refine (Hc.out).mono ?_
 rintro e w71 ⟨AG, cg, rfl, hsg, hb⟩
 replace HB := Lib.hid (HB.out.trans (hb.mono HB.out.size))
 replace HSM := Lib.hid (HSM.out.stay hb (Nat.le_refl _))
 clear hb
 clear Hc
 have HSG : Hid (TmC AllB w71 AG cg sG.l) := Lib.hid hsg; clear hsg
 obtain ⟨W72, hW72⟩ : ∃ W72, W72 = w71.alloc (.cells #[.int .i64 5, .int .i64 0, .string sf, .slice AG 3 cg] 25) := ⟨_, rfl⟩
 have hbW72 : Below w71.heap.size w71 W72 := by rw [hW72]; exact below_alloc _ _
 have BZ : Hid (Blk W72 w71.heap.size 25 #[.int .i64 5, .int .i64 0, .string sf, .slice AG 3 cg]) := Lib.hid (by rw [hW72]; exact Blk.new _ _ _)
 replace HB := Lib.hid (HB.out.trans (hbW72.mono HB.out.size))
 replace HSM := Lib.hid (HSM.out.stay hbW72 (Nat.le_refl _))
 replace HSG := Lib.hid (HSG.out.stay hbW72 (Nat.le_refl _))
 clear hbW72
 go_wp2_with fail
 rw [← hW72]
 clear hW72
 refine (vX 2 _).mono ?_
 rintro e w73 ⟨rfl, hb⟩
 replace HB := Lib.hid (HB.out.trans (hb.mono HB.out.size))
 replace HSM := Lib.hid (HSM.out.stay hb (Nat.le_refl _))
 replace HSG := Lib.hid (HSG.out.stay hb (Nat.le_refl _))
 replace BZ := Lib.hid (BZ.out.below hb BZ.out.lt)
 clear hb
 go_wp2_with fail
 refine (vX 0 _).mono ?_
 rintro e w74 ⟨rfl, hb⟩
 replace HB := Lib.hid (HB.out.trans (hb.mono HB.out.size))
 replace HSM := Lib.hid (HSM.out.stay hb (Nat.le_refl _))
 replace HSG := Lib.hid (HSG.out.stay hb (Nat.le_refl _))
 replace BZ := Lib.hid (BZ.out.below hb BZ.out.lt)
 clear hb
 obtain ⟨W75, hW75⟩ : ∃ W75, W75 = w74.alloc (.cells #[.int .i64 1, .int .i64 2, .string ⟨#[]⟩, .slice none 0 0, .int .i64 1, .int .i64 0, .string ⟨#[]⟩, .slice none 0 0] 25) := ⟨_, rfl⟩
 have hbW75 : Below w74.heap.size w74 W75 := by rw [hW75]; exact below_alloc _ _
 have L75 : Hid (TmC AllB W75 (some ⟨w74.heap.size, 0, none⟩) 2 [Tm.va 2, Tm.va 0]) := Lib.hid (by
  rw [hW75]
  refine lit_make w74 [(Tm.va 2, none, 0), (Tm.va 0, none, 0)] (fun e he => ?_) (by simp)
  simp only [List.mem_cons, List.not_mem_nil, or_false] at he
  rcases he with rfl | rfl
  ·exact ⟨by show ByteArray.size ⟨#[]⟩ ≤ 9223372036854775807; decide, nilC _⟩
  ·exact ⟨by show ByteArray.size ⟨#[]⟩ ≤ 9223372036854775807; decide, nilC _⟩)
 replace HB := Lib.hid (HB.out.trans (hbW75.mono HB.out.size))
 replace HSM := Lib.hid (HSM.out.stay hbW75 (Nat.le_refl _))
 replace HSG := Lib.hid (HSG.out.stay hbW75 (Nat.le_refl _))
 replace BZ := Lib.hid (BZ.out.below hbW75 BZ.out.lt)
 clear hbW75
 go_wp2_with fail
 rw [← hW75]
 clear hW75
 refine (fX sf _ _ _ _).mono ?_
 rintro e w76 ⟨rfl, hb⟩
 replace HB := Lib.hid (HB.out.trans (hb.mono HB.out.size))
 replace HSM := Lib.hid (HSM.out.stay hb (Nat.le_refl _))
 replace HSG := Lib.hid (HSG.out.stay hb (Nat.le_refl _))
 replace L75 := Lib.hid (L75.out.stay hb (Nat.le_refl _))
 replace BZ := Lib.hid (BZ.out.below hb BZ.out.lt)
 clear hb
 go_wp2_with fail
 refine (vX 2 _).mono ?_
 rintro e w77 ⟨rfl, hb⟩
 replace HB := Lib.hid (HB.out.trans (hb.mono HB.out.size))
 replace HSM := Lib.hid (HSM.out.stay hb (Nat.le_refl _))
 replace HSG := Lib.hid (HSG.out.stay hb (Nat.le_refl _))
 replace L75 := Lib.hid (L75.out.stay hb (Nat.le_refl _))
 replace BZ := Lib.hid (BZ.out.below hb BZ.out.lt)
 clear hb
 obtain ⟨W78, hW78⟩ : ∃ W78, W78 = w77.alloc (.cells #[.int .i64 5, .int .i64 0, .string sf, .slice (some ⟨w74.heap.size, 0, none⟩) 2 2, .int .i64 1, .int .i64 2, .string ⟨#[]⟩, .slice none 0 0] 25) := ⟨_, rfl⟩
 have hbW78 : Below w77.heap.size w77 W78 := by rw [hW78]; exact below_alloc _ _
 have L78 : Hid (TmC AllB W78 (some ⟨w77.heap.size, 0, none⟩) 2 [Tm.fn sf [Tm.va 2, Tm.va 0], Tm.va 2]) := Lib.hid (by
  rw [hW78]
  refine lit_make w77 [(Tm.fn sf [Tm.va 2, Tm.va 0], some ⟨w74.heap.size, 0, none⟩, 2), (Tm.va 2, none, 0)] (fun e he => ?_) (by simp)
  simp only [List.mem_cons, List.not_mem_nil, or_false] at he
  rcases he with rfl | rfl
  ·exact ⟨by show ByteArray.size sf ≤ 9223372036854775807; decide, L75.out⟩
  ·exact ⟨by show ByteArray.size ⟨#[]⟩ ≤ 9223372036854775807; decide, nilC _⟩)
 replace HB := Lib.hid (HB.out.trans (hbW78.mono HB.out.size))
 replace HSM := Lib.hid (HSM.out.stay hbW78 (Nat.le_refl _))
 replace HSG := Lib.hid (HSG.out.stay hbW78 (Nat.le_refl _))
 replace L75 := Lib.hid (L75.out.stay hbW78 (Nat.le_refl _))
 replace BZ := Lib.hid (BZ.out.below hbW78 BZ.out.lt)
 clear hbW78
 clear L75
 have hc := normal_calls sN AllB (some ⟨w77.heap.size, 0, none⟩) 2 W78 L78.out
 rw [sN_all, if_pos rfl, if_pos rfl, s_norm, sN_vars, show errT true = 0 from rfl] at hc
 clear L78
 have hc2 : Calls Try.prog 29 _ W78 fun e w2 => ∃ A c B d, e = .returned (.tuple #[.slice A 2 c, .slice B 2 d, .int .i64 0]) ∧ TmC AllB w2 A c sN' ∧ (Rd w2 B (([2, 0] : List Int).flatMap encI) ∧ 2 ≤ d ∧ d ≤ 9223372036854775807) ∧ Below W78.heap.size W78 w2 := hc.mono (fun e w2 ⟨A, c, v, h1, h3, h5, h6, h4⟩ => by
  obtain ⟨B, d, rfl⟩ := own_slice h5
  have hlc : 2 ≤ d ∧ d ≤ 9223372036854775807 := by
   rcases h5.2 with ⟨_, h0⟩ | ⟨g, cap, cur, hv, _, _, k1, k2, _⟩
   ·cases h0
   ·injection hv with _ _ hv; subst hv; exact ⟨k1, by simpa [maxLen] using k2⟩
  exact ⟨A, c, B, d, h1, h3.mono (fun _ _ => trivial), ⟨by rw [flatMap_encI]; exact own_rd h5, hlc⟩, h4⟩)
 have Hc := Lib.hid hc2; clear hc hc2
 go_wp2_with fail
 rw [← hW78]
 clear hW78
 refine (Hc.out).mono ?_
 rintro e w79 ⟨AN, cn, AV, cv, rfl, hsn, ⟨hrv, hv1, hv2⟩, hb⟩
 replace HB := Lib.hid (HB.out.trans (hb.mono HB.out.size))
 replace HSM := Lib.hid (HSM.out.stay hb (Nat.le_refl _))
 replace HSG := Lib.hid (HSG.out.stay hb (Nat.le_refl _))
 replace BZ := Lib.hid (BZ.out.below hb BZ.out.lt)
 clear hb
 clear Hc
 have HSN := Lib.hid hsn; clear hsn
 have HRV := Lib.hid hrv; clear hrv
 go_wp2_with fail
 obtain ⟨⟨y0, y1, y2, y3⟩, -⟩ := BZ.out.four
 have yl := BZ.out.lt
 refine wp_region_noPanic ?_
 refine wp_region_held_drew (S := S6 w79 w71.heap.size AG 3 cg) (by kernel_rfl) ?_ (fun hHeld => ?_)
 ·exact ⟨Lib.hid ((Below.refl _ _).drew), y0, y1, y2, y3⟩
 refine takeH (i := 0) (d := 158) (.int .i64 0) (by kernel_rfl) (by kernel_rfl) (by kernel_rfl) (by kernel_rfl) (fun _ _ _ _ h => h) (fun o ho => ?_) hHeld ?_
 ·simp only [List.getElem?_toArray, List.getElem?_cons_zero, List.getElem?_cons_succ, Option.some.injEq] at ho
  subst ho
  refine Or.inl ⟨by rfl, fun w hSw => ?_⟩
  go_simp
 simp only [Act.put, List.setIfInBounds_toArray, List.set_cons_zero, List.set_cons_succ]
 refine takeH (i := 1) (d := 159) (.bool true) (by kernel_rfl) (by kernel_rfl) (by kernel_rfl) (by kernel_rfl) (fun _ _ _ _ h => h) (fun o ho => ?_) hHeld ?_
 ·simp only [List.getElem?_toArray, List.getElem?_cons_zero, List.getElem?_cons_succ, Option.some.injEq] at ho
  subst ho
  refine Or.inl ⟨by rfl, fun w hSw => ?_⟩
  go_simp
 simp only [Act.put, List.setIfInBounds_toArray, List.set_cons_zero, List.set_cons_succ]
 refine takeH (i := 2) (d := 160) (.bool true) (by kernel_rfl) (by kernel_rfl) (by kernel_rfl) (by kernel_rfl) (fun _ _ _ _ h => h) (fun o ho => ?_) hHeld ?_
 ·simp only [List.getElem?_toArray, List.getElem?_cons_zero, List.getElem?_cons_succ, Option.some.injEq] at ho
  subst ho
  refine Or.inl ⟨by rfl, fun w hSw => ?_⟩
  go_simp
 simp only [Act.put, List.setIfInBounds_toArray, List.set_cons_zero, List.set_cons_succ]
 refine takeH (i := 3) (d := 161) (.bool true) (by kernel_rfl) (by kernel_rfl) (by kernel_rfl) (by kernel_rfl) (fun _ _ _ _ h => h) (fun o ho => ?_) hHeld ?_
 ·simp only [List.getElem?_toArray, List.getElem?_cons_zero, List.getElem?_cons_succ, Option.some.injEq] at ho
  subst ho
  refine Or.inl ⟨by rfl, fun w hSw => ?_⟩
  go_simp
 simp only [Act.put, List.setIfInBounds_toArray, List.set_cons_zero, List.set_cons_succ]
 refine takeH (i := 4) (d := 162) (.bool true) (by kernel_rfl) (by kernel_rfl) (by kernel_rfl) (by kernel_rfl) (fun _ _ _ _ h => h) (fun o ho => ?_) hHeld ?_
 ·simp only [List.getElem?_toArray, List.getElem?_cons_zero, List.getElem?_cons_succ, Option.some.injEq] at ho
  subst ho
  refine Or.inl ⟨by rfl, fun w hSw => ?_⟩
  go_simp
 simp only [Act.put, List.setIfInBounds_toArray, List.set_cons_zero, List.set_cons_succ]
 refine takeH (i := 5) (d := 163) (.bool true) (by kernel_rfl) (by kernel_rfl) (by kernel_rfl) (by kernel_rfl) (fun _ _ _ _ h => h) (fun o ho => ?_) hHeld ?_
 ·simp only [List.getElem?_toArray, List.getElem?_cons_zero, List.getElem?_cons_succ, Option.some.injEq] at ho
  subst ho
  refine Or.inl ⟨by rfl, fun w hSw => ?_⟩
  go_simp
 simp only [Act.put, List.setIfInBounds_toArray, List.set_cons_zero, List.set_cons_succ]
 refine takeH (i := 6) (d := 164) (.slice AM 1 cm) (by kernel_rfl) (by kernel_rfl) (by kernel_rfl) (by kernel_rfl) (fun _ _ _ _ h => h) (fun o ho => ?_) hHeld ?_
 ·simp only [List.getElem?_toArray, List.getElem?_cons_zero, List.getElem?_cons_succ, Option.some.injEq] at ho
  subst ho
  refine Or.inl ⟨by rfl, fun w hSw => ?_⟩
  go_simp
 simp only [Act.put, List.setIfInBounds_toArray, List.set_cons_zero, List.set_cons_succ]
 obtain ⟨WD, hWD⟩ : ∃ WD, WD = w79.drew := ⟨_, rfl⟩
 rw [← hWD] at hHeld ⊢
 clear hWD
 refine stepH (i := 7) (by kernel_rfl) (by kernel_rfl) (fun o ho K2 hK => ?_)
 simp only [List.getElem?_toArray, List.getElem?_cons_zero, List.getElem?_cons_succ, Option.some.injEq] at ho
 subst ho
 go_simp
 refine (aX sa _).mono ?_
 rintro e w80x ⟨rfl, hb⟩
 dsimp only
 refine hK.out _ _ (hHeld.below hb) (fun hHeld => ?_)
 clear hK K2
 try simp only [Act.put, List.setIfInBounds_toArray, List.set_cons_zero, List.set_cons_succ]
 clear hb
 refine stepH (i := 8) (by kernel_rfl) (by kernel_rfl) (fun o ho K2 hK => ?_)
 simp only [List.getElem?_toArray, List.getElem?_cons_zero, List.getElem?_cons_succ, Option.some.injEq] at ho
 subst ho
 go_simp
 obtain ⟨W81, hW81⟩ : ∃ W81, W81 = w80x.alloc (.cells #[.int .i64 3, .int .i64 0, .string sa, .slice none 0 0] 25) := ⟨_, rfl⟩
 have hbW81 : Below w80x.heap.size w80x W81 := by rw [hW81]; exact below_alloc _ _
 rw [← hW81]
 refine hK.out _ _ (hHeld.below hbW81) (fun hHeld => ?_)
 clear hK K2
 try simp only [Act.put, List.setIfInBounds_toArray, List.set_cons_zero, List.set_cons_succ]
 have R81 : Hid (TmC AllB W81 (some ⟨w80x.heap.size, 0, none⟩) 1 [Tm.at' sa]) := Lib.hid (by
  rw [hW81]
  refine lit_make w80x [(Tm.at' sa, none, 0)] (fun e he => ?_) (by simp)
  simp only [List.mem_cons, List.not_mem_nil, or_false] at he
  subst he
  exact ⟨by show ByteArray.size sa ≤ 9223372036854775807; decide, nilC _⟩)
 clear hbW81 hW81
 have hc := sameAll_calls [Tm.at' sa] [Tm.at' sa] AM cm (some ⟨w80x.heap.size, 0, none⟩) 1 AllB AllB W81 (HSM.out.stay hHeld.1.out (Nat.le_refl _)) R81.out
 rw [sameL_iff.2 rfl] at hc
 have Hc := Lib.hid hc; clear hc
 clear R81 HSM
 refine stepH (i := 9) (by kernel_rfl) (by kernel_rfl) (fun o ho K2 hK => ?_)
 simp only [List.getElem?_toArray, List.getElem?_cons_zero, List.getElem?_cons_succ, Option.some.injEq] at ho
 subst ho
 go_simp
 refine (Hc.out).mono ?_
 rintro e w82x ⟨rfl, hb⟩
 dsimp only
 refine hK.out _ _ (hHeld.below hb) (fun hHeld => ?_)
 clear hK K2
 try simp only [Act.put, List.setIfInBounds_toArray, List.set_cons_zero, List.set_cons_succ]
 clear hb
 clear Hc
 refine takeH (i := 10) (d := 168) (.bool true) (by kernel_rfl) (by kernel_rfl) (by kernel_rfl) (by kernel_rfl) (fun _ _ _ _ h => h) (fun o ho => ?_) hHeld ?_
 ·simp only [List.getElem?_toArray, List.getElem?_cons_zero, List.getElem?_cons_succ, Option.some.injEq] at ho
  subst ho
  refine Or.inl ⟨by rfl, fun w hSw => ?_⟩
  go_simp
 simp only [Act.put, List.setIfInBounds_toArray, List.set_cons_zero, List.set_cons_succ]
 refine takeH (i := 11) (d := 169) (.bool true) (by kernel_rfl) (by kernel_rfl) (by kernel_rfl) (by kernel_rfl) (fun _ _ _ _ h => h) (fun o ho => ?_) hHeld ?_
 ·simp only [List.getElem?_toArray, List.getElem?_cons_zero, List.getElem?_cons_succ, Option.some.injEq] at ho
  subst ho
  refine Or.inl ⟨by rfl, fun w hSw => ?_⟩
  go_simp
 simp only [Act.put, List.setIfInBounds_toArray, List.set_cons_zero, List.set_cons_succ]
 refine takeH (i := 12) (d := 170) (.int .i64 0) (by kernel_rfl) (by kernel_rfl) (by kernel_rfl) (by kernel_rfl) (fun _ _ _ _ h => h) (fun o ho => ?_) hHeld ?_
 ·simp only [List.getElem?_toArray, List.getElem?_cons_zero, List.getElem?_cons_succ, Option.some.injEq] at ho
  subst ho
  refine Or.inl ⟨by rfl, fun w hSw => ?_⟩
  go_simp
 simp only [Act.put, List.setIfInBounds_toArray, List.set_cons_zero, List.set_cons_succ]
 refine takeH (i := 13) (d := 171) (.bool true) (by kernel_rfl) (by kernel_rfl) (by kernel_rfl) (by kernel_rfl) (fun _ _ _ _ h => h) (fun o ho => ?_) hHeld ?_
 ·simp only [List.getElem?_toArray, List.getElem?_cons_zero, List.getElem?_cons_succ, Option.some.injEq] at ho
  subst ho
  refine Or.inl ⟨by rfl, fun w hSw => ?_⟩
  go_simp
 simp only [Act.put, List.setIfInBounds_toArray, List.set_cons_zero, List.set_cons_succ]
 refine takeH (i := 14) (d := 172) (.bool true) (by kernel_rfl) (by kernel_rfl) (by kernel_rfl) (by kernel_rfl) (fun _ _ _ _ h => h) (fun o ho => ?_) hHeld ?_
 ·simp only [List.getElem?_toArray, List.getElem?_cons_zero, List.getElem?_cons_succ, Option.some.injEq] at ho
  subst ho
  refine Or.inl ⟨by rfl, fun w hSw => ?_⟩
  go_simp
 simp only [Act.put, List.setIfInBounds_toArray, List.set_cons_zero, List.set_cons_succ]
 refine takeH (i := 15) (d := 173) (.bool true) (by kernel_rfl) (by kernel_rfl) (by kernel_rfl) (by kernel_rfl) (fun _ _ _ _ h => h) (fun o ho => ?_) hHeld ?_
 ·simp only [List.getElem?_toArray, List.getElem?_cons_zero, List.getElem?_cons_succ, Option.some.injEq] at ho
  subst ho
  refine Or.inl ⟨by rfl, fun w hSw => ?_⟩
  go_simp
 simp only [Act.put, List.setIfInBounds_toArray, List.set_cons_zero, List.set_cons_succ]
 refine takeH (i := 16) (d := 174) (.bool false) (by kernel_rfl) (by kernel_rfl) (by kernel_rfl) (by kernel_rfl) (fun _ _ _ _ h => h) (fun o ho => ?_) hHeld ?_
 ·simp only [List.getElem?_toArray, List.getElem?_cons_zero, List.getElem?_cons_succ, Option.some.injEq] at ho
  subst ho
  refine Or.inl ⟨by rfl, fun w hSw => ?_⟩
  go_simp
 simp only [Act.put, List.setIfInBounds_toArray, List.set_cons_zero, List.set_cons_succ]
 refine takeH (i := 17) (d := 175) (.bool true) (by kernel_rfl) (by kernel_rfl) (by kernel_rfl) (by kernel_rfl) (fun _ _ _ _ h => h) (fun o ho => ?_) hHeld ?_
 ·simp only [List.getElem?_toArray, List.getElem?_cons_zero, List.getElem?_cons_succ, Option.some.injEq] at ho
  subst ho
  refine Or.inl ⟨by rfl, fun w hSw => ?_⟩
  go_simp
 simp only [Act.put, List.setIfInBounds_toArray, List.set_cons_zero, List.set_cons_succ]
 refine takeH (i := 18) (d := 176) (.bool true) (by kernel_rfl) (by kernel_rfl) (by kernel_rfl) (by kernel_rfl) (fun _ _ _ _ h => h) (fun o ho => ?_) hHeld ?_
 ·simp only [List.getElem?_toArray, List.getElem?_cons_zero, List.getElem?_cons_succ, Option.some.injEq] at ho
  subst ho
  refine Or.inl ⟨by rfl, fun w hSw => ?_⟩
  go_simp
 simp only [Act.put, List.setIfInBounds_toArray, List.set_cons_zero, List.set_cons_succ]
 refine takeH (i := 19) (d := 177) (.bool true) (by kernel_rfl) (by kernel_rfl) (by kernel_rfl) (by kernel_rfl) (fun _ _ _ _ h => h) (fun o ho => ?_) hHeld ?_
 ·simp only [List.getElem?_toArray, List.getElem?_cons_zero, List.getElem?_cons_succ, Option.some.injEq] at ho
  subst ho
  refine Or.inl ⟨by rfl, fun w hSw => ?_⟩
  go_simp
 simp only [Act.put, List.setIfInBounds_toArray, List.set_cons_zero, List.set_cons_succ]
 refine takeH (i := 20) (d := 178) (.int .i64 0) (by kernel_rfl) (by kernel_rfl) (by kernel_rfl) (by kernel_rfl) (fun _ _ _ _ h => h) (fun o ho => ?_) hHeld ?_
 ·simp only [List.getElem?_toArray, List.getElem?_cons_zero, List.getElem?_cons_succ, Option.some.injEq] at ho
  subst ho
  refine Or.inl ⟨by rfl, fun w hSw => ?_⟩
  go_simp
 simp only [Act.put, List.setIfInBounds_toArray, List.set_cons_zero, List.set_cons_succ]
 refine takeH (i := 21) (d := 179) (.bool true) (by kernel_rfl) (by kernel_rfl) (by kernel_rfl) (by kernel_rfl) (fun _ _ _ _ h => h) (fun o ho => ?_) hHeld ?_
 ·simp only [List.getElem?_toArray, List.getElem?_cons_zero, List.getElem?_cons_succ, Option.some.injEq] at ho
  subst ho
  refine Or.inl ⟨by rfl, fun w hSw => ?_⟩
  go_simp
 simp only [Act.put, List.setIfInBounds_toArray, List.set_cons_zero, List.set_cons_succ]
 refine takeH (i := 22) (d := 180) (.bool true) (by kernel_rfl) (by kernel_rfl) (by kernel_rfl) (by kernel_rfl) (fun _ _ _ _ h => h) (fun o ho => ?_) hHeld ?_
 ·simp only [List.getElem?_toArray, List.getElem?_cons_zero, List.getElem?_cons_succ, Option.some.injEq] at ho
  subst ho
  refine Or.inl ⟨by rfl, fun w hSw => ?_⟩
  go_simp
 simp only [Act.put, List.setIfInBounds_toArray, List.set_cons_zero, List.set_cons_succ]
 refine takeH (i := 23) (d := 181) (.bool true) (by kernel_rfl) (by kernel_rfl) (by kernel_rfl) (by kernel_rfl) (fun _ _ _ _ h => h) (fun o ho => ?_) hHeld ?_
 ·simp only [List.getElem?_toArray, List.getElem?_cons_zero, List.getElem?_cons_succ, Option.some.injEq] at ho
  subst ho
  refine Or.inl ⟨by rfl, fun w hSw => ?_⟩
  go_simp
 simp only [Act.put, List.setIfInBounds_toArray, List.set_cons_zero, List.set_cons_succ]
 refine takeH (i := 24) (d := 182) (.agg #[.int .i64 5, .int .i64 0, .string sf, .slice AG 3 cg]) (by kernel_rfl) (by kernel_rfl) (by kernel_rfl) (by kernel_rfl) (fun _ _ _ _ h => h) (fun o ho => ?_) hHeld ?_
 ·simp only [List.getElem?_toArray, List.getElem?_cons_zero, List.getElem?_cons_succ, Option.some.injEq] at ho
  subst ho
  refine Or.inl ⟨by rfl, fun w hSw => ?_⟩
  obtain ⟨-, s0, s1, s2, s3⟩ := hSw
  go_simp
 simp only [Act.put, List.setIfInBounds_toArray, List.set_cons_zero, List.set_cons_succ]
 refine stepH (i := 25) (by kernel_rfl) (by kernel_rfl) (fun o ho K2 hK => ?_)
 simp only [List.getElem?_toArray, List.getElem?_cons_zero, List.getElem?_cons_succ, Option.some.injEq] at ho
 subst ho
 go_simp
 refine (vX 0 _).mono ?_
 rintro e w83x ⟨rfl, hb⟩
 dsimp only
 refine hK.out _ _ (hHeld.below hb) (fun hHeld => ?_)
 clear hK K2
 try simp only [Act.put, List.setIfInBounds_toArray, List.set_cons_zero, List.set_cons_succ]
 clear hb
 refine stepH (i := 26) (by kernel_rfl) (by kernel_rfl) (fun o ho K2 hK => ?_)
 simp only [List.getElem?_toArray, List.getElem?_cons_zero, List.getElem?_cons_succ, Option.some.injEq] at ho
 subst ho
 go_simp
 refine (vX 0 _).mono ?_
 rintro e w84x ⟨rfl, hb⟩
 dsimp only
 refine hK.out _ _ (hHeld.below hb) (fun hHeld => ?_)
 clear hK K2
 try simp only [Act.put, List.setIfInBounds_toArray, List.set_cons_zero, List.set_cons_succ]
 clear hb
 refine stepH (i := 27) (by kernel_rfl) (by kernel_rfl) (fun o ho K2 hK => ?_)
 simp only [List.getElem?_toArray, List.getElem?_cons_zero, List.getElem?_cons_succ, Option.some.injEq] at ho
 subst ho
 go_simp
 obtain ⟨W85, hW85⟩ : ∃ W85, W85 = w84x.alloc (.cells #[.int .i64 1, .int .i64 0, .string ⟨#[]⟩, .slice none 0 0] 25) := ⟨_, rfl⟩
 have hbW85 : Below w84x.heap.size w84x W85 := by rw [hW85]; exact below_alloc _ _
 rw [← hW85]
 refine hK.out _ _ (hHeld.below hbW85) (fun hHeld => ?_)
 clear hK K2
 try simp only [Act.put, List.setIfInBounds_toArray, List.set_cons_zero, List.set_cons_succ]
 have R85 : Hid (TmC AllB W85 (some ⟨w84x.heap.size, 0, none⟩) 1 [Tm.va 0]) := Lib.hid (by
  rw [hW85]
  refine lit_make w84x [(Tm.va 0, none, 0)] (fun e he => ?_) (by simp)
  simp only [List.mem_cons, List.not_mem_nil, or_false] at he
  subst he
  exact ⟨by show ByteArray.size ⟨#[]⟩ ≤ 9223372036854775807; decide, nilC _⟩)
 clear hbW85 hW85
 refine stepH (i := 28) (by kernel_rfl) (by kernel_rfl) (fun o ho K2 hK => ?_)
 simp only [List.getElem?_toArray, List.getElem?_cons_zero, List.getElem?_cons_succ, Option.some.injEq] at ho
 subst ho
 go_simp
 refine (fX sg _ _ _ _).mono ?_
 rintro e w86x ⟨rfl, hb⟩
 dsimp only
 refine hK.out _ _ (hHeld.below hb) (fun hHeld => ?_)
 clear hK K2
 try simp only [Act.put, List.setIfInBounds_toArray, List.set_cons_zero, List.set_cons_succ]
 replace R85 := Lib.hid (R85.out.stay hb (Nat.le_refl _))
 clear hb
 refine stepH (i := 29) (by kernel_rfl) (by kernel_rfl) (fun o ho K2 hK => ?_)
 simp only [List.getElem?_toArray, List.getElem?_cons_zero, List.getElem?_cons_succ, Option.some.injEq] at ho
 subst ho
 go_simp
 refine (vX 1 _).mono ?_
 rintro e w87x ⟨rfl, hb⟩
 dsimp only
 refine hK.out _ _ (hHeld.below hb) (fun hHeld => ?_)
 clear hK K2
 try simp only [Act.put, List.setIfInBounds_toArray, List.set_cons_zero, List.set_cons_succ]
 replace R85 := Lib.hid (R85.out.stay hb (Nat.le_refl _))
 clear hb
 refine stepH (i := 30) (by kernel_rfl) (by kernel_rfl) (fun o ho K2 hK => ?_)
 simp only [List.getElem?_toArray, List.getElem?_cons_zero, List.getElem?_cons_succ, Option.some.injEq] at ho
 subst ho
 go_simp
 obtain ⟨W88, hW88⟩ : ∃ W88, W88 = w87x.alloc (.cells #[.int .i64 1, .int .i64 0, .string ⟨#[]⟩, .slice none 0 0, .int .i64 5, .int .i64 0, .string sg, .slice (some ⟨w84x.heap.size, 0, none⟩) 1 1, .int .i64 1, .int .i64 1, .string ⟨#[]⟩, .slice none 0 0] 25) := ⟨_, rfl⟩
 have hbW88 : Below w87x.heap.size w87x W88 := by rw [hW88]; exact below_alloc _ _
 rw [← hW88]
 refine hK.out _ _ (hHeld.below hbW88) (fun hHeld => ?_)
 clear hK K2
 try simp only [Act.put, List.setIfInBounds_toArray, List.set_cons_zero, List.set_cons_succ]
 have R88 : Hid (TmC AllB W88 (some ⟨w87x.heap.size, 0, none⟩) 3 [Tm.va 0, Tm.fn sg [Tm.va 0], Tm.va 1]) := Lib.hid (by
  rw [hW88]
  refine lit_make w87x [(Tm.va 0, none, 0), (Tm.fn sg [Tm.va 0], some ⟨w84x.heap.size, 0, none⟩, 1), (Tm.va 1, none, 0)] (fun e he => ?_) (by simp)
  simp only [List.mem_cons, List.not_mem_nil, or_false] at he
  rcases he with rfl | rfl | rfl
  ·exact ⟨by show ByteArray.size ⟨#[]⟩ ≤ 9223372036854775807; decide, nilC _⟩
  ·exact ⟨by show ByteArray.size sg ≤ 9223372036854775807; decide, R85.out⟩
  ·exact ⟨by show ByteArray.size ⟨#[]⟩ ≤ 9223372036854775807; decide, nilC _⟩)
 clear R85
 clear hbW88 hW88
 refine stepH (i := 31) (by kernel_rfl) (by kernel_rfl) (fun o ho K2 hK => ?_)
 simp only [List.getElem?_toArray, List.getElem?_cons_zero, List.getElem?_cons_succ, Option.some.injEq] at ho
 subst ho
 go_simp
 refine (fX sf _ _ _ _).mono ?_
 rintro e w89x ⟨rfl, hb⟩
 dsimp only
 refine hK.out _ _ (hHeld.below hb) (fun hHeld => ?_)
 clear hK K2
 try simp only [Act.put, List.setIfInBounds_toArray, List.set_cons_zero, List.set_cons_succ]
 replace R88 := Lib.hid (R88.out.stay hb (Nat.le_refl _))
 clear hb
 have hc := refSame_calls sG AllB AllB w89x (.agg #[.int .i64 5, .int .i64 0, .string sf, .slice AG 3 cg]) (.agg #[.int .i64 5, .int .i64 0, .string sf, .slice (some ⟨w87x.heap.size, 0, none⟩) 3 3]) sG ⟨AG, cg, rfl, by decide, HSG.out.stay hHeld.1.out (Nat.le_refl _)⟩ ⟨some ⟨w87x.heap.size, 0, none⟩, 3, rfl, by decide, R88.out⟩
 rw [sameB_refl] at hc
 have Hc := Lib.hid hc; clear hc
 clear R88 HSG
 refine stepH (i := 32) (by kernel_rfl) (by kernel_rfl) (fun o ho K2 hK => ?_)
 simp only [List.getElem?_toArray, List.getElem?_cons_zero, List.getElem?_cons_succ, Option.some.injEq] at ho
 subst ho
 go_simp
 refine (Hc.out).mono ?_
 rintro e w90x ⟨rfl, hb⟩
 dsimp only
 refine hK.out _ _ (hHeld.below hb) (fun hHeld => ?_)
 clear hK K2
 try simp only [Act.put, List.setIfInBounds_toArray, List.set_cons_zero, List.set_cons_succ]
 clear hb
 clear Hc
 refine takeH (i := 33) (d := 191) (.bool true) (by kernel_rfl) (by kernel_rfl) (by kernel_rfl) (by kernel_rfl) (fun _ _ _ _ h => h) (fun o ho => ?_) hHeld ?_
 ·simp only [List.getElem?_toArray, List.getElem?_cons_zero, List.getElem?_cons_succ, Option.some.injEq] at ho
  subst ho
  refine Or.inl ⟨by rfl, fun w hSw => ?_⟩
  go_simp
 simp only [Act.put, List.setIfInBounds_toArray, List.set_cons_zero, List.set_cons_succ]
 refine takeH (i := 34) (d := 192) (.bool true) (by kernel_rfl) (by kernel_rfl) (by kernel_rfl) (by kernel_rfl) (fun _ _ _ _ h => h) (fun o ho => ?_) hHeld ?_
 ·simp only [List.getElem?_toArray, List.getElem?_cons_zero, List.getElem?_cons_succ, Option.some.injEq] at ho
  subst ho
  refine Or.inl ⟨by rfl, fun w hSw => ?_⟩
  go_simp
 simp only [Act.put, List.setIfInBounds_toArray, List.set_cons_zero, List.set_cons_succ]
 refine takeH (i := 35) (d := 193) (.int .i64 0) (by kernel_rfl) (by kernel_rfl) (by kernel_rfl) (by kernel_rfl) (fun _ _ _ _ h => h) (fun o ho => ?_) hHeld ?_
 ·simp only [List.getElem?_toArray, List.getElem?_cons_zero, List.getElem?_cons_succ, Option.some.injEq] at ho
  subst ho
  refine Or.inl ⟨by rfl, fun w hSw => ?_⟩
  go_simp
 simp only [Act.put, List.setIfInBounds_toArray, List.set_cons_zero, List.set_cons_succ]
 refine takeH (i := 36) (d := 194) (.bool true) (by kernel_rfl) (by kernel_rfl) (by kernel_rfl) (by kernel_rfl) (fun _ _ _ _ h => h) (fun o ho => ?_) hHeld ?_
 ·simp only [List.getElem?_toArray, List.getElem?_cons_zero, List.getElem?_cons_succ, Option.some.injEq] at ho
  subst ho
  refine Or.inl ⟨by rfl, fun w hSw => ?_⟩
  go_simp
 simp only [Act.put, List.setIfInBounds_toArray, List.set_cons_zero, List.set_cons_succ]
 refine takeH (i := 37) (d := 195) (.bool true) (by kernel_rfl) (by kernel_rfl) (by kernel_rfl) (by kernel_rfl) (fun _ _ _ _ h => h) (fun o ho => ?_) hHeld ?_
 ·simp only [List.getElem?_toArray, List.getElem?_cons_zero, List.getElem?_cons_succ, Option.some.injEq] at ho
  subst ho
  refine Or.inl ⟨by rfl, fun w hSw => ?_⟩
  go_simp
 simp only [Act.put, List.setIfInBounds_toArray, List.set_cons_zero, List.set_cons_succ]
 refine takeH (i := 38) (d := 196) (.bool true) (by kernel_rfl) (by kernel_rfl) (by kernel_rfl) (by kernel_rfl) (fun _ _ _ _ h => h) (fun o ho => ?_) hHeld ?_
 ·simp only [List.getElem?_toArray, List.getElem?_cons_zero, List.getElem?_cons_succ, Option.some.injEq] at ho
  subst ho
  refine Or.inl ⟨by rfl, fun w hSw => ?_⟩
  go_simp
 simp only [Act.put, List.setIfInBounds_toArray, List.set_cons_zero, List.set_cons_succ]
 refine takeH (i := 39) (d := 197) (.slice AN 2 cn) (by kernel_rfl) (by kernel_rfl) (by kernel_rfl) (by kernel_rfl) (fun _ _ _ _ h => h) (fun o ho => ?_) hHeld ?_
 ·simp only [List.getElem?_toArray, List.getElem?_cons_zero, List.getElem?_cons_succ, Option.some.injEq] at ho
  subst ho
  refine Or.inl ⟨by rfl, fun w hSw => ?_⟩
  go_simp
 simp only [Act.put, List.setIfInBounds_toArray, List.set_cons_zero, List.set_cons_succ]
 refine stepH (i := 40) (by kernel_rfl) (by kernel_rfl) (fun o ho K2 hK => ?_)
 simp only [List.getElem?_toArray, List.getElem?_cons_zero, List.getElem?_cons_succ, Option.some.injEq] at ho
 subst ho
 go_simp
 refine (vX 0 _).mono ?_
 rintro e w91x ⟨rfl, hb⟩
 dsimp only
 refine hK.out _ _ (hHeld.below hb) (fun hHeld => ?_)
 clear hK K2
 try simp only [Act.put, List.setIfInBounds_toArray, List.set_cons_zero, List.set_cons_succ]
 clear hb
 refine stepH (i := 41) (by kernel_rfl) (by kernel_rfl) (fun o ho K2 hK => ?_)
 simp only [List.getElem?_toArray, List.getElem?_cons_zero, List.getElem?_cons_succ, Option.some.injEq] at ho
 subst ho
 go_simp
 refine (vX 1 _).mono ?_
 rintro e w92x ⟨rfl, hb⟩
 dsimp only
 refine hK.out _ _ (hHeld.below hb) (fun hHeld => ?_)
 clear hK K2
 try simp only [Act.put, List.setIfInBounds_toArray, List.set_cons_zero, List.set_cons_succ]
 clear hb
 refine stepH (i := 42) (by kernel_rfl) (by kernel_rfl) (fun o ho K2 hK => ?_)
 simp only [List.getElem?_toArray, List.getElem?_cons_zero, List.getElem?_cons_succ, Option.some.injEq] at ho
 subst ho
 go_simp
 obtain ⟨W93, hW93⟩ : ∃ W93, W93 = w92x.alloc (.cells #[.int .i64 1, .int .i64 0, .string ⟨#[]⟩, .slice none 0 0, .int .i64 1, .int .i64 1, .string ⟨#[]⟩, .slice none 0 0] 25) := ⟨_, rfl⟩
 have hbW93 : Below w92x.heap.size w92x W93 := by rw [hW93]; exact below_alloc _ _
 rw [← hW93]
 refine hK.out _ _ (hHeld.below hbW93) (fun hHeld => ?_)
 clear hK K2
 try simp only [Act.put, List.setIfInBounds_toArray, List.set_cons_zero, List.set_cons_succ]
 have R93 : Hid (TmC AllB W93 (some ⟨w92x.heap.size, 0, none⟩) 2 [Tm.va 0, Tm.va 1]) := Lib.hid (by
  rw [hW93]
  refine lit_make w92x [(Tm.va 0, none, 0), (Tm.va 1, none, 0)] (fun e he => ?_) (by simp)
  simp only [List.mem_cons, List.not_mem_nil, or_false] at he
  rcases he with rfl | rfl
  ·exact ⟨by show ByteArray.size ⟨#[]⟩ ≤ 9223372036854775807; decide, nilC _⟩
  ·exact ⟨by show ByteArray.size ⟨#[]⟩ ≤ 9223372036854775807; decide, nilC _⟩)
 clear hbW93 hW93
 refine stepH (i := 43) (by kernel_rfl) (by kernel_rfl) (fun o ho K2 hK => ?_)
 simp only [List.getElem?_toArray, List.getElem?_cons_zero, List.getElem?_cons_succ, Option.some.injEq] at ho
 subst ho
 go_simp
 refine (fX sf _ _ _ _).mono ?_
 rintro e w94x ⟨rfl, hb⟩
 dsimp only
 refine hK.out _ _ (hHeld.below hb) (fun hHeld => ?_)
 clear hK K2
 try simp only [Act.put, List.setIfInBounds_toArray, List.set_cons_zero, List.set_cons_succ]
 replace R93 := Lib.hid (R93.out.stay hb (Nat.le_refl _))
 clear hb
 refine stepH (i := 44) (by kernel_rfl) (by kernel_rfl) (fun o ho K2 hK => ?_)
 simp only [List.getElem?_toArray, List.getElem?_cons_zero, List.getElem?_cons_succ, Option.some.injEq] at ho
 subst ho
 go_simp
 refine (vX 0 _).mono ?_
 rintro e w95x ⟨rfl, hb⟩
 dsimp only
 refine hK.out _ _ (hHeld.below hb) (fun hHeld => ?_)
 clear hK K2
 try simp only [Act.put, List.setIfInBounds_toArray, List.set_cons_zero, List.set_cons_succ]
 replace R93 := Lib.hid (R93.out.stay hb (Nat.le_refl _))
 clear hb
 refine stepH (i := 45) (by kernel_rfl) (by kernel_rfl) (fun o ho K2 hK => ?_)
 simp only [List.getElem?_toArray, List.getElem?_cons_zero, List.getElem?_cons_succ, Option.some.injEq] at ho
 subst ho
 go_simp
 obtain ⟨W96, hW96⟩ : ∃ W96, W96 = w95x.alloc (.cells #[.int .i64 5, .int .i64 0, .string sf, .slice (some ⟨w92x.heap.size, 0, none⟩) 2 2, .int .i64 1, .int .i64 0, .string ⟨#[]⟩, .slice none 0 0] 25) := ⟨_, rfl⟩
 have hbW96 : Below w95x.heap.size w95x W96 := by rw [hW96]; exact below_alloc _ _
 rw [← hW96]
 refine hK.out _ _ (hHeld.below hbW96) (fun hHeld => ?_)
 clear hK K2
 try simp only [Act.put, List.setIfInBounds_toArray, List.set_cons_zero, List.set_cons_succ]
 have R96 : Hid (TmC AllB W96 (some ⟨w95x.heap.size, 0, none⟩) 2 [Tm.fn sf [Tm.va 0, Tm.va 1], Tm.va 0]) := Lib.hid (by
  rw [hW96]
  refine lit_make w95x [(Tm.fn sf [Tm.va 0, Tm.va 1], some ⟨w92x.heap.size, 0, none⟩, 2), (Tm.va 0, none, 0)] (fun e he => ?_) (by simp)
  simp only [List.mem_cons, List.not_mem_nil, or_false] at he
  rcases he with rfl | rfl
  ·exact ⟨by show ByteArray.size sf ≤ 9223372036854775807; decide, R93.out⟩
  ·exact ⟨by show ByteArray.size ⟨#[]⟩ ≤ 9223372036854775807; decide, nilC _⟩)
 clear R93
 clear hbW96 hW96
 have hc := sameAll_calls sN' sN' AN cn (some ⟨w95x.heap.size, 0, none⟩) 2 AllB AllB W96 (HSN.out.stay hHeld.1.out (Nat.le_refl _)) R96.out
 rw [sameL_iff.2 rfl] at hc
 have Hc := Lib.hid hc; clear hc
 clear R96 HSN
 refine stepH (i := 46) (by kernel_rfl) (by kernel_rfl) (fun o ho K2 hK => ?_)
 simp only [List.getElem?_toArray, List.getElem?_cons_zero, List.getElem?_cons_succ, Option.some.injEq] at ho
 subst ho
 go_simp
 refine (Hc.out).mono ?_
 rintro e w97x ⟨rfl, hb⟩
 dsimp only
 refine hK.out _ _ (hHeld.below hb) (fun hHeld => ?_)
 clear hK K2
 try simp only [Act.put, List.setIfInBounds_toArray, List.set_cons_zero, List.set_cons_succ]
 clear hb
 clear Hc
 refine takeH (i := 47) (d := 205) (.bool true) (by kernel_rfl) (by kernel_rfl) (by kernel_rfl) (by kernel_rfl) (fun _ _ _ _ h => h) (fun o ho => ?_) hHeld ?_
 ·simp only [List.getElem?_toArray, List.getElem?_cons_zero, List.getElem?_cons_succ, Option.some.injEq] at ho
  subst ho
  refine Or.inl ⟨by rfl, fun w hSw => ?_⟩
  go_simp
 simp only [Act.put, List.setIfInBounds_toArray, List.set_cons_zero, List.set_cons_succ]
 refine takeH (i := 48) (d := 206) (.bool true) (by kernel_rfl) (by kernel_rfl) (by kernel_rfl) (by kernel_rfl) (fun _ _ _ _ h => h) (fun o ho => ?_) hHeld ?_
 ·simp only [List.getElem?_toArray, List.getElem?_cons_zero, List.getElem?_cons_succ, Option.some.injEq] at ho
  subst ho
  refine Or.inl ⟨by rfl, fun w hSw => ?_⟩
  go_simp
 simp only [Act.put, List.setIfInBounds_toArray, List.set_cons_zero, List.set_cons_succ]
 refine takeH (i := 49) (d := 207) (.slice AV 2 cv) (by kernel_rfl) (by kernel_rfl) (by kernel_rfl) (by kernel_rfl) (fun _ _ _ _ h => h) (fun o ho => ?_) hHeld ?_
 ·simp only [List.getElem?_toArray, List.getElem?_cons_zero, List.getElem?_cons_succ, Option.some.injEq] at ho
  subst ho
  refine Or.inl ⟨by rfl, fun w hSw => ?_⟩
  go_simp
 simp only [Act.put, List.setIfInBounds_toArray, List.set_cons_zero, List.set_cons_succ]
 refine stepH (i := 50) (by kernel_rfl) (by kernel_rfl) (fun o ho K2 hK => ?_)
 simp only [List.getElem?_toArray, List.getElem?_cons_zero, List.getElem?_cons_succ, Option.some.injEq] at ho
 subst ho
 go_simp
 obtain ⟨W98, hW98⟩ : ∃ W98, W98 = w97x.alloc (.cells #[.int .i64 2, .int .i64 0] 3) := ⟨_, rfl⟩
 have hbW98 : Below w97x.heap.size w97x W98 := by rw [hW98]; exact below_alloc _ _
 rw [← hW98]
 refine hK.out _ _ (hHeld.below hbW98) (fun hHeld => ?_)
 clear hK K2
 try simp only [Act.put, List.setIfInBounds_toArray, List.set_cons_zero, List.set_cons_succ]
 have hr2 : Rd W98 (some ⟨w97x.heap.size, 0, none⟩) (([2, 0] : List Int).flatMap encI) := fun _ => ⟨_, _, rfl, fun j v hj => by rw [Nat.zero_add, hW98, (Blk.new w97x 3 #[.int .i64 2, .int .i64 0]).cell j]; rw [flatMap_encI] at hj; simpa using hj⟩
 have hc := equalInt_calls [2, 0] [2, 0] AV cv (some ⟨w97x.heap.size, 0, none⟩) 2 W98 (HRV.out.below hHeld.1.out (Nat.le_refl _)) hr2 hv1 hv2 (by decide) (by decide)
 rw [decide_eq_true rfl] at hc
 have Hc := Lib.hid hc; clear hc hr2 HRV
 clear hbW98 hW98
 refine stepH (i := 51) (by kernel_rfl) (by kernel_rfl) (fun o ho K2 hK => ?_)
 simp only [List.getElem?_toArray, List.getElem?_cons_zero, List.getElem?_cons_succ, Option.some.injEq] at ho
 subst ho
 go_simp
 refine (Hc.out).mono ?_
 rintro e w99x ⟨rfl, hb⟩
 dsimp only
 refine hK.out _ _ (hHeld.below hb) (fun hHeld => ?_)
 clear hK K2
 try simp only [Act.put, List.setIfInBounds_toArray, List.set_cons_zero, List.set_cons_succ]
 clear hb
 clear Hc
 refine takeH (i := 52) (d := 210) (.bool true) (by kernel_rfl) (by kernel_rfl) (by kernel_rfl) (by kernel_rfl) (fun _ _ _ _ h => h) (fun o ho => ?_) hHeld ?_
 ·simp only [List.getElem?_toArray, List.getElem?_cons_zero, List.getElem?_cons_succ, Option.some.injEq] at ho
  subst ho
  refine Or.inl ⟨by rfl, fun w hSw => ?_⟩
  go_simp
 simp only [Act.put, List.setIfInBounds_toArray, List.set_cons_zero, List.set_cons_succ]
 refine takeH (i := 53) (d := 211) (.bool true) (by kernel_rfl) (by kernel_rfl) (by kernel_rfl) (by kernel_rfl) (fun _ _ _ _ h => h) (fun o ho => ?_) hHeld ?_
 ·simp only [List.getElem?_toArray, List.getElem?_cons_zero, List.getElem?_cons_succ, Option.some.injEq] at ho
  subst ho
  refine Or.inl ⟨by rfl, fun w hSw => ?_⟩
  go_simp
 simp only [Act.put, List.setIfInBounds_toArray, List.set_cons_zero, List.set_cons_succ]
 refine takeH (i := 54) (d := 212) (.agg #[.int .i64 0, .int .i64 0, .string ⟨#[]⟩, .slice none 0 0]) (by kernel_rfl) (by kernel_rfl) (by kernel_rfl) (by kernel_rfl) (fun _ _ _ _ h => h) (fun o ho => ?_) hHeld ?_
 ·simp only [List.getElem?_toArray, List.getElem?_cons_zero, List.getElem?_cons_succ, Option.some.injEq] at ho
  subst ho
  refine Or.inl ⟨by rfl, fun w hSw => ?_⟩
  go_simp
 simp only [Act.put, List.setIfInBounds_toArray, List.set_cons_zero, List.set_cons_succ]
 have hc := check_calls Tm.zero AllB w99x _ (TmV.zero _ _)
 rw [s_check0, show errT false = 3 from rfl] at hc
 have Hc := Lib.hid hc; clear hc
 refine stepH (i := 55) (by kernel_rfl) (by kernel_rfl) (fun o ho K2 hK => ?_)
 simp only [List.getElem?_toArray, List.getElem?_cons_zero, List.getElem?_cons_succ, Option.some.injEq] at ho
 subst ho
 go_simp
 refine (Hc.out).mono ?_
 rintro e w100x ⟨rfl, hb⟩
 dsimp only
 refine hK.out _ _ (hHeld.below hb) (fun hHeld => ?_)
 clear hK K2
 try simp only [Act.put, List.setIfInBounds_toArray, List.set_cons_zero, List.set_cons_succ]
 clear hb
 clear Hc
 refine takeH (i := 56) (d := 214) (.bool true) (by kernel_rfl) (by kernel_rfl) (by kernel_rfl) (by kernel_rfl) (fun _ _ _ _ h => h) (fun o ho => ?_) hHeld ?_
 ·simp only [List.getElem?_toArray, List.getElem?_cons_zero, List.getElem?_cons_succ, Option.some.injEq] at ho
  subst ho
  refine Or.inl ⟨by rfl, fun w hSw => ?_⟩
  go_simp
 simp only [Act.put, List.setIfInBounds_toArray, List.set_cons_zero, List.set_cons_succ]
 refine takeH (i := 57) (d := 215) (.bool true) (by kernel_rfl) (by kernel_rfl) (by kernel_rfl) (by kernel_rfl) (fun _ _ _ _ h => h) (fun o ho => ?_) hHeld ?_
 ·simp only [List.getElem?_toArray, List.getElem?_cons_zero, List.getElem?_cons_succ, Option.some.injEq] at ho
  subst ho
  refine Or.inl ⟨by rfl, fun w hSw => ?_⟩
  go_simp
 simp only [Act.put, List.setIfInBounds_toArray, List.set_cons_zero, List.set_cons_succ]
 refine takeH (i := 58) (d := 0) (.bool true) (by kernel_rfl) (by kernel_rfl) (by kernel_rfl) (by kernel_rfl) (fun _ _ _ _ h => h) (fun o ho => ?_) hHeld ?_
 ·simp only [List.getElem?_toArray, List.getElem?_cons_zero, List.getElem?_cons_succ, Option.some.injEq] at ho
  subst ho
  refine Or.inl ⟨by rfl, fun w hSw => ?_⟩
  go_simp
 simp only [Act.put, List.setIfInBounds_toArray, List.set_cons_zero, List.set_cons_succ]
 refine wpAnyH_done (by kernel_rfl) ?_ _
 refine NoPanic.normal ?_
 replace HB := Lib.hid (HB.out.trans (hHeld.1.out.mono HB.out.size))
 clear hHeld
 clear y0 y1 y2 y3 yl
 clear BZ
 go_wp2
 go_ret
 exact ⟨rfl, HB.out⟩
end Go.Proofs.Ytfhgknmkpegpbaa
set_option linter.unusedVariables false
set_option linter.unusedSimpArgs false
namespace Go.Proofs.Ytfhgknmkpegpbaa
open Go Go.Abs Go.Proofs Go.RowKit
theorem bridge {P : Program} {f : FuncId} (he : Abs.Enters P f) {args : List AV} {r : AV} (h : ∀ (E : En) (w : World) (vs : Array Value), All2 (Rv w E) args vs.toList →
  Calls P f vs w fun e w' => ∃ v, e = .returned v ∧ Below w.heap.size w w' ∧ ∀ E' : En, (∀ g, E.F g → E'.F g) → (∀ g, w.heap.size ≤ g → g < w'.heap.size → E'.F g) → Rv w' E' r v) : ACall P f args [] r [] := by
 refine ⟨he, Nat.le_refl _, fun E w vs hvs _ _ _ hfr hFF => (h E w vs hvs).mono ?_⟩
 rintro e w' ⟨v, rfl, hb, hv⟩
 refine ⟨v, ⟨fun g => E.F g ∨ (w.heap.size ≤ g ∧ g < w'.heap.size), E.m, E.ft⟩, rfl, hv _ (fun g h => .inl h) (fun g h1 h2 => .inr ⟨h1, h2⟩), ⟨⟨fun g h => .inl h, fun _ _ _ h => h⟩, fun g hg => ?_, hb.os, hb.tape, hb.output, hb.size, fun g hg _ => hb.block g hg, fun b hb => rfl, fun b n hb => rfl, fun b hb => rfl, fun b hb => by simp at hb, fun b hb => by simp at hb, fun b hb => by simp at hb, fun b hb => by simp at hb⟩⟩
 rcases hg with hg | hg
 ·exact .inl hg
 ·exact .inr (.inl hg)
theorem _root_.Go.Abs.Rv.ofTup {w : World} {E : En} {l : List AV} {vs : Array Value} (h : All2 (Rv w E) l vs.toList) : Rv w E (.tup l) (.tuple vs) := by
 refine .tup (fun j => vs.getD j undef) (by simpa using h.1) (fun j c hj => ?_) (fun j c hj => ?_)
 ·obtain ⟨u, h1, h2⟩ := h.2 j c hj
  have h1' : vs[j]? = some u := by simpa using h1
  simp [Array.getD_eq_getD_getElem?, h1']
 ·obtain ⟨u, h1, h2⟩ := h.2 j c hj
  have h1' : vs[j]? = some u := by simpa using h1
  simpa [Array.getD_eq_getD_getElem?, h1'] using h2
section
variable {E : En} {w : World} {vs : Array Value}
theorem args1 {x : AV} (h : All2 (Rv w E) [x] vs.toList) : ∃ v, vs = #[v] ∧ Rv w E x v := by
 obtain ⟨v, h1, h2⟩ := h.2 0 x rfl
 refine ⟨v, ?_, h2⟩
 have hl : vs.toList.length = 1 := h.1
 apply Array.toList_inj.1
 match hvs : vs.toList, hl with
 | [u], _ => rw [hvs] at h1; simp at h1; rw [h1]
theorem args2 {x y : AV} (h : All2 (Rv w E) [x, y] vs.toList) : ∃ v u, vs = #[v, u] ∧ Rv w E x v ∧ Rv w E y u := by
 obtain ⟨v, h1, h2⟩ := h.2 0 x rfl
 obtain ⟨u, h3, h4⟩ := h.2 1 y rfl
 refine ⟨v, u, ?_, h2, h4⟩
 have hl : vs.toList.length = 2 := h.1
 apply Array.toList_inj.1
 match hvs : vs.toList, hl with
 | [a, b], _ => rw [hvs] at h1 h3; simp at h1 h3; rw [h1, h3]
end
abbrev vI (n : Int) : AV := .val (.int .i64 n)
abbrev vB (b : Bool) : AV := .val (.bool b)
theorem newP {P : Nat → Prop} {w w' : World} {A : Option Addr} {c : Nat} {l : List Tm} (h : TmC P w' A c l) {E' : En} (hP : ∀ g, P g → w.heap.size ≤ g) (h2 : ∀ g, w.heap.size ≤ g → g < w'.heap.size → E'.F g) : Rv w' E' (tsA l) (.slice A l.length c) :=
 TmC.toRv h.inside fun g hg => h2 g (hP g hg.1) hg.2
theorem enters {n : Nat} {fn : Func} (h : Try.prog.funcs[n]? = some fn) (h1 : (fn.name == "runtime.NumGoroutine") = false) (h2 : fn.body.isNone = false) : Abs.Enters Try.prog n := ⟨fn, h, h1, h2⟩
theorem refCheck_ok (t : Tm) (hsz : t.size ≤ 1000000) : ACall Try.prog 23 [tA t] [] (vI (errT (isB t))) [] := bridge (enters Try.func23 (by decide) rfl) fun E w vs hvs => by
 obtain ⟨v, rfl, hv⟩ := args1 hvs
 exact (refCheck_calls t _ w v hv.toTmV hsz).mono fun e w' ⟨he, hb⟩ => ⟨_, he, hb, fun _ _ _ => .val rfl⟩
theorem refCheckAll_ok (l : List Tm) (hsz : Tm.sizes l ≤ 1000000) : ACall Try.prog 19 [tsA l] [] (vI (errT (allB l))) [] := bridge (enters Try.func19 (by decide) rfl) fun E w vs hvs => by
 obtain ⟨v, rfl, hv⟩ := args1 hvs
 obtain ⟨A, c, rfl, hc⟩ := hv.toTmC
 exact (refCheckAll_calls l _ A c w hc hsz).mono fun e w' ⟨he, hb⟩ => ⟨_, he, hb, fun _ _ _ => .val rfl⟩
theorem refSame_ok (t u : Tm) : ACall Try.prog 25 [tA t, tA u] [] (vB (sameB t u)) [] := bridge (enters Try.func25 (by decide) rfl) fun E w vs hvs => by
 obtain ⟨v, v2, rfl, hv, hv2⟩ := args2 hvs
 exact (refSame_calls t _ _ w v v2 u hv.toTmV hv2.toTmV).mono fun e w' ⟨he, hb⟩ => ⟨_, he, hb, fun _ _ _ => .val rfl⟩
theorem sameAll_ok (xs ys : List Tm) : ACall Try.prog 33 [tsA xs, tsA ys] [] (vB (sameL xs ys)) [] := bridge (enters Try.func33 (by decide) rfl) fun E w vs hvs => by
 obtain ⟨v, v2, rfl, hv, hv2⟩ := args2 hvs
 obtain ⟨A, c, rfl, hc⟩ := hv.toTmC
 obtain ⟨B, d, rfl, hd⟩ := hv2.toTmC
 exact (sameAll_calls xs ys A c B d _ _ w hc hd).mono fun e w' ⟨he, hb⟩ => ⟨_, he, hb, fun _ _ _ => .val rfl⟩
theorem small_ok (l : List Tm) : ACall Try.prog 28 [tsA l] [] (vB (smallB l)) [] := bridge (enters Try.func28 (by decide) rfl) fun E w vs hvs => by
 obtain ⟨v, rfl, hv⟩ := args1 hvs
 obtain ⟨A, c, rfl, hc⟩ := hv.toTmC
 exact (small_calls l _ A c w hc).mono fun e w' ⟨he, hb⟩ => ⟨_, he, hb, fun _ _ _ => .val rfl⟩
theorem sane_ok : ACall Try.prog 16 [] [] (vB true) [] := bridge (enters Try.func16 (by decide) rfl) fun E w vs hvs => by
 have : vs = #[] := by
  have h := hvs.1
  simp at h
  exact h
 subst this
 exact (sane_calls w).mono fun e w' ⟨he, hb⟩ => ⟨_, he, hb, fun _ _ _ => .val rfl⟩
end Go.Proofs.Ytfhgknmkpegpbaa
set_option linter.unusedVariables false
set_option linter.unusedSimpArgs false
namespace Go.Abs
open Go.RowKit
theorem ACall.nilB {P : Program} {f : FuncId} {args : List AV} {hs hs1 hs' : List AB} {r : AV} (h : ACall P f args hs1 r hs') (b off ty0 ty sz : Nat) {l : List AC} (hb : hs[b]? = some (.box ty0 l)) (hl : l[off]? = some (.f (.v (.slice none 0 0))))
  (h1 : hs1 = hs.set b (.box ty0 (l.set off (.row hs.length 0))) ++ [.row ty sz []]) : ACall P f args hs r hs' := by
 have hbl := (List.getElem?_eq_some_iff.1 hb).1
 have hol := (List.getElem?_eq_some_iff.1 hl).1
 have hlen1 : hs1.length = hs.length + 1 := by rw [h1]; simp
 refine ⟨h.1, by have := h.2.1; omega, fun E w vs hvs hblk hsep hown hfresh hFF => ?_⟩
 have hgb : hs1[b]? = some (.box ty0 (l.set off (.row hs.length 0))) := by
  rw [h1, List.getElem?_append_left (by simpa using hbl), List.getElem?_set_self hbl]
 have hgn : hs1[hs.length]? = some (.row ty sz []) := by
  rw [h1, List.getElem?_append_right (by simp)]; simp
 have hgo : ∀ j, j ≠ b → j ≠ hs.length → hs1[j]? = hs[j]? := fun j hj hj2 => by
  rcases Nat.lt_or_ge j hs.length with hlt | hge
  ·rw [h1, List.getElem?_append_left (by simpa using hlt), List.getElem?_set_ne (fun e => hj e.symm)]
  ·rw [h1, List.getElem?_append_right (by simpa using hge), List.getElem?_eq_none (by simp; omega), List.getElem?_eq_none hge]
 let E1 := E.set hs.length 0 (.slice none 0 0)
 have le : E.le E1 := En.set_le (hfresh hs.length 0 (Nat.le_refl _))
 have hm : ∀ j n, j ≠ hs.length → E1.m j n = E.m j n := fun j n hj => En.set_out _ _ _ _ hj
 have hnown : ∀ g, ¬ owns E1 hs.length (.row ty sz []) g := fun g ⟨n, c, hg⟩ => by
  rw [List.length_nil] at hg
  have : E1.m hs.length 0 = some (.slice none 0 0) := En.set_at _ _ _ _
  rw [this] at hg; simp at hg
 -- the owners are the same
 have back : ∀ j x g, hs1[j]? = some x → owns E1 j x g → ∃ x0, hs[j]? = some x0 ∧ owns E j x0 g := fun j x g hx ho => by
  by_cases e : j = hs.length
  ·subst e; rw [hgn] at hx; injection hx with hx; subst hx; exact absurd ho (hnown g)
  ·by_cases e2 : j = b
   ·subst e2; rw [hgb] at hx; injection hx with hx; subst hx
    exact ⟨_, hb, by simp only [owns, hm j _ e] at ho ⊢; exact ho⟩
   ·rw [hgo j e2 e] at hx
    exact ⟨x, hx, (owns_out (fun n => hm j n e) rfl x g).1 ho⟩
 have forth : ∀ j x g, hs[j]? = some x → owns E j x g → ∃ x1, hs1[j]? = some x1 ∧ owns E1 j x1 g := fun j x g hx ho => by
  have e : j ≠ hs.length := fun e => by have := (List.getElem?_eq_some_iff.1 hx).1; omega
  by_cases e2 : j = b
  ·subst e2; rw [hb] at hx; injection hx with hx; subst hx
   exact ⟨_, hgb, by simp only [owns, hm j _ e] at ho ⊢; exact ho⟩
  ·exact ⟨x, by rw [hgo j e2 e]; exact hx, (owns_out (fun n => hm j n e) rfl x g).2 ho⟩
 refine (h.2.2 E1 w vs ⟨hvs.1, fun j x hj => let ⟨u, q1, q2⟩ := hvs.2 j x hj; ⟨u, q1, q2.mono le (Agree.refl _ _)⟩⟩ (fun j x hx => ?_) (fun j j' x x' g hx hx' ho ho' => ?_) (fun j x g hx ho => ?_) (fun j n hj => ?_) hFF).mono ?_
 ·by_cases e : j = hs.length
  ·subst e; rw [hgn] at hx; injection hx with hx; subst hx
   exact ⟨_, [], En.set_at _ _ _ _, ⟨by simp, .inl ⟨rfl, rfl⟩⟩, by simp, by simp, fun n hn => by
    have : E1.m hs.length n = E.m hs.length n := En.set_ne _ _ _ (by simp at hn; omega)
    rw [this]; exact hfresh _ n (Nat.le_refl _)⟩
  ·by_cases e2 : j = b
   ·subst e2; rw [hgb] at hx; injection hx with hx; subst hx
    obtain ⟨g, vs', q1, q2, q3, q4⟩ := hblk j _ hb
    refine ⟨g, vs', le.m _ _ _ q1, q2, by simpa using q3, fun i c hi => ?_⟩
    by_cases e3 : off = i
    ·subst e3
     rw [List.getElem?_set_self hol] at hi
     simp only [Option.some.injEq] at hi; subst hi
     obtain ⟨u, q5, q6⟩ := q4 off _ hl
     have : u = .slice none 0 0 := by cases q6 with | f q6 => cases q6 with | v => rfl
     subst this
     exact ⟨_, q5, .row (En.set_at _ _ _ _)⟩
    ·rw [List.getElem?_set_ne e3] at hi
     obtain ⟨u, q5, q6⟩ := q4 i c hi
     exact ⟨u, q5, q6.mono le (Agree.refl _ _)⟩
   ·rw [hgo j e2 e] at hx
    exact (hblk j x hx).mono le (fun n => hm j n e) rfl (Agree.refl _ _) (fun _ _ => rfl)
 ·obtain ⟨x0, q1, q2⟩ := back j x g hx ho
  obtain ⟨x0', q1', q2'⟩ := back j' x' g hx' ho'
  exact hsep j j' x0 x0' g q1 q1' q2 q2'
 ·obtain ⟨x0, q1, q2⟩ := back j x g hx ho
  exact hown j x0 g q1 q2
 ·rw [hm j n (by omega)]; exact hfresh j n (by omega)
 ·rintro e w' ⟨v, E', rfl, hv, u⟩
  have hle := h.2.1
  refine ⟨v, E', rfl, hv, ⟨le.trans u.le, fun g hg => ?_, u.os, u.tape, u.output, u.grow, fun g hg hk => u.kept g hg fun j hj x hx ho => ?_, fun j hj => ?_, fun j n hj => ?_, fun j hj => u.fto j hj, u.blk, fun j hj x g hx ho => ?_, u.sep, u.live⟩⟩
  ·rcases u.F g hg with q | q | ⟨q, j, hj, x, hx, ho⟩
   ·exact .inl q
   ·exact .inr (.inl q)
   ·obtain ⟨x0, q1, q2⟩ := back j x g hx ho
    exact .inr (.inr ⟨q, j, hj, x0, q1, q2⟩)
  ·obtain ⟨x0, q1, q2⟩ := back j x g hx ho
   exact hk j hj x0 q1 q2
  ·simp at hj
   rw [List.getElem?_eq_none hj, List.getElem?_eq_none (by omega)]
  ·rw [u.out j n hj]; simp at hj; exact hm j n (by omega)
  ·obtain ⟨q1, q2, q3⟩ := u.own j hj x g hx ho
   refine ⟨?_, q2, q3⟩
   rcases q1 with q1 | ⟨j', hj', x', hx', ho'⟩
   ·exact .inl q1
   ·obtain ⟨x0, q4, q5⟩ := back j' x' g hx' ho'
    exact .inr ⟨j', hj', x0, q4, q5⟩
end Go.Abs
set_option linter.unusedVariables false
set_option linter.unusedSimpArgs false
namespace Go.Abs
open Go.RowKit
theorem ACall.rows {P : Program} {f : FuncId} {args args1 : List AV} {hs : List AB} {x : Value} (h : ACall P f args [] (.val x) []) (ha : AV.frzs (enumL 0 hs) (List.range hs.length) (fun _ => false) args1 = some args) : ACall P f args1 hs (.val x) hs := by
 refine ⟨h.1, Nat.le_refl _, fun E w vs hvs hblk hsep hown hfresh hFF => ?_⟩
 let E1 : En := ⟨fun g => E.F g ∨ ∃ b y, hs[b]? = some y ∧ owns E b y g, fun _ _ => none, E.ft⟩
 have hlk : ∀ b y, look (enumL 0 hs) b = some y → hs[b]? = some y := fun b y hy => by rw [look_enum] at hy; simpa using hy
 have key := Rvs.frz (w := w) (E := E) (E' := E1) (fz := List.range hs.length) (live := fun _ => false) (q := enumL 0 hs) (fun b y hy => hblk b y (hlk b y hy)) (fun g hg => .inl hg) (fun b n hb => by cases hb) (fun b hb y hy g hg => .inr ⟨b, y, hlk b y hy, hg⟩) args1 args ha
 refine (h.2.2 E1 w vs ⟨by rw [hvs.1, key.1], fun j c hj => ?_⟩ (fun b y hy => by simp at hy) (fun b b' y y' g hy => by simp at hy) (fun b y g hy => by simp at hy) (fun b n hb => rfl) (fun g hg => ?_)).mono ?_
 ·obtain ⟨c0, h1, h2⟩ := key.2 j c hj
  obtain ⟨u, h3, h4⟩ := hvs.2 j c0 h1
  exact ⟨u, h3, h2 u h4⟩
 ·rcases hg with hg | ⟨b, y, hy, hg⟩
  ·exact hFF g hg
  ·exact (hown b y g hy hg).2
 ·rintro e w' ⟨v, E', rfl, hv, u⟩
  have hk : ∀ g, g < w.heap.size → w'.heap[g]? = w.heap[g]? := fun g hg => u.kept g hg (fun b hb => by simp at hb)
  have hx := hv
  have := hv.val_inv
  subst this
  have hag : Agree E.F w w' := fun g hg => hk g (hFF g hg)
  refine ⟨_, E, rfl, ?_, ⟨En.le.refl E, fun g hg => .inl hg, u.os, u.tape, u.output, u.grow, fun g hg hn => hk g hg, fun b hb => rfl, fun b n hb => rfl, fun b hb => rfl, fun b hb y hy => ?_, fun b hb y g hy hg => ⟨.inr ⟨b, hb, y, hy, hg⟩, (hown b y g hy hg).1, Nat.lt_of_lt_of_le (hown b y g hy hg).2 u.grow⟩, fun b hb b' hb' y y' g hy hy' ho ho' => hsep b b' y y' g hy hy' ho ho', fun b hb => by have := List.mem_range.1 hb; simp; omega⟩⟩
  ·cases hx with | one h => cases h with | f h => cases h with | v _ ho => exact .one (.f (.v _ ho))
  ·exact (hblk b y hy).mono (En.le.refl E) (fun n => rfl) rfl hag (fun g hg => hk g (hown b y g hy hg).2)
end Go.Abs
set_option linter.unusedVariables false
set_option linter.unusedSimpArgs false
namespace Go.Abs
open Go.RowKit
section
variable {P : Program} {nx i d : Nat} {ops rest : List Oper} {o : Oper} {T T' : TL} {H H' : HL} {cs : List Chk}
theorem RunS.any {K : TL → HL → Prop} {x : Option AV} {ws : HL} (hg : gOf ops.toArray (look T) o = some true) (hp : pl P (look T) (look H) (nx + i) o.op = some (x, ws)) (hf : look H (nx + i) = none) (hs : setT T o.dst x = T' ∧ puts H ws = H') (h : RunS P nx ops (i + 1) rest T' H' K) : RunS P nx ops i (o :: rest) T H K :=
 runO_pl hg hp hf (by obtain ⟨rfl, rfl⟩ := hs; exact h)
theorem RunD.any {K : TL → HL → List Chk → Prop} {x : Option AV} {ws : HL} (hg : gOf ops.toArray (look T) o = some true) (hp : pl P (look T) (look H) (nx + i) o.op = some (x, ws)) (hf : look H (nx + i) = none) (hs : setT T o.dst x = T' ∧ puts H ws = H') (h : RunD P nx ops (i + 1) rest T' H' (cs ++ [⟨o.dst, ws.map (·.1), gRd ops.toArray o ++ rdT o.op, rdB (look T) o.op, [nx + i]⟩]) K) : RunD P nx ops i (o :: rest) T H cs K :=
 runO_pl hg hp hf (by obtain ⟨rfl, rfl⟩ := hs; exact h)
theorem RunS.callQ {K : TL → HL → Prop} (hg : gOf ops.toArray (look T) o = some true) {fid : FuncId} {cargs : List AV} {res : AV} {args : List Operand} {tys : Array TypeId} (ho : o.op = .call ⟨.value (.func fid), args.toArray, tys⟩)
  (hx : evArgs (look T) args = some cargs) (hc : ACall P fid cargs [] res []) (hd : o.dst = some d) (hl : cargs.all (·.lt 0) = true) (hr : res.lt 0 = true) (h : RunS P nx ops (i + 1) rest ((d, res) :: T) H K) : RunS P nx ops i (o :: rest) T H K :=
 RunS.callP hd hg hc ho hx hl hr h
theorem RunD.callQ {K : TL → HL → List Chk → Prop} (hg : gOf ops.toArray (look T) o = some true) {fid : FuncId} {cargs : List AV} {res : AV} {args : List Operand} {tys : Array TypeId} (ho : o.op = .call ⟨.value (.func fid), args.toArray, tys⟩)
  (hx : evArgs (look T) args = some cargs) (hc : ACall P fid cargs [] res []) (hd : o.dst = some d) (hl : cargs.all (·.lt 0) = true) (hr : res.lt 0 = true) (h : RunD P nx ops (i + 1) rest ((d, res) :: T) H (cs ++ [⟨some d, [], gRd ops.toArray o ++ rdT o.op, [], []⟩]) K) : RunD P nx ops i (o :: rest) T H cs K :=
 RunD.callP hd hg hc ho hx hl hr h
end
end Go.Abs
set_option linter.unusedVariables false
set_option linter.unusedSimpArgs false
namespace Go.Proofs.Ytfhgknmkpegpbaa
open Go Go.Abs Go.Proofs Go.RowKit
theorem ty122 : tyOf Try.prog 122 = some ⟨.struct [(22, 0, 1), (22, 1, 1)], 2, 48, [.slice none 0 0, .slice none 0 0]⟩ := by kernel_rfl
abbrev cA (t : Tm) : List AC := [.f (.v (.int .i64 t.k)), .f (.v (.int .i64 t.n)), .f (.v (.string t.s)), .f (tsF t.l)]
abbrev zA : List AC := [.f (.v (.int .i64 0)), .f (.v (.int .i64 0)), .f (.v (.string ⟨#[]⟩)), .f (.v (.slice none 0 0))]
theorem sub_nil (sz : Nat) : Sub (.val (.slice none 0 0)) (.one (.f (.fz sz []))) := fun w E v h => by
 have := h.val_inv
 subst this
 exact .one (.f (.fz sz [] none 0 0 0 (fun _ _ => undef) (Nat.le_refl _) (by simp [maxLen]) (fun _ => rfl) (fun h => absurd rfl h) (by simp) (by simp) (by simp)))
theorem sub_tup {l l' : List AV} (h : All2 Sub l l') : Sub (.tup l) (.tup l') := fun w E v hv => by
 cases hv with | @tup _ vs vals hs h1 h2 => ?_
 refine .tup vals (by rw [h.1]; exact hs) (fun j c hj => ?_) (fun j c hj => ?_)
 ·have hl := (List.getElem?_eq_some_iff.1 hj).1
  exact h1 j _ (List.getElem?_eq_getElem (by rw [← h.1]; exact hl))
 ·have hl := (List.getElem?_eq_some_iff.1 hj).1
  have hl2 : j < l.length := by rw [← h.1]; exact hl
  obtain ⟨u, h3, h4⟩ := h.2 j _ (List.getElem?_eq_getElem hl2)
  rw [hj] at h3; injection h3 with h3; subst h3
  exact h4 _ _ _ (h2 j _ (List.getElem?_eq_getElem hl2))
theorem sub_tup3 {a b c a' b' c' : AV} (h : Sub a a') (k : Sub b b') (l : Sub c c') : Sub (.tup [a, b, c]) (.tup [a', b', c']) := sub_tup (All2.cons h (All2.cons k (All2.cons l (All2.nil _))))
end Go.Proofs.Ytfhgknmkpegpbaa
set_option linter.unusedVariables false
set_option linter.unusedSimpArgs false
namespace Go.Abs
open Go.RowKit
def OC.cells : OC → List OC
 | .c _ => []
 | .box _ l => l
 | .row _ _ _ l => l
 | .map _ _ l => l
def OC.put : OC → List OC → OC
 | .c a, _ => .c a
 | .box ty _, l => .box ty l
 | .row ty sz n _, l => .row ty sz n l
 | .map kt ks _, l => .map kt ks l
theorem OC.put_len (x : OC) (l : List OC) : (x.put l).len = x.len := by cases x <;> rfl
theorem OC.put_cells (x : OC) (l : List OC) : (x.put l).put x.cells = x := by cases x <;> rfl
section
variable {w : World} {E E' : En}
theorem Ro.cells {x : OC} {u : Value} {G : Nat → Prop} (hx : Ro w E x u G) (hc : ∀ a, x ≠ .c a) : ∃ (vals : List Value) (Gc Gt : Nat → Prop), Ros w E x.cells vals Gc ∧ (∀ g, Gt g → ¬ Gc g) ∧ (∀ g, G g ↔ Gt g ∨ Gc g) ∧
  ∀ (E' : En) (l' : List OC) (Gc' : Nat → Prop), l'.length = x.cells.length → Ros w E' l' vals Gc' → (∀ g, Gt g → ¬ Gc' g) → Ro w E' (x.put l') u (fun g => Gt g ∨ Gc' g) := by
 cases x with
 | c a => exact absurd rfl (hc a)
 | box ty l =>
  simp only [Ro] at hx
  obtain ⟨g, vs, Gc, rfl, h2, h3, h4, h5⟩ := hx
  refine ⟨vs.toList, Gc, fun q => q = g, h3, fun q hq hn => h4 (hq ▸ hn), h5, fun E' l' Gc' hl hr hd => ?_⟩
  simp only [OC.put, Ro]
  exact ⟨g, vs, Gc', rfl, h2, hr, hd g rfl, fun _ => Iff.rfl⟩
 | row ty sz n l =>
  simp only [Ro] at hx
  rcases hx with ⟨rfl, rfl, rfl, h4⟩ | ⟨g, off, cap, cur, Gc, rfl, h2, h3, h4, h5, h6, h7, h8⟩
  ·refine ⟨[], fun _ => False, fun _ => False, Ros.nil w E, fun _ hf => hf.elim, fun g => ⟨fun hg => absurd hg (h4 g), fun hg => hg.elim (fun f => f.elim) (fun f => f.elim)⟩, fun E' l' Gc' hl hr hd => ?_⟩
   have : l' = [] := List.length_eq_zero_iff.1 hl
   subst this
   simp only [OC.put, Ro]
   simp only [Ros] at hr
   exact .inl ⟨by simp, by simp, by simp, fun g hg => hg.elim (fun f => f.elim) (hr.2 g)⟩
  ·refine ⟨_, Gc, fun q => q = g, h6, fun q hq hn => h7 (hq ▸ hn), h8, fun E' l' Gc' hl hr hd => ?_⟩
   simp only [OC.put, Ro]
   exact .inr ⟨g, off, cap, cur, Gc', rfl, h2, h3, h4, h5, hr, hd g rfl, fun _ => Iff.rfl⟩
 | map kt ks l =>
  simp only [Ro] at hx
  obtain ⟨h0, g, es, clock, Gc, rfl, h2, h3, h4, h5, h6, h7, h8⟩ := hx
  refine ⟨_, Gc, fun q => q = g, h4, fun q hq hn => h7 (hq ▸ hn), h8, fun E' l' Gc' hl hr hd => ?_⟩
  simp only [OC.put, Ro]
  exact ⟨h0, g, es, clock, Gc', rfl, h2, h3, hr, h5, h6, hd g rfl, fun _ => Iff.rfl⟩
theorem Ro.ref {y : OC} {u : Value} {G : Nat → Prop} {k : Nat} (hy : Ro w E y u G) (hc : y.pl = none) (hm : E'.m k y.len = some u) : Rc w E' (y.ref k) u := by
 cases y with
 | c a => cases hc
 | box ty l => simp only [Ro] at hy; obtain ⟨g1, vs1, Gc1, rfl, -⟩ := hy; exact .ptr hm
 | row ty sz n l => simp only [Ro] at hy; rcases hy with ⟨rfl, rfl, -⟩ | ⟨g1, off1, cap1, cur1, Gc1, rfl, -⟩ <;> exact .row hm
 | map kt ks l => simp only [Ro] at hy; obtain ⟨-, g1, es1, ck1, Gc1, rfl, -⟩ := hy; exact .mp hm
end
section
variable {nt k nx nx' : Nat} {T : TL} {H : HL}
theorem Wk.take (b j : Nat) {x y : OC} (hx : look H b = some (.obj x)) (hc : x.pl = none) (hy : x.cells[j]? = some y) (hp : y.pl = none) (hf : look H nx = none) :
  Wk nt k T H nx T (puts H [(b, .obj (x.put (x.cells.set j (.c (y.ref nx))))), (nx, .obj y)]) (nx + 1) := by
 have hbn : b ≠ nx := fun e => by rw [e, hf] at hx; cases hx
 have hxc : ∀ a, x ≠ .c a := fun a e => by rw [e] at hc; cases hc
 intro fr E a w h1 h2 r
 have hbl : b < nx ∨ nx ≤ b := Nat.lt_or_ge b nx
 obtain ⟨uu, q1, q2⟩ := r.blk b _ hx
 obtain ⟨vals, Gc, Gt, c1, c2, c3, c4⟩ := q2.cells hxc
 obtain ⟨u, G1, G2, g1, g2, g3, g4, g5⟩ := c1.get hy
 have hm0 : ∀ n, E.m nx n = none := fun n => r.fresh nx n (Nat.le_refl _) hf
 let E1 : En := ((E.set nx y.len u).setF nx G1).setF b (fun q => Gt q ∨ G2 q)
 have le : E.le E1 := (En.set_le (hm0 _)).trans ((En.setF_le _ _ _).trans (En.setF_le _ _ _))
 have m1 : E1.m nx y.len = some u := En.set_at _ _ _ _
 have f1 : E1.ft nx = G1 := by show (if nx = b then _ else if nx = nx then G1 else _) = G1; rw [if_neg (Ne.symm hbn), if_pos rfl]
 have f2 : E1.ft b = fun q => Gt q ∨ G2 q := by show (if b = b then _ else _) = _; rw [if_pos rfl]
 have hset := g5 w E1 (.c (y.ref nx)) (fun _ => False) le (Agree.refl _ _) (fun _ _ => rfl) (by simp only [Ro]; exact ⟨g2.ref hp m1, fun _ hf => hf⟩) (fun _ hf => hf.elim)
 have hro := c4 E1 (x.cells.set j (.c (y.ref nx))) G2 (by simp) (hset.congr fun q => by simp) (fun q hq hn => c2 q hq ((g4 q).2 (.inr hn)))
 have hown := fun q => r.own b _ q hx
 have hu : Upd E (look H) w [b, nx] E1 (up (up (look H) b (.obj (x.put (x.cells.set j (.c (y.ref nx)))))) nx (.obj y)) w := by
  refine Upd.two hbn hx hf le (fun _ hh => hh) rfl rfl rfl (Nat.le_refl _) (fun _ _ _ => rfl) (fun b' n e1 e2 => En.set_out _ _ _ _ e2) (fun b' e1 e2 => ?_) ⟨uu, by rw [OC.put_len]; exact le.m _ _ _ q1, by rw [f2]; exact hro⟩ ⟨u, m1, by rw [f1]; exact Ro.mono le (Agree.refl _ _) y (fun _ _ => rfl) g2⟩ (fun q hq' => ?_) (fun q hq' => ?_) (fun q hq1 hq2 => ?_)
  ·show (if b' = b then _ else if b' = nx then _ else E.ft b') = _; rw [if_neg e1, if_neg e2]
  ·have : E1.ft b q := hq'
   rw [f2] at this
   have hft : E.ft b q := (c3 q).2 (this.imp id fun hh => (g4 q).2 (.inr hh))
   exact ⟨.inr hft, (hown q hft).2⟩
  ·have : E1.ft nx q := hq'
   rw [f1] at this
   have hft : E.ft b q := (c3 q).2 (.inr ((g4 q).2 (.inl this)))
   exact ⟨.inr hft, (hown q hft).2⟩
  ·have e1 : E1.ft b q := hq1
   have e2 : E1.ft nx q := hq2
   rw [f2] at e1
   rw [f1] at e2
   rcases e1 with e1 | e1
   ·exact c2 q e1 ((g4 q).2 (.inl e2))
   ·exact g3 q e2 e1
 have r' := (r.upd hu).bump (Nat.le_succ nx)
 have e : up (up (look H) b (.obj (x.put (x.cells.set j (.c (y.ref nx)))))) nx (.obj y) = look (puts H [(b, .obj (x.put (x.cells.set j (.c (y.ref nx))))), (nx, .obj y)]) := by rw [look_puts]; rfl
 rw [e] at r'
 exact ⟨E1, r'⟩
theorem Wk.one (b : Nat) {x0 x' : AB} (hx : look H b = some x0)
  (h : ∀ (w : World) (E : En), (∀ g, E.F g → g < w.heap.size) → Rb w E b x0 → ∃ G, Rb w (E.setF b G) b x' ∧ ∀ g, owns (E.setF b G) b x' g → owns E b x0 g) : Wk nt k T H nx T (put H b x') nx := by
 intro fr E a w h1 h2 r
 obtain ⟨G, q1, q2⟩ := h w E r.lt (r.blk b _ hx)
 have hown := fun q => r.own b _ q hx
 have hu : Upd E (look H) w [b] (E.setF b G) (up (look H) b x') w :=
  Upd.single (En.setF_le _ _ _) (fun _ h => h) rfl rfl rfl (Nat.le_refl _) (fun _ _ _ => rfl) (fun _ _ _ => rfl) (fun b' hb' => En.setF_out _ _ hb') q1 (fun g hg => ⟨.inr ⟨_, hx, q2 g hg⟩, (hown g (q2 g hg)).2⟩)
 have r' := r.upd hu
 have e : up (look H) b x' = look (put H b x') := by
  funext i
  rw [look_put]; rfl
 rw [e] at r'
 exact ⟨_, r'⟩
end
end Go.Abs
set_option linter.unusedVariables false
set_option linter.unusedSimpArgs false
namespace Go.Abs
open Go.RowKit
theorem ACall.eat {P : Program} {f : FuncId} {args args1 : List AV} {hs : List AB} {r : AV} (h : ACall P f args [] r []) (ha : AV.frzs (enumL 0 hs) (List.range hs.length) (fun _ => false) args1 = some args) (hr : r.lt 0 = true) :
  ACall P f args1 hs r (hs.map fun _ => AB.dead) := by
 refine ⟨h.1, by simp, fun E w vs hvs hblk hsep hown hfresh hFF => ?_⟩
 let E1 : En := ⟨fun g => E.F g ∨ ∃ b y, hs[b]? = some y ∧ owns E b y g, fun _ _ => none, E.ft⟩
 have hlk : ∀ b y, look (enumL 0 hs) b = some y → hs[b]? = some y := fun b y hy => by rw [look_enum] at hy; simpa using hy
 have key := Rvs.frz (w := w) (E := E) (E' := E1) (fz := List.range hs.length) (live := fun _ => false) (q := enumL 0 hs) (fun b y hy => hblk b y (hlk b y hy)) (fun g hg => .inl hg) (fun b n hb => by cases hb) (fun b hb y hy g hg => .inr ⟨b, y, hlk b y hy, hg⟩) args1 args ha
 refine (h.2.2 E1 w vs ⟨by rw [hvs.1, key.1], fun j c hj => ?_⟩ (fun b y hy => by simp at hy) (fun b b' y y' g hy => by simp at hy) (fun b y g hy => by simp at hy) (fun b n hb => rfl) (fun g hg => ?_)).mono ?_
 ·obtain ⟨c0, h1, h2⟩ := key.2 j c hj
  obtain ⟨u, h3, h4⟩ := hvs.2 j c0 h1
  exact ⟨u, h3, h2 u h4⟩
 ·rcases hg with hg | ⟨b, y, hy, hg⟩
  ·exact hFF g hg
  ·exact (hown b y g hy hg).2
 ·rintro e w' ⟨v, E2, rfl, hv, u⟩
  have hk : ∀ g, g < w.heap.size → w'.heap[g]? = w.heap[g]? := fun g hg => u.kept g hg (fun b hb => by simp at hb)
  have hdead : ∀ (b : Nat) (x : AB), (hs.map fun _ => AB.dead)[b]? = some x → x = .dead := fun b x hx => by
   rw [List.getElem?_map] at hx
   obtain ⟨y, -, rfl⟩ := Option.map_eq_some_iff.1 hx
   rfl
  refine ⟨v, ⟨E2.F, E.m, E.ft⟩, rfl, ?_, ⟨⟨fun g hg => u.le.F g (.inl hg), fun _ _ _ hm => hm⟩, fun g hg => ?_, u.os, u.tape, u.output, u.grow, fun g hg _ => hk g hg, fun b hb => ?_, fun b n hb => rfl, fun b hb => rfl, fun b hb x hx => ?_, fun b hb x g hx ho => ?_, fun b hb b' hb' x x' g hx hx' ho ho' => ?_, fun b hb => ?_⟩⟩
  ·exact Rv.back (k := 0) (ρ := id) (E := E2) (Ec := ⟨E2.F, E.m, E.ft⟩) (fun _ h => h) (fun b n hb => by omega) r v (by rw [AV.ren_pure _ _ hr]; exact hv) hr
  ·rcases u.F g hg with q | q | ⟨-, b, hb, -⟩
   ·rcases q with q | ⟨b, y, hy, q⟩
    ·exact .inl q
    ·exact .inr (.inr ⟨Nat.lt_of_lt_of_le (hown b y g hy q).2 u.grow, b, by have := (List.getElem?_eq_some_iff.1 hy).1; simpa using this, y, hy, q⟩)
   ·exact .inr (.inl q)
   ·simp at hb
  ·simp at hb
   rw [List.getElem?_eq_none (by simpa using hb), List.getElem?_eq_none (by simpa using hb)]
  ·rw [hdead b x hx]; exact trivial
  ·rw [hdead b x hx] at ho; exact ho.elim
  ·rw [hdead b x hx] at ho; exact ho.elim
  ·simp at hb
   rw [List.getElem?_map, List.getElem?_eq_getElem hb]; simp
end Go.Abs
