/- Layer 1, part 10 of the base: the walks and plain facts named in NOTES.md as T45, T47, T48. -/
import Derived.Test.YtfhgknmkpegpbaaM9
import Derived.Test.YtfhgknmkpegpbaaM3
import Derived.Test.YtfhgknmkpegpbaaM5

set_option linter.unusedVariables false
set_option linter.unusedSimpArgs false
namespace Go.Proofs.Ytfhgknmkpegpbaa
open Go.RowKit

theorem below_alloc (W : World) (o : Obj) : Below W.heap.size W (W.alloc o) := (Below.refl _ _).alloc (Nat.le_refl _) _
def cellsL : Nat → List Int | 20 => [] | 21 => [0] | 22 => [1] | 23 => [1, 0] | _ => [1, 1]
def cellsF (i : Nat) (x : Value) (w : World) : Prop := ∃ g, x = .slice (some ⟨g, 0, none⟩) (cellsL i).length (cellsL i).length ∧ Blk w g 3 ((cellsL i).map (Value.int .i64)).toArray
theorem cellsF_below {i : Nat} {x : Value} {w w' : World} (h : cellsF i x w) (hb : Below w.heap.size w w') : cellsF i x w' := by
  obtain ⟨g, h1, h2⟩ := h; exact ⟨g, h1, h2.below hb h2.lt⟩
def S6 (WS : World) (b : Nat) (A : Option Addr) (n c : Nat) (W2 : World) : Prop := Hid (Below WS.heap.size WS W2) ∧ W2.cell? ⟨b, 0, none⟩ = some (.int .i64 5) ∧ W2.cell? ⟨b, 1, none⟩ = some (.int .i64 0) ∧ W2.cell? ⟨b, 2, none⟩ = some (.string ⟨#[102]⟩) ∧ W2.cell? ⟨b, 3, none⟩ = some (.slice A n c)
theorem S6.below {WS : World} {b : Nat} {A : Option Addr} {n c : Nat} {W2 W3 : World} (h : S6 WS b A n c W2) (hb : Below W2.heap.size W2 W3) : S6 WS b A n c W3 :=
  ⟨Lib.hid (h.1.out.trans (hb.mono h.1.out.size)), keep_cell hb h.2.1, keep_cell hb h.2.2.1, keep_cell hb h.2.2.2.1, keep_cell hb h.2.2.2.2⟩
theorem wpOp_at {P : Program} {ops : Array Oper} {Q : Exit → Act → World → Prop} {i : Nat} {K : Act → World → Prop} {a : Act} {w : World} (hi : (ops[i]?).isSome = true)
    (h : ∀ o, ops[i]? = some o → ∀ K' : Act → World → Prop, (∀ a w, K a w → K' a w) → if Region.wanted o (yielded ops a.tmps) = true then Oper.wp P o a w K' Q else K' (a.put o.dst undef) w) : wpOp P ops Q i K a w := by
  cases ho : ops[i]? with
  | none => rw [ho] at hi; cases hi
  | some o => exact wpOp_step ho (fun K' hK => h o ho K' hK)
def put5 (a : Act) (i d : Nat) (vals : Nat → Value) : Act := ((((a.put (some d) (vals i)).put (some (d + 1)) (vals (i + 1))).put (some (d + 2)) (vals (i + 2))).put (some (d + 3)) (vals (i + 3))).put (some (d + 4)) (vals (i + 4))
theorem put5_put (a : Act) (i d : Nat) (vals : Nat → Value) (x : Value) (k : Nat) (hk : k < 5) : (put5 a i d vals).put (some (d + k)) x = put5 a i d (fun j => if j = i + k then x else vals j) := by
  have key : ∀ (t : Array Value) (d1 d2 : Nat) (u v : Value), d1 ≠ d2 → (t.setIfInBounds d1 u).setIfInBounds d2 v = (t.setIfInBounds d2 v).setIfInBounds d1 u := fun t d1 d2 u v h => Array.setIfInBounds_comm u v h
  have same : ∀ (t : Array Value) (d1 : Nat) (u v : Value), (t.setIfInBounds d1 u).setIfInBounds d1 v = t.setIfInBounds d1 v := fun t d1 u v => Array.setIfInBounds_setIfInBounds ..
  unfold put5
  simp only [Act.put]
  match k, hk with
  | 0, _ =>
    simp only [Nat.add_zero, if_true, if_neg (show ¬ i + 1 = i from by omega), if_neg (show ¬ i + 2 = i from by omega), if_neg (show ¬ i + 3 = i from by omega), if_neg (show ¬ i + 4 = i from by omega)]
    rw [key _ (d + 4) d _ _ (by omega), key _ (d + 3) d _ _ (by omega), key _ (d + 2) d _ _ (by omega), key _ (d + 1) d _ _ (by omega), same]
  | 1, _ =>
    simp only [if_true, if_neg (show ¬ i = i + 1 from by omega), if_neg (show ¬ i + 2 = i + 1 from by omega), if_neg (show ¬ i + 3 = i + 1 from by omega), if_neg (show ¬ i + 4 = i + 1 from by omega)]
    rw [key _ (d + 4) (d + 1) _ _ (by omega), key _ (d + 3) (d + 1) _ _ (by omega), key _ (d + 2) (d + 1) _ _ (by omega), same]
  | 2, _ =>
    simp only [if_true, if_neg (show ¬ i = i + 2 from by omega), if_neg (show ¬ i + 1 = i + 2 from by omega), if_neg (show ¬ i + 3 = i + 2 from by omega), if_neg (show ¬ i + 4 = i + 2 from by omega)]
    rw [key _ (d + 4) (d + 2) _ _ (by omega), key _ (d + 3) (d + 2) _ _ (by omega), same]
  | 3, _ =>
    simp only [if_true, if_neg (show ¬ i = i + 3 from by omega), if_neg (show ¬ i + 1 = i + 3 from by omega), if_neg (show ¬ i + 2 = i + 3 from by omega), if_neg (show ¬ i + 4 = i + 3 from by omega)]
    rw [key _ (d + 4) (d + 3) _ _ (by omega), same]
  | 4, _ =>
    simp only [if_true, if_neg (show ¬ i = i + 4 from by omega), if_neg (show ¬ i + 1 = i + 4 from by omega), if_neg (show ¬ i + 2 = i + 4 from by omega), if_neg (show ¬ i + 3 = i + 4 from by omega)]
    rw [same]
theorem five_allocs {P : Program} {ops : Array Oper} {Q : Exit → Act → World → Prop} {md : Region.Mode} {S : World → Prop} {a : Act} {w : World} {listed : Array Bool} {fuel : Nat} (i d : Nat) {L : (Nat → Bool) → Array Bool} {F : Nat → Value → World → Prop}
    (h0 : put5 a i d (fun _ => undef) = a) (hL0 : L (fun _ => false) = listed)
    (hLc : ∀ b b' : Nat → Bool, (∀ j ∈ [i, i + 1, i + 2, i + 3, i + 4], b j = b' j) → L b = L b')
    (hready : ∀ b : Nat → Bool, (∃ j ∈ [i, i + 1, i + 2, i + 3, i + 4], b j = false) → Region.ready md ops (L b) = [i, i + 1, i + 2, i + 3, i + 4].filter (fun j => !b j))
    (hset : ∀ (b : Nat → Bool) (k : Nat), k ∈ [i, i + 1, i + 2, i + 3, i + 4] → (L b).setIfInBounds k true = L (fun j => if j = k then true else b j))
    (hs0 : ∀ o, ops[i + 0]? = some o → (∀ vals : Nat → Value, Region.wanted o (yielded ops (put5 a i d vals).tmps) = true) ∧ ∀ (A : Act) (w : World) (K : Act → World → Prop), S w → (∀ x w', S w' → Below w.heap.size w w' → F (i + 0) x w' → K (A.put (some (d + 0)) x) w') → Oper.wp P o A w K Q)
    (hs1 : ∀ o, ops[i + 1]? = some o → (∀ vals : Nat → Value, Region.wanted o (yielded ops (put5 a i d vals).tmps) = true) ∧ ∀ (A : Act) (w : World) (K : Act → World → Prop), S w → (∀ x w', S w' → Below w.heap.size w w' → F (i + 1) x w' → K (A.put (some (d + 1)) x) w') → Oper.wp P o A w K Q)
    (hs2 : ∀ o, ops[i + 2]? = some o → (∀ vals : Nat → Value, Region.wanted o (yielded ops (put5 a i d vals).tmps) = true) ∧ ∀ (A : Act) (w : World) (K : Act → World → Prop), S w → (∀ x w', S w' → Below w.heap.size w w' → F (i + 2) x w' → K (A.put (some (d + 2)) x) w') → Oper.wp P o A w K Q)
    (hs3 : ∀ o, ops[i + 3]? = some o → (∀ vals : Nat → Value, Region.wanted o (yielded ops (put5 a i d vals).tmps) = true) ∧ ∀ (A : Act) (w : World) (K : Act → World → Prop), S w → (∀ x w', S w' → Below w.heap.size w w' → F (i + 3) x w' → K (A.put (some (d + 3)) x) w') → Oper.wp P o A w K Q)
    (hs4 : ∀ o, ops[i + 4]? = some o → (∀ vals : Nat → Value, Region.wanted o (yielded ops (put5 a i d vals).tmps) = true) ∧ ∀ (A : Act) (w : World) (K : Act → World → Prop), S w → (∀ x w', S w' → Below w.heap.size w w' → F (i + 4) x w' → K (A.put (some (d + 4)) x) w') → Oper.wp P o A w K Q)
    (hsz : (ops[i + 4]?).isSome = true)
    (hF : ∀ k x (w w' : World), F k x w → Below w.heap.size w w' → F k x w')
    (hfin : ∀ vals w, S w → (∀ k ∈ [i, i + 1, i + 2, i + 3, i + 4], F k (vals k) w) → wpAnyH P md ops Q S fuel (L (fun _ => true)) (put5 a i d vals) w)
    (hS : S w) : wpAnyH P md ops Q S (fuel + 5) listed a w := by
  have h := allocsH (P := P) (ops := ops) (Q := Q) (md := md) (S := S) [i, i + 1, i + 2, i + 3, i + 4] L (put5 a i d) F fuel hLc hready hset (fun k hk vals w K hS hK => by
    obtain ⟨j, hj, rfl⟩ : ∃ j, j < 5 ∧ k = i + j := by
      simp only [List.mem_cons, List.not_mem_nil, or_false] at hk
      rcases hk with rfl | rfl | rfl | rfl | rfl
      · exact ⟨0, by omega, rfl⟩
      · exact ⟨1, by omega, rfl⟩
      · exact ⟨2, by omega, rfl⟩
      · exact ⟨3, by omega, rfl⟩
      · exact ⟨4, by omega, rfl⟩
    have hstep : ∀ k, k < 5 → ∀ (vals : Nat → Value) (w : World) (K : Act → World → Prop), S w → (∀ x w', S w' → Below w.heap.size w w' → F (i + k) x w' → K ((put5 a i d vals).put (some (d + k)) x) w') → wpOp P ops Q (i + k) K (put5 a i d vals) w := fun k hk => by
      have gen : ∀ m, (∀ o, ops[m]? = some o → (∀ vals : Nat → Value, Region.wanted o (yielded ops (put5 a i d vals).tmps) = true) ∧ ∀ (A : Act) (w : World) (K : Act → World → Prop), S w → (∀ x w', S w' → Below w.heap.size w w' → F m x w' → K (A.put (some (d + k)) x) w') → Oper.wp P o A w K Q) →
          m ≤ i + 4 → ∀ (vals : Nat → Value) (w : World) (K : Act → World → Prop), S w → (∀ x w', S w' → Below w.heap.size w w' → F m x w' → K ((put5 a i d vals).put (some (d + k)) x) w') → wpOp P ops Q m K (put5 a i d vals) w := fun m hm hmi vals w K hS hK => by
        refine wpOp_at ?_ (fun o ho K2 hK2 => ?_)
        · have : i + 4 < ops.size := by
            rcases Nat.lt_or_ge (i + 4) ops.size with h | h
            · exact h
            · rw [Array.getElem?_eq_none h] at hsz; cases hsz
          rw [Array.getElem?_eq_getElem (by omega)]; rfl
        · rw [if_pos ((hm o ho).1 vals)]
          exact (hm o ho).2 _ w K2 hS (fun x w' h1 h2 h3 => hK2 _ _ (hK x w' h1 h2 h3))
      match k, hk with
      | 0, _ => exact gen (i + 0) hs0 (by omega)
      | 1, _ => exact gen (i + 1) hs1 (by omega)
      | 2, _ => exact gen (i + 2) hs2 (by omega)
      | 3, _ => exact gen (i + 3) hs3 (by omega)
      | 4, _ => exact gen (i + 4) hs4 (by omega)
    exact hstep j hj vals w K hS (fun x w' h1 h2 h3 => by rw [put5_put a i d vals x j hj]; exact hK x w' h1 h2 h3)) hF hfin 5 (fun _ => false) (fun _ => undef) w (by simp) (by simp) hS (fun k _ h => by cases h)
  rw [h0, hL0] at h
  exact h
abbrev AllB : Nat → Prop := fun _ => True
theorem rows_lit {W : World} {b g0 g1 g2 g3 g4 : Nat} (h0 : Blk W g0 3 #[]) (h1 : Blk W g1 3 #[.int .i64 0]) (h2 : Blk W g2 3 #[.int .i64 1]) (h3 : Blk W g3 3 #[.int .i64 1, .int .i64 0]) (h4 : Blk W g4 3 #[.int .i64 1, .int .i64 1])
    (hb : Blk W b 39 #[.slice (some ⟨g0, 0, none⟩) 0 0, .slice (some ⟨g1, 0, none⟩) 1 1, .slice (some ⟨g2, 0, none⟩) 1 1, .slice (some ⟨g3, 0, none⟩) 2 2, .slice (some ⟨g4, 0, none⟩) 2 2]) : SlC AllB W (some ⟨b, 0, none⟩) 5 [[], [0], [1], [1, 0], [1, 1]] := by
  have rd : ∀ {g : Nat} {cs : List Value} {T : TypeId}, Blk W g T cs.toArray → Rd W (some ⟨g, 0, none⟩) cs := fun h _ => ⟨_, _, rfl, fun j v hj => by rw [Nat.zero_add, h.cell j]; simpa using hj⟩
  refine ⟨[([], some ⟨g0, 0, none⟩, 0), ([0], some ⟨g1, 0, none⟩, 1), ([1], some ⟨g2, 0, none⟩, 1), ([1, 0], some ⟨g3, 0, none⟩, 2), ([1, 1], some ⟨g4, 0, none⟩, 2)], rfl, by decide, by decide, fun e => (by cases e), fun _ => ⟨b, 0, rfl, trivial⟩, rd hb, fun e he => ?_⟩
  simp only [List.mem_cons, List.not_mem_nil, or_false] at he
  rcases he with rfl | rfl | rfl | rfl | rfl
  · exact ⟨Nat.le_refl _, by show (0 : Nat) ≤ _; omega, fun h => absurd rfl h, rd_nil _ _⟩
  · exact ⟨Nat.le_refl _, by show (1 : Nat) ≤ _; omega, fun _ => ⟨g1, 0, rfl, trivial⟩, rd h1⟩
  · exact ⟨Nat.le_refl _, by show (1 : Nat) ≤ _; omega, fun _ => ⟨g2, 0, rfl, trivial⟩, rd h2⟩
  · exact ⟨Nat.le_refl _, by show (2 : Nat) ≤ _; omega, fun _ => ⟨g3, 0, rfl, trivial⟩, rd h3⟩
  · exact ⟨Nat.le_refl _, by show (2 : Nat) ≤ _; omega, fun _ => ⟨g4, 0, rfl, trivial⟩, rd h4⟩
theorem vX (n : Int) (w : World) : Calls Try.prog 44 #[.int .i64 n] w fun e w' => e = .returned (.agg #[.int .i64 1, .int .i64 n, .string ⟨#[]⟩, .slice none 0 0]) ∧ Below w.heap.size w w' := v_calls n w
theorem aX (s : ByteArray) (w : World) : Calls Try.prog 75 #[.string s] w fun e w' => e = .returned (.agg #[.int .i64 3, .int .i64 0, .string s, .slice none 0 0]) ∧ Below w.heap.size w w' := a_calls s w
theorem fX (s : ByteArray) (A : Option Addr) (n c : Nat) (w : World) : Calls Try.prog 74 #[.string s, .slice A n c] w fun e w' => e = .returned (.agg #[.int .i64 5, .int .i64 0, .string s, .slice A n c]) ∧ Below w.heap.size w w' := f_calls s A n c w
theorem lit_make (W : World) (es : List EV) (h : ∀ e ∈ es, e.1.s.size ≤ 9223372036854775807 ∧ TmC AllB W e.2.1 e.2.2 e.1.l) (hl : es.length ≤ 100) : TmC AllB (W.alloc (.cells (es.flatMap encE).toArray 25)) (some ⟨W.heap.size, 0, none⟩) es.length (es.map (fun e => e.1)) :=
  TmC.lit es (fun e he => ⟨(h e he).1, (h e he).2.stay ((Below.refl _ _).alloc (Nat.le_refl _) _) (Nat.le_refl _)⟩) (Blk.new _ _ _) trivial (by omega)
theorem nilC (W : World) : TmC AllB W none 0 [] := TmC.nil _ _ (by omega) (fun _ => rfl)

set_option maxRecDepth 100000 in
set_option maxHeartbeats 40000000 in
theorem sane_calls (w : World) : Calls Try.prog 16 #[] w fun e w' => e = .returned (.bool true) ∧ Below w.heap.size w w' := by
  have HB := Lib.hid (Below.refl w.heap.size w)
  go_enter Try.func16, Try.ntmps16
  go_wp2_with fail
  refine (vX 0 _).mono ?_
  rintro e w1 ⟨rfl, hb⟩
  replace HB := Lib.hid (HB.out.trans (hb.mono HB.out.size))
  clear hb
  go_wp2_with fail
  refine (aX sa _).mono ?_
  rintro e w2 ⟨rfl, hb⟩
  replace HB := Lib.hid (HB.out.trans (hb.mono HB.out.size))
  clear hb
  go_wp2_with fail
  refine (aX se _).mono ?_
  rintro e w3 ⟨rfl, hb⟩
  replace HB := Lib.hid (HB.out.trans (hb.mono HB.out.size))
  clear hb
  obtain ⟨W4, hW4⟩ : ∃ W4, W4 = w3.alloc (.cells #[.int .i64 3, .int .i64 0, .string sa, .slice none 0 0, .int .i64 3, .int .i64 0, .string se, .slice none 0 0] 25) := ⟨_, rfl⟩
  have hbW4 : Below w3.heap.size w3 W4 := by rw [hW4]; exact below_alloc _ _
  have L4 : Hid (TmC AllB W4 (some ⟨w3.heap.size, 0, none⟩) 2 [Tm.at' sa, Tm.at' se]) := Lib.hid (by
    rw [hW4]
    refine lit_make w3 [(Tm.at' sa, none, 0), (Tm.at' se, none, 0)] (fun e he => ?_) (by simp)
    simp only [List.mem_cons, List.not_mem_nil, or_false] at he
    rcases he with rfl | rfl
    · exact ⟨by show ByteArray.size sa ≤ 9223372036854775807; decide, nilC _⟩
    · exact ⟨by show ByteArray.size se ≤ 9223372036854775807; decide, nilC _⟩)
  replace HB := Lib.hid (HB.out.trans (hbW4.mono HB.out.size))
  clear hbW4
  go_wp2_with fail
  rw [← hW4]
  clear hW4
  refine (fX sd _ _ _ _).mono ?_
  rintro e w5 ⟨rfl, hb⟩
  replace HB := Lib.hid (HB.out.trans (hb.mono HB.out.size))
  replace L4 := Lib.hid (L4.out.stay hb (Nat.le_refl _))
  clear hb
  obtain ⟨W6, hW6⟩ : ∃ W6, W6 = w5.alloc (.cells #[.int .i64 1, .int .i64 0, .string ⟨#[]⟩, .slice none 0 0, .int .i64 5, .int .i64 0, .string sd, .slice (some ⟨w3.heap.size, 0, none⟩) 2 2] 25) := ⟨_, rfl⟩
  have hbW6 : Below w5.heap.size w5 W6 := by rw [hW6]; exact below_alloc _ _
  have L6 : Hid (TmC AllB W6 (some ⟨w5.heap.size, 0, none⟩) 2 [Tm.va 0, Tm.fn sd [Tm.at' sa, Tm.at' se]]) := Lib.hid (by
    rw [hW6]
    refine lit_make w5 [(Tm.va 0, none, 0), (Tm.fn sd [Tm.at' sa, Tm.at' se], some ⟨w3.heap.size, 0, none⟩, 2)] (fun e he => ?_) (by simp)
    simp only [List.mem_cons, List.not_mem_nil, or_false] at he
    rcases he with rfl | rfl
    · exact ⟨by show ByteArray.size ⟨#[]⟩ ≤ 9223372036854775807; decide, nilC _⟩
    · exact ⟨by show ByteArray.size sd ≤ 9223372036854775807; decide, L4.out⟩)
  replace HB := Lib.hid (HB.out.trans (hbW6.mono HB.out.size))
  replace L4 := Lib.hid (L4.out.stay hbW6 (Nat.le_refl _))
  clear hbW6
  clear L4
  go_wp2_with fail
  rw [← hW6]
  clear hW6
  refine (fX sf _ _ _ _).mono ?_
  rintro e w7 ⟨rfl, hb⟩
  replace HB := Lib.hid (HB.out.trans (hb.mono HB.out.size))
  replace L6 := Lib.hid (L6.out.stay hb (Nat.le_refl _))
  clear hb
  obtain ⟨W8, hW8⟩ : ∃ W8, W8 = w7.alloc (.cells #[.int .i64 5, .int .i64 0, .string sf, .slice (some ⟨w5.heap.size, 0, none⟩) 2 2] 25) := ⟨_, rfl⟩
  have hbW8 : Below w7.heap.size w7 W8 := by rw [hW8]; exact below_alloc _ _
  have BX : Hid (Blk W8 w7.heap.size 25 #[.int .i64 5, .int .i64 0, .string sf, .slice (some ⟨w5.heap.size, 0, none⟩) 2 2]) := Lib.hid (by rw [hW8]; exact Blk.new _ _ _)
  replace HB := Lib.hid (HB.out.trans (hbW8.mono HB.out.size))
  replace L6 := Lib.hid (L6.out.stay hbW8 (Nat.le_refl _))
  clear hbW8
  have hc := size_calls sX AllB W8 _ ⟨some ⟨w5.heap.size, 0, none⟩, 2, rfl, by decide, L6.out⟩ (by decide)
  rw [sX_size, sX_depth] at hc
  have Hc := Lib.hid hc; clear hc
  go_wp2_with fail
  rw [← hW8]
  clear hW8
  refine (Hc.out).mono ?_
  rintro e w9 ⟨rfl, hb⟩
  replace HB := Lib.hid (HB.out.trans (hb.mono HB.out.size))
  replace L6 := Lib.hid (L6.out.stay hb (Nat.le_refl _))
  replace BX := Lib.hid (BX.out.below hb BX.out.lt)
  clear hb
  clear Hc
  go_wp2_with fail
  refine (aX sa _).mono ?_
  rintro e w10 ⟨rfl, hb⟩
  replace HB := Lib.hid (HB.out.trans (hb.mono HB.out.size))
  replace L6 := Lib.hid (L6.out.stay hb (Nat.le_refl _))
  replace BX := Lib.hid (BX.out.below hb BX.out.lt)
  clear hb
  obtain ⟨W11, hW11⟩ : ∃ W11, W11 = w10.alloc (.cells #[.int .i64 3, .int .i64 0, .string sa, .slice none 0 0] 25) := ⟨_, rfl⟩
  have hbW11 : Below w10.heap.size w10 W11 := by rw [hW11]; exact below_alloc _ _
  have L11 : Hid (TmC AllB W11 (some ⟨w10.heap.size, 0, none⟩) 1 [Tm.at' sa]) := Lib.hid (by
    rw [hW11]
    refine lit_make w10 [(Tm.at' sa, none, 0)] (fun e he => ?_) (by simp)
    simp only [List.mem_cons, List.not_mem_nil, or_false] at he
    subst he
    exact ⟨by show ByteArray.size sa ≤ 9223372036854775807; decide, nilC _⟩)
  replace HB := Lib.hid (HB.out.trans (hbW11.mono HB.out.size))
  replace L6 := Lib.hid (L6.out.stay hbW11 (Nat.le_refl _))
  replace BX := Lib.hid (BX.out.below hbW11 BX.out.lt)
  clear hbW11
  go_wp2_with fail
  rw [← hW11]
  clear hW11
  refine (fX sg _ _ _ _).mono ?_
  rintro e w12 ⟨rfl, hb⟩
  replace HB := Lib.hid (HB.out.trans (hb.mono HB.out.size))
  replace L6 := Lib.hid (L6.out.stay hb (Nat.le_refl _))
  replace L11 := Lib.hid (L11.out.stay hb (Nat.le_refl _))
  replace BX := Lib.hid (BX.out.below hb BX.out.lt)
  clear hb
  go_wp2_with fail
  refine (aX sa _).mono ?_
  rintro e w13 ⟨rfl, hb⟩
  replace HB := Lib.hid (HB.out.trans (hb.mono HB.out.size))
  replace L6 := Lib.hid (L6.out.stay hb (Nat.le_refl _))
  replace L11 := Lib.hid (L11.out.stay hb (Nat.le_refl _))
  replace BX := Lib.hid (BX.out.below hb BX.out.lt)
  clear hb
  go_wp2_with fail
  refine (aX sb _).mono ?_
  rintro e w14 ⟨rfl, hb⟩
  replace HB := Lib.hid (HB.out.trans (hb.mono HB.out.size))
  replace L6 := Lib.hid (L6.out.stay hb (Nat.le_refl _))
  replace L11 := Lib.hid (L11.out.stay hb (Nat.le_refl _))
  replace BX := Lib.hid (BX.out.below hb BX.out.lt)
  clear hb
  obtain ⟨W15, hW15⟩ : ∃ W15, W15 = w14.alloc (.cells #[.int .i64 3, .int .i64 0, .string sa, .slice none 0 0, .int .i64 3, .int .i64 0, .string sb, .slice none 0 0] 25) := ⟨_, rfl⟩
  have hbW15 : Below w14.heap.size w14 W15 := by rw [hW15]; exact below_alloc _ _
  have L15 : Hid (TmC AllB W15 (some ⟨w14.heap.size, 0, none⟩) 2 [Tm.at' sa, Tm.at' sb]) := Lib.hid (by
    rw [hW15]
    refine lit_make w14 [(Tm.at' sa, none, 0), (Tm.at' sb, none, 0)] (fun e he => ?_) (by simp)
    simp only [List.mem_cons, List.not_mem_nil, or_false] at he
    rcases he with rfl | rfl
    · exact ⟨by show ByteArray.size sa ≤ 9223372036854775807; decide, nilC _⟩
    · exact ⟨by show ByteArray.size sb ≤ 9223372036854775807; decide, nilC _⟩)
  replace HB := Lib.hid (HB.out.trans (hbW15.mono HB.out.size))
  replace L6 := Lib.hid (L6.out.stay hbW15 (Nat.le_refl _))
  replace L11 := Lib.hid (L11.out.stay hbW15 (Nat.le_refl _))
  replace BX := Lib.hid (BX.out.below hbW15 BX.out.lt)
  clear hbW15
  go_wp2_with fail
  rw [← hW15]
  clear hW15
  refine (fX sf _ _ _ _).mono ?_
  rintro e w16 ⟨rfl, hb⟩
  replace HB := Lib.hid (HB.out.trans (hb.mono HB.out.size))
  replace L6 := Lib.hid (L6.out.stay hb (Nat.le_refl _))
  replace L11 := Lib.hid (L11.out.stay hb (Nat.le_refl _))
  replace L15 := Lib.hid (L15.out.stay hb (Nat.le_refl _))
  replace BX := Lib.hid (BX.out.below hb BX.out.lt)
  clear hb
  have hc := compareTop_calls (Tm.fn sg [Tm.at' sa]) (Tm.fn sf [Tm.at' sa, Tm.at' sb]) AllB AllB w16 _ _ ⟨some ⟨w10.heap.size, 0, none⟩, 1, rfl, by decide, L11.out⟩ ⟨some ⟨w14.heap.size, 0, none⟩, 2, rfl, by decide, L15.out⟩
  rw [s_cmp.1, s_cmp.2] at hc
  have Hc := Lib.hid hc; clear hc
  clear L11 L15
  go_wp2_with fail
  refine (Hc.out).mono ?_
  rintro e w17 ⟨rfl, hb⟩
  replace HB := Lib.hid (HB.out.trans (hb.mono HB.out.size))
  replace L6 := Lib.hid (L6.out.stay hb (Nat.le_refl _))
  replace BX := Lib.hid (BX.out.below hb BX.out.lt)
  clear hb
  clear Hc
  have hc := pathsTop_calls sX AllB w17 _ ⟨some ⟨w5.heap.size, 0, none⟩, 2, rfl, by decide, L6.out⟩
  rw [sX_ok, if_pos rfl, s_paths, show errT true = 0 from rfl] at hc
  have Hc := Lib.hid hc; clear hc
  obtain ⟨⟨x0, x1, x2, x3⟩, -⟩ := BX.out.four
  have xl := BX.out.lt
  clear L6
  go_wp2_with fail
  refine (Hc.out).mono ?_
  rintro e w18 ⟨AP, cp, rfl, hsp, hb⟩
  replace HB := Lib.hid (HB.out.trans (hb.mono HB.out.size))
  clear hb
  clear Hc
  clear x0 x1 x2 x3 xl
  clear BX
  have HSP := Lib.hid (show SlC _ w18 AP cp [[], [0], [1], [1, 0], [1, 1]] from hsp); clear hsp
  go_wp2_with fail
  refine (vX 0 _).mono ?_
  rintro e w19 ⟨rfl, hb⟩
  replace HB := Lib.hid (HB.out.trans (hb.mono HB.out.size))
  replace HSP := Lib.hid (SlC.stay HSP.out hb (Nat.le_refl _))
  clear hb
  go_wp2_with fail
  refine (vX 1 _).mono ?_
  rintro e w20 ⟨rfl, hb⟩
  replace HB := Lib.hid (HB.out.trans (hb.mono HB.out.size))
  replace HSP := Lib.hid (SlC.stay HSP.out hb (Nat.le_refl _))
  clear hb
  obtain ⟨W21, hW21⟩ : ∃ W21, W21 = w20.alloc (.cells #[.int .i64 1, .int .i64 0, .string ⟨#[]⟩, .slice none 0 0, .int .i64 1, .int .i64 1, .string ⟨#[]⟩, .slice none 0 0] 25) := ⟨_, rfl⟩
  have hbW21 : Below w20.heap.size w20 W21 := by rw [hW21]; exact below_alloc _ _
  have L21 : Hid (TmC AllB W21 (some ⟨w20.heap.size, 0, none⟩) 2 [Tm.va 0, Tm.va 1]) := Lib.hid (by
    rw [hW21]
    refine lit_make w20 [(Tm.va 0, none, 0), (Tm.va 1, none, 0)] (fun e he => ?_) (by simp)
    simp only [List.mem_cons, List.not_mem_nil, or_false] at he
    rcases he with rfl | rfl
    · exact ⟨by show ByteArray.size ⟨#[]⟩ ≤ 9223372036854775807; decide, nilC _⟩
    · exact ⟨by show ByteArray.size ⟨#[]⟩ ≤ 9223372036854775807; decide, nilC _⟩)
  replace HB := Lib.hid (HB.out.trans (hbW21.mono HB.out.size))
  replace HSP := Lib.hid (SlC.stay HSP.out hbW21 (Nat.le_refl _))
  clear hbW21
  go_wp2_with fail
  rw [← hW21]
  clear hW21
  refine (fX sf _ _ _ _).mono ?_
  rintro e w22 ⟨rfl, hb⟩
  replace HB := Lib.hid (HB.out.trans (hb.mono HB.out.size))
  replace L21 := Lib.hid (L21.out.stay hb (Nat.le_refl _))
  replace HSP := Lib.hid (SlC.stay HSP.out hb (Nat.le_refl _))
  clear hb
  go_wp2_with fail
  refine (vX 1 _).mono ?_
  rintro e w23 ⟨rfl, hb⟩
  replace HB := Lib.hid (HB.out.trans (hb.mono HB.out.size))
  replace L21 := Lib.hid (L21.out.stay hb (Nat.le_refl _))
  replace HSP := Lib.hid (SlC.stay HSP.out hb (Nat.le_refl _))
  clear hb
  obtain ⟨W24, hW24⟩ : ∃ W24, W24 = w23.alloc (.cells #[.int .i64 1, .int .i64 1, .string ⟨#[]⟩, .slice none 0 0] 25) := ⟨_, rfl⟩
  have hbW24 : Below w23.heap.size w23 W24 := by rw [hW24]; exact below_alloc _ _
  have L24 : Hid (TmC AllB W24 (some ⟨w23.heap.size, 0, none⟩) 1 [Tm.va 1]) := Lib.hid (by
    rw [hW24]
    refine lit_make w23 [(Tm.va 1, none, 0)] (fun e he => ?_) (by simp)
    simp only [List.mem_cons, List.not_mem_nil, or_false] at he
    subst he
    exact ⟨by show ByteArray.size ⟨#[]⟩ ≤ 9223372036854775807; decide, nilC _⟩)
  replace HB := Lib.hid (HB.out.trans (hbW24.mono HB.out.size))
  replace L21 := Lib.hid (L21.out.stay hbW24 (Nat.le_refl _))
  replace HSP := Lib.hid (SlC.stay HSP.out hbW24 (Nat.le_refl _))
  clear hbW24
  go_wp2_with fail
  rw [← hW24]
  clear hW24
  refine (fX sg _ _ _ _).mono ?_
  rintro e w25 ⟨rfl, hb⟩
  replace HB := Lib.hid (HB.out.trans (hb.mono HB.out.size))
  replace L21 := Lib.hid (L21.out.stay hb (Nat.le_refl _))
  replace L24 := Lib.hid (L24.out.stay hb (Nat.le_refl _))
  replace HSP := Lib.hid (SlC.stay HSP.out hb (Nat.le_refl _))
  clear hb
  go_wp2_with fail
  refine (aX sa _).mono ?_
  rintro e w26 ⟨rfl, hb⟩
  replace HB := Lib.hid (HB.out.trans (hb.mono HB.out.size))
  replace L21 := Lib.hid (L21.out.stay hb (Nat.le_refl _))
  replace L24 := Lib.hid (L24.out.stay hb (Nat.le_refl _))
  replace HSP := Lib.hid (SlC.stay HSP.out hb (Nat.le_refl _))
  clear hb
  obtain ⟨W27, hW27⟩ : ∃ W27, W27 = w26.alloc (.cells #[.int .i64 5, .int .i64 0, .string sg, .slice (some ⟨w23.heap.size, 0, none⟩) 1 1, .int .i64 3, .int .i64 0, .string sa, .slice none 0 0] 25) := ⟨_, rfl⟩
  have hbW27 : Below w26.heap.size w26 W27 := by rw [hW27]; exact below_alloc _ _
  have L27 : Hid (TmC AllB W27 (some ⟨w26.heap.size, 0, none⟩) 2 [Tm.fn sg [Tm.va 1], Tm.at' sa]) := Lib.hid (by
    rw [hW27]
    refine lit_make w26 [(Tm.fn sg [Tm.va 1], some ⟨w23.heap.size, 0, none⟩, 1), (Tm.at' sa, none, 0)] (fun e he => ?_) (by simp)
    simp only [List.mem_cons, List.not_mem_nil, or_false] at he
    rcases he with rfl | rfl
    · exact ⟨by show ByteArray.size sg ≤ 9223372036854775807; decide, L24.out⟩
    · exact ⟨by show ByteArray.size sa ≤ 9223372036854775807; decide, nilC _⟩)
  replace HB := Lib.hid (HB.out.trans (hbW27.mono HB.out.size))
  replace L21 := Lib.hid (L21.out.stay hbW27 (Nat.le_refl _))
  replace L24 := Lib.hid (L24.out.stay hbW27 (Nat.le_refl _))
  replace HSP := Lib.hid (SlC.stay HSP.out hbW27 (Nat.le_refl _))
  clear hbW27
  clear L24
  have hc := subst_calls sP sQ AllB AllB W27 _ (some ⟨w26.heap.size, 0, none⟩) 2 ⟨some ⟨w20.heap.size, 0, none⟩, 2, rfl, by decide, L21.out⟩ L27.out
  rw [s_subst.1, s_subst.2] at hc
  have hc2 : Calls Try.prog 42 _ W27 fun e w2 => ∃ A c, e = .returned (.tuple #[.agg #[.int .i64 5, .int .i64 0, .string sf, .slice A 2 c], .int .i64 0]) ∧ TmC AllB w2 A c sR.l ∧ Below W27.heap.size W27 w2 := hc.mono (fun e w2 ⟨A, c, h1, _, h3, h4⟩ => ⟨A, c, h1, h3.mono (fun _ _ => trivial), h4⟩)
  have Hc := Lib.hid hc2; clear hc hc2
  clear L21 L27
  go_wp2_with fail
  rw [← hW27]
  clear hW27
  refine (Hc.out).mono ?_
  rintro e w28 ⟨AS, cs, rfl, hsc, hb⟩
  replace HB := Lib.hid (HB.out.trans (hb.mono HB.out.size))
  replace HSP := Lib.hid (SlC.stay HSP.out hb (Nat.le_refl _))
  clear hb
  clear Hc
  have HSS : Hid (TmC AllB w28 AS cs sR.l) := Lib.hid hsc; clear hsc
  obtain ⟨W29, hW29⟩ : ∃ W29, W29 = w28.alloc (.cells #[.int .i64 5, .int .i64 0, .string sf, .slice AS 2 cs] 25) := ⟨_, rfl⟩
  have hbW29 : Below w28.heap.size w28 W29 := by rw [hW29]; exact below_alloc _ _
  have BY : Hid (Blk W29 w28.heap.size 25 #[.int .i64 5, .int .i64 0, .string sf, .slice AS 2 cs]) := Lib.hid (by rw [hW29]; exact Blk.new _ _ _)
  replace HB := Lib.hid (HB.out.trans (hbW29.mono HB.out.size))
  replace HSS := Lib.hid (HSS.out.stay hbW29 (Nat.le_refl _))
  replace HSP := Lib.hid (SlC.stay HSP.out hbW29 (Nat.le_refl _))
  clear hbW29
  go_wp2_with fail
  rw [← hW29]
  clear hW29
  obtain ⟨⟨y0, y1, y2, y3⟩, -⟩ := BY.out.four
  have yl := BY.out.lt
  refine wp_region_noPanic ?_
  refine wp_region_held_drew (S := S6 W29 w28.heap.size AS 2 cs) (by kernel_rfl) ?_ (fun hHeld => ?_)
  · exact ⟨Lib.hid ((Below.refl _ _).drew), y0, y1, y2, y3⟩
  refine takeH (i := 0) (d := 59) (.int .i64 5) (by kernel_rfl) (by kernel_rfl) (by kernel_rfl) (by kernel_rfl) (fun _ _ _ _ h => h) (fun o ho => ?_) hHeld ?_
  · simp only [List.getElem?_toArray, List.getElem?_cons_zero, List.getElem?_cons_succ, Option.some.injEq] at ho
    subst ho
    refine Or.inl ⟨by rfl, fun w hSw => ?_⟩
    go_simp
  simp only [Act.put, List.setIfInBounds_toArray, List.set_cons_zero, List.set_cons_succ]
  refine takeH (i := 1) (d := 60) (.bool false) (by kernel_rfl) (by kernel_rfl) (by kernel_rfl) (by kernel_rfl) (fun _ _ _ _ h => h) (fun o ho => ?_) hHeld ?_
  · simp only [List.getElem?_toArray, List.getElem?_cons_zero, List.getElem?_cons_succ, Option.some.injEq] at ho
    subst ho
    refine Or.inl ⟨by rfl, fun w hSw => ?_⟩
    go_simp
  simp only [Act.put, List.setIfInBounds_toArray, List.set_cons_zero, List.set_cons_succ]
  refine takeH (i := 2) (d := 61) (.bool false) (by kernel_rfl) (by kernel_rfl) (by kernel_rfl) (by kernel_rfl) (fun _ _ _ _ h => h) (fun o ho => ?_) hHeld ?_
  · simp only [List.getElem?_toArray, List.getElem?_cons_zero, List.getElem?_cons_succ, Option.some.injEq] at ho
    subst ho
    refine Or.inl ⟨by rfl, fun w hSw => ?_⟩
    go_simp
  simp only [Act.put, List.setIfInBounds_toArray, List.set_cons_zero, List.set_cons_succ]
  refine takeH (i := 3) (d := 62) (.int .i64 3) (by kernel_rfl) (by kernel_rfl) (by kernel_rfl) (by kernel_rfl) (fun _ _ _ _ h => h) (fun o ho => ?_) hHeld ?_
  · simp only [List.getElem?_toArray, List.getElem?_cons_zero, List.getElem?_cons_succ, Option.some.injEq] at ho
    subst ho
    refine Or.inl ⟨by rfl, fun w hSw => ?_⟩
    go_simp
  simp only [Act.put, List.setIfInBounds_toArray, List.set_cons_zero, List.set_cons_succ]
  refine takeH (i := 4) (d := 63) (.bool false) (by kernel_rfl) (by kernel_rfl) (by kernel_rfl) (by kernel_rfl) (fun _ _ _ _ h => h) (fun o ho => ?_) hHeld ?_
  · simp only [List.getElem?_toArray, List.getElem?_cons_zero, List.getElem?_cons_succ, Option.some.injEq] at ho
    subst ho
    refine Or.inl ⟨by rfl, fun w hSw => ?_⟩
    go_simp
  simp only [Act.put, List.setIfInBounds_toArray, List.set_cons_zero, List.set_cons_succ]
  refine takeH (i := 5) (d := 64) (.bool false) (by kernel_rfl) (by kernel_rfl) (by kernel_rfl) (by kernel_rfl) (fun _ _ _ _ h => h) (fun o ho => ?_) hHeld ?_
  · simp only [List.getElem?_toArray, List.getElem?_cons_zero, List.getElem?_cons_succ, Option.some.injEq] at ho
    subst ho
    refine Or.inl ⟨by rfl, fun w hSw => ?_⟩
    go_simp
  simp only [Act.put, List.setIfInBounds_toArray, List.set_cons_zero, List.set_cons_succ]
  refine takeH (i := 6) (d := 65) (.bool false) (by kernel_rfl) (by kernel_rfl) (by kernel_rfl) (by kernel_rfl) (fun _ _ _ _ h => h) (fun o ho => ?_) hHeld ?_
  · simp only [List.getElem?_toArray, List.getElem?_cons_zero, List.getElem?_cons_succ, Option.some.injEq] at ho
    subst ho
    refine Or.inl ⟨by rfl, fun w hSw => ?_⟩
    go_simp
  simp only [Act.put, List.setIfInBounds_toArray, List.set_cons_zero, List.set_cons_succ]
  refine takeH (i := 7) (d := 66) (.int .i64 (-1)) (by kernel_rfl) (by kernel_rfl) (by kernel_rfl) (by kernel_rfl) (fun _ _ _ _ h => h) (fun o ho => ?_) hHeld ?_
  · simp only [List.getElem?_toArray, List.getElem?_cons_zero, List.getElem?_cons_succ, Option.some.injEq] at ho
    subst ho
    refine Or.inl ⟨by rfl, fun w hSw => ?_⟩
    go_simp
  simp only [Act.put, List.setIfInBounds_toArray, List.set_cons_zero, List.set_cons_succ]
  refine takeH (i := 8) (d := 67) (.bool false) (by kernel_rfl) (by kernel_rfl) (by kernel_rfl) (by kernel_rfl) (fun _ _ _ _ h => h) (fun o ho => ?_) hHeld ?_
  · simp only [List.getElem?_toArray, List.getElem?_cons_zero, List.getElem?_cons_succ, Option.some.injEq] at ho
    subst ho
    refine Or.inl ⟨by rfl, fun w hSw => ?_⟩
    go_simp
  simp only [Act.put, List.setIfInBounds_toArray, List.set_cons_zero, List.set_cons_succ]
  refine takeH (i := 9) (d := 68) (.bool false) (by kernel_rfl) (by kernel_rfl) (by kernel_rfl) (by kernel_rfl) (fun _ _ _ _ h => h) (fun o ho => ?_) hHeld ?_
  · simp only [List.getElem?_toArray, List.getElem?_cons_zero, List.getElem?_cons_succ, Option.some.injEq] at ho
    subst ho
    refine Or.inl ⟨by rfl, fun w hSw => ?_⟩
    go_simp
  simp only [Act.put, List.setIfInBounds_toArray, List.set_cons_zero, List.set_cons_succ]
  refine takeH (i := 10) (d := 69) (.bool false) (by kernel_rfl) (by kernel_rfl) (by kernel_rfl) (by kernel_rfl) (fun _ _ _ _ h => h) (fun o ho => ?_) hHeld ?_
  · simp only [List.getElem?_toArray, List.getElem?_cons_zero, List.getElem?_cons_succ, Option.some.injEq] at ho
    subst ho
    refine Or.inl ⟨by rfl, fun w hSw => ?_⟩
    go_simp
  simp only [Act.put, List.setIfInBounds_toArray, List.set_cons_zero, List.set_cons_succ]
  refine takeH (i := 11) (d := 70) (.int .i64 0) (by kernel_rfl) (by kernel_rfl) (by kernel_rfl) (by kernel_rfl) (fun _ _ _ _ h => h) (fun o ho => ?_) hHeld ?_
  · simp only [List.getElem?_toArray, List.getElem?_cons_zero, List.getElem?_cons_succ, Option.some.injEq] at ho
    subst ho
    refine Or.inl ⟨by rfl, fun w hSw => ?_⟩
    go_simp
  simp only [Act.put, List.setIfInBounds_toArray, List.set_cons_zero, List.set_cons_succ]
  refine takeH (i := 12) (d := 71) (.bool false) (by kernel_rfl) (by kernel_rfl) (by kernel_rfl) (by kernel_rfl) (fun _ _ _ _ h => h) (fun o ho => ?_) hHeld ?_
  · simp only [List.getElem?_toArray, List.getElem?_cons_zero, List.getElem?_cons_succ, Option.some.injEq] at ho
    subst ho
    refine Or.inl ⟨by rfl, fun w hSw => ?_⟩
    go_simp
  simp only [Act.put, List.setIfInBounds_toArray, List.set_cons_zero, List.set_cons_succ]
  refine takeH (i := 13) (d := 72) (.bool false) (by kernel_rfl) (by kernel_rfl) (by kernel_rfl) (by kernel_rfl) (fun _ _ _ _ h => h) (fun o ho => ?_) hHeld ?_
  · simp only [List.getElem?_toArray, List.getElem?_cons_zero, List.getElem?_cons_succ, Option.some.injEq] at ho
    subst ho
    refine Or.inl ⟨by rfl, fun w hSw => ?_⟩
    go_simp
  simp only [Act.put, List.setIfInBounds_toArray, List.set_cons_zero, List.set_cons_succ]
  refine takeH (i := 14) (d := 73) (.bool false) (by kernel_rfl) (by kernel_rfl) (by kernel_rfl) (by kernel_rfl) (fun _ _ _ _ h => h) (fun o ho => ?_) hHeld ?_
  · simp only [List.getElem?_toArray, List.getElem?_cons_zero, List.getElem?_cons_succ, Option.some.injEq] at ho
    subst ho
    refine Or.inl ⟨by rfl, fun w hSw => ?_⟩
    go_simp
  simp only [Act.put, List.setIfInBounds_toArray, List.set_cons_zero, List.set_cons_succ]
  refine takeH (i := 15) (d := 74) (.int .i64 0) (by kernel_rfl) (by kernel_rfl) (by kernel_rfl) (by kernel_rfl) (fun _ _ _ _ h => h) (fun o ho => ?_) hHeld ?_
  · simp only [List.getElem?_toArray, List.getElem?_cons_zero, List.getElem?_cons_succ, Option.some.injEq] at ho
    subst ho
    refine Or.inl ⟨by rfl, fun w hSw => ?_⟩
    go_simp
  simp only [Act.put, List.setIfInBounds_toArray, List.set_cons_zero, List.set_cons_succ]
  refine takeH (i := 16) (d := 75) (.bool false) (by kernel_rfl) (by kernel_rfl) (by kernel_rfl) (by kernel_rfl) (fun _ _ _ _ h => h) (fun o ho => ?_) hHeld ?_
  · simp only [List.getElem?_toArray, List.getElem?_cons_zero, List.getElem?_cons_succ, Option.some.injEq] at ho
    subst ho
    refine Or.inl ⟨by rfl, fun w hSw => ?_⟩
    go_simp
  simp only [Act.put, List.setIfInBounds_toArray, List.set_cons_zero, List.set_cons_succ]
  refine takeH (i := 17) (d := 76) (.bool false) (by kernel_rfl) (by kernel_rfl) (by kernel_rfl) (by kernel_rfl) (fun _ _ _ _ h => h) (fun o ho => ?_) hHeld ?_
  · simp only [List.getElem?_toArray, List.getElem?_cons_zero, List.getElem?_cons_succ, Option.some.injEq] at ho
    subst ho
    refine Or.inl ⟨by rfl, fun w hSw => ?_⟩
    go_simp
  simp only [Act.put, List.setIfInBounds_toArray, List.set_cons_zero, List.set_cons_succ]
  refine takeH (i := 18) (d := 77) (.bool false) (by kernel_rfl) (by kernel_rfl) (by kernel_rfl) (by kernel_rfl) (fun _ _ _ _ h => h) (fun o ho => ?_) hHeld ?_
  · simp only [List.getElem?_toArray, List.getElem?_cons_zero, List.getElem?_cons_succ, Option.some.injEq] at ho
    subst ho
    refine Or.inl ⟨by rfl, fun w hSw => ?_⟩
    go_simp
  simp only [Act.put, List.setIfInBounds_toArray, List.set_cons_zero, List.set_cons_succ]
  refine takeH (i := 19) (d := 78) (.slice AP 5 cp) (by kernel_rfl) (by kernel_rfl) (by kernel_rfl) (by kernel_rfl) (fun _ _ _ _ h => h) (fun o ho => ?_) hHeld ?_
  · simp only [List.getElem?_toArray, List.getElem?_cons_zero, List.getElem?_cons_succ, Option.some.injEq] at ho
    subst ho
    refine Or.inl ⟨by rfl, fun w hSw => ?_⟩
    go_simp
  simp only [Act.put, List.setIfInBounds_toArray, List.set_cons_zero, List.set_cons_succ]
  refine five_allocs 20 79 (L := fun d => #[true, true, true, true, true, true, true, true, true, true, true, true, true, true, true, true, true, true, true, true, d 20, d 21, d 22, d 23, d 24, false, false, false, false, false, false, false, false, false, false, false, false, false, false, false, false, false, false, false]) (F := cellsF) (fuel := 19) (by rfl) rfl ?_ ?_ ?_ ?_ ?_ ?_ ?_ ?_ (by kernel_rfl) (fun i x w w2 => cellsF_below) ?_ hHeld
  · intro d d2 h; simp only [h 20 (by decide), h 21 (by decide), h 22 (by decide), h 23 (by decide), h 24 (by decide)]
  · intro d hd
    generalize h0 : d 20 = c0 at *; generalize h1 : d 21 = c1 at *; generalize h2 : d 22 = c2 at *; generalize h3 : d 23 = c3 at *; generalize h4 : d 24 = c4 at *
    simp only [List.filter, h0, h1, h2, h3, h4]
    cases c0 <;> cases c1 <;> cases c2 <;> cases c3 <;> cases c4 <;> first | (exfalso; obtain ⟨i, hi, hdi⟩ := hd; simp only [List.mem_cons, List.not_mem_nil, or_false] at hi; rcases hi with rfl | rfl | rfl | rfl | rfl <;> (first | (rw [h0] at hdi; cases hdi; done) | (rw [h1] at hdi; cases hdi; done) | (rw [h2] at hdi; cases hdi; done) | (rw [h3] at hdi; cases hdi; done) | (rw [h4] at hdi; cases hdi; done))) | kernel_rfl
  · intro d i hi; simp only [List.mem_cons, List.not_mem_nil, or_false] at hi; rcases hi with rfl | rfl | rfl | rfl | rfl <;> rfl
  · intro o ho
    simp only [Nat.reduceAdd, List.getElem?_toArray, List.getElem?_cons_zero, List.getElem?_cons_succ, Option.some.injEq] at ho
    subst ho
    refine ⟨fun vals => by kernel_rfl, fun AA w2 K2 hS hK => ?_⟩
    go_simp
    exact hK _ _ (hS.below (below_alloc _ _)) (below_alloc _ _) ⟨_, rfl, Blk.new _ _ _⟩
  · intro o ho
    simp only [Nat.reduceAdd, List.getElem?_toArray, List.getElem?_cons_zero, List.getElem?_cons_succ, Option.some.injEq] at ho
    subst ho
    refine ⟨fun vals => by kernel_rfl, fun AA w2 K2 hS hK => ?_⟩
    go_simp
    exact hK _ _ (hS.below (below_alloc _ _)) (below_alloc _ _) ⟨_, rfl, Blk.new _ _ _⟩
  · intro o ho
    simp only [Nat.reduceAdd, List.getElem?_toArray, List.getElem?_cons_zero, List.getElem?_cons_succ, Option.some.injEq] at ho
    subst ho
    refine ⟨fun vals => by kernel_rfl, fun AA w2 K2 hS hK => ?_⟩
    go_simp
    exact hK _ _ (hS.below (below_alloc _ _)) (below_alloc _ _) ⟨_, rfl, Blk.new _ _ _⟩
  · intro o ho
    simp only [Nat.reduceAdd, List.getElem?_toArray, List.getElem?_cons_zero, List.getElem?_cons_succ, Option.some.injEq] at ho
    subst ho
    refine ⟨fun vals => by kernel_rfl, fun AA w2 K2 hS hK => ?_⟩
    go_simp
    exact hK _ _ (hS.below (below_alloc _ _)) (below_alloc _ _) ⟨_, rfl, Blk.new _ _ _⟩
  · intro o ho
    simp only [Nat.reduceAdd, List.getElem?_toArray, List.getElem?_cons_zero, List.getElem?_cons_succ, Option.some.injEq] at ho
    subst ho
    refine ⟨fun vals => by kernel_rfl, fun AA w2 K2 hS hK => ?_⟩
    go_simp
    exact hK _ _ (hS.below (below_alloc _ _)) (below_alloc _ _) ⟨_, rfl, Blk.new _ _ _⟩
  intro vals w2 hHeld hv
  dsimp only
  obtain ⟨g0, e0, k0⟩ := hv 20 (by simp)
  replace e0 : vals 20 = .slice (some ⟨g0, 0, none⟩) 0 0 := e0
  replace k0 : Blk w2 g0 3 #[] := k0
  obtain ⟨g1, e1, k1⟩ := hv 21 (by simp)
  replace e1 : vals 21 = .slice (some ⟨g1, 0, none⟩) 1 1 := e1
  replace k1 : Blk w2 g1 3 #[.int .i64 0] := k1
  obtain ⟨g2, e2, k2⟩ := hv 22 (by simp)
  replace e2 : vals 22 = .slice (some ⟨g2, 0, none⟩) 1 1 := e2
  replace k2 : Blk w2 g2 3 #[.int .i64 1] := k2
  obtain ⟨g3, e3, k3⟩ := hv 23 (by simp)
  replace e3 : vals 23 = .slice (some ⟨g3, 0, none⟩) 2 2 := e3
  replace k3 : Blk w2 g3 3 #[.int .i64 1, .int .i64 0] := k3
  obtain ⟨g4, e4, k4⟩ := hv 24 (by simp)
  replace e4 : vals 24 = .slice (some ⟨g4, 0, none⟩) 2 2 := e4
  replace k4 : Blk w2 g4 3 #[.int .i64 1, .int .i64 1] := k4
  simp only [put5, Nat.reduceAdd, Act.put, List.setIfInBounds_toArray, List.set_cons_zero, List.set_cons_succ, e0, e1, e2, e3, e4]
  clear e0 e1 e2 e3 e4 hv
  refine stepH (i := 25) (by kernel_rfl) (by kernel_rfl) (fun o ho K2 hK => ?_)
  simp only [List.getElem?_toArray, List.getElem?_cons_zero, List.getElem?_cons_succ, Option.some.injEq] at ho
  subst ho
  go_simp
  obtain ⟨W30, hW30⟩ : ∃ W30, W30 = w2.alloc (.cells #[.slice (some ⟨g0, 0, none⟩) 0 0, .slice (some ⟨g1, 0, none⟩) 1 1, .slice (some ⟨g2, 0, none⟩) 1 1, .slice (some ⟨g3, 0, none⟩) 2 2, .slice (some ⟨g4, 0, none⟩) 2 2] 39) := ⟨_, rfl⟩
  have hbW30 : Below w2.heap.size w2 W30 := by rw [hW30]; exact below_alloc _ _
  rw [← hW30]
  refine hK.out _ _ (hHeld.below hbW30) (fun hHeld => ?_)
  clear hK K2
  try simp only [Act.put, List.setIfInBounds_toArray, List.set_cons_zero, List.set_cons_succ]
  have hrow : SlC AllB W30 (some ⟨w2.heap.size, 0, none⟩) 5 [[], [0], [1], [1, 0], [1, 1]] := rows_lit (k0.below hbW30 k0.lt) (k1.below hbW30 k1.lt) (k2.below hbW30 k2.lt) (k3.below hbW30 k3.lt) (k4.below hbW30 k4.lt) (by rw [hW30]; exact Blk.new _ _ _)
  have hsp := SlC.stay HSP.out hHeld.1.out (Nat.le_refl _)
  have hc := equalRows_calls _ _ _ _ _ _ _ _ W30 hsp hrow
  rw [decide_eq_true rfl] at hc
  have Hc := Lib.hid hc; clear hc hrow hsp k0 k1 k2 k3 k4 HSP
  clear hbW30 hW30
  refine stepH (i := 26) (by kernel_rfl) (by kernel_rfl) (fun o ho K2 hK => ?_)
  simp only [List.getElem?_toArray, List.getElem?_cons_zero, List.getElem?_cons_succ, Option.some.injEq] at ho
  subst ho
  go_simp
  refine (Hc.out).mono ?_
  rintro e w31x ⟨rfl, hb⟩
  dsimp only
  refine hK.out _ _ (hHeld.below hb) (fun hHeld => ?_)
  clear hK K2
  try simp only [Act.put, List.setIfInBounds_toArray, List.set_cons_zero, List.set_cons_succ]
  clear hb
  clear Hc
  refine takeH (i := 27) (d := 86) (.bool false) (by kernel_rfl) (by kernel_rfl) (by kernel_rfl) (by kernel_rfl) (fun _ _ _ _ h => h) (fun o ho => ?_) hHeld ?_
  · simp only [List.getElem?_toArray, List.getElem?_cons_zero, List.getElem?_cons_succ, Option.some.injEq] at ho
    subst ho
    refine Or.inl ⟨by rfl, fun w hSw => ?_⟩
    go_simp
  simp only [Act.put, List.setIfInBounds_toArray, List.set_cons_zero, List.set_cons_succ]
  refine takeH (i := 28) (d := 87) (.bool false) (by kernel_rfl) (by kernel_rfl) (by kernel_rfl) (by kernel_rfl) (fun _ _ _ _ h => h) (fun o ho => ?_) hHeld ?_
  · simp only [List.getElem?_toArray, List.getElem?_cons_zero, List.getElem?_cons_succ, Option.some.injEq] at ho
    subst ho
    refine Or.inl ⟨by rfl, fun w hSw => ?_⟩
    go_simp
  simp only [Act.put, List.setIfInBounds_toArray, List.set_cons_zero, List.set_cons_succ]
  refine takeH (i := 29) (d := 88) (.bool false) (by kernel_rfl) (by kernel_rfl) (by kernel_rfl) (by kernel_rfl) (fun _ _ _ _ h => h) (fun o ho => ?_) hHeld ?_
  · simp only [List.getElem?_toArray, List.getElem?_cons_zero, List.getElem?_cons_succ, Option.some.injEq] at ho
    subst ho
    refine Or.inl ⟨by rfl, fun w hSw => ?_⟩
    go_simp
  simp only [Act.put, List.setIfInBounds_toArray, List.set_cons_zero, List.set_cons_succ]
  refine takeH (i := 30) (d := 89) (.int .i64 0) (by kernel_rfl) (by kernel_rfl) (by kernel_rfl) (by kernel_rfl) (fun _ _ _ _ h => h) (fun o ho => ?_) hHeld ?_
  · simp only [List.getElem?_toArray, List.getElem?_cons_zero, List.getElem?_cons_succ, Option.some.injEq] at ho
    subst ho
    refine Or.inl ⟨by rfl, fun w hSw => ?_⟩
    go_simp
  simp only [Act.put, List.setIfInBounds_toArray, List.set_cons_zero, List.set_cons_succ]
  refine takeH (i := 31) (d := 90) (.bool false) (by kernel_rfl) (by kernel_rfl) (by kernel_rfl) (by kernel_rfl) (fun _ _ _ _ h => h) (fun o ho => ?_) hHeld ?_
  · simp only [List.getElem?_toArray, List.getElem?_cons_zero, List.getElem?_cons_succ, Option.some.injEq] at ho
    subst ho
    refine Or.inl ⟨by rfl, fun w hSw => ?_⟩
    go_simp
  simp only [Act.put, List.setIfInBounds_toArray, List.set_cons_zero, List.set_cons_succ]
  refine takeH (i := 32) (d := 91) (.bool false) (by kernel_rfl) (by kernel_rfl) (by kernel_rfl) (by kernel_rfl) (fun _ _ _ _ h => h) (fun o ho => ?_) hHeld ?_
  · simp only [List.getElem?_toArray, List.getElem?_cons_zero, List.getElem?_cons_succ, Option.some.injEq] at ho
    subst ho
    refine Or.inl ⟨by rfl, fun w hSw => ?_⟩
    go_simp
  simp only [Act.put, List.setIfInBounds_toArray, List.set_cons_zero, List.set_cons_succ]
  refine takeH (i := 33) (d := 92) (.bool false) (by kernel_rfl) (by kernel_rfl) (by kernel_rfl) (by kernel_rfl) (fun _ _ _ _ h => h) (fun o ho => ?_) hHeld ?_
  · simp only [List.getElem?_toArray, List.getElem?_cons_zero, List.getElem?_cons_succ, Option.some.injEq] at ho
    subst ho
    refine Or.inl ⟨by rfl, fun w hSw => ?_⟩
    go_simp
  simp only [Act.put, List.setIfInBounds_toArray, List.set_cons_zero, List.set_cons_succ]
  refine takeH (i := 34) (d := 93) (.agg #[.int .i64 5, .int .i64 0, .string sf, .slice AS 2 cs]) (by kernel_rfl) (by kernel_rfl) (by kernel_rfl) (by kernel_rfl) (fun _ _ _ _ h => h) (fun o ho => ?_) hHeld ?_
  · simp only [List.getElem?_toArray, List.getElem?_cons_zero, List.getElem?_cons_succ, Option.some.injEq] at ho
    subst ho
    refine Or.inl ⟨by rfl, fun w hSw => ?_⟩
    obtain ⟨-, s0, s1, s2, s3⟩ := hSw
    go_simp
  simp only [Act.put, List.setIfInBounds_toArray, List.set_cons_zero, List.set_cons_succ]
  refine stepH (i := 35) (by kernel_rfl) (by kernel_rfl) (fun o ho K2 hK => ?_)
  simp only [List.getElem?_toArray, List.getElem?_cons_zero, List.getElem?_cons_succ, Option.some.injEq] at ho
  subst ho
  go_simp
  refine (vX 1 _).mono ?_
  rintro e w32x ⟨rfl, hb⟩
  dsimp only
  refine hK.out _ _ (hHeld.below hb) (fun hHeld => ?_)
  clear hK K2
  try simp only [Act.put, List.setIfInBounds_toArray, List.set_cons_zero, List.set_cons_succ]
  clear hb
  refine stepH (i := 36) (by kernel_rfl) (by kernel_rfl) (fun o ho K2 hK => ?_)
  simp only [List.getElem?_toArray, List.getElem?_cons_zero, List.getElem?_cons_succ, Option.some.injEq] at ho
  subst ho
  go_simp
  obtain ⟨W33, hW33⟩ : ∃ W33, W33 = w32x.alloc (.cells #[.int .i64 1, .int .i64 1, .string ⟨#[]⟩, .slice none 0 0] 25) := ⟨_, rfl⟩
  have hbW33 : Below w32x.heap.size w32x W33 := by rw [hW33]; exact below_alloc _ _
  rw [← hW33]
  refine hK.out _ _ (hHeld.below hbW33) (fun hHeld => ?_)
  clear hK K2
  try simp only [Act.put, List.setIfInBounds_toArray, List.set_cons_zero, List.set_cons_succ]
  have R33 : Hid (TmC AllB W33 (some ⟨w32x.heap.size, 0, none⟩) 1 [Tm.va 1]) := Lib.hid (by
    rw [hW33]
    refine lit_make w32x [(Tm.va 1, none, 0)] (fun e he => ?_) (by simp)
    simp only [List.mem_cons, List.not_mem_nil, or_false] at he
    subst he
    exact ⟨by show ByteArray.size ⟨#[]⟩ ≤ 9223372036854775807; decide, nilC _⟩)
  clear hbW33 hW33
  refine stepH (i := 37) (by kernel_rfl) (by kernel_rfl) (fun o ho K2 hK => ?_)
  simp only [List.getElem?_toArray, List.getElem?_cons_zero, List.getElem?_cons_succ, Option.some.injEq] at ho
  subst ho
  go_simp
  refine (fX sg _ _ _ _).mono ?_
  rintro e w34x ⟨rfl, hb⟩
  dsimp only
  refine hK.out _ _ (hHeld.below hb) (fun hHeld => ?_)
  clear hK K2
  try simp only [Act.put, List.setIfInBounds_toArray, List.set_cons_zero, List.set_cons_succ]
  replace R33 := Lib.hid (R33.out.stay hb (Nat.le_refl _))
  clear hb
  refine stepH (i := 38) (by kernel_rfl) (by kernel_rfl) (fun o ho K2 hK => ?_)
  simp only [List.getElem?_toArray, List.getElem?_cons_zero, List.getElem?_cons_succ, Option.some.injEq] at ho
  subst ho
  go_simp
  refine (aX sa _).mono ?_
  rintro e w35x ⟨rfl, hb⟩
  dsimp only
  refine hK.out _ _ (hHeld.below hb) (fun hHeld => ?_)
  clear hK K2
  try simp only [Act.put, List.setIfInBounds_toArray, List.set_cons_zero, List.set_cons_succ]
  replace R33 := Lib.hid (R33.out.stay hb (Nat.le_refl _))
  clear hb
  refine stepH (i := 39) (by kernel_rfl) (by kernel_rfl) (fun o ho K2 hK => ?_)
  simp only [List.getElem?_toArray, List.getElem?_cons_zero, List.getElem?_cons_succ, Option.some.injEq] at ho
  subst ho
  go_simp
  obtain ⟨W36, hW36⟩ : ∃ W36, W36 = w35x.alloc (.cells #[.int .i64 5, .int .i64 0, .string sg, .slice (some ⟨w32x.heap.size, 0, none⟩) 1 1, .int .i64 3, .int .i64 0, .string sa, .slice none 0 0] 25) := ⟨_, rfl⟩
  have hbW36 : Below w35x.heap.size w35x W36 := by rw [hW36]; exact below_alloc _ _
  rw [← hW36]
  refine hK.out _ _ (hHeld.below hbW36) (fun hHeld => ?_)
  clear hK K2
  try simp only [Act.put, List.setIfInBounds_toArray, List.set_cons_zero, List.set_cons_succ]
  have R36 : Hid (TmC AllB W36 (some ⟨w35x.heap.size, 0, none⟩) 2 [Tm.fn sg [Tm.va 1], Tm.at' sa]) := Lib.hid (by
    rw [hW36]
    refine lit_make w35x [(Tm.fn sg [Tm.va 1], some ⟨w32x.heap.size, 0, none⟩, 1), (Tm.at' sa, none, 0)] (fun e he => ?_) (by simp)
    simp only [List.mem_cons, List.not_mem_nil, or_false] at he
    rcases he with rfl | rfl
    · exact ⟨by show ByteArray.size sg ≤ 9223372036854775807; decide, R33.out⟩
    · exact ⟨by show ByteArray.size sa ≤ 9223372036854775807; decide, nilC _⟩)
  clear R33
  clear hbW36 hW36
  refine stepH (i := 40) (by kernel_rfl) (by kernel_rfl) (fun o ho K2 hK => ?_)
  simp only [List.getElem?_toArray, List.getElem?_cons_zero, List.getElem?_cons_succ, Option.some.injEq] at ho
  subst ho
  go_simp
  refine (fX sf _ _ _ _).mono ?_
  rintro e w37x ⟨rfl, hb⟩
  dsimp only
  refine hK.out _ _ (hHeld.below hb) (fun hHeld => ?_)
  clear hK K2
  try simp only [Act.put, List.setIfInBounds_toArray, List.set_cons_zero, List.set_cons_succ]
  replace R36 := Lib.hid (R36.out.stay hb (Nat.le_refl _))
  clear hb
  have hc := refSame_calls sR AllB AllB w37x (.agg #[.int .i64 5, .int .i64 0, .string sf, .slice AS 2 cs]) (.agg #[.int .i64 5, .int .i64 0, .string sf, .slice (some ⟨w35x.heap.size, 0, none⟩) 2 2]) sR ⟨AS, cs, rfl, by decide, HSS.out.stay hHeld.1.out (Nat.le_refl _)⟩ ⟨some ⟨w35x.heap.size, 0, none⟩, 2, rfl, by decide, R36.out⟩
  rw [sameB_refl] at hc
  have Hc := Lib.hid hc; clear hc
  clear R36 HSS
  refine stepH (i := 41) (by kernel_rfl) (by kernel_rfl) (fun o ho K2 hK => ?_)
  simp only [List.getElem?_toArray, List.getElem?_cons_zero, List.getElem?_cons_succ, Option.some.injEq] at ho
  subst ho
  go_simp
  refine (Hc.out).mono ?_
  rintro e w38x ⟨rfl, hb⟩
  dsimp only
  refine hK.out _ _ (hHeld.below hb) (fun hHeld => ?_)
  clear hK K2
  try simp only [Act.put, List.setIfInBounds_toArray, List.set_cons_zero, List.set_cons_succ]
  clear hb
  clear Hc
  refine takeH (i := 42) (d := 101) (.bool false) (by kernel_rfl) (by kernel_rfl) (by kernel_rfl) (by kernel_rfl) (fun _ _ _ _ h => h) (fun o ho => ?_) hHeld ?_
  · simp only [List.getElem?_toArray, List.getElem?_cons_zero, List.getElem?_cons_succ, Option.some.injEq] at ho
    subst ho
    refine Or.inl ⟨by rfl, fun w hSw => ?_⟩
    go_simp
  simp only [Act.put, List.setIfInBounds_toArray, List.set_cons_zero, List.set_cons_succ]
  refine takeH (i := 43) (d := 102) (.bool false) (by kernel_rfl) (by kernel_rfl) (by kernel_rfl) (by kernel_rfl) (fun _ _ _ _ h => h) (fun o ho => ?_) hHeld ?_
  · simp only [List.getElem?_toArray, List.getElem?_cons_zero, List.getElem?_cons_succ, Option.some.injEq] at ho
    subst ho
    refine Or.inl ⟨by rfl, fun w hSw => ?_⟩
    go_simp
  simp only [Act.put, List.setIfInBounds_toArray, List.set_cons_zero, List.set_cons_succ]
  refine wpAnyH_done (by kernel_rfl) ?_ _
  refine NoPanic.normal ?_
  replace HB := Lib.hid (HB.out.trans (hHeld.1.out.mono HB.out.size))
  clear hHeld
  clear y0 y1 y2 y3 yl
  clear BY
  go_wp2_with fail
  refine (vX 0 _).mono ?_
  rintro e w39 ⟨rfl, hb⟩
  replace HB := Lib.hid (HB.out.trans (hb.mono HB.out.size))
  clear hb
  go_wp2_with fail
  refine (vX 0 _).mono ?_
  rintro e w40 ⟨rfl, hb⟩
  replace HB := Lib.hid (HB.out.trans (hb.mono HB.out.size))
  clear hb
  obtain ⟨W41, hW41⟩ : ∃ W41, W41 = w40.alloc (.cells #[.int .i64 1, .int .i64 0, .string ⟨#[]⟩, .slice none 0 0, .int .i64 1, .int .i64 0, .string ⟨#[]⟩, .slice none 0 0] 25) := ⟨_, rfl⟩
  have hbW41 : Below w40.heap.size w40 W41 := by rw [hW41]; exact below_alloc _ _
  have L41 : Hid (TmC AllB W41 (some ⟨w40.heap.size, 0, none⟩) 2 [Tm.va 0, Tm.va 0]) := Lib.hid (by
    rw [hW41]
    refine lit_make w40 [(Tm.va 0, none, 0), (Tm.va 0, none, 0)] (fun e he => ?_) (by simp)
    simp only [List.mem_cons, List.not_mem_nil, or_false] at he
    rcases he with rfl | rfl
    · exact ⟨by show ByteArray.size ⟨#[]⟩ ≤ 9223372036854775807; decide, nilC _⟩
    · exact ⟨by show ByteArray.size ⟨#[]⟩ ≤ 9223372036854775807; decide, nilC _⟩)
  replace HB := Lib.hid (HB.out.trans (hbW41.mono HB.out.size))
  clear hbW41
  go_wp2_with fail
  rw [← hW41]
  clear hW41
  refine (fX sf _ _ _ _).mono ?_
  rintro e w42 ⟨rfl, hb⟩
  replace HB := Lib.hid (HB.out.trans (hb.mono HB.out.size))
  replace L41 := Lib.hid (L41.out.stay hb (Nat.le_refl _))
  clear hb
  go_wp2_with fail
  refine (aX sa _).mono ?_
  rintro e w43 ⟨rfl, hb⟩
  replace HB := Lib.hid (HB.out.trans (hb.mono HB.out.size))
  replace L41 := Lib.hid (L41.out.stay hb (Nat.le_refl _))
  clear hb
  go_wp2_with fail
  refine (aX sa _).mono ?_
  rintro e w44 ⟨rfl, hb⟩
  replace HB := Lib.hid (HB.out.trans (hb.mono HB.out.size))
  replace L41 := Lib.hid (L41.out.stay hb (Nat.le_refl _))
  clear hb
  obtain ⟨W45, hW45⟩ : ∃ W45, W45 = w44.alloc (.cells #[.int .i64 3, .int .i64 0, .string sa, .slice none 0 0, .int .i64 3, .int .i64 0, .string sa, .slice none 0 0] 25) := ⟨_, rfl⟩
  have hbW45 : Below w44.heap.size w44 W45 := by rw [hW45]; exact below_alloc _ _
  have L45 : Hid (TmC AllB W45 (some ⟨w44.heap.size, 0, none⟩) 2 [Tm.at' sa, Tm.at' sa]) := Lib.hid (by
    rw [hW45]
    refine lit_make w44 [(Tm.at' sa, none, 0), (Tm.at' sa, none, 0)] (fun e he => ?_) (by simp)
    simp only [List.mem_cons, List.not_mem_nil, or_false] at he
    rcases he with rfl | rfl
    · exact ⟨by show ByteArray.size sa ≤ 9223372036854775807; decide, nilC _⟩
    · exact ⟨by show ByteArray.size sa ≤ 9223372036854775807; decide, nilC _⟩)
  replace HB := Lib.hid (HB.out.trans (hbW45.mono HB.out.size))
  replace L41 := Lib.hid (L41.out.stay hbW45 (Nat.le_refl _))
  clear hbW45
  go_wp2_with fail
  rw [← hW45]
  clear hW45
  refine (fX sf _ _ _ _).mono ?_
  rintro e w46 ⟨rfl, hb⟩
  replace HB := Lib.hid (HB.out.trans (hb.mono HB.out.size))
  replace L41 := Lib.hid (L41.out.stay hb (Nat.le_refl _))
  replace L45 := Lib.hid (L45.out.stay hb (Nat.le_refl _))
  clear hb
  have hc := matchTop_calls sM sM1 AllB AllB w46 _ _ ⟨some ⟨w40.heap.size, 0, none⟩, 2, rfl, by decide, L41.out⟩ ⟨some ⟨w44.heap.size, 0, none⟩, 2, rfl, by decide, L45.out⟩
  rw [sM_all.1, if_pos rfl, s_match1, show errT true = 0 from rfl] at hc
  clear L41 L45
  have hc2 : Calls Try.prog 35 _ w46 fun e w2 => ∃ A c, e = .returned (.tuple #[.slice A 1 c, .bool true, .int .i64 0]) ∧ TmC AllB w2 A c [Tm.at' sa] ∧ Below w46.heap.size w46 w2 := hc.mono (fun e w2 ⟨A, c, h1, h3, h4⟩ => ⟨A, c, h1, h3.mono (fun _ _ => trivial), h4⟩)
  have Hc := Lib.hid hc2; clear hc hc2
  go_wp2_with fail
  refine (Hc.out).mono ?_
  rintro e w47 ⟨AM, cm, rfl, hsm, hb⟩
  replace HB := Lib.hid (HB.out.trans (hb.mono HB.out.size))
  clear hb
  clear Hc
  have HSM := Lib.hid hsm; clear hsm
  go_wp2_with fail
  refine (vX 0 _).mono ?_
  rintro e w48 ⟨rfl, hb⟩
  replace HB := Lib.hid (HB.out.trans (hb.mono HB.out.size))
  replace HSM := Lib.hid (HSM.out.stay hb (Nat.le_refl _))
  clear hb
  go_wp2_with fail
  refine (vX 0 _).mono ?_
  rintro e w49 ⟨rfl, hb⟩
  replace HB := Lib.hid (HB.out.trans (hb.mono HB.out.size))
  replace HSM := Lib.hid (HSM.out.stay hb (Nat.le_refl _))
  clear hb
  obtain ⟨W50, hW50⟩ : ∃ W50, W50 = w49.alloc (.cells #[.int .i64 1, .int .i64 0, .string ⟨#[]⟩, .slice none 0 0, .int .i64 1, .int .i64 0, .string ⟨#[]⟩, .slice none 0 0] 25) := ⟨_, rfl⟩
  have hbW50 : Below w49.heap.size w49 W50 := by rw [hW50]; exact below_alloc _ _
  have L50 : Hid (TmC AllB W50 (some ⟨w49.heap.size, 0, none⟩) 2 [Tm.va 0, Tm.va 0]) := Lib.hid (by
    rw [hW50]
    refine lit_make w49 [(Tm.va 0, none, 0), (Tm.va 0, none, 0)] (fun e he => ?_) (by simp)
    simp only [List.mem_cons, List.not_mem_nil, or_false] at he
    rcases he with rfl | rfl
    · exact ⟨by show ByteArray.size ⟨#[]⟩ ≤ 9223372036854775807; decide, nilC _⟩
    · exact ⟨by show ByteArray.size ⟨#[]⟩ ≤ 9223372036854775807; decide, nilC _⟩)
  replace HB := Lib.hid (HB.out.trans (hbW50.mono HB.out.size))
  replace HSM := Lib.hid (HSM.out.stay hbW50 (Nat.le_refl _))
  clear hbW50
  go_wp2_with fail
  rw [← hW50]
  clear hW50
  refine (fX sf _ _ _ _).mono ?_
  rintro e w51 ⟨rfl, hb⟩
  replace HB := Lib.hid (HB.out.trans (hb.mono HB.out.size))
  replace HSM := Lib.hid (HSM.out.stay hb (Nat.le_refl _))
  replace L50 := Lib.hid (L50.out.stay hb (Nat.le_refl _))
  clear hb
  go_wp2_with fail
  refine (aX sa _).mono ?_
  rintro e w52 ⟨rfl, hb⟩
  replace HB := Lib.hid (HB.out.trans (hb.mono HB.out.size))
  replace HSM := Lib.hid (HSM.out.stay hb (Nat.le_refl _))
  replace L50 := Lib.hid (L50.out.stay hb (Nat.le_refl _))
  clear hb
  go_wp2_with fail
  refine (aX sb _).mono ?_
  rintro e w53 ⟨rfl, hb⟩
  replace HB := Lib.hid (HB.out.trans (hb.mono HB.out.size))
  replace HSM := Lib.hid (HSM.out.stay hb (Nat.le_refl _))
  replace L50 := Lib.hid (L50.out.stay hb (Nat.le_refl _))
  clear hb
  obtain ⟨W54, hW54⟩ : ∃ W54, W54 = w53.alloc (.cells #[.int .i64 3, .int .i64 0, .string sa, .slice none 0 0, .int .i64 3, .int .i64 0, .string sb, .slice none 0 0] 25) := ⟨_, rfl⟩
  have hbW54 : Below w53.heap.size w53 W54 := by rw [hW54]; exact below_alloc _ _
  have L54 : Hid (TmC AllB W54 (some ⟨w53.heap.size, 0, none⟩) 2 [Tm.at' sa, Tm.at' sb]) := Lib.hid (by
    rw [hW54]
    refine lit_make w53 [(Tm.at' sa, none, 0), (Tm.at' sb, none, 0)] (fun e he => ?_) (by simp)
    simp only [List.mem_cons, List.not_mem_nil, or_false] at he
    rcases he with rfl | rfl
    · exact ⟨by show ByteArray.size sa ≤ 9223372036854775807; decide, nilC _⟩
    · exact ⟨by show ByteArray.size sb ≤ 9223372036854775807; decide, nilC _⟩)
  replace HB := Lib.hid (HB.out.trans (hbW54.mono HB.out.size))
  replace HSM := Lib.hid (HSM.out.stay hbW54 (Nat.le_refl _))
  replace L50 := Lib.hid (L50.out.stay hbW54 (Nat.le_refl _))
  clear hbW54
  go_wp2_with fail
  rw [← hW54]
  clear hW54
  refine (fX sf _ _ _ _).mono ?_
  rintro e w55 ⟨rfl, hb⟩
  replace HB := Lib.hid (HB.out.trans (hb.mono HB.out.size))
  replace HSM := Lib.hid (HSM.out.stay hb (Nat.le_refl _))
  replace L50 := Lib.hid (L50.out.stay hb (Nat.le_refl _))
  replace L54 := Lib.hid (L54.out.stay hb (Nat.le_refl _))
  clear hb
  have hc := matchTop_calls sM sM2 AllB AllB w55 _ _ ⟨some ⟨w49.heap.size, 0, none⟩, 2, rfl, by decide, L50.out⟩ ⟨some ⟨w53.heap.size, 0, none⟩, 2, rfl, by decide, L54.out⟩
  rw [sM_all.2, if_pos rfl, s_match2, show errT true = 0 from rfl] at hc
  clear L50 L54
  have hc2 : Calls Try.prog 35 _ w55 fun e w2 => ∃ A c, e = .returned (.tuple #[.slice A 0 c, .bool false, .int .i64 0]) ∧ Below w55.heap.size w55 w2 := hc.mono (fun e w2 ⟨A, c, h1, h3, h4⟩ => ⟨A, c, h1, h4⟩)
  have Hc := Lib.hid hc2; clear hc hc2
  go_wp2_with fail
  refine (Hc.out).mono ?_
  rintro e w56 ⟨A0, c0, rfl, hb⟩
  replace HB := Lib.hid (HB.out.trans (hb.mono HB.out.size))
  replace HSM := Lib.hid (HSM.out.stay hb (Nat.le_refl _))
  clear hb
  clear Hc
  go_wp2_with fail
  refine (aX sa _).mono ?_
  rintro e w57 ⟨rfl, hb⟩
  replace HB := Lib.hid (HB.out.trans (hb.mono HB.out.size))
  replace HSM := Lib.hid (HSM.out.stay hb (Nat.le_refl _))
  clear hb
  go_wp2_with fail
  refine (aX sa _).mono ?_
  rintro e w58 ⟨rfl, hb⟩
  replace HB := Lib.hid (HB.out.trans (hb.mono HB.out.size))
  replace HSM := Lib.hid (HSM.out.stay hb (Nat.le_refl _))
  clear hb
  obtain ⟨W59, hW59⟩ : ∃ W59, W59 = w58.alloc (.cells #[.int .i64 3, .int .i64 0, .string sa, .slice none 0 0] 25) := ⟨_, rfl⟩
  have hbW59 : Below w58.heap.size w58 W59 := by rw [hW59]; exact below_alloc _ _
  have L59 : Hid (TmC AllB W59 (some ⟨w58.heap.size, 0, none⟩) 1 [Tm.at' sa]) := Lib.hid (by
    rw [hW59]
    refine lit_make w58 [(Tm.at' sa, none, 0)] (fun e he => ?_) (by simp)
    simp only [List.mem_cons, List.not_mem_nil, or_false] at he
    subst he
    exact ⟨by show ByteArray.size sa ≤ 9223372036854775807; decide, nilC _⟩)
  replace HB := Lib.hid (HB.out.trans (hbW59.mono HB.out.size))
  replace HSM := Lib.hid (HSM.out.stay hbW59 (Nat.le_refl _))
  clear hbW59
  go_wp2_with fail
  rw [← hW59]
  clear hW59
  refine (fX sg _ _ _ _).mono ?_
  rintro e w60 ⟨rfl, hb⟩
  replace HB := Lib.hid (HB.out.trans (hb.mono HB.out.size))
  replace HSM := Lib.hid (HSM.out.stay hb (Nat.le_refl _))
  replace L59 := Lib.hid (L59.out.stay hb (Nat.le_refl _))
  clear hb
  go_wp2_with fail
  refine (aX sa _).mono ?_
  rintro e w61 ⟨rfl, hb⟩
  replace HB := Lib.hid (HB.out.trans (hb.mono HB.out.size))
  replace HSM := Lib.hid (HSM.out.stay hb (Nat.le_refl _))
  replace L59 := Lib.hid (L59.out.stay hb (Nat.le_refl _))
  clear hb
  obtain ⟨W62, hW62⟩ : ∃ W62, W62 = w61.alloc (.cells #[.int .i64 3, .int .i64 0, .string sa, .slice none 0 0, .int .i64 5, .int .i64 0, .string sg, .slice (some ⟨w58.heap.size, 0, none⟩) 1 1, .int .i64 3, .int .i64 0, .string sa, .slice none 0 0] 25) := ⟨_, rfl⟩
  have hbW62 : Below w61.heap.size w61 W62 := by rw [hW62]; exact below_alloc _ _
  have L62 : Hid (TmC AllB W62 (some ⟨w61.heap.size, 0, none⟩) 3 [Tm.at' sa, Tm.fn sg [Tm.at' sa], Tm.at' sa]) := Lib.hid (by
    rw [hW62]
    refine lit_make w61 [(Tm.at' sa, none, 0), (Tm.fn sg [Tm.at' sa], some ⟨w58.heap.size, 0, none⟩, 1), (Tm.at' sa, none, 0)] (fun e he => ?_) (by simp)
    simp only [List.mem_cons, List.not_mem_nil, or_false] at he
    rcases he with rfl | rfl | rfl
    · exact ⟨by show ByteArray.size sa ≤ 9223372036854775807; decide, nilC _⟩
    · exact ⟨by show ByteArray.size sg ≤ 9223372036854775807; decide, L59.out⟩
    · exact ⟨by show ByteArray.size sa ≤ 9223372036854775807; decide, nilC _⟩)
  replace HB := Lib.hid (HB.out.trans (hbW62.mono HB.out.size))
  replace HSM := Lib.hid (HSM.out.stay hbW62 (Nat.le_refl _))
  replace L59 := Lib.hid (L59.out.stay hbW62 (Nat.le_refl _))
  clear hbW62
  clear L59
  go_wp2_with fail
  rw [← hW62]
  clear hW62
  refine (fX sf _ _ _ _).mono ?_
  rintro e w63 ⟨rfl, hb⟩
  replace HB := Lib.hid (HB.out.trans (hb.mono HB.out.size))
  replace HSM := Lib.hid (HSM.out.stay hb (Nat.le_refl _))
  replace L62 := Lib.hid (L62.out.stay hb (Nat.le_refl _))
  clear hb
  go_wp2_with fail
  refine (aX sb _).mono ?_
  rintro e w64 ⟨rfl, hb⟩
  replace HB := Lib.hid (HB.out.trans (hb.mono HB.out.size))
  replace HSM := Lib.hid (HSM.out.stay hb (Nat.le_refl _))
  replace L62 := Lib.hid (L62.out.stay hb (Nat.le_refl _))
  clear hb
  go_wp2_with fail
  refine (aX sb _).mono ?_
  rintro e w65 ⟨rfl, hb⟩
  replace HB := Lib.hid (HB.out.trans (hb.mono HB.out.size))
  replace HSM := Lib.hid (HSM.out.stay hb (Nat.le_refl _))
  replace L62 := Lib.hid (L62.out.stay hb (Nat.le_refl _))
  clear hb
  obtain ⟨W66, hW66⟩ : ∃ W66, W66 = w65.alloc (.cells #[.int .i64 3, .int .i64 0, .string sb, .slice none 0 0] 25) := ⟨_, rfl⟩
  have hbW66 : Below w65.heap.size w65 W66 := by rw [hW66]; exact below_alloc _ _
  have L66 : Hid (TmC AllB W66 (some ⟨w65.heap.size, 0, none⟩) 1 [Tm.at' sb]) := Lib.hid (by
    rw [hW66]
    refine lit_make w65 [(Tm.at' sb, none, 0)] (fun e he => ?_) (by simp)
    simp only [List.mem_cons, List.not_mem_nil, or_false] at he
    subst he
    exact ⟨by show ByteArray.size sb ≤ 9223372036854775807; decide, nilC _⟩)
  replace HB := Lib.hid (HB.out.trans (hbW66.mono HB.out.size))
  replace HSM := Lib.hid (HSM.out.stay hbW66 (Nat.le_refl _))
  replace L62 := Lib.hid (L62.out.stay hbW66 (Nat.le_refl _))
  clear hbW66
  go_wp2_with fail
  rw [← hW66]
  clear hW66
  refine (fX sg _ _ _ _).mono ?_
  rintro e w67 ⟨rfl, hb⟩
  replace HB := Lib.hid (HB.out.trans (hb.mono HB.out.size))
  replace HSM := Lib.hid (HSM.out.stay hb (Nat.le_refl _))
  replace L62 := Lib.hid (L62.out.stay hb (Nat.le_refl _))
  replace L66 := Lib.hid (L66.out.stay hb (Nat.le_refl _))
  clear hb
  go_wp2_with fail
  refine (aX sc _).mono ?_
  rintro e w68 ⟨rfl, hb⟩
  replace HB := Lib.hid (HB.out.trans (hb.mono HB.out.size))
  replace HSM := Lib.hid (HSM.out.stay hb (Nat.le_refl _))
  replace L62 := Lib.hid (L62.out.stay hb (Nat.le_refl _))
  replace L66 := Lib.hid (L66.out.stay hb (Nat.le_refl _))
  clear hb
  obtain ⟨W69, hW69⟩ : ∃ W69, W69 = w68.alloc (.cells #[.int .i64 3, .int .i64 0, .string sb, .slice none 0 0, .int .i64 5, .int .i64 0, .string sg, .slice (some ⟨w65.heap.size, 0, none⟩) 1 1, .int .i64 3, .int .i64 0, .string sc, .slice none 0 0] 25) := ⟨_, rfl⟩
  have hbW69 : Below w68.heap.size w68 W69 := by rw [hW69]; exact below_alloc _ _
  have L69 : Hid (TmC AllB W69 (some ⟨w68.heap.size, 0, none⟩) 3 [Tm.at' sb, Tm.fn sg [Tm.at' sb], Tm.at' sc]) := Lib.hid (by
    rw [hW69]
    refine lit_make w68 [(Tm.at' sb, none, 0), (Tm.fn sg [Tm.at' sb], some ⟨w65.heap.size, 0, none⟩, 1), (Tm.at' sc, none, 0)] (fun e he => ?_) (by simp)
    simp only [List.mem_cons, List.not_mem_nil, or_false] at he
    rcases he with rfl | rfl | rfl
    · exact ⟨by show ByteArray.size sb ≤ 9223372036854775807; decide, nilC _⟩
    · exact ⟨by show ByteArray.size sg ≤ 9223372036854775807; decide, L66.out⟩
    · exact ⟨by show ByteArray.size sc ≤ 9223372036854775807; decide, nilC _⟩)
  replace HB := Lib.hid (HB.out.trans (hbW69.mono HB.out.size))
  replace HSM := Lib.hid (HSM.out.stay hbW69 (Nat.le_refl _))
  replace L62 := Lib.hid (L62.out.stay hbW69 (Nat.le_refl _))
  replace L66 := Lib.hid (L66.out.stay hbW69 (Nat.le_refl _))
  clear hbW69
  clear L66
  go_wp2_with fail
  rw [← hW69]
  clear hW69
  refine (fX sf _ _ _ _).mono ?_
  rintro e w70 ⟨rfl, hb⟩
  replace HB := Lib.hid (HB.out.trans (hb.mono HB.out.size))
  replace HSM := Lib.hid (HSM.out.stay hb (Nat.le_refl _))
  replace L62 := Lib.hid (L62.out.stay hb (Nat.le_refl _))
  replace L69 := Lib.hid (L69.out.stay hb (Nat.le_refl _))
  clear hb
  have hc := generalTop_calls sG1 sG2 AllB AllB w70 _ _ ⟨some ⟨w61.heap.size, 0, none⟩, 3, rfl, by decide, L62.out⟩ ⟨some ⟨w68.heap.size, 0, none⟩, 3, rfl, by decide, L69.out⟩
  rw [sG_all, if_pos rfl, s_gen] at hc
  clear L62 L69
  have hc2 : Calls Try.prog 37 _ w70 fun e w2 => ∃ A c, e = .returned (.tuple #[.agg #[.int .i64 5, .int .i64 0, .string sf, .slice A 3 c], .int .i64 0]) ∧ TmC AllB w2 A c sG.l ∧ Below w70.heap.size w70 w2 := hc.mono (fun e w2 ⟨A, c, h1, _, h3, h4⟩ => ⟨A, c, h1, h3.mono (fun _ _ => trivial), h4⟩)
  have Hc := Lib.hid hc2; clear hc hc2
  go_wp2_with fail
  refine (Hc.out).mono ?_
  rintro e w71 ⟨AG, cg, rfl, hsg, hb⟩
  replace HB := Lib.hid (HB.out.trans (hb.mono HB.out.size))
  replace HSM := Lib.hid (HSM.out.stay hb (Nat.le_refl _))
  clear hb
  clear Hc
  have HSG : Hid (TmC AllB w71 AG cg sG.l) := Lib.hid hsg; clear hsg
  obtain ⟨W72, hW72⟩ : ∃ W72, W72 = w71.alloc (.cells #[.int .i64 5, .int .i64 0, .string sf, .slice AG 3 cg] 25) := ⟨_, rfl⟩
  have hbW72 : Below w71.heap.size w71 W72 := by rw [hW72]; exact below_alloc _ _
  have BZ : Hid (Blk W72 w71.heap.size 25 #[.int .i64 5, .int .i64 0, .string sf, .slice AG 3 cg]) := Lib.hid (by rw [hW72]; exact Blk.new _ _ _)
  replace HB := Lib.hid (HB.out.trans (hbW72.mono HB.out.size))
  replace HSM := Lib.hid (HSM.out.stay hbW72 (Nat.le_refl _))
  replace HSG := Lib.hid (HSG.out.stay hbW72 (Nat.le_refl _))
  clear hbW72
  go_wp2_with fail
  rw [← hW72]
  clear hW72
  refine (vX 2 _).mono ?_
  rintro e w73 ⟨rfl, hb⟩
  replace HB := Lib.hid (HB.out.trans (hb.mono HB.out.size))
  replace HSM := Lib.hid (HSM.out.stay hb (Nat.le_refl _))
  replace HSG := Lib.hid (HSG.out.stay hb (Nat.le_refl _))
  replace BZ := Lib.hid (BZ.out.below hb BZ.out.lt)
  clear hb
  go_wp2_with fail
  refine (vX 0 _).mono ?_
  rintro e w74 ⟨rfl, hb⟩
  replace HB := Lib.hid (HB.out.trans (hb.mono HB.out.size))
  replace HSM := Lib.hid (HSM.out.stay hb (Nat.le_refl _))
  replace HSG := Lib.hid (HSG.out.stay hb (Nat.le_refl _))
  replace BZ := Lib.hid (BZ.out.below hb BZ.out.lt)
  clear hb
  obtain ⟨W75, hW75⟩ : ∃ W75, W75 = w74.alloc (.cells #[.int .i64 1, .int .i64 2, .string ⟨#[]⟩, .slice none 0 0, .int .i64 1, .int .i64 0, .string ⟨#[]⟩, .slice none 0 0] 25) := ⟨_, rfl⟩
  have hbW75 : Below w74.heap.size w74 W75 := by rw [hW75]; exact below_alloc _ _
  have L75 : Hid (TmC AllB W75 (some ⟨w74.heap.size, 0, none⟩) 2 [Tm.va 2, Tm.va 0]) := Lib.hid (by
    rw [hW75]
    refine lit_make w74 [(Tm.va 2, none, 0), (Tm.va 0, none, 0)] (fun e he => ?_) (by simp)
    simp only [List.mem_cons, List.not_mem_nil, or_false] at he
    rcases he with rfl | rfl
    · exact ⟨by show ByteArray.size ⟨#[]⟩ ≤ 9223372036854775807; decide, nilC _⟩
    · exact ⟨by show ByteArray.size ⟨#[]⟩ ≤ 9223372036854775807; decide, nilC _⟩)
  replace HB := Lib.hid (HB.out.trans (hbW75.mono HB.out.size))
  replace HSM := Lib.hid (HSM.out.stay hbW75 (Nat.le_refl _))
  replace HSG := Lib.hid (HSG.out.stay hbW75 (Nat.le_refl _))
  replace BZ := Lib.hid (BZ.out.below hbW75 BZ.out.lt)
  clear hbW75
  go_wp2_with fail
  rw [← hW75]
  clear hW75
  refine (fX sf _ _ _ _).mono ?_
  rintro e w76 ⟨rfl, hb⟩
  replace HB := Lib.hid (HB.out.trans (hb.mono HB.out.size))
  replace HSM := Lib.hid (HSM.out.stay hb (Nat.le_refl _))
  replace HSG := Lib.hid (HSG.out.stay hb (Nat.le_refl _))
  replace L75 := Lib.hid (L75.out.stay hb (Nat.le_refl _))
  replace BZ := Lib.hid (BZ.out.below hb BZ.out.lt)
  clear hb
  go_wp2_with fail
  refine (vX 2 _).mono ?_
  rintro e w77 ⟨rfl, hb⟩
  replace HB := Lib.hid (HB.out.trans (hb.mono HB.out.size))
  replace HSM := Lib.hid (HSM.out.stay hb (Nat.le_refl _))
  replace HSG := Lib.hid (HSG.out.stay hb (Nat.le_refl _))
  replace L75 := Lib.hid (L75.out.stay hb (Nat.le_refl _))
  replace BZ := Lib.hid (BZ.out.below hb BZ.out.lt)
  clear hb
  obtain ⟨W78, hW78⟩ : ∃ W78, W78 = w77.alloc (.cells #[.int .i64 5, .int .i64 0, .string sf, .slice (some ⟨w74.heap.size, 0, none⟩) 2 2, .int .i64 1, .int .i64 2, .string ⟨#[]⟩, .slice none 0 0] 25) := ⟨_, rfl⟩
  have hbW78 : Below w77.heap.size w77 W78 := by rw [hW78]; exact below_alloc _ _
  have L78 : Hid (TmC AllB W78 (some ⟨w77.heap.size, 0, none⟩) 2 [Tm.fn sf [Tm.va 2, Tm.va 0], Tm.va 2]) := Lib.hid (by
    rw [hW78]
    refine lit_make w77 [(Tm.fn sf [Tm.va 2, Tm.va 0], some ⟨w74.heap.size, 0, none⟩, 2), (Tm.va 2, none, 0)] (fun e he => ?_) (by simp)
    simp only [List.mem_cons, List.not_mem_nil, or_false] at he
    rcases he with rfl | rfl
    · exact ⟨by show ByteArray.size sf ≤ 9223372036854775807; decide, L75.out⟩
    · exact ⟨by show ByteArray.size ⟨#[]⟩ ≤ 9223372036854775807; decide, nilC _⟩)
  replace HB := Lib.hid (HB.out.trans (hbW78.mono HB.out.size))
  replace HSM := Lib.hid (HSM.out.stay hbW78 (Nat.le_refl _))
  replace HSG := Lib.hid (HSG.out.stay hbW78 (Nat.le_refl _))
  replace L75 := Lib.hid (L75.out.stay hbW78 (Nat.le_refl _))
  replace BZ := Lib.hid (BZ.out.below hbW78 BZ.out.lt)
  clear hbW78
  clear L75
  have hc := normal_calls sN AllB (some ⟨w77.heap.size, 0, none⟩) 2 W78 L78.out
  rw [sN_all, if_pos rfl, if_pos rfl, s_norm, sN_vars, show errT true = 0 from rfl] at hc
  clear L78
  have hc2 : Calls Try.prog 29 _ W78 fun e w2 => ∃ A c B d, e = .returned (.tuple #[.slice A 2 c, .slice B 2 d, .int .i64 0]) ∧ TmC AllB w2 A c sN' ∧ (Rd w2 B (([2, 0] : List Int).flatMap encI) ∧ 2 ≤ d ∧ d ≤ 9223372036854775807) ∧ Below W78.heap.size W78 w2 := hc.mono (fun e w2 ⟨A, c, v, h1, h3, h5, h6, h4⟩ => by
    obtain ⟨B, d, rfl⟩ := own_slice h5
    have hlc : 2 ≤ d ∧ d ≤ 9223372036854775807 := by
      rcases h5.2 with ⟨_, h0⟩ | ⟨g, cap, cur, hv, _, _, k1, k2, _⟩
      · cases h0
      · injection hv with _ _ hv; subst hv; exact ⟨k1, by simpa [maxLen] using k2⟩
    exact ⟨A, c, B, d, h1, h3.mono (fun _ _ => trivial), ⟨by rw [flatMap_encI]; exact own_rd h5, hlc⟩, h4⟩)
  have Hc := Lib.hid hc2; clear hc hc2
  go_wp2_with fail
  rw [← hW78]
  clear hW78
  refine (Hc.out).mono ?_
  rintro e w79 ⟨AN, cn, AV, cv, rfl, hsn, ⟨hrv, hv1, hv2⟩, hb⟩
  replace HB := Lib.hid (HB.out.trans (hb.mono HB.out.size))
  replace HSM := Lib.hid (HSM.out.stay hb (Nat.le_refl _))
  replace HSG := Lib.hid (HSG.out.stay hb (Nat.le_refl _))
  replace BZ := Lib.hid (BZ.out.below hb BZ.out.lt)
  clear hb
  clear Hc
  have HSN := Lib.hid hsn; clear hsn
  have HRV := Lib.hid hrv; clear hrv
  go_wp2_with fail
  obtain ⟨⟨y0, y1, y2, y3⟩, -⟩ := BZ.out.four
  have yl := BZ.out.lt
  refine wp_region_noPanic ?_
  refine wp_region_held_drew (S := S6 w79 w71.heap.size AG 3 cg) (by kernel_rfl) ?_ (fun hHeld => ?_)
  · exact ⟨Lib.hid ((Below.refl _ _).drew), y0, y1, y2, y3⟩
  refine takeH (i := 0) (d := 158) (.int .i64 0) (by kernel_rfl) (by kernel_rfl) (by kernel_rfl) (by kernel_rfl) (fun _ _ _ _ h => h) (fun o ho => ?_) hHeld ?_
  · simp only [List.getElem?_toArray, List.getElem?_cons_zero, List.getElem?_cons_succ, Option.some.injEq] at ho
    subst ho
    refine Or.inl ⟨by rfl, fun w hSw => ?_⟩
    go_simp
  simp only [Act.put, List.setIfInBounds_toArray, List.set_cons_zero, List.set_cons_succ]
  refine takeH (i := 1) (d := 159) (.bool true) (by kernel_rfl) (by kernel_rfl) (by kernel_rfl) (by kernel_rfl) (fun _ _ _ _ h => h) (fun o ho => ?_) hHeld ?_
  · simp only [List.getElem?_toArray, List.getElem?_cons_zero, List.getElem?_cons_succ, Option.some.injEq] at ho
    subst ho
    refine Or.inl ⟨by rfl, fun w hSw => ?_⟩
    go_simp
  simp only [Act.put, List.setIfInBounds_toArray, List.set_cons_zero, List.set_cons_succ]
  refine takeH (i := 2) (d := 160) (.bool true) (by kernel_rfl) (by kernel_rfl) (by kernel_rfl) (by kernel_rfl) (fun _ _ _ _ h => h) (fun o ho => ?_) hHeld ?_
  · simp only [List.getElem?_toArray, List.getElem?_cons_zero, List.getElem?_cons_succ, Option.some.injEq] at ho
    subst ho
    refine Or.inl ⟨by rfl, fun w hSw => ?_⟩
    go_simp
  simp only [Act.put, List.setIfInBounds_toArray, List.set_cons_zero, List.set_cons_succ]
  refine takeH (i := 3) (d := 161) (.bool true) (by kernel_rfl) (by kernel_rfl) (by kernel_rfl) (by kernel_rfl) (fun _ _ _ _ h => h) (fun o ho => ?_) hHeld ?_
  · simp only [List.getElem?_toArray, List.getElem?_cons_zero, List.getElem?_cons_succ, Option.some.injEq] at ho
    subst ho
    refine Or.inl ⟨by rfl, fun w hSw => ?_⟩
    go_simp
  simp only [Act.put, List.setIfInBounds_toArray, List.set_cons_zero, List.set_cons_succ]
  refine takeH (i := 4) (d := 162) (.bool true) (by kernel_rfl) (by kernel_rfl) (by kernel_rfl) (by kernel_rfl) (fun _ _ _ _ h => h) (fun o ho => ?_) hHeld ?_
  · simp only [List.getElem?_toArray, List.getElem?_cons_zero, List.getElem?_cons_succ, Option.some.injEq] at ho
    subst ho
    refine Or.inl ⟨by rfl, fun w hSw => ?_⟩
    go_simp
  simp only [Act.put, List.setIfInBounds_toArray, List.set_cons_zero, List.set_cons_succ]
  refine takeH (i := 5) (d := 163) (.bool true) (by kernel_rfl) (by kernel_rfl) (by kernel_rfl) (by kernel_rfl) (fun _ _ _ _ h => h) (fun o ho => ?_) hHeld ?_
  · simp only [List.getElem?_toArray, List.getElem?_cons_zero, List.getElem?_cons_succ, Option.some.injEq] at ho
    subst ho
    refine Or.inl ⟨by rfl, fun w hSw => ?_⟩
    go_simp
  simp only [Act.put, List.setIfInBounds_toArray, List.set_cons_zero, List.set_cons_succ]
  refine takeH (i := 6) (d := 164) (.slice AM 1 cm) (by kernel_rfl) (by kernel_rfl) (by kernel_rfl) (by kernel_rfl) (fun _ _ _ _ h => h) (fun o ho => ?_) hHeld ?_
  · simp only [List.getElem?_toArray, List.getElem?_cons_zero, List.getElem?_cons_succ, Option.some.injEq] at ho
    subst ho
    refine Or.inl ⟨by rfl, fun w hSw => ?_⟩
    go_simp
  simp only [Act.put, List.setIfInBounds_toArray, List.set_cons_zero, List.set_cons_succ]
  obtain ⟨WD, hWD⟩ : ∃ WD, WD = w79.drew := ⟨_, rfl⟩
  rw [← hWD] at hHeld ⊢
  clear hWD
  refine stepH (i := 7) (by kernel_rfl) (by kernel_rfl) (fun o ho K2 hK => ?_)
  simp only [List.getElem?_toArray, List.getElem?_cons_zero, List.getElem?_cons_succ, Option.some.injEq] at ho
  subst ho
  go_simp
  refine (aX sa _).mono ?_
  rintro e w80x ⟨rfl, hb⟩
  dsimp only
  refine hK.out _ _ (hHeld.below hb) (fun hHeld => ?_)
  clear hK K2
  try simp only [Act.put, List.setIfInBounds_toArray, List.set_cons_zero, List.set_cons_succ]
  clear hb
  refine stepH (i := 8) (by kernel_rfl) (by kernel_rfl) (fun o ho K2 hK => ?_)
  simp only [List.getElem?_toArray, List.getElem?_cons_zero, List.getElem?_cons_succ, Option.some.injEq] at ho
  subst ho
  go_simp
  obtain ⟨W81, hW81⟩ : ∃ W81, W81 = w80x.alloc (.cells #[.int .i64 3, .int .i64 0, .string sa, .slice none 0 0] 25) := ⟨_, rfl⟩
  have hbW81 : Below w80x.heap.size w80x W81 := by rw [hW81]; exact below_alloc _ _
  rw [← hW81]
  refine hK.out _ _ (hHeld.below hbW81) (fun hHeld => ?_)
  clear hK K2
  try simp only [Act.put, List.setIfInBounds_toArray, List.set_cons_zero, List.set_cons_succ]
  have R81 : Hid (TmC AllB W81 (some ⟨w80x.heap.size, 0, none⟩) 1 [Tm.at' sa]) := Lib.hid (by
    rw [hW81]
    refine lit_make w80x [(Tm.at' sa, none, 0)] (fun e he => ?_) (by simp)
    simp only [List.mem_cons, List.not_mem_nil, or_false] at he
    subst he
    exact ⟨by show ByteArray.size sa ≤ 9223372036854775807; decide, nilC _⟩)
  clear hbW81 hW81
  have hc := sameAll_calls [Tm.at' sa] [Tm.at' sa] AM cm (some ⟨w80x.heap.size, 0, none⟩) 1 AllB AllB W81 (HSM.out.stay hHeld.1.out (Nat.le_refl _)) R81.out
  rw [sameL_iff.2 rfl] at hc
  have Hc := Lib.hid hc; clear hc
  clear R81 HSM
  refine stepH (i := 9) (by kernel_rfl) (by kernel_rfl) (fun o ho K2 hK => ?_)
  simp only [List.getElem?_toArray, List.getElem?_cons_zero, List.getElem?_cons_succ, Option.some.injEq] at ho
  subst ho
  go_simp
  refine (Hc.out).mono ?_
  rintro e w82x ⟨rfl, hb⟩
  dsimp only
  refine hK.out _ _ (hHeld.below hb) (fun hHeld => ?_)
  clear hK K2
  try simp only [Act.put, List.setIfInBounds_toArray, List.set_cons_zero, List.set_cons_succ]
  clear hb
  clear Hc
  refine takeH (i := 10) (d := 168) (.bool true) (by kernel_rfl) (by kernel_rfl) (by kernel_rfl) (by kernel_rfl) (fun _ _ _ _ h => h) (fun o ho => ?_) hHeld ?_
  · simp only [List.getElem?_toArray, List.getElem?_cons_zero, List.getElem?_cons_succ, Option.some.injEq] at ho
    subst ho
    refine Or.inl ⟨by rfl, fun w hSw => ?_⟩
    go_simp
  simp only [Act.put, List.setIfInBounds_toArray, List.set_cons_zero, List.set_cons_succ]
  refine takeH (i := 11) (d := 169) (.bool true) (by kernel_rfl) (by kernel_rfl) (by kernel_rfl) (by kernel_rfl) (fun _ _ _ _ h => h) (fun o ho => ?_) hHeld ?_
  · simp only [List.getElem?_toArray, List.getElem?_cons_zero, List.getElem?_cons_succ, Option.some.injEq] at ho
    subst ho
    refine Or.inl ⟨by rfl, fun w hSw => ?_⟩
    go_simp
  simp only [Act.put, List.setIfInBounds_toArray, List.set_cons_zero, List.set_cons_succ]
  refine takeH (i := 12) (d := 170) (.int .i64 0) (by kernel_rfl) (by kernel_rfl) (by kernel_rfl) (by kernel_rfl) (fun _ _ _ _ h => h) (fun o ho => ?_) hHeld ?_
  · simp only [List.getElem?_toArray, List.getElem?_cons_zero, List.getElem?_cons_succ, Option.some.injEq] at ho
    subst ho
    refine Or.inl ⟨by rfl, fun w hSw => ?_⟩
    go_simp
  simp only [Act.put, List.setIfInBounds_toArray, List.set_cons_zero, List.set_cons_succ]
  refine takeH (i := 13) (d := 171) (.bool true) (by kernel_rfl) (by kernel_rfl) (by kernel_rfl) (by kernel_rfl) (fun _ _ _ _ h => h) (fun o ho => ?_) hHeld ?_
  · simp only [List.getElem?_toArray, List.getElem?_cons_zero, List.getElem?_cons_succ, Option.some.injEq] at ho
    subst ho
    refine Or.inl ⟨by rfl, fun w hSw => ?_⟩
    go_simp
  simp only [Act.put, List.setIfInBounds_toArray, List.set_cons_zero, List.set_cons_succ]
  refine takeH (i := 14) (d := 172) (.bool true) (by kernel_rfl) (by kernel_rfl) (by kernel_rfl) (by kernel_rfl) (fun _ _ _ _ h => h) (fun o ho => ?_) hHeld ?_
  · simp only [List.getElem?_toArray, List.getElem?_cons_zero, List.getElem?_cons_succ, Option.some.injEq] at ho
    subst ho
    refine Or.inl ⟨by rfl, fun w hSw => ?_⟩
    go_simp
  simp only [Act.put, List.setIfInBounds_toArray, List.set_cons_zero, List.set_cons_succ]
  refine takeH (i := 15) (d := 173) (.bool true) (by kernel_rfl) (by kernel_rfl) (by kernel_rfl) (by kernel_rfl) (fun _ _ _ _ h => h) (fun o ho => ?_) hHeld ?_
  · simp only [List.getElem?_toArray, List.getElem?_cons_zero, List.getElem?_cons_succ, Option.some.injEq] at ho
    subst ho
    refine Or.inl ⟨by rfl, fun w hSw => ?_⟩
    go_simp
  simp only [Act.put, List.setIfInBounds_toArray, List.set_cons_zero, List.set_cons_succ]
  refine takeH (i := 16) (d := 174) (.bool false) (by kernel_rfl) (by kernel_rfl) (by kernel_rfl) (by kernel_rfl) (fun _ _ _ _ h => h) (fun o ho => ?_) hHeld ?_
  · simp only [List.getElem?_toArray, List.getElem?_cons_zero, List.getElem?_cons_succ, Option.some.injEq] at ho
    subst ho
    refine Or.inl ⟨by rfl, fun w hSw => ?_⟩
    go_simp
  simp only [Act.put, List.setIfInBounds_toArray, List.set_cons_zero, List.set_cons_succ]
  refine takeH (i := 17) (d := 175) (.bool true) (by kernel_rfl) (by kernel_rfl) (by kernel_rfl) (by kernel_rfl) (fun _ _ _ _ h => h) (fun o ho => ?_) hHeld ?_
  · simp only [List.getElem?_toArray, List.getElem?_cons_zero, List.getElem?_cons_succ, Option.some.injEq] at ho
    subst ho
    refine Or.inl ⟨by rfl, fun w hSw => ?_⟩
    go_simp
  simp only [Act.put, List.setIfInBounds_toArray, List.set_cons_zero, List.set_cons_succ]
  refine takeH (i := 18) (d := 176) (.bool true) (by kernel_rfl) (by kernel_rfl) (by kernel_rfl) (by kernel_rfl) (fun _ _ _ _ h => h) (fun o ho => ?_) hHeld ?_
  · simp only [List.getElem?_toArray, List.getElem?_cons_zero, List.getElem?_cons_succ, Option.some.injEq] at ho
    subst ho
    refine Or.inl ⟨by rfl, fun w hSw => ?_⟩
    go_simp
  simp only [Act.put, List.setIfInBounds_toArray, List.set_cons_zero, List.set_cons_succ]
  refine takeH (i := 19) (d := 177) (.bool true) (by kernel_rfl) (by kernel_rfl) (by kernel_rfl) (by kernel_rfl) (fun _ _ _ _ h => h) (fun o ho => ?_) hHeld ?_
  · simp only [List.getElem?_toArray, List.getElem?_cons_zero, List.getElem?_cons_succ, Option.some.injEq] at ho
    subst ho
    refine Or.inl ⟨by rfl, fun w hSw => ?_⟩
    go_simp
  simp only [Act.put, List.setIfInBounds_toArray, List.set_cons_zero, List.set_cons_succ]
  refine takeH (i := 20) (d := 178) (.int .i64 0) (by kernel_rfl) (by kernel_rfl) (by kernel_rfl) (by kernel_rfl) (fun _ _ _ _ h => h) (fun o ho => ?_) hHeld ?_
  · simp only [List.getElem?_toArray, List.getElem?_cons_zero, List.getElem?_cons_succ, Option.some.injEq] at ho
    subst ho
    refine Or.inl ⟨by rfl, fun w hSw => ?_⟩
    go_simp
  simp only [Act.put, List.setIfInBounds_toArray, List.set_cons_zero, List.set_cons_succ]
  refine takeH (i := 21) (d := 179) (.bool true) (by kernel_rfl) (by kernel_rfl) (by kernel_rfl) (by kernel_rfl) (fun _ _ _ _ h => h) (fun o ho => ?_) hHeld ?_
  · simp only [List.getElem?_toArray, List.getElem?_cons_zero, List.getElem?_cons_succ, Option.some.injEq] at ho
    subst ho
    refine Or.inl ⟨by rfl, fun w hSw => ?_⟩
    go_simp
  simp only [Act.put, List.setIfInBounds_toArray, List.set_cons_zero, List.set_cons_succ]
  refine takeH (i := 22) (d := 180) (.bool true) (by kernel_rfl) (by kernel_rfl) (by kernel_rfl) (by kernel_rfl) (fun _ _ _ _ h => h) (fun o ho => ?_) hHeld ?_
  · simp only [List.getElem?_toArray, List.getElem?_cons_zero, List.getElem?_cons_succ, Option.some.injEq] at ho
    subst ho
    refine Or.inl ⟨by rfl, fun w hSw => ?_⟩
    go_simp
  simp only [Act.put, List.setIfInBounds_toArray, List.set_cons_zero, List.set_cons_succ]
  refine takeH (i := 23) (d := 181) (.bool true) (by kernel_rfl) (by kernel_rfl) (by kernel_rfl) (by kernel_rfl) (fun _ _ _ _ h => h) (fun o ho => ?_) hHeld ?_
  · simp only [List.getElem?_toArray, List.getElem?_cons_zero, List.getElem?_cons_succ, Option.some.injEq] at ho
    subst ho
    refine Or.inl ⟨by rfl, fun w hSw => ?_⟩
    go_simp
  simp only [Act.put, List.setIfInBounds_toArray, List.set_cons_zero, List.set_cons_succ]
  refine takeH (i := 24) (d := 182) (.agg #[.int .i64 5, .int .i64 0, .string sf, .slice AG 3 cg]) (by kernel_rfl) (by kernel_rfl) (by kernel_rfl) (by kernel_rfl) (fun _ _ _ _ h => h) (fun o ho => ?_) hHeld ?_
  · simp only [List.getElem?_toArray, List.getElem?_cons_zero, List.getElem?_cons_succ, Option.some.injEq] at ho
    subst ho
    refine Or.inl ⟨by rfl, fun w hSw => ?_⟩
    obtain ⟨-, s0, s1, s2, s3⟩ := hSw
    go_simp
  simp only [Act.put, List.setIfInBounds_toArray, List.set_cons_zero, List.set_cons_succ]
  refine stepH (i := 25) (by kernel_rfl) (by kernel_rfl) (fun o ho K2 hK => ?_)
  simp only [List.getElem?_toArray, List.getElem?_cons_zero, List.getElem?_cons_succ, Option.some.injEq] at ho
  subst ho
  go_simp
  refine (vX 0 _).mono ?_
  rintro e w83x ⟨rfl, hb⟩
  dsimp only
  refine hK.out _ _ (hHeld.below hb) (fun hHeld => ?_)
  clear hK K2
  try simp only [Act.put, List.setIfInBounds_toArray, List.set_cons_zero, List.set_cons_succ]
  clear hb
  refine stepH (i := 26) (by kernel_rfl) (by kernel_rfl) (fun o ho K2 hK => ?_)
  simp only [List.getElem?_toArray, List.getElem?_cons_zero, List.getElem?_cons_succ, Option.some.injEq] at ho
  subst ho
  go_simp
  refine (vX 0 _).mono ?_
  rintro e w84x ⟨rfl, hb⟩
  dsimp only
  refine hK.out _ _ (hHeld.below hb) (fun hHeld => ?_)
  clear hK K2
  try simp only [Act.put, List.setIfInBounds_toArray, List.set_cons_zero, List.set_cons_succ]
  clear hb
  refine stepH (i := 27) (by kernel_rfl) (by kernel_rfl) (fun o ho K2 hK => ?_)
  simp only [List.getElem?_toArray, List.getElem?_cons_zero, List.getElem?_cons_succ, Option.some.injEq] at ho
  subst ho
  go_simp
  obtain ⟨W85, hW85⟩ : ∃ W85, W85 = w84x.alloc (.cells #[.int .i64 1, .int .i64 0, .string ⟨#[]⟩, .slice none 0 0] 25) := ⟨_, rfl⟩
  have hbW85 : Below w84x.heap.size w84x W85 := by rw [hW85]; exact below_alloc _ _
  rw [← hW85]
  refine hK.out _ _ (hHeld.below hbW85) (fun hHeld => ?_)
  clear hK K2
  try simp only [Act.put, List.setIfInBounds_toArray, List.set_cons_zero, List.set_cons_succ]
  have R85 : Hid (TmC AllB W85 (some ⟨w84x.heap.size, 0, none⟩) 1 [Tm.va 0]) := Lib.hid (by
    rw [hW85]
    refine lit_make w84x [(Tm.va 0, none, 0)] (fun e he => ?_) (by simp)
    simp only [List.mem_cons, List.not_mem_nil, or_false] at he
    subst he
    exact ⟨by show ByteArray.size ⟨#[]⟩ ≤ 9223372036854775807; decide, nilC _⟩)
  clear hbW85 hW85
  refine stepH (i := 28) (by kernel_rfl) (by kernel_rfl) (fun o ho K2 hK => ?_)
  simp only [List.getElem?_toArray, List.getElem?_cons_zero, List.getElem?_cons_succ, Option.some.injEq] at ho
  subst ho
  go_simp
  refine (fX sg _ _ _ _).mono ?_
  rintro e w86x ⟨rfl, hb⟩
  dsimp only
  refine hK.out _ _ (hHeld.below hb) (fun hHeld => ?_)
  clear hK K2
  try simp only [Act.put, List.setIfInBounds_toArray, List.set_cons_zero, List.set_cons_succ]
  replace R85 := Lib.hid (R85.out.stay hb (Nat.le_refl _))
  clear hb
  refine stepH (i := 29) (by kernel_rfl) (by kernel_rfl) (fun o ho K2 hK => ?_)
  simp only [List.getElem?_toArray, List.getElem?_cons_zero, List.getElem?_cons_succ, Option.some.injEq] at ho
  subst ho
  go_simp
  refine (vX 1 _).mono ?_
  rintro e w87x ⟨rfl, hb⟩
  dsimp only
  refine hK.out _ _ (hHeld.below hb) (fun hHeld => ?_)
  clear hK K2
  try simp only [Act.put, List.setIfInBounds_toArray, List.set_cons_zero, List.set_cons_succ]
  replace R85 := Lib.hid (R85.out.stay hb (Nat.le_refl _))
  clear hb
  refine stepH (i := 30) (by kernel_rfl) (by kernel_rfl) (fun o ho K2 hK => ?_)
  simp only [List.getElem?_toArray, List.getElem?_cons_zero, List.getElem?_cons_succ, Option.some.injEq] at ho
  subst ho
  go_simp
  obtain ⟨W88, hW88⟩ : ∃ W88, W88 = w87x.alloc (.cells #[.int .i64 1, .int .i64 0, .string ⟨#[]⟩, .slice none 0 0, .int .i64 5, .int .i64 0, .string sg, .slice (some ⟨w84x.heap.size, 0, none⟩) 1 1, .int .i64 1, .int .i64 1, .string ⟨#[]⟩, .slice none 0 0] 25) := ⟨_, rfl⟩
  have hbW88 : Below w87x.heap.size w87x W88 := by rw [hW88]; exact below_alloc _ _
  rw [← hW88]
  refine hK.out _ _ (hHeld.below hbW88) (fun hHeld => ?_)
  clear hK K2
  try simp only [Act.put, List.setIfInBounds_toArray, List.set_cons_zero, List.set_cons_succ]
  have R88 : Hid (TmC AllB W88 (some ⟨w87x.heap.size, 0, none⟩) 3 [Tm.va 0, Tm.fn sg [Tm.va 0], Tm.va 1]) := Lib.hid (by
    rw [hW88]
    refine lit_make w87x [(Tm.va 0, none, 0), (Tm.fn sg [Tm.va 0], some ⟨w84x.heap.size, 0, none⟩, 1), (Tm.va 1, none, 0)] (fun e he => ?_) (by simp)
    simp only [List.mem_cons, List.not_mem_nil, or_false] at he
    rcases he with rfl | rfl | rfl
    · exact ⟨by show ByteArray.size ⟨#[]⟩ ≤ 9223372036854775807; decide, nilC _⟩
    · exact ⟨by show ByteArray.size sg ≤ 9223372036854775807; decide, R85.out⟩
    · exact ⟨by show ByteArray.size ⟨#[]⟩ ≤ 9223372036854775807; decide, nilC _⟩)
  clear R85
  clear hbW88 hW88
  refine stepH (i := 31) (by kernel_rfl) (by kernel_rfl) (fun o ho K2 hK => ?_)
  simp only [List.getElem?_toArray, List.getElem?_cons_zero, List.getElem?_cons_succ, Option.some.injEq] at ho
  subst ho
  go_simp
  refine (fX sf _ _ _ _).mono ?_
  rintro e w89x ⟨rfl, hb⟩
  dsimp only
  refine hK.out _ _ (hHeld.below hb) (fun hHeld => ?_)
  clear hK K2
  try simp only [Act.put, List.setIfInBounds_toArray, List.set_cons_zero, List.set_cons_succ]
  replace R88 := Lib.hid (R88.out.stay hb (Nat.le_refl _))
  clear hb
  have hc := refSame_calls sG AllB AllB w89x (.agg #[.int .i64 5, .int .i64 0, .string sf, .slice AG 3 cg]) (.agg #[.int .i64 5, .int .i64 0, .string sf, .slice (some ⟨w87x.heap.size, 0, none⟩) 3 3]) sG ⟨AG, cg, rfl, by decide, HSG.out.stay hHeld.1.out (Nat.le_refl _)⟩ ⟨some ⟨w87x.heap.size, 0, none⟩, 3, rfl, by decide, R88.out⟩
  rw [sameB_refl] at hc
  have Hc := Lib.hid hc; clear hc
  clear R88 HSG
  refine stepH (i := 32) (by kernel_rfl) (by kernel_rfl) (fun o ho K2 hK => ?_)
  simp only [List.getElem?_toArray, List.getElem?_cons_zero, List.getElem?_cons_succ, Option.some.injEq] at ho
  subst ho
  go_simp
  refine (Hc.out).mono ?_
  rintro e w90x ⟨rfl, hb⟩
  dsimp only
  refine hK.out _ _ (hHeld.below hb) (fun hHeld => ?_)
  clear hK K2
  try simp only [Act.put, List.setIfInBounds_toArray, List.set_cons_zero, List.set_cons_succ]
  clear hb
  clear Hc
  refine takeH (i := 33) (d := 191) (.bool true) (by kernel_rfl) (by kernel_rfl) (by kernel_rfl) (by kernel_rfl) (fun _ _ _ _ h => h) (fun o ho => ?_) hHeld ?_
  · simp only [List.getElem?_toArray, List.getElem?_cons_zero, List.getElem?_cons_succ, Option.some.injEq] at ho
    subst ho
    refine Or.inl ⟨by rfl, fun w hSw => ?_⟩
    go_simp
  simp only [Act.put, List.setIfInBounds_toArray, List.set_cons_zero, List.set_cons_succ]
  refine takeH (i := 34) (d := 192) (.bool true) (by kernel_rfl) (by kernel_rfl) (by kernel_rfl) (by kernel_rfl) (fun _ _ _ _ h => h) (fun o ho => ?_) hHeld ?_
  · simp only [List.getElem?_toArray, List.getElem?_cons_zero, List.getElem?_cons_succ, Option.some.injEq] at ho
    subst ho
    refine Or.inl ⟨by rfl, fun w hSw => ?_⟩
    go_simp
  simp only [Act.put, List.setIfInBounds_toArray, List.set_cons_zero, List.set_cons_succ]
  refine takeH (i := 35) (d := 193) (.int .i64 0) (by kernel_rfl) (by kernel_rfl) (by kernel_rfl) (by kernel_rfl) (fun _ _ _ _ h => h) (fun o ho => ?_) hHeld ?_
  · simp only [List.getElem?_toArray, List.getElem?_cons_zero, List.getElem?_cons_succ, Option.some.injEq] at ho
    subst ho
    refine Or.inl ⟨by rfl, fun w hSw => ?_⟩
    go_simp
  simp only [Act.put, List.setIfInBounds_toArray, List.set_cons_zero, List.set_cons_succ]
  refine takeH (i := 36) (d := 194) (.bool true) (by kernel_rfl) (by kernel_rfl) (by kernel_rfl) (by kernel_rfl) (fun _ _ _ _ h => h) (fun o ho => ?_) hHeld ?_
  · simp only [List.getElem?_toArray, List.getElem?_cons_zero, List.getElem?_cons_succ, Option.some.injEq] at ho
    subst ho
    refine Or.inl ⟨by rfl, fun w hSw => ?_⟩
    go_simp
  simp only [Act.put, List.setIfInBounds_toArray, List.set_cons_zero, List.set_cons_succ]
  refine takeH (i := 37) (d := 195) (.bool true) (by kernel_rfl) (by kernel_rfl) (by kernel_rfl) (by kernel_rfl) (fun _ _ _ _ h => h) (fun o ho => ?_) hHeld ?_
  · simp only [List.getElem?_toArray, List.getElem?_cons_zero, List.getElem?_cons_succ, Option.some.injEq] at ho
    subst ho
    refine Or.inl ⟨by rfl, fun w hSw => ?_⟩
    go_simp
  simp only [Act.put, List.setIfInBounds_toArray, List.set_cons_zero, List.set_cons_succ]
  refine takeH (i := 38) (d := 196) (.bool true) (by kernel_rfl) (by kernel_rfl) (by kernel_rfl) (by kernel_rfl) (fun _ _ _ _ h => h) (fun o ho => ?_) hHeld ?_
  · simp only [List.getElem?_toArray, List.getElem?_cons_zero, List.getElem?_cons_succ, Option.some.injEq] at ho
    subst ho
    refine Or.inl ⟨by rfl, fun w hSw => ?_⟩
    go_simp
  simp only [Act.put, List.setIfInBounds_toArray, List.set_cons_zero, List.set_cons_succ]
  refine takeH (i := 39) (d := 197) (.slice AN 2 cn) (by kernel_rfl) (by kernel_rfl) (by kernel_rfl) (by kernel_rfl) (fun _ _ _ _ h => h) (fun o ho => ?_) hHeld ?_
  · simp only [List.getElem?_toArray, List.getElem?_cons_zero, List.getElem?_cons_succ, Option.some.injEq] at ho
    subst ho
    refine Or.inl ⟨by rfl, fun w hSw => ?_⟩
    go_simp
  simp only [Act.put, List.setIfInBounds_toArray, List.set_cons_zero, List.set_cons_succ]
  refine stepH (i := 40) (by kernel_rfl) (by kernel_rfl) (fun o ho K2 hK => ?_)
  simp only [List.getElem?_toArray, List.getElem?_cons_zero, List.getElem?_cons_succ, Option.some.injEq] at ho
  subst ho
  go_simp
  refine (vX 0 _).mono ?_
  rintro e w91x ⟨rfl, hb⟩
  dsimp only
  refine hK.out _ _ (hHeld.below hb) (fun hHeld => ?_)
  clear hK K2
  try simp only [Act.put, List.setIfInBounds_toArray, List.set_cons_zero, List.set_cons_succ]
  clear hb
  refine stepH (i := 41) (by kernel_rfl) (by kernel_rfl) (fun o ho K2 hK => ?_)
  simp only [List.getElem?_toArray, List.getElem?_cons_zero, List.getElem?_cons_succ, Option.some.injEq] at ho
  subst ho
  go_simp
  refine (vX 1 _).mono ?_
  rintro e w92x ⟨rfl, hb⟩
  dsimp only
  refine hK.out _ _ (hHeld.below hb) (fun hHeld => ?_)
  clear hK K2
  try simp only [Act.put, List.setIfInBounds_toArray, List.set_cons_zero, List.set_cons_succ]
  clear hb
  refine stepH (i := 42) (by kernel_rfl) (by kernel_rfl) (fun o ho K2 hK => ?_)
  simp only [List.getElem?_toArray, List.getElem?_cons_zero, List.getElem?_cons_succ, Option.some.injEq] at ho
  subst ho
  go_simp
  obtain ⟨W93, hW93⟩ : ∃ W93, W93 = w92x.alloc (.cells #[.int .i64 1, .int .i64 0, .string ⟨#[]⟩, .slice none 0 0, .int .i64 1, .int .i64 1, .string ⟨#[]⟩, .slice none 0 0] 25) := ⟨_, rfl⟩
  have hbW93 : Below w92x.heap.size w92x W93 := by rw [hW93]; exact below_alloc _ _
  rw [← hW93]
  refine hK.out _ _ (hHeld.below hbW93) (fun hHeld => ?_)
  clear hK K2
  try simp only [Act.put, List.setIfInBounds_toArray, List.set_cons_zero, List.set_cons_succ]
  have R93 : Hid (TmC AllB W93 (some ⟨w92x.heap.size, 0, none⟩) 2 [Tm.va 0, Tm.va 1]) := Lib.hid (by
    rw [hW93]
    refine lit_make w92x [(Tm.va 0, none, 0), (Tm.va 1, none, 0)] (fun e he => ?_) (by simp)
    simp only [List.mem_cons, List.not_mem_nil, or_false] at he
    rcases he with rfl | rfl
    · exact ⟨by show ByteArray.size ⟨#[]⟩ ≤ 9223372036854775807; decide, nilC _⟩
    · exact ⟨by show ByteArray.size ⟨#[]⟩ ≤ 9223372036854775807; decide, nilC _⟩)
  clear hbW93 hW93
  refine stepH (i := 43) (by kernel_rfl) (by kernel_rfl) (fun o ho K2 hK => ?_)
  simp only [List.getElem?_toArray, List.getElem?_cons_zero, List.getElem?_cons_succ, Option.some.injEq] at ho
  subst ho
  go_simp
  refine (fX sf _ _ _ _).mono ?_
  rintro e w94x ⟨rfl, hb⟩
  dsimp only
  refine hK.out _ _ (hHeld.below hb) (fun hHeld => ?_)
  clear hK K2
  try simp only [Act.put, List.setIfInBounds_toArray, List.set_cons_zero, List.set_cons_succ]
  replace R93 := Lib.hid (R93.out.stay hb (Nat.le_refl _))
  clear hb
  refine stepH (i := 44) (by kernel_rfl) (by kernel_rfl) (fun o ho K2 hK => ?_)
  simp only [List.getElem?_toArray, List.getElem?_cons_zero, List.getElem?_cons_succ, Option.some.injEq] at ho
  subst ho
  go_simp
  refine (vX 0 _).mono ?_
  rintro e w95x ⟨rfl, hb⟩
  dsimp only
  refine hK.out _ _ (hHeld.below hb) (fun hHeld => ?_)
  clear hK K2
  try simp only [Act.put, List.setIfInBounds_toArray, List.set_cons_zero, List.set_cons_succ]
  replace R93 := Lib.hid (R93.out.stay hb (Nat.le_refl _))
  clear hb
  refine stepH (i := 45) (by kernel_rfl) (by kernel_rfl) (fun o ho K2 hK => ?_)
  simp only [List.getElem?_toArray, List.getElem?_cons_zero, List.getElem?_cons_succ, Option.some.injEq] at ho
  subst ho
  go_simp
  obtain ⟨W96, hW96⟩ : ∃ W96, W96 = w95x.alloc (.cells #[.int .i64 5, .int .i64 0, .string sf, .slice (some ⟨w92x.heap.size, 0, none⟩) 2 2, .int .i64 1, .int .i64 0, .string ⟨#[]⟩, .slice none 0 0] 25) := ⟨_, rfl⟩
  have hbW96 : Below w95x.heap.size w95x W96 := by rw [hW96]; exact below_alloc _ _
  rw [← hW96]
  refine hK.out _ _ (hHeld.below hbW96) (fun hHeld => ?_)
  clear hK K2
  try simp only [Act.put, List.setIfInBounds_toArray, List.set_cons_zero, List.set_cons_succ]
  have R96 : Hid (TmC AllB W96 (some ⟨w95x.heap.size, 0, none⟩) 2 [Tm.fn sf [Tm.va 0, Tm.va 1], Tm.va 0]) := Lib.hid (by
    rw [hW96]
    refine lit_make w95x [(Tm.fn sf [Tm.va 0, Tm.va 1], some ⟨w92x.heap.size, 0, none⟩, 2), (Tm.va 0, none, 0)] (fun e he => ?_) (by simp)
    simp only [List.mem_cons, List.not_mem_nil, or_false] at he
    rcases he with rfl | rfl
    · exact ⟨by show ByteArray.size sf ≤ 9223372036854775807; decide, R93.out⟩
    · exact ⟨by show ByteArray.size ⟨#[]⟩ ≤ 9223372036854775807; decide, nilC _⟩)
  clear R93
  clear hbW96 hW96
  have hc := sameAll_calls sN' sN' AN cn (some ⟨w95x.heap.size, 0, none⟩) 2 AllB AllB W96 (HSN.out.stay hHeld.1.out (Nat.le_refl _)) R96.out
  rw [sameL_iff.2 rfl] at hc
  have Hc := Lib.hid hc; clear hc
  clear R96 HSN
  refine stepH (i := 46) (by kernel_rfl) (by kernel_rfl) (fun o ho K2 hK => ?_)
  simp only [List.getElem?_toArray, List.getElem?_cons_zero, List.getElem?_cons_succ, Option.some.injEq] at ho
  subst ho
  go_simp
  refine (Hc.out).mono ?_
  rintro e w97x ⟨rfl, hb⟩
  dsimp only
  refine hK.out _ _ (hHeld.below hb) (fun hHeld => ?_)
  clear hK K2
  try simp only [Act.put, List.setIfInBounds_toArray, List.set_cons_zero, List.set_cons_succ]
  clear hb
  clear Hc
  refine takeH (i := 47) (d := 205) (.bool true) (by kernel_rfl) (by kernel_rfl) (by kernel_rfl) (by kernel_rfl) (fun _ _ _ _ h => h) (fun o ho => ?_) hHeld ?_
  · simp only [List.getElem?_toArray, List.getElem?_cons_zero, List.getElem?_cons_succ, Option.some.injEq] at ho
    subst ho
    refine Or.inl ⟨by rfl, fun w hSw => ?_⟩
    go_simp
  simp only [Act.put, List.setIfInBounds_toArray, List.set_cons_zero, List.set_cons_succ]
  refine takeH (i := 48) (d := 206) (.bool true) (by kernel_rfl) (by kernel_rfl) (by kernel_rfl) (by kernel_rfl) (fun _ _ _ _ h => h) (fun o ho => ?_) hHeld ?_
  · simp only [List.getElem?_toArray, List.getElem?_cons_zero, List.getElem?_cons_succ, Option.some.injEq] at ho
    subst ho
    refine Or.inl ⟨by rfl, fun w hSw => ?_⟩
    go_simp
  simp only [Act.put, List.setIfInBounds_toArray, List.set_cons_zero, List.set_cons_succ]
  refine takeH (i := 49) (d := 207) (.slice AV 2 cv) (by kernel_rfl) (by kernel_rfl) (by kernel_rfl) (by kernel_rfl) (fun _ _ _ _ h => h) (fun o ho => ?_) hHeld ?_
  · simp only [List.getElem?_toArray, List.getElem?_cons_zero, List.getElem?_cons_succ, Option.some.injEq] at ho
    subst ho
    refine Or.inl ⟨by rfl, fun w hSw => ?_⟩
    go_simp
  simp only [Act.put, List.setIfInBounds_toArray, List.set_cons_zero, List.set_cons_succ]
  refine stepH (i := 50) (by kernel_rfl) (by kernel_rfl) (fun o ho K2 hK => ?_)
  simp only [List.getElem?_toArray, List.getElem?_cons_zero, List.getElem?_cons_succ, Option.some.injEq] at ho
  subst ho
  go_simp
  obtain ⟨W98, hW98⟩ : ∃ W98, W98 = w97x.alloc (.cells #[.int .i64 2, .int .i64 0] 3) := ⟨_, rfl⟩
  have hbW98 : Below w97x.heap.size w97x W98 := by rw [hW98]; exact below_alloc _ _
  rw [← hW98]
  refine hK.out _ _ (hHeld.below hbW98) (fun hHeld => ?_)
  clear hK K2
  try simp only [Act.put, List.setIfInBounds_toArray, List.set_cons_zero, List.set_cons_succ]
  have hr2 : Rd W98 (some ⟨w97x.heap.size, 0, none⟩) (([2, 0] : List Int).flatMap encI) := fun _ => ⟨_, _, rfl, fun j v hj => by rw [Nat.zero_add, hW98, (Blk.new w97x 3 #[.int .i64 2, .int .i64 0]).cell j]; rw [flatMap_encI] at hj; simpa using hj⟩
  have hc := equalInt_calls [2, 0] [2, 0] AV cv (some ⟨w97x.heap.size, 0, none⟩) 2 W98 (HRV.out.below hHeld.1.out (Nat.le_refl _)) hr2 hv1 hv2 (by decide) (by decide)
  rw [decide_eq_true rfl] at hc
  have Hc := Lib.hid hc; clear hc hr2 HRV
  clear hbW98 hW98
  refine stepH (i := 51) (by kernel_rfl) (by kernel_rfl) (fun o ho K2 hK => ?_)
  simp only [List.getElem?_toArray, List.getElem?_cons_zero, List.getElem?_cons_succ, Option.some.injEq] at ho
  subst ho
  go_simp
  refine (Hc.out).mono ?_
  rintro e w99x ⟨rfl, hb⟩
  dsimp only
  refine hK.out _ _ (hHeld.below hb) (fun hHeld => ?_)
  clear hK K2
  try simp only [Act.put, List.setIfInBounds_toArray, List.set_cons_zero, List.set_cons_succ]
  clear hb
  clear Hc
  refine takeH (i := 52) (d := 210) (.bool true) (by kernel_rfl) (by kernel_rfl) (by kernel_rfl) (by kernel_rfl) (fun _ _ _ _ h => h) (fun o ho => ?_) hHeld ?_
  · simp only [List.getElem?_toArray, List.getElem?_cons_zero, List.getElem?_cons_succ, Option.some.injEq] at ho
    subst ho
    refine Or.inl ⟨by rfl, fun w hSw => ?_⟩
    go_simp
  simp only [Act.put, List.setIfInBounds_toArray, List.set_cons_zero, List.set_cons_succ]
  refine takeH (i := 53) (d := 211) (.bool true) (by kernel_rfl) (by kernel_rfl) (by kernel_rfl) (by kernel_rfl) (fun _ _ _ _ h => h) (fun o ho => ?_) hHeld ?_
  · simp only [List.getElem?_toArray, List.getElem?_cons_zero, List.getElem?_cons_succ, Option.some.injEq] at ho
    subst ho
    refine Or.inl ⟨by rfl, fun w hSw => ?_⟩
    go_simp
  simp only [Act.put, List.setIfInBounds_toArray, List.set_cons_zero, List.set_cons_succ]
  refine takeH (i := 54) (d := 212) (.agg #[.int .i64 0, .int .i64 0, .string ⟨#[]⟩, .slice none 0 0]) (by kernel_rfl) (by kernel_rfl) (by kernel_rfl) (by kernel_rfl) (fun _ _ _ _ h => h) (fun o ho => ?_) hHeld ?_
  · simp only [List.getElem?_toArray, List.getElem?_cons_zero, List.getElem?_cons_succ, Option.some.injEq] at ho
    subst ho
    refine Or.inl ⟨by rfl, fun w hSw => ?_⟩
    go_simp
  simp only [Act.put, List.setIfInBounds_toArray, List.set_cons_zero, List.set_cons_succ]
  have hc := check_calls Tm.zero AllB w99x _ (TmV.zero _ _)
  rw [s_check0, show errT false = 3 from rfl] at hc
  have Hc := Lib.hid hc; clear hc
  refine stepH (i := 55) (by kernel_rfl) (by kernel_rfl) (fun o ho K2 hK => ?_)
  simp only [List.getElem?_toArray, List.getElem?_cons_zero, List.getElem?_cons_succ, Option.some.injEq] at ho
  subst ho
  go_simp
  refine (Hc.out).mono ?_
  rintro e w100x ⟨rfl, hb⟩
  dsimp only
  refine hK.out _ _ (hHeld.below hb) (fun hHeld => ?_)
  clear hK K2
  try simp only [Act.put, List.setIfInBounds_toArray, List.set_cons_zero, List.set_cons_succ]
  clear hb
  clear Hc
  refine takeH (i := 56) (d := 214) (.bool true) (by kernel_rfl) (by kernel_rfl) (by kernel_rfl) (by kernel_rfl) (fun _ _ _ _ h => h) (fun o ho => ?_) hHeld ?_
  · simp only [List.getElem?_toArray, List.getElem?_cons_zero, List.getElem?_cons_succ, Option.some.injEq] at ho
    subst ho
    refine Or.inl ⟨by rfl, fun w hSw => ?_⟩
    go_simp
  simp only [Act.put, List.setIfInBounds_toArray, List.set_cons_zero, List.set_cons_succ]
  refine takeH (i := 57) (d := 215) (.bool true) (by kernel_rfl) (by kernel_rfl) (by kernel_rfl) (by kernel_rfl) (fun _ _ _ _ h => h) (fun o ho => ?_) hHeld ?_
  · simp only [List.getElem?_toArray, List.getElem?_cons_zero, List.getElem?_cons_succ, Option.some.injEq] at ho
    subst ho
    refine Or.inl ⟨by rfl, fun w hSw => ?_⟩
    go_simp
  simp only [Act.put, List.setIfInBounds_toArray, List.set_cons_zero, List.set_cons_succ]
  refine takeH (i := 58) (d := 0) (.bool true) (by kernel_rfl) (by kernel_rfl) (by kernel_rfl) (by kernel_rfl) (fun _ _ _ _ h => h) (fun o ho => ?_) hHeld ?_
  · simp only [List.getElem?_toArray, List.getElem?_cons_zero, List.getElem?_cons_succ, Option.some.injEq] at ho
    subst ho
    refine Or.inl ⟨by rfl, fun w hSw => ?_⟩
    go_simp
  simp only [Act.put, List.setIfInBounds_toArray, List.set_cons_zero, List.set_cons_succ]
  refine wpAnyH_done (by kernel_rfl) ?_ _
  refine NoPanic.normal ?_
  replace HB := Lib.hid (HB.out.trans (hHeld.1.out.mono HB.out.size))
  clear hHeld
  clear y0 y1 y2 y3 yl
  clear BZ
  go_wp2
  go_ret
  exact ⟨rfl, HB.out⟩
end Go.Proofs.Ytfhgknmkpegpbaa

/- List cells and the items of a list: functions 106, 62, 60. -/
set_option linter.unusedVariables false
set_option linter.unusedSimpArgs false
namespace Go.Proofs.Ytfhgknmkpegpbaa
open Go.RowKit

/-- Whether a tree is a list cell. -/
def cellB (t : Tm) : Bool := (decide (t.k = 5) && decide (t.s.toList = [46])) && decide (t.l.length = 2)

set_option maxRecDepth 100000 in
set_option maxHeartbeats 4000000 in
theorem cell_calls (t : Tm) (P : Nat → Prop) (w : World) (v : Value) (hv : TmV P w v t) : Calls Try.prog 106 #[v] w (RetB w (cellB t)) := by
  obtain ⟨A, c, rfl, hs, hc⟩ := hv
  have hlm := hc.len.2.1
  have hlc := hc.len.1
  have hB0 : Below w.heap.size w (w.alloc (.cells #[.int .i64 t.k, .int .i64 t.n, .string t.s, .slice A t.l.length c] 25)) := (Below.refl _ _).alloc (Nat.le_refl _) _
  have HB0 := Lib.hid hB0; clear hB0 hc
  obtain ⟨r, hr⟩ : ∃ r, r = cellB t := ⟨_, rfl⟩
  rw [← hr]
  unfold cellB at hr
  by_cases hk : t.k = 5
  case neg =>
    have Hr := Lib.hid (show r = false from by rw [hr, decide_eq_false hk]; rfl); clear hr
    have hkb : (t.k == 5) = false := by simpa using hk
    clear hk
    go_enter Try.func106, Try.ntmps106
    go_wp2
    go_ret
    exact ⟨by rw [Hr.out]; rfl, HB0.out⟩
  have hkb : (t.k == 5) = true := by simpa using hk
  rw [decide_eq_true hk] at hr
  clear hk
  by_cases hd : t.s.toList = [46]
  case neg =>
    have Hr := Lib.hid (show r = false from by rw [hr, decide_eq_false hd]; rfl); clear hr
    have hdd : (t.s.toList == [46]) = false := by simpa using hd
    go_enter Try.func106, Try.ntmps106
    go_wp2
    go_ret
    exact ⟨by rw [Hr.out]; rfl, HB0.out⟩
  rw [decide_eq_true hd] at hr
  by_cases hl : t.l.length = 2
  case neg =>
    have Hr := Lib.hid (show r = false from by rw [hr, decide_eq_false hl]; rfl); clear hr
    have hlb : ((t.l.length : Int) == 2) = false := by simp; omega
    clear hl
    go_enter Try.func106, Try.ntmps106
    go_wp2
    go_ret
    exact ⟨by rw [Hr.out]; rfl, HB0.out⟩
  have Hr := Lib.hid (show r = true from by rw [hr, decide_eq_true hl]; rfl); clear hr
  have hlb : ((t.l.length : Int) == 2) = true := by simp; omega
  clear hl
  go_enter Try.func106, Try.ntmps106
  go_wp2
  go_ret
  exact ⟨by rw [Hr.out]; rfl, HB0.out⟩

set_option maxRecDepth 100000 in
set_option maxHeartbeats 4000000 in
theorem isCell_calls (t : Tm) (P : Nat → Prop) (w : World) (v : Value) (hv : TmV P w v t) : Calls Try.prog 62 #[v] w (RetB w (cellB t)) := by
  obtain ⟨A, c, rfl, hs, hc⟩ := hv
  have hlm := hc.len.2.1
  have hlc := hc.len.1
  have hB0 : Below w.heap.size w (w.alloc (.cells #[.int .i64 t.k, .int .i64 t.n, .string t.s, .slice A t.l.length c] 25)) := (Below.refl _ _).alloc (Nat.le_refl _) _
  have HB0 := Lib.hid hB0; clear hB0 hc
  obtain ⟨r, hr⟩ : ∃ r, r = cellB t := ⟨_, rfl⟩
  rw [← hr]
  unfold cellB at hr
  by_cases hk : t.k = 5
  case neg =>
    have Hr := Lib.hid (show r = false from by rw [hr, decide_eq_false hk]; rfl); clear hr
    have hkb : (t.k == 5) = false := by simpa using hk
    clear hk
    go_enter Try.func62, Try.ntmps62
    go_wp2
    go_ret
    exact ⟨by rw [Hr.out]; rfl, HB0.out⟩
  have hkb : (t.k == 5) = true := by simpa using hk
  rw [decide_eq_true hk] at hr
  clear hk
  by_cases hd : t.s.toList = [46]
  case neg =>
    have Hr := Lib.hid (show r = false from by rw [hr, decide_eq_false hd]; rfl); clear hr
    have hdd : (t.s.toList == [46]) = false := by simpa using hd
    go_enter Try.func62, Try.ntmps62
    go_wp2
    go_ret
    exact ⟨by rw [Hr.out]; rfl, HB0.out⟩
  rw [decide_eq_true hd] at hr
  by_cases hl : t.l.length = 2
  case neg =>
    have Hr := Lib.hid (show r = false from by rw [hr, decide_eq_false hl]; rfl); clear hr
    have hlb : ((t.l.length : Int) == 2) = false := by simp; omega
    clear hl
    go_enter Try.func62, Try.ntmps62
    go_wp2
    go_ret
    exact ⟨by rw [Hr.out]; rfl, HB0.out⟩
  have Hr := Lib.hid (show r = true from by rw [hr, decide_eq_true hl]; rfl); clear hr
  have hlb : ((t.l.length : Int) == 2) = true := by simp; omega
  clear hl
  go_enter Try.func62, Try.ntmps62
  go_wp2
  go_ret
  exact ⟨by rw [Hr.out]; rfl, HB0.out⟩
end Go.Proofs.Ytfhgknmkpegpbaa

/- The items of a list and its tail: function 60. -/
set_option linter.unusedVariables false
set_option linter.unusedSimpArgs false
namespace Go.Proofs.Ytfhgknmkpegpbaa
open Go.RowKit

theorem cellB_iff {t : Tm} : cellB t = true ↔ t.k = 5 ∧ t.s.toList = [46] ∧ t.l.length = 2 := by
  simp only [cellB, Bool.and_eq_true, decide_eq_true_eq, and_assoc]
/-- Items and tail, up to a number of cells. -/
def Tm.itemsN : Nat → Tm → List Tm × Tm
  | 0, t => ([], t)
  | n + 1, t => if cellB t = true then (t.l.head?.getD Tm.zero :: (Tm.itemsN n ((t.l[1]?).getD Tm.zero)).1, (Tm.itemsN n ((t.l[1]?).getD Tm.zero)).2) else ([], t)
def Tm.items (t : Tm) : List Tm × Tm := Tm.itemsN t.size t
theorem itemsN_more : ∀ (n m : Nat) (t : Tm), t.size ≤ n → t.size ≤ m → Tm.itemsN n t = Tm.itemsN m t
  | 0, m, t, h, _ => by have := t.size_pos; omega
  | n + 1, 0, t, _, h => by have := t.size_pos; omega
  | n + 1, m + 1, t, h1, h2 => by
    rw [Tm.itemsN, Tm.itemsN]
    by_cases hc : cellB t = true
    · rw [if_pos hc, if_pos hc]
      obtain ⟨h3, h4, h5⟩ := cellB_iff.1 hc
      have hx : ∃ y, t.l[1]? = some y := ⟨_, List.getElem?_eq_getElem (by omega)⟩
      obtain ⟨y, hy⟩ := hx
      have hz := Tm.size_child (List.mem_of_getElem? hy)
      rw [hy, Option.getD_some, itemsN_more n m y (by omega) (by omega)]
    · rw [if_neg hc, if_neg hc]
theorem items_cell {t x y : Tm} (hc : cellB t = true) (hx : t.l[0]? = some x) (hy : t.l[1]? = some y) : t.items = (x :: y.items.1, y.items.2) := by
  unfold Tm.items
  have hz := Tm.size_child (List.mem_of_getElem? hy)
  have hp := t.size_pos
  obtain ⟨n, hn⟩ : ∃ n, t.size = n + 1 := ⟨t.size - 1, by omega⟩
  rw [hn, Tm.itemsN, if_pos hc, List.head?_eq_getElem?, hx, hy, Option.getD_some, Option.getD_some, itemsN_more n y.size y (by omega) (Nat.le_refl _)]
theorem items_stop {t : Tm} (hc : cellB t = false) : t.items = ([], t) := by
  unfold Tm.items
  have hp := t.size_pos
  obtain ⟨n, hn⟩ : ∃ n, t.size = n + 1 := ⟨t.size - 1, by omega⟩
  rw [hn, Tm.itemsN, if_neg (by rw [hc]; simp)]
/-- What Items gives. -/
def RetIt (w : World) (r : List Tm × Tm) (er : Int) (e : Ending) (w' : World) : Prop :=
  ∃ A c B d, e = .returned (.tuple #[.slice A r.1.length c, .agg #[.int .i64 r.2.k, .int .i64 r.2.n, .string r.2.s, .slice B r.2.l.length d], .int .i64 er]) ∧ TmC (w.heap.size ≤ ·) w' A c r.1 ∧ r.2.s.size ≤ 9223372036854775807 ∧ TmC (w.heap.size ≤ ·) w' B d r.2.l ∧ Below w.heap.size w w'
def lenOf : Value → Nat | .slice _ n _ => n | _ => 0
def itR (t : Tm) : List Tm × Tm := if isB t = true then t.items else ([], Tm.zero)
theorem set4_at (W : World) (g : Nat) (cs : Array Value) (T : TypeId) (h : Blk W g T cs) (hc : cs.size = 4) (a b c d : Value) : Blk ((((W.setCell ⟨g, 0, none⟩ a).setCell ⟨g, 1, none⟩ b).setCell ⟨g, 2, none⟩ c).setCell ⟨g, 3, none⟩ d) g T #[a, b, c, d] := by
  have h1 := (((h.set_ 0 a).set_ 1 b).set_ 2 c).set_ 3 d
  obtain ⟨l⟩ := cs
  match l, hc with
  | [_, _, _, _], _ => exact h1

theorem cell_grown_of {w w' : World} {row : Option Nat} {g o : Nat} {v : Value} (hg : w.grownBy w' row) (hn : row ≠ some g) (h : w.cell? ⟨g, o, none⟩ = some v) : w'.cell? ⟨g, o, none⟩ = some v := by
  have hlt := World.block_lt_of_cell? w _ h
  rw [World.cell?_of_block (hg.block g hlt (fun e => hn e.symm))]
  exact h

set_option maxRecDepth 100000 in
set_option maxHeartbeats 4000000 in
theorem items_calls (t : Tm) (P : Nat → Prop) (w : World) (v : Value) (hv : TmV P w v t) : Calls Try.prog 60 #[v] w (RetIt w (itR t) (errT (isB t))) := by
  obtain ⟨A, c, rfl, hs, hc⟩ := hv
  obtain ⟨i0, hi0⟩ := info25
  have Hi := Lib.hid hi0; clear hi0
  obtain ⟨W0, hW0⟩ : ∃ W0, W0 = (w.alloc (.cells #[.int .i64 t.k, .int .i64 t.n, .string t.s, .slice A t.l.length c] 25)).alloc (.cells #[.int .i64 0, .int .i64 0, .string ⟨#[]⟩, .slice none 0 0] 25) := ⟨_, rfl⟩
  have hB0 : Below w.heap.size w W0 := by rw [hW0]; exact ((Below.refl _ _).alloc (Nat.le_refl _) _).alloc (by simp) _
  have hX0 : Blk W0 w.heap.size 25 #[.int .i64 t.k, .int .i64 t.n, .string t.s, .slice A t.l.length c] := by rw [hW0]; exact (Blk.new w 25 _).alloc _
  have hY0 : Blk W0 (w.heap.size + 1) 25 #[.int .i64 0, .int .i64 0, .string ⟨#[]⟩, .slice none 0 0] := by
    rw [hW0]
    have := Blk.new (w.alloc (.cells #[.int .i64 t.k, .int .i64 t.n, .string t.s, .slice A t.l.length c] 25)) 25 #[.int .i64 0, .int .i64 0, .string ⟨#[]⟩, .slice none 0 0]
    rwa [World.size_alloc] at this
  have ly0 := hY0.lt
  have hlc := hc.len.1
  have hlm := hc.len.2.1
  have hc0 : TmC (· < w.heap.size) W0 A c t.l := (hc.inside.mono (Q := (· < w.heap.size)) (fun g h => h.2)).stay hB0 (Nat.le_refl _)
  have Hc := Lib.hid hc0; clear hc0 hc
  have HX0 := Lib.hid hX0; clear hX0
  have HY0 := Lib.hid hY0; clear hY0
  have HB0 := Lib.hid hB0; clear hB0
  have HW := Lib.hid hW0; clear hW0
  obtain ⟨⟨a0, a1, a2, a3⟩, -⟩ := HX0.out.four
  obtain ⟨r, hr⟩ : ∃ r, r = itR t := ⟨_, rfl⟩
  rw [← hr]
  unfold itR at hr
  have hcall := check_calls t _ W0 _ ⟨A, c, rfl, hs, Hc.out⟩
  obtain ⟨b, hb⟩ : ∃ b, b = isB t := ⟨_, rfl⟩
  rw [← hb] at hcall hr ⊢
  have Hcall := Lib.hid hcall; clear hcall
  have Hr0 := Lib.hid hr; have Hb := Lib.hid hb; clear hr hb
  go_enter Try.func60, Try.ntmps60
  go_wp2_with fail
  rw [← HW.out]
  refine Hcall.out.mono ?_
  rintro e w1 ⟨rfl, hb1⟩
  have HX1 := Lib.hid (HX0.out.below hb1 HX0.out.lt)
  have HY1 := Lib.hid (HY0.out.below hb1 HY0.out.lt)
  have HB1 := Lib.hid (HB0.out.trans (hb1.mono HB0.out.size))
  have Hc1 := Lib.hid (Hc.out.stay hb1 (Nat.le_refl _))
  have hs1 := hb1.size
  clear hb1 a0 a1 a2 a3 Hcall Hc HX0 HY0 HB0
  have HS1 := Lib.hid (show w.heap.size + 2 ≤ w1.heap.size from by omega)
  cases b
  case false =>
    have he : errT false = 3 := rfl
    have hrr : r = ([], Tm.zero) := by rw [Hr0.out, if_neg (by simp)]
    subst hrr
    have ly := HY1.out.lt
    obtain ⟨⟨d0, d1, d2, d3⟩, ⟨g0, g1, g2, g3⟩⟩ := HY1.out.four
    rw [he]
    go_wp2
    refine bodyPost_ret (v := .tuple #[.slice none 0 0, .agg #[.int .i64 0, .int .i64 0, .string ⟨#[]⟩, .slice none 0 0], .int .i64 3]) ?_ rfl (R := RetIt w ([], Tm.zero) 3) ⟨none, 0, none, 0, rfl, TmC.nil _ _ (by omega) (fun _ => rfl), by show (0 : Nat) ≤ _; omega, TmC.nil _ _ (by omega) (fun _ => rfl), ?_⟩
    · simp [results, Try.results60, go_sem, d0, d1, d2, d3]
    · exact ((((HB1.out.setCell (p := ⟨w.heap.size + 1, 0, none⟩) (by simp) _).setCell (p := ⟨w.heap.size + 1, 1, none⟩) (by simp) _).setCell (p := ⟨w.heap.size + 1, 2, none⟩) (by simp) _).setCell (p := ⟨w.heap.size + 1, 3, none⟩) (by simp) _)
  have he : errT true = 0 := rfl
  have hr : r = t.items := by rw [Hr0.out, if_pos rfl]
  have hsz := (isB_iff.1 Hb.out.symm).2.1
  have Hr := Lib.hid hr; clear hr Hr0
  rw [he]
  go_wp2
  go_loopw [6] (fun v6 wr => ∃ (u : Tm) (Au : Option Addr) (cu : Nat) (xs : List Tm), Hid (t.items = (xs ++ u.items.1, u.items.2)) ∧ xs.length + u.size ≤ 4000 ∧ u.s.size ≤ 9223372036854775807 ∧ Hid (TmC (· < w.heap.size) wr Au cu u.l) ∧ lenOf v6 = xs.length ∧ RowT (w.heap.size + 2) (w.heap.size + 2 ≤ ·) wr v6 xs ∧
      Hid (Blk wr w.heap.size 25 #[.int .i64 u.k, .int .i64 u.n, .string u.s, .slice Au u.l.length cu]) ∧ Hid (Blk wr (w.heap.size + 1) 25 #[.int .i64 0, .int .i64 0, .string ⟨#[]⟩, .slice none 0 0]) ∧ Hid (Below w.heap.size w wr)) (fun v6 _ => 5000 - lenOf v6)
  case atStart => exact ⟨t, A, c, [], Lib.hid (by simp), by simpa using hsz, hs, Hc1, rfl, RowT.nil _ _ _, HX1, HY1, HB1⟩
  case round =>
    obtain ⟨u, Au, cu, xs, Hit, hxl, hus, HC, hlo, hrw, HX, HY, HB⟩ := hrel
    have Hrw := Lib.hid hrw; clear hrw
    obtain ⟨⟨a0, a1, a2, a3⟩, ⟨f0, f1, f2, f3⟩⟩ := HX.out.four
    have lx := HX.out.lt
    have ly := HY.out.lt
    have hul := HC.out.len.2.1
    have hulc := HC.out.len.1
    obtain ⟨q, hq⟩ : ∃ q, q = cellB u := ⟨_, rfl⟩
    have hcall := cell_calls u _ wr _ ⟨Au, cu, rfl, hus, HC.out⟩
    rw [← hq] at hcall
    have Hcall := Lib.hid hcall; clear hcall
    go_wp2_with fail
    refine Hcall.out.mono ?_
    rintro e w2 ⟨rfl, hb2⟩
    have HX2 := Lib.hid (HX.out.below hb2 lx)
    have HY2 := Lib.hid (HY.out.below hb2 ly)
    have HB2 := Lib.hid (HB.out.trans (hb2.mono HB.out.size))
    have HC2 := Lib.hid (HC.out.stay hb2 (Nat.le_refl _))
    have Hrw2 := Lib.hid (Hrw.out.below hb2 (Nat.le_refl _))
    have hs2 := hb2.size
    clear hb2 Hcall HX HY HB HC Hrw a0 a1 a2 a3 f0 f1 f2 f3 lx ly
    have lx := HX2.out.lt
    have ly := HY2.out.lt
    obtain ⟨⟨a0, a1, a2, a3⟩, ⟨f0, f1, f2, f3⟩⟩ := HX2.out.four
    cases q
    case false =>
      have hfin : t.items = (xs, u) := by rw [Hit.out, items_stop hq.symm]; simp
      rw [hfin] at Hr
      have hrr := Hr.out; subst hrr
      have hus2 : u.size ≤ 1000000 := by omega
      have hcall := copied_calls u _ w2 _ ⟨Au, cu, rfl, hus, HC2.out⟩ hus2
      have Hcall := Lib.hid hcall; clear hcall
      clear hq hfin
      go_wp2_with fail
      refine Hcall.out.mono ?_
      rintro e w3 ⟨A3, c3, rfl, -, h3, hb3⟩
      have HY3 := Lib.hid (HY2.out.below hb3 ly)
      have HB3 := Lib.hid (HB2.out.trans (hb3.mono HB2.out.size))
      have hrw3 := Hrw2.out.below hb3 (Nat.le_refl _)
      have H3 := Lib.hid (h3.mono (Q := (w.heap.size + 2 ≤ ·)) (fun g hg => by omega))
      have hs3 := hb3.size
      obtain ⟨A4, c4, rfl, h4⟩ := hrw3.toC
      have H4 := Lib.hid (show TmC (w.heap.size + 2 ≤ ·) w3 A4 c4 xs from h4.mono (fun g hg => by
        rcases hg with h | h
        · exact h
        · obtain ⟨es, h5, h6, h7⟩ := hrw3
          exact (h6.lt g h.symm).1))
      clear h4 hrw3 hb3 h3 Hcall
      have ly3 := HY3.out.lt
      obtain ⟨⟨d0, d1, d2, d3⟩, ⟨g0, g1, g2, g3⟩⟩ := HY3.out.four
      clear a0 a1 a2 a3 f0 f1 f2 f3
      go_wp2
      have hF := set4_at w3 (w.heap.size + 1) _ 25 HY3.out rfl (.int .i64 u.k) (.int .i64 u.n) (.string u.s) (.slice A3 u.l.length c3)
      have sc : ∀ {A : Option Addr} {c : Nat} {l : List Tm}, TmC (w.heap.size + 2 ≤ ·) w3 A c l → TmC (w.heap.size + 2 ≤ ·) ((((w3.setCell ⟨w.heap.size + 1, 0, none⟩ (.int .i64 u.k)).setCell ⟨w.heap.size + 1, 1, none⟩ (.int .i64 u.n)).setCell ⟨w.heap.size + 1, 2, none⟩ (.string u.s)).setCell ⟨w.heap.size + 1, 3, none⟩ (.slice A3 u.l.length c3)) A c l := fun h => (((h.setCell ⟨w.heap.size + 1, 0, none⟩ (.int .i64 u.k) (fun g h e => by simp at e; omega)).setCell ⟨w.heap.size + 1, 1, none⟩ (.int .i64 u.n) (fun g h e => by simp at e; omega)).setCell ⟨w.heap.size + 1, 2, none⟩ (.string u.s) (fun g h e => by simp at e; omega)).setCell ⟨w.heap.size + 1, 3, none⟩ (.slice A3 u.l.length c3) (fun g h e => by simp at e; omega)
      have hT := sc H3.out
      have hL := sc H4.out
      have hBF := (((HB3.out.setCell (p := ⟨w.heap.size + 1, 0, none⟩) (by simp) (.int .i64 u.k)).setCell (p := ⟨w.heap.size + 1, 1, none⟩) (by simp) (.int .i64 u.n)).setCell (p := ⟨w.heap.size + 1, 2, none⟩) (by simp) (.string u.s)).setCell (p := ⟨w.heap.size + 1, 3, none⟩) (by simp) (.slice A3 u.l.length c3)
      obtain ⟨⟨q0, q1, q2, q3⟩, -⟩ := hF.four
      refine bodyPost_ret (v := .tuple #[.slice A4 xs.length c4, .agg #[.int .i64 u.k, .int .i64 u.n, .string u.s, .slice A3 u.l.length c3], .int .i64 0]) ?_ rfl (R := RetIt w (xs, u) 0) ⟨A4, c4, A3, c3, rfl, hL.mono (fun g h => by omega), hus, hT.mono (fun g h => by omega), hBF⟩
      generalize (World.setCell _ ⟨w.heap.size + 1, 3, none⟩ _) = WF at q0 q1 q2 q3 ⊢
      clear hF hT hBF hL sc
      simp [results, Try.results60, go_sem, q0, q1, q2, q3]
    case true =>
      obtain ⟨hk5, hdot, hl2⟩ := cellB_iff.1 hq.symm
      obtain ⟨x, hx⟩ : ∃ x, u.l[0]? = some x := ⟨_, List.getElem?_eq_getElem (by omega)⟩
      obtain ⟨y, hy⟩ : ∃ y, u.l[1]? = some y := ⟨_, List.getElem?_eq_getElem (by omega)⟩
      have Hic := Lib.hid (items_cell hq.symm hx hy)
      have hxz := Tm.size_child (List.mem_of_getElem? hx)
      have hyz := Tm.size_child (List.mem_of_getElem? hy)
      obtain ⟨g, off, Ax, cx, rfl, hPg, ⟨e0, e1, e2, e3⟩, hxs, hxc⟩ := HC2.out.at_ hx
      obtain ⟨g', off', Ay, cy, he2, -, ⟨k0, k1, k2, k3⟩, hys, hyc⟩ := HC2.out.at_ hy
      injection he2 with he2; injection he2 with he3 he4; subst he3; subst he4
      have Hxc := Lib.hid hxc; have Hyc := Lib.hid hyc; clear hxc hyc
      have hx6 : x.size ≤ 1000000 := by omega
      have hcall := copied_calls x _ w2 _ ⟨Ax, cx, rfl, hxs, Hxc.out⟩ hx6
      have Hcall := Lib.hid hcall; clear hcall
      have hl0 : (0 : Int) < (u.l.length : Int) := by omega
      have hl1 : (1 : Int) < (u.l.length : Int) := by omega
      rw [show off + 0 * 4 = off from by omega] at e0 e1 e2 e3
      rw [show off + 1 * 4 = off + 4 from by omega] at k0 k1 k2 k3
      clear hq hx hy hdot
      go_wp2_with fail
      refine Hcall.out.mono ?_
      rintro e w3 ⟨A3, c3, rfl, -, hx3, hb3⟩
      have hbr2 : Below w2.heap.size w2 (w3.alloc (.cells #[.int .i64 x.k, .int .i64 x.n, .string x.s, .slice A3 x.l.length c3] 25)) := hb3.alloc hb3.size _
      have hrw3 := Hrw2.out.below hbr2 (Nat.le_refl _)
      have hx4 := hx3.stay ((Below.refl _ _).alloc (Nat.le_refl _) (.cells #[.int .i64 x.k, .int .i64 x.n, .string x.s, .slice A3 x.l.length c3] 25)) (Nat.le_refl _)
      have hob : ∀ g, w2.heap.size ≤ g → w.heap.size + 2 ≤ g ∧ some g ≠ u6.ownBlock := fun g hg => by
        refine ⟨by have := HB2.out.size; omega, fun e => ?_⟩
        obtain ⟨es, h1, h2, h3⟩ := Hrw2.out
        have := (h2.lt g e.symm).2
        omega
      obtain ⟨es, hes, hrow, hch⟩ := hrw3
      have hel : es.length = xs.length := by rw [hes, List.length_map]
      have HX4 := Lib.hid (HX2.out.below hbr2 lx)
      have HY4 := Lib.hid (HY2.out.below hbr2 ly)
      have Hx4 := Lib.hid hx4; clear hx4 hx3
      have Hob := Lib.hid hob; clear hob
      have Hch := Lib.hid hch
      have Hrow := Lib.hid hrow
      have HB4 := Lib.hid (HB2.out.trans (hbr2.mono HB2.out.size))
      have Hyc4 := Lib.hid (Hyc.out.stay hbr2 (Nat.le_refl _))
      have r0 := keep_cell hbr2 k0; have r1 := keep_cell hbr2 k1; have r2 := keep_cell hbr2 k2; have r3 := keep_cell hbr2 k3
      have HZ4 := Lib.hid (show w.heap.size + 2 ≤ (w3.alloc (.cells #[.int .i64 x.k, .int .i64 x.n, .string x.s, .slice A3 x.l.length c3] 25)).heap.size from Nat.le_trans ly hbr2.size)
      clear hbr2 hb3
      have Hes := Lib.hid hes
      have Hel := Lib.hid hel
      have hs4 := HB4.out.size
      clear hrow hch hes hel e0 e1 e2 e3 k0 k1 k2 k3 a0 a1 a2 a3 f0 f1 f2 f3
      go_wp2_with (at_builtin; refine wpList_append_own_at _ rfl (.tmp 19) (.tmp 25) 22 rfl (w.heap.size + 2) 25 i0 _ 4 56 Try.underlying22 Hi.out.1 Hi.out.2.1 Hi.out.2.2.1 Hi.out.2.2.2 rfl (by decide) u6 es.length (es.flatMap encE) rfl Hrow.out ⟨w3.heap.size, 0, none⟩ 1 1 [.int .i64 x.k, .int .i64 x.n, .string x.s, .slice A3 x.l.length c3] rfl rfl ?c1 ?c2 ?c3 ?c4 ?c5 ?_)
      case c1 =>
        intro j u hu
        rw [add_lit0, (Blk.new w3 25 _).cell j]
        simpa using hu
      case c2 => simp [Value.oneCell']
      case c3 => rw [Hel.out]; simp only [maxLen]; omega
      case c4 => rw [Hel.out]; omega
      case c5 => exact HZ4.out
      intro v' w4 hown hg _ hbk
      have hnew : RowT (w.heap.size + 2) (w.heap.size + 2 ≤ ·) w4 v' (xs ++ [x]) := RowT.push es Hes.out Hch.out hxs Hx4.out (fun g hg' => Hob.out g (by have : w2.heap.size ≤ g := hg'; exact this)) hown hg (by simpa using hbk)
      have hrl : ∀ g, u6.ownBlock = some g → w.heap.size + 2 ≤ g := fun g h => (Hrow.out.lt g h).1
      have hB5 : Below w.heap.size w w4 := HB4.out.grown hg HB4.out.size (fun k hk => by have := hrl k hk; omega)
      have hlt3 : w.heap.size + 2 ≤ (w3.alloc (.cells #[.int .i64 x.k, .int .i64 x.n, .string x.s, .slice A3 x.l.length c3] 25)).heap.size := HZ4.out
      have hX5 := HX4.out.grown hg (fun e => by have := hrl _ e.symm; omega)
      have hY5 := HY4.out.grown hg (fun e => by have := hrl _ e.symm; omega)
      have hyc5 := Hyc4.out.grown hg (fun g hg' e => by have := hrl _ e; omega)
      have lx5 := hX5.lt
      have ly5 := hY5.lt
      have hgr : u6.ownBlock ≠ some g := fun e => by have := hrl _ e; omega
      have t0 := cell_grown_of hg hgr r0; have t1 := cell_grown_of hg hgr r1; have t2 := cell_grown_of hg hgr r2; have t3 := cell_grown_of hg hgr r3
      obtain ⟨⟨p0, p1, p2, p3⟩, ⟨z0, z1, z2, z3⟩⟩ := hX5.four
      have Hnew := Lib.hid hnew; have HB5 := Lib.hid hB5; have HX5 := Lib.hid hX5; have HY5 := Lib.hid hY5; have Hyc5 := Lib.hid hyc5
      obtain ⟨A5, c5, rfl⟩ := own_slice hown
      clear hnew hB5 hX5 hY5 hyc5 hown hg hbk hrl r0 r1 r2 r3
      have hgx : g ≠ w.heap.size := by omega
      have hgl : g < w4.heap.size := by omega
      have HF := Lib.hid (set4_at w4 w.heap.size _ 25 HX5.out rfl (.int .i64 y.k) (.int .i64 y.n) (.string y.s) (.slice Ay y.l.length cy))
      have hbut : But w.heap.size w4 ((((w4.setCell ⟨w.heap.size, 0, none⟩ (.int .i64 y.k)).setCell ⟨w.heap.size, 1, none⟩ (.int .i64 y.n)).setCell ⟨w.heap.size, 2, none⟩ (.string y.s)).setCell ⟨w.heap.size, 3, none⟩ (.slice Ay y.l.length cy)) := ((((But.refl _ _).setCell 0 _).setCell 1 _).setCell 2 _).setCell 3 _
      have HN := Lib.hid (Hnew.out.butN hbut (by omega) (fun g hg => by omega))
      have HY6 := Lib.hid ((((HY5.out.far (p := ⟨w.heap.size, 0, none⟩) (by show w.heap.size + 1 ≠ w.heap.size; omega) (.int .i64 y.k)).far (p := ⟨w.heap.size, 1, none⟩) (by show w.heap.size + 1 ≠ w.heap.size; omega) (.int .i64 y.n)).far (p := ⟨w.heap.size, 2, none⟩) (by show w.heap.size + 1 ≠ w.heap.size; omega) (.string y.s)).far (p := ⟨w.heap.size, 3, none⟩) (by show w.heap.size + 1 ≠ w.heap.size; omega) (.slice Ay y.l.length cy))
      have HB6 := Lib.hid ((((HB5.out.setCell (p := ⟨w.heap.size, 0, none⟩) (Nat.le_refl _) (.int .i64 y.k)).setCell (p := ⟨w.heap.size, 1, none⟩) (Nat.le_refl _) (.int .i64 y.n)).setCell (p := ⟨w.heap.size, 2, none⟩) (Nat.le_refl _) (.string y.s)).setCell (p := ⟨w.heap.size, 3, none⟩) (Nat.le_refl _) (.slice Ay y.l.length cy))
      have HC6 := Lib.hid (Hyc5.out.but hbut (fun g hg => by have : g < w.heap.size := hg; omega))
      have Hit2 := Lib.hid (show t.items = ((xs ++ [x]) ++ y.items.1, y.items.2) from by rw [Hit.out, Hic.out]; simp)
      have Hln := Lib.hid (show es.length + 1 = (xs ++ [x]).length from by rw [Hel.out]; simp)
      have hxl2 : (xs ++ [x]).length + y.size ≤ 4000 := by rw [List.length_append]; simp; omega
      clear hbut
      go_wp2
      go_roundw
      case rel => exact ⟨y, Ay, cy, xs ++ [x], Hit2, hxl2, hys, HC6, Hln.out, HN.out, HF, HY6, HB6⟩
      case measure => rw [hlo]; show 5000 - (es.length + 1) < 5000 - xs.length; rw [Hel.out]; omega
end Go.Proofs.Ytfhgknmkpegpbaa
