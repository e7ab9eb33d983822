/- The standard order of trees is total and transitive: plain facts. -/
import Derived.Test.YtfhgknmkpegpbaaM3
import Derived.Test.YtfhgknmkpegpbaaM1
set_option linter.unusedVariables false
set_option linter.unusedSimpArgs false
namespace Go.Proofs.Ytfhgknmkpegpbaa
open Go.RowKit

def lex2 (a b : Int) : Int := if a = 0 then b else a
/-- The signs of three comparisons fit together. -/
def Tri (a c d : Int) : Prop := (a ≤ 0 → c ≤ 0 → d ≤ 0) ∧ (a < 0 → c ≤ 0 → d < 0) ∧ (a ≤ 0 → c < 0 → d < 0) ∧ (0 ≤ a → 0 ≤ c → 0 ≤ d) ∧ (0 < a → 0 ≤ c → 0 < d) ∧ (0 ≤ a → 0 < c → 0 < d)
theorem Tri.lex {a c d a2 c2 d2 : Int} (h : Tri a c d) (hh : Tri a2 c2 d2) : Tri (lex2 a a2) (lex2 c c2) (lex2 d d2) := by
  unfold Tri lex2 at *
  obtain ⟨h1, h2, h3, h4, h5, h6⟩ := h
  obtain ⟨g1, g2, g3, g4, g5, g6⟩ := hh
  split <;> split <;> split <;> refine ⟨?_, ?_, ?_, ?_, ?_, ?_⟩ <;> omega
theorem tri_cmpI (a b c : Int) : Tri (cmpI a b) (cmpI b c) (cmpI a c) := by
  unfold Tri cmpI
  split <;> split <;> split <;> (try split) <;> (try split) <;> (try split) <;> refine ⟨?_, ?_, ?_, ?_, ?_, ?_⟩ <;> omega
theorem tri_zero : Tri 0 0 0 := by unfold Tri; omega
def One (a : Int) : Prop := a = -1 ∨ a = 0 ∨ a = 1
theorem one_cmpI (a b : Int) : One (cmpI a b) := by unfold One cmpI; split <;> (try split) <;> omega
theorem neg_cmpI (a b : Int) : cmpI b a = -cmpI a b := by unfold cmpI; split <;> split <;> (try split) <;> omega
theorem cmpI_zero {a b : Int} : cmpI a b = 0 ↔ a = b := by unfold cmpI; split <;> (try split) <;> omega
theorem one_lex {a b : Int} (h : One a) (h2 : One b) : One (lex2 a b) := by unfold lex2; split <;> assumption
theorem neg_lex {a b a2 b2 : Int} (h : b = -a) (h2 : b2 = -a2) : lex2 b b2 = -lex2 a a2 := by unfold lex2; split <;> split <;> omega

/-- Two rows, element by element. -/
def lexL {T : Type} (f : T → T → Int) : List T → List T → Int
  | [], [] => 0
  | [], _ :: _ => -1
  | _ :: _, [] => 1
  | x :: xs, y :: ys => lex2 (f x y) (lexL f xs ys)
theorem lexL_tri {T : Type} {f : T → T → Int} : ∀ (xs ys zs : List T), (∀ x ∈ xs, ∀ y z, Tri (f x y) (f y z) (f x z)) → Tri (lexL f xs ys) (lexL f ys zs) (lexL f xs zs)
  | [], [], [], _ => by unfold Tri; simp [lexL]
  | [], [], _ :: _, _ => by unfold Tri; simp [lexL]
  | [], y :: ys, [], _ => by unfold Tri; simp [lexL]
  | [], y :: ys, z :: zs, _ => by unfold Tri; simp [lexL]
  | x :: xs, [], [], _ => by unfold Tri; simp [lexL]
  | x :: xs, [], z :: zs, _ => by unfold Tri; simp [lexL]
  | x :: xs, y :: ys, [], _ => by unfold Tri; simp [lexL]
  | x :: xs, y :: ys, z :: zs, h => by
    rw [lexL, lexL, lexL]
    exact (h x (List.mem_cons_self ..) y z).lex (lexL_tri xs ys zs fun u hu => h u (List.mem_cons_of_mem _ hu))
theorem lexL_one {T : Type} {f : T → T → Int} : ∀ (xs ys : List T), (∀ x ∈ xs, ∀ y, One (f x y)) → One (lexL f xs ys)
  | [], [], _ => by unfold One; simp [lexL]
  | [], y :: ys, _ => by unfold One; simp [lexL]
  | x :: xs, [], _ => by unfold One; simp [lexL]
  | x :: xs, y :: ys, h => by
    rw [lexL]
    exact one_lex (h x (List.mem_cons_self ..) y) (lexL_one xs ys fun u hu => h u (List.mem_cons_of_mem _ hu))
theorem lexL_neg {T : Type} {f : T → T → Int} : ∀ (xs ys : List T), (∀ x ∈ xs, ∀ y, f y x = -f x y) → lexL f ys xs = -lexL f xs ys
  | [], [], _ => by simp [lexL]
  | [], y :: ys, _ => by simp [lexL]
  | x :: xs, [], _ => by simp [lexL]
  | x :: xs, y :: ys, h => by
    rw [lexL, lexL]
    exact neg_lex (h x (List.mem_cons_self ..) y) (lexL_neg xs ys fun u hu => h u (List.mem_cons_of_mem _ hu))
theorem lexL_zero {T : Type} {f : T → T → Int} : ∀ (xs ys : List T), (∀ x ∈ xs, ∀ y, f x y = 0 ↔ x = y) → (lexL f xs ys = 0 ↔ xs = ys)
  | [], [], _ => by simp [lexL]
  | [], y :: ys, _ => by simp [lexL]
  | x :: xs, [], _ => by simp [lexL]
  | x :: xs, y :: ys, h => by
    rw [lexL, List.cons.injEq, ← h x (List.mem_cons_self ..) y, ← lexL_zero xs ys fun u hu => h u (List.mem_cons_of_mem _ hu)]
    unfold lex2
    split <;> omega

def cmpB (x y : UInt8) : Int := cmpI x.toNat y.toNat
theorem cmpB_zero {x y : UInt8} : cmpB x y = 0 ↔ x = y := by
  unfold cmpB; rw [cmpI_zero]
  constructor
  · intro h; exact UInt8.toNat_inj.1 (by omega)
  · intro h; rw [h]
theorem bytes_lex : ∀ x y : List UInt8, (Op.bytesLess x y = true ↔ lexL cmpB x y = -1)
  | [], [] => by simp [Op.bytesLess, lexL]
  | [], y :: ys => by simp [Op.bytesLess, lexL]
  | x :: xs, [] => by simp [Op.bytesLess, lexL]
  | x :: xs, y :: ys => by
    have ih := bytes_lex xs ys
    rw [Op.bytesLess, lexL, Bool.or_eq_true, Bool.and_eq_true, ih]
    have h1 : (decide (x < y) = true) ↔ x.toNat < y.toNat := by rw [decide_eq_true_eq]; exact Iff.rfl
    have h2 : ((x == y) = true) ↔ x.toNat = y.toNat := by rw [beq_iff_eq]; exact UInt8.toNat_inj.symm
    rw [h1, h2]
    unfold lex2 cmpB cmpI
    split <;> (try split at *) <;> (try split at *) <;> omega
theorem cmpS_lex (a b : ByteArray) : cmpS a b = lexL cmpB a.toList b.toList := by
  have h1 := bytes_lex a.toList b.toList
  have h2 := lexL_zero (f := cmpB) a.toList b.toList (fun x _ y => cmpB_zero)
  have h3 := lexL_one (f := cmpB) a.toList b.toList (fun x _ y => one_cmpI _ _)
  unfold cmpS
  split
  · rename_i h; rw [h1.1 h]
  · rename_i h
    split
    · rename_i h4; rw [h2.2 h4]
    · rename_i h4
      rcases h3 with h5 | h5 | h5
      · exact absurd (h1.2 h5) h
      · exact absurd (h2.1 h5) h4
      · exact h5.symm
theorem ba_toList {a b : ByteArray} (h : a.toList = b.toList) : a = b := by
  have := congrArg ByteArray.mk (congrArg List.toArray h)
  exact ByteArray.ext (by simpa [ByteArray.toList_eq] using this)
theorem tri_cmpS (a b c : ByteArray) : Tri (cmpS a b) (cmpS b c) (cmpS a c) := by
  rw [cmpS_lex, cmpS_lex, cmpS_lex]; exact lexL_tri _ _ _ fun x _ y z => tri_cmpI _ _ _
theorem one_cmpS (a b : ByteArray) : One (cmpS a b) := by rw [cmpS_lex]; exact lexL_one _ _ fun x _ y => one_cmpI _ _
theorem neg_cmpS (a b : ByteArray) : cmpS b a = -cmpS a b := by rw [cmpS_lex, cmpS_lex]; exact lexL_neg _ _ fun x _ y => neg_cmpI _ _
theorem cmpS_zero {a b : ByteArray} : cmpS a b = 0 ↔ a = b := by
  rw [cmpS_lex, lexL_zero _ _ fun x _ y => cmpB_zero]
  exact ⟨ba_toList, fun h => by rw [h]⟩

theorem ords_lex : ∀ xs ys : List Tm, Tm.ords xs ys = lexL Tm.ord xs ys
  | [], [] => by simp [Tm.ords, lexL]
  | [], y :: ys => by simp [Tm.ords, lexL]
  | x :: xs, [] => by simp [Tm.ords, lexL]
  | x :: xs, y :: ys => by rw [Tm.ords, lexL, ords_lex xs ys, lex2]
theorem orI3 (a b c : Int) : orI [a, b, c] = lex2 a (lex2 b c) := by
  unfold lex2; simp only [orI]; split <;> (try split) <;> (try split) <;> omega
theorem ord_lex (t u : Tm) : Tm.ord t u = lex2 (cmpI t.k u.k) (lex2 (lex2 (cmpI t.n u.n) (lex2 (cmpI t.l.length u.l.length) (cmpS t.s u.s))) (lexL Tm.ord t.l u.l)) := by
  rw [Tm.ord_eq, ords_lex, orI3]
  by_cases h : t.k = u.k
  · rw [if_pos h, cmpI_zero.2 h]; unfold lex2; rw [if_pos rfl]
  · rw [if_neg h]; unfold lex2; rw [if_neg (fun e => h (cmpI_zero.1 e))]
theorem ord_tri (x : Tm) : ∀ y z, Tri (Tm.ord x y) (Tm.ord y z) (Tm.ord x z) := by
  induction x using Tm.ind with
  | h x ih =>
    intro y z
    rw [ord_lex, ord_lex, ord_lex]
    exact (tri_cmpI _ _ _).lex (((tri_cmpI _ _ _).lex ((tri_cmpI _ _ _).lex (tri_cmpS _ _ _))).lex (lexL_tri _ _ _ ih))
theorem ord_one (x : Tm) : ∀ y, One (Tm.ord x y) := by
  induction x using Tm.ind with
  | h x ih =>
    intro y
    rw [ord_lex]
    exact one_lex (one_cmpI _ _) (one_lex (one_lex (one_cmpI _ _) (one_lex (one_cmpI _ _) (one_cmpS _ _))) (lexL_one _ _ ih))
theorem ord_neg (x : Tm) : ∀ y, Tm.ord y x = -Tm.ord x y := by
  induction x using Tm.ind with
  | h x ih =>
    intro y
    rw [ord_lex, ord_lex x]
    exact neg_lex (neg_cmpI _ _) (neg_lex (neg_lex (neg_cmpI _ _) (neg_lex (neg_cmpI _ _) (neg_cmpS _ _))) (lexL_neg _ _ ih))
theorem lex2_zero {a b : Int} : lex2 a b = 0 ↔ a = 0 ∧ b = 0 := by unfold lex2; split <;> omega
theorem ord_zero (x : Tm) : ∀ y, Tm.ord x y = 0 ↔ x = y := by
  induction x using Tm.ind with
  | h x ih =>
    intro y
    rw [ord_lex]
    simp only [lex2_zero, cmpI_zero, cmpS_zero, lexL_zero _ _ ih]
    constructor
    · intro ⟨h1, ⟨h2, h3, h4⟩, h5⟩
      cases x; cases y
      simp only [Tm.k, Tm.n, Tm.s, Tm.l] at h1 h2 h4 h5
      rw [h1, h2, h4, h5]
    · intro h; subst h; exact ⟨rfl, ⟨rfl, rfl, rfl⟩, rfl⟩
/-- All that the law asks of four comparisons. -/
theorem ord_law (x y z : Tm) : One (Tm.ord x y) ∧ Tm.ord y x = -Tm.ord x y ∧ (decide (Tm.ord x y = 0) = sameB x y) ∧ One (Tm.ord y z) ∧ One (Tm.ord x z) ∧ Tri (Tm.ord x y) (Tm.ord y z) (Tm.ord x z) := by
  refine ⟨ord_one _ _, ord_neg _ _, ?_, ord_one _ _, ord_one _ _, ord_tri _ _ _⟩
  rw [Bool.eq_iff_iff, decide_eq_true_eq, sameB_iff, ord_zero]
end Go.Proofs.Ytfhgknmkpegpbaa
