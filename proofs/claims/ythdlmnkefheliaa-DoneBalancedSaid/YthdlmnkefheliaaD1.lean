import Derived.Test.YthdlmnkefheliaaProg
import Derived.Test.YthdlmnkefheliaaX0
import Derived.Below
import Derived.Deep.Draws
import Derived.Deep.AppendLies
import Derived.Maps.AppendAt
import Derived.OwnWalk
import Derived.Laws.BytesArg
import Derived.Laws.MakeOwn
import Derived.Laws.OwnMore
import Derived.Deep.OwnRows
import Derived.Tactics
import Derived.Laws.Slices
import Derived.WalkKit
import Derived.KernelRfl
import Derived.RowKit3
import Derived.Deep.LoopGhost
import Derived.Deep.QuietTactic
import Derived.BigQuiet
import Derived.WideLaws
import Derived.Deep.DeepCutAuto
import Derived.Deep.CutBlock
import Derived.Deep.RegionHeld3
import Derived.Laws.Rows
import Derived.ArgAppend
import Derived.Laws.IdiomCopy
import Derived.OrdersHeld
import Derived.Laws.BitsLemmas
import Derived.RowKit
import Derived.Lib.Hide
import Derived.Outline
namespace Go.Proofs.Ythdlmnkefheliaa
open Go.RowKit

/-- Cells that can be read from an address on. -/
def Rd (w : World) (A : Option Addr) (cs : List Value) : Prop :=
  cs ≠ [] → ∃ g off, A = some ⟨g, off, none⟩ ∧ ∀ j v, cs[j]? = some v → w.cell? ⟨g, off + j, none⟩ = some v

theorem Rd.below {w w1 : World} {A : Option Addr} {cs : List Value} {B : Nat} (h : Rd w A cs) (hb : Below B w w1) (hB : w.heap.size ≤ B) : Rd w1 A cs := fun hn => by
  obtain ⟨g, off, hA, hc⟩ := h hn
  refine ⟨g, off, hA, fun j v hj => ?_⟩
  have h1 := hc j v hj
  have hlt := World.block_lt_of_cell? w _ h1
  rw [hb.cell (p := ⟨g, off + j, none⟩) (by exact Nat.lt_of_lt_of_le hlt hB)]
  exact h1

/-- A slice that reads as a list. -/
def Rows {T : Type} (enc : T → List Value) (w : World) (v : Value) (xs : List T) : Prop :=
  ∃ A c, v = .slice A xs.length c ∧ xs.length ≤ c ∧ (c ≤ 9223372036854775807 ∧ (A = none → c = 0)) ∧ Rd w A (xs.flatMap enc)

theorem Rows.below {T : Type} {enc : T → List Value} {w w1 : World} {v : Value} {xs : List T} {B : Nat} (h : Rows enc w v xs) (hb : Below B w w1) (hB : w.heap.size ≤ B) : Rows enc w1 v xs := by
  obtain ⟨A, c, hv, h1, h2, h3⟩ := h
  exact ⟨A, c, hv, h1, h2, h3.below hb hB⟩

theorem flatMap_get {T : Type} (enc : T → List Value) (k : Nat) (hk : ∀ x, (enc x).length = k) : ∀ (xs : List T) (i j : Nat) (x : T), xs[i]? = some x → j < k → (xs.flatMap enc)[i * k + j]? = (enc x)[j]?
  | [], i, j, x, h, _ => by simp at h
  | y :: ys, 0, j, x, h, hj => by
    simp at h; subst h
    simp only [List.flatMap_cons, Nat.zero_mul, Nat.zero_add]
    rw [List.getElem?_append_left (by rw [hk]; exact hj)]
  | y :: ys, i + 1, j, x, h, hj => by
    simp at h
    have := flatMap_get enc k hk ys i j x h hj
    simp only [List.flatMap_cons]
    rw [List.getElem?_append_right (by rw [hk, Nat.succ_mul]; omega), hk, ← this]
    congr 1
    rw [Nat.succ_mul]; omega

theorem flatMap_len {T : Type} (enc : T → List Value) (k : Nat) (hk : ∀ x, (enc x).length = k) (xs : List T) : (xs.flatMap enc).length = xs.length * k := by
  induction xs with
  | nil => simp
  | cons y ys ih => simp only [List.flatMap_cons, List.length_append, ih, hk, List.length_cons, Nat.succ_mul]; omega

/-- Element i of a slice that is not empty. -/
theorem Rows.at {T : Type} {enc : T → List Value} {w : World} {A : Option Addr} {xs : List T} (k : Nat) (hk : ∀ x, (enc x).length = k) (h0 : 0 < k) (h : Rd w A (xs.flatMap enc)) (hne : xs ≠ []) :
    ∃ g off, A = some ⟨g, off, none⟩ ∧ ∀ i x j v, xs[i]? = some x → (enc x)[j]? = some v → w.cell? ⟨g, off + (i * k + j), none⟩ = some v := by
  have hn : xs.flatMap enc ≠ [] := by
    intro e
    have := flatMap_len enc k hk xs
    rw [e] at this
    have h1 : xs.length * k = 0 := this.symm
    rcases Nat.mul_eq_zero.1 h1 with h2 | h2
    · exact hne (List.eq_nil_of_length_eq_zero h2)
    · omega
  obtain ⟨g, off, hA, hc⟩ := h hn
  refine ⟨g, off, hA, fun i x j v hi hj => hc _ _ ?_⟩
  have hjk : j < k := by rw [← hk x]; exact (List.getElem?_eq_some_iff.1 hj).1
  rw [flatMap_get enc k hk xs i j x hi hjk]; exact hj

def encH (h : Int × Int) : List Value := [.int .i64 h.1, .int .i64 h.2]
def encL (l : Int × Int × Int) : List Value := [.int .i64 l.1, .int .i64 l.2.1, .int .i64 l.2.2]
def encI (n : Int) : List Value := [.int .i64 n]
theorem ne_of_get {T : Type} {xs : List T} {k : Nat} {x : T} (h : xs[k]? = some x) : xs ≠ [] := by intro e; subst e; simp at h
theorem Rd.atH {w : World} {A : Option Addr} {xs : List (Int × Int)} {k : Nat} {x : Int × Int} (h : Rd w A (xs.flatMap encH)) (hx : xs[k]? = some x) :
    ∃ g off, A = some ⟨g, off, none⟩ ∧ w.cell? ⟨g, off + k * 2, none⟩ = some (.int .i64 x.1) ∧ w.cell? ⟨g, off + k * 2 + 1, none⟩ = some (.int .i64 x.2) := by
  obtain ⟨g, off, hA, hc⟩ := Rows.at 2 (fun _ => rfl) (by omega) h (ne_of_get hx)
  exact ⟨g, off, hA, hc k x 0 _ hx rfl, hc k x 1 _ hx rfl⟩
theorem Rd.atL {w : World} {A : Option Addr} {xs : List (Int × Int × Int)} {k : Nat} {x : Int × Int × Int} (h : Rd w A (xs.flatMap encL)) (hx : xs[k]? = some x) :
    ∃ g off, A = some ⟨g, off, none⟩ ∧ w.cell? ⟨g, off + k * 3, none⟩ = some (.int .i64 x.1) ∧ w.cell? ⟨g, off + k * 3 + 1, none⟩ = some (.int .i64 x.2.1) ∧ w.cell? ⟨g, off + k * 3 + 2, none⟩ = some (.int .i64 x.2.2) := by
  obtain ⟨g, off, hA, hc⟩ := Rows.at 3 (fun _ => rfl) (by omega) h (ne_of_get hx)
  exact ⟨g, off, hA, hc k x 0 _ hx rfl, hc k x 1 _ hx rfl, hc k x 2 _ hx rfl⟩
theorem Rd.atI {w : World} {A : Option Addr} {xs : List Int} {k : Nat} {x : Int} (h : Rd w A (xs.flatMap encI)) (hx : xs[k]? = some x) :
    ∃ g off, A = some ⟨g, off, none⟩ ∧ w.cell? ⟨g, off + k, none⟩ = some (.int .i64 x) := by
  obtain ⟨g, off, hA, hc⟩ := Rows.at 1 (fun _ => rfl) (by omega) h (ne_of_get hx)
  have := hc k x 0 _ hx rfl
  rw [Nat.mul_one, Nat.add_zero] at this
  exact ⟨g, off, hA, this⟩

theorem bounded_calls (a lo hi : Int) (w : World) :
    Calls Try.prog 51 #[.int .i64 a, .int .i64 lo, .int .i64 hi] w fun e w' => e = .returned (.bool (decide (lo ≤ a) && decide (a ≤ hi))) ∧ w = w' := by
  by_cases h : lo ≤ a
  · have h1 : decide (lo ≤ a) = true := decide_eq_true h
    clear h
    go_enter Try.func51, Try.ntmps51
    go_wp2
    go_ret
    exact ⟨by simp [*], rfl⟩
  · have h1 : decide (lo ≤ a) = false := decide_eq_false h
    clear h
    go_enter Try.func51, Try.ntmps51
    go_wp2
    go_ret
    exact ⟨by simp [*], rfl⟩

def bd (lo hi a : Int) : Bool := decide (lo ≤ a) && decide (a ≤ hi)
theorem bd_calls (a lo hi : Int) (r : Bool) (h : bd lo hi a = r) (w : World) :
    Calls Try.prog 51 #[.int .i64 a, .int .i64 lo, .int .i64 hi] w fun e w' => e = .returned (.bool r) ∧ w = w' := by
  subst h; exact bounded_calls a lo hi w

def holderOk (x : Int × Int) : Bool := bd 0 1000000 x.1 && (bd 0 1099511627776 x.2 && ((x.1 == 0) == (x.2 == 0)))

set_option maxHeartbeats 1000000 in
theorem isHolder_calls (x : Int × Int) (w : World) :
    Calls Try.prog 53 #[.agg #[.int .i64 x.1, .int .i64 x.2]] w fun e w' => e = .returned (.bool (holderOk x)) ∧ Below w.heap.size w w' := by
  obtain ⟨g, n⟩ := x
  rcases h1 : bd 0 1000000 g with _ | _
  · have H1 := Lib.hid h1; clear h1
    go_enter Try.func53, Try.ntmps53
    go_wp2_with (go_at_call 51; refine (bd_calls _ _ _ _ H1.out _).mono ?_; rintro e w' ⟨rfl, rfl⟩)
    go_ret
    exact ⟨by simp [holderOk, H1.out], (Below.refl _ _).alloc (Nat.le_refl _) _⟩
  · have H1 := Lib.hid h1; clear h1
    rcases h2 : bd 0 1099511627776 n with _ | _
    · have H2 := Lib.hid h2; clear h2
      go_enter Try.func53, Try.ntmps53
      go_wp2_with (go_at_call 51; first | (with_reducible refine (bd_calls g _ _ _ H1.out _).mono ?_; rintro e w' ⟨rfl, rfl⟩) | (with_reducible refine (bd_calls n _ _ _ H2.out _).mono ?_; rintro e w' ⟨rfl, rfl⟩))
      go_ret
      exact ⟨by simp [holderOk, H1.out, H2.out], (Below.refl _ _).alloc (Nat.le_refl _) _⟩
    · have H2 := Lib.hid h2; clear h2
      go_enter Try.func53, Try.ntmps53
      go_wp2_with (go_at_call 51; first | (with_reducible refine (bd_calls g _ _ _ H1.out _).mono ?_; rintro e w' ⟨rfl, rfl⟩) | (with_reducible refine (bd_calls n _ _ _ H2.out _).mono ?_; rintro e w' ⟨rfl, rfl⟩))
      go_ret
      exact ⟨by simp [holderOk, H1.out, H2.out], (Below.refl _ _).alloc (Nat.le_refl _) _⟩

def letterOk (np : Int) (l : Int × Int × Int) : Bool :=
  if l.1 = 3 then l.2.2 == 0 && bd 0 (np - 1) l.2.1
  else if l.1 = 2 then l.2.1 == 0 && bd 1 1099511627776 l.2.2
  else if l.1 = 1 ∨ l.1 = 4 then bd 0 (np - 1) l.2.1 && bd 1 1099511627776 l.2.2
  else false

set_option maxHeartbeats 1000000 in
theorem isLetter_calls (l : Int × Int × Int) (np : Int) (h0 : 0 ≤ np) (h1 : np ≤ 100000) (w : World) :
    Calls Try.prog 56 #[.agg #[.int .i64 l.1, .int .i64 l.2.1, .int .i64 l.2.2], .int .i64 np] w fun e w' => e = .returned (.bool (letterOk np l)) ∧ Below w.heap.size w w' := by
  obtain ⟨k, tt, n⟩ := l
  by_cases k3 : k = 3
  · subst k3
    by_cases hw : n = 0
    · subst hw
      go_enter Try.func56, Try.ntmps56
      go_wp2_with (go_at_call 51; first | (refine (bd_calls _ _ _ _ rfl _).mono ?_; rintro e w' ⟨rfl, rfl⟩))
      go_ret
      exact ⟨by simp [letterOk], (Below.refl _ _).alloc (Nat.le_refl _) _⟩
    · have hwb : (n == 0) = false := by simpa using hw
      go_enter Try.func56, Try.ntmps56
      go_wp2_with (go_at_call 51; first | (refine (bd_calls _ _ _ _ rfl _).mono ?_; rintro e w' ⟨rfl, rfl⟩))
      go_ret
      exact ⟨by simp [letterOk, hw], (Below.refl _ _).alloc (Nat.le_refl _) _⟩
  · have k3b : (k == 3) = false := by simpa using k3
    by_cases k2 : k = 2
    · subst k2
      by_cases ht : tt = 0
      · subst ht
        go_enter Try.func56, Try.ntmps56
        go_wp2_with (go_at_call 51; first | (refine (bd_calls _ _ _ _ rfl _).mono ?_; rintro e w' ⟨rfl, rfl⟩))
        go_ret
        exact ⟨by simp [letterOk], (Below.refl _ _).alloc (Nat.le_refl _) _⟩
      · have htb : (tt == 0) = false := by simpa using ht
        go_enter Try.func56, Try.ntmps56
        go_wp2_with (go_at_call 51; first | (refine (bd_calls _ _ _ _ rfl _).mono ?_; rintro e w' ⟨rfl, rfl⟩))
        go_ret
        exact ⟨by simp [letterOk, ht], (Below.refl _ _).alloc (Nat.le_refl _) _⟩
    · have k2b : (k == 2) = false := by simpa using k2
      rcases ha : bd 0 (np - 1) tt with _ | _
      · have Ha := Lib.hid ha; clear ha
        by_cases k1 : k = 1
        · subst k1
          go_enter Try.func56, Try.ntmps56
          go_wp2_with (go_at_call 51; first | (with_reducible refine (bd_calls tt _ _ _ Ha.out _).mono ?_; rintro e w' ⟨rfl, rfl⟩))
          go_ret
          exact ⟨by simp [letterOk, Ha.out], (Below.refl _ _).alloc (Nat.le_refl _) _⟩
        · have k1b : (k == 1) = false := by simpa using k1
          by_cases k4 : k = 4
          · subst k4
            go_enter Try.func56, Try.ntmps56
            go_wp2_with (go_at_call 51; first | (with_reducible refine (bd_calls tt _ _ _ Ha.out _).mono ?_; rintro e w' ⟨rfl, rfl⟩))
            go_ret
            exact ⟨by simp [letterOk, Ha.out], (Below.refl _ _).alloc (Nat.le_refl _) _⟩
          · have k4b : (k == 4) = false := by simpa using k4
            go_enter Try.func56, Try.ntmps56
            go_wp2
            go_ret
            exact ⟨by simp [letterOk, k1, k2, k3, k4], (Below.refl _ _).alloc (Nat.le_refl _) _⟩
      · have Ha := Lib.hid ha; clear ha
        by_cases k1 : k = 1
        · subst k1
          go_enter Try.func56, Try.ntmps56
          go_wp2_with (go_at_call 51; first | (with_reducible refine (bd_calls tt _ _ _ Ha.out _).mono ?_; rintro e w' ⟨rfl, rfl⟩) | (refine (bd_calls _ _ _ _ rfl _).mono ?_; rintro e w' ⟨rfl, rfl⟩))
          go_ret
          exact ⟨by simp [letterOk, Ha.out], (Below.refl _ _).alloc (Nat.le_refl _) _⟩
        · have k1b : (k == 1) = false := by simpa using k1
          by_cases k4 : k = 4
          · subst k4
            go_enter Try.func56, Try.ntmps56
            go_wp2_with (go_at_call 51; first | (with_reducible refine (bd_calls tt _ _ _ Ha.out _).mono ?_; rintro e w' ⟨rfl, rfl⟩) | (refine (bd_calls _ _ _ _ rfl _).mono ?_; rintro e w' ⟨rfl, rfl⟩))
            go_ret
            exact ⟨by simp [letterOk, Ha.out], (Below.refl _ _).alloc (Nat.le_refl _) _⟩
          · have k4b : (k == 4) = false := by simpa using k4
            go_enter Try.func56, Try.ntmps56
            go_wp2
            go_ret
            exact ⟨by simp [letterOk, k1, k2, k3, k4], (Below.refl _ _).alloc (Nat.le_refl _) _⟩

def findI {T : Type} (q : T → Bool) (xs : List T) : Int := match xs.findIdx? q with | some i => (i : Int) | none => -1
theorem findI_none {T : Type} {q : T → Bool} {xs : List T} (h : xs.findIdx? q = none) : findI q xs = -1 := by unfold findI; rw [h]
theorem findI_some {T : Type} {q : T → Bool} {xs : List T} {i : Nat} (h : xs.findIdx? q = some i) : findI q xs = i := by unfold findI; rw [h]
theorem any_findI {T : Type} (q : T → Bool) (xs : List T) : xs.any q = decide (0 ≤ findI q xs) := by
  cases h : xs.findIdx? q with
  | none =>
    rw [findI_none h]
    rw [List.findIdx?_eq_none_iff] at h
    simp; exact h
  | some i =>
    rw [findI_some h]
    rw [List.findIdx?_eq_some_iff_getElem] at h
    obtain ⟨h1, h2, _⟩ := h
    simp
    exact ⟨_, List.getElem_mem h1, h2⟩

set_option maxHeartbeats 1000000 in
theorem indexFuncH (fid : Nat) (caps : Array Value) (q : Int × Int → Bool) (xs : List (Int × Int)) (A : Option Addr) (c : Nat) (w : World) (hlen : xs.length ≤ 100000) (hr : Rd w A (xs.flatMap encH))
    (hcf : ∀ args w, Sem.run Try.prog (callFunc fid args) w = .ok (.enter fid args) w)
    (hf : ∀ w1 x, Below w.heap.size w w1 → x ∈ xs → Calls Try.prog fid (#[.agg #[.int .i64 x.1, .int .i64 x.2]] ++ caps) w1 fun e w' => e = .returned (.bool (q x)) ∧ Below w1.heap.size w1 w') :
    Calls Try.prog 67 #[.slice A xs.length c, .func (.func fid) #[] caps] w fun e w' => e = .returned (.int .i64 (findI q xs)) ∧ Below w.heap.size w w' := by
  have Hf := Lib.hid hf; clear hf
  have Hr := Lib.hid hr; clear hr
  go_enter Try.func67, Try.ntmps67
  go_wp2
  go_loopw [5, 8] (fun _ i wr => ∃ k : Nat, k ≤ xs.length ∧ i = .int .i64 k ∧ (∀ j x, j < k → xs[j]? = some x → q x = false) ∧ Below w.heap.size w wr) (fun _ i _ => xs.length - (intOf i).toNat)
  case atStart => exact ⟨0, Nat.zero_le _, rfl, fun j x h => absurd h (by omega), Below.refl _ _⟩
  case round =>
    obtain ⟨k, hk, rfl, hq, hB⟩ := hrel
    have Hq := Lib.hid hq; clear hq
    have HB := Lib.hid hB; clear hB
    by_cases hlt : k < xs.length
    · obtain ⟨x, hx⟩ : ∃ x, xs[k]? = some x := ⟨_, List.getElem?_eq_getElem hlt⟩
      obtain ⟨g, off, rfl, c0, c1⟩ := Rd.atH (Hr.out.below HB.out (Nat.le_refl _)) hx
      have Hx := Lib.hid hx; clear hx
      rcases hqx : q x with _ | _
      · have Hqx := Lib.hid hqx; clear hqx
        go_wp2_with fail
        refine (Hf.out wr x HB.out (List.mem_of_getElem? Hx.out)).mono ?_
        rintro e w1 ⟨rfl, hb1⟩
        have Hb1 := Lib.hid hb1; clear hb1
        rw [Hqx.out]
        go_wp2
        go_roundw
        case rel => exact ⟨k + 1, by omega, by go_num, fun j y hj hy => by
          rcases Nat.lt_or_ge j k with h1 | h1
          · exact Hq.out j y h1 hy
          · have : j = k := by omega
            subst this
            have hxx := Hx.out
            rw [hy] at hxx
            injection hxx with hxx
            rw [hxx]; exact Hqx.out, HB.out.trans (Hb1.out.mono HB.out.size)⟩
        case measure => simp [intOf]; omega
      · have Hqx := Lib.hid hqx; clear hqx
        go_wp2_with fail
        refine (Hf.out wr x HB.out (List.mem_of_getElem? Hx.out)).mono ?_
        rintro e w1 ⟨rfl, hb1⟩
        have Hb1 := Lib.hid hb1; clear hb1
        rw [Hqx.out]
        go_wp2
        go_ret
        have e1 : xs.findIdx? q = some k := by
          rw [List.findIdx?_eq_some_iff_getElem]
          refine ⟨hlt, ?_, fun j hj => ?_⟩
          · have := Hx.out
            rw [List.getElem?_eq_getElem hlt] at this
            injection this with this
            rw [this]; exact Hqx.out
          · simpa using Hq.out j _ hj (List.getElem?_eq_getElem (by omega))
        exact ⟨by rw [findI_some e1]; rfl, HB.out.trans (Hb1.out.mono HB.out.size)⟩
    · have hke : k = xs.length := by omega
      subst hke
      go_wp2
      go_ret
      have e1 : xs.findIdx? q = none := by
        rw [List.findIdx?_eq_none_iff]
        intro x hx
        obtain ⟨j, hj⟩ := List.mem_iff_getElem?.1 hx
        exact Hq.out j x (List.getElem?_eq_some_iff.1 hj).1 hj
      exact ⟨by rw [findI_none e1]; rfl, HB.out⟩

set_option maxHeartbeats 1000000 in
theorem indexFuncL (fid : Nat) (caps : Array Value) (q : Int × Int × Int → Bool) (xs : List (Int × Int × Int)) (A : Option Addr) (c : Nat) (w : World) (hlen : xs.length ≤ 100000) (hr : Rd w A (xs.flatMap encL))
    (hcf : ∀ args w, Sem.run Try.prog (callFunc fid args) w = .ok (.enter fid args) w)
    (hf : ∀ w1 x, Below w.heap.size w w1 → x ∈ xs → Calls Try.prog fid (#[.agg #[.int .i64 x.1, .int .i64 x.2.1, .int .i64 x.2.2]] ++ caps) w1 fun e w' => e = .returned (.bool (q x)) ∧ Below w1.heap.size w1 w') :
    Calls Try.prog 81 #[.slice A xs.length c, .func (.func fid) #[] caps] w fun e w' => e = .returned (.int .i64 (findI q xs)) ∧ Below w.heap.size w w' := by
  have Hf := Lib.hid hf; clear hf
  have Hr := Lib.hid hr; clear hr
  go_enter Try.func81, Try.ntmps81
  go_wp2
  go_loopw [5, 8] (fun _ i wr => ∃ k : Nat, k ≤ xs.length ∧ i = .int .i64 k ∧ (∀ j x, j < k → xs[j]? = some x → q x = false) ∧ Below w.heap.size w wr) (fun _ i _ => xs.length - (intOf i).toNat)
  case atStart => exact ⟨0, Nat.zero_le _, rfl, fun j x h => absurd h (by omega), Below.refl _ _⟩
  case round =>
    obtain ⟨k, hk, rfl, hq, hB⟩ := hrel
    have Hq := Lib.hid hq; clear hq
    have HB := Lib.hid hB; clear hB
    by_cases hlt : k < xs.length
    · obtain ⟨x, hx⟩ : ∃ x, xs[k]? = some x := ⟨_, List.getElem?_eq_getElem hlt⟩
      obtain ⟨g, off, rfl, c0, c1, c2⟩ := Rd.atL (Hr.out.below HB.out (Nat.le_refl _)) hx
      have Hx := Lib.hid hx; clear hx
      rcases hqx : q x with _ | _
      · have Hqx := Lib.hid hqx; clear hqx
        go_wp2_with fail
        refine (Hf.out wr x HB.out (List.mem_of_getElem? Hx.out)).mono ?_
        rintro e w1 ⟨rfl, hb1⟩
        have Hb1 := Lib.hid hb1; clear hb1
        rw [Hqx.out]
        go_wp2
        go_roundw
        case rel => exact ⟨k + 1, by omega, by go_num, fun j y hj hy => by
          rcases Nat.lt_or_ge j k with h1 | h1
          · exact Hq.out j y h1 hy
          · have : j = k := by omega
            subst this
            have hxx := Hx.out
            rw [hy] at hxx
            injection hxx with hxx
            rw [hxx]; exact Hqx.out, HB.out.trans (Hb1.out.mono HB.out.size)⟩
        case measure => simp [intOf]; omega
      · have Hqx := Lib.hid hqx; clear hqx
        go_wp2_with fail
        refine (Hf.out wr x HB.out (List.mem_of_getElem? Hx.out)).mono ?_
        rintro e w1 ⟨rfl, hb1⟩
        have Hb1 := Lib.hid hb1; clear hb1
        rw [Hqx.out]
        go_wp2
        go_ret
        have e1 : xs.findIdx? q = some k := by
          rw [List.findIdx?_eq_some_iff_getElem]
          refine ⟨hlt, ?_, fun j hj => ?_⟩
          · have := Hx.out
            rw [List.getElem?_eq_getElem hlt] at this
            injection this with this
            rw [this]; exact Hqx.out
          · simpa using Hq.out j _ hj (List.getElem?_eq_getElem (by omega))
        exact ⟨by rw [findI_some e1]; rfl, HB.out.trans (Hb1.out.mono HB.out.size)⟩
    · have hke : k = xs.length := by omega
      subst hke
      go_wp2
      go_ret
      have e1 : xs.findIdx? q = none := by
        rw [List.findIdx?_eq_none_iff]
        intro x hx
        obtain ⟨j, hj⟩ := List.mem_iff_getElem?.1 hx
        exact Hq.out j x (List.getElem?_eq_some_iff.1 hj).1 hj
      exact ⟨by rw [findI_none e1]; rfl, HB.out⟩

set_option maxHeartbeats 1000000 in
theorem indexFuncI (fid : Nat) (caps : Array Value) (q : Int → Bool) (xs : List (Int)) (A : Option Addr) (c : Nat) (w : World) (hlen : xs.length ≤ 100000) (hr : Rd w A (xs.flatMap encI))
    (hcf : ∀ args w, Sem.run Try.prog (callFunc fid args) w = .ok (.enter fid args) w)
    (hf : ∀ w1 x, Below w.heap.size w w1 → x ∈ xs → Calls Try.prog fid (#[.int .i64 x] ++ caps) w1 fun e w' => e = .returned (.bool (q x)) ∧ Below w1.heap.size w1 w') :
    Calls Try.prog 77 #[.slice A xs.length c, .func (.func fid) #[] caps] w fun e w' => e = .returned (.int .i64 (findI q xs)) ∧ Below w.heap.size w w' := by
  have Hf := Lib.hid hf; clear hf
  have Hr := Lib.hid hr; clear hr
  go_enter Try.func77, Try.ntmps77
  go_wp2
  go_loopw [5, 8] (fun _ i wr => ∃ k : Nat, k ≤ xs.length ∧ i = .int .i64 k ∧ (∀ j x, j < k → xs[j]? = some x → q x = false) ∧ Below w.heap.size w wr) (fun _ i _ => xs.length - (intOf i).toNat)
  case atStart => exact ⟨0, Nat.zero_le _, rfl, fun j x h => absurd h (by omega), Below.refl _ _⟩
  case round =>
    obtain ⟨k, hk, rfl, hq, hB⟩ := hrel
    have Hq := Lib.hid hq; clear hq
    have HB := Lib.hid hB; clear hB
    by_cases hlt : k < xs.length
    · obtain ⟨x, hx⟩ : ∃ x, xs[k]? = some x := ⟨_, List.getElem?_eq_getElem hlt⟩
      obtain ⟨g, off, rfl, c0⟩ := Rd.atI (Hr.out.below HB.out (Nat.le_refl _)) hx
      have Hx := Lib.hid hx; clear hx
      rcases hqx : q x with _ | _
      · have Hqx := Lib.hid hqx; clear hqx
        go_wp2_with fail
        refine (Hf.out wr x HB.out (List.mem_of_getElem? Hx.out)).mono ?_
        rintro e w1 ⟨rfl, hb1⟩
        have Hb1 := Lib.hid hb1; clear hb1
        rw [Hqx.out]
        go_wp2
        go_roundw
        case rel => exact ⟨k + 1, by omega, by go_num, fun j y hj hy => by
          rcases Nat.lt_or_ge j k with h1 | h1
          · exact Hq.out j y h1 hy
          · have : j = k := by omega
            subst this
            have hxx := Hx.out
            rw [hy] at hxx
            injection hxx with hxx
            rw [hxx]; exact Hqx.out, HB.out.trans (Hb1.out.mono HB.out.size)⟩
        case measure => simp [intOf]; omega
      · have Hqx := Lib.hid hqx; clear hqx
        go_wp2_with fail
        refine (Hf.out wr x HB.out (List.mem_of_getElem? Hx.out)).mono ?_
        rintro e w1 ⟨rfl, hb1⟩
        have Hb1 := Lib.hid hb1; clear hb1
        rw [Hqx.out]
        go_wp2
        go_ret
        have e1 : xs.findIdx? q = some k := by
          rw [List.findIdx?_eq_some_iff_getElem]
          refine ⟨hlt, ?_, fun j hj => ?_⟩
          · have := Hx.out
            rw [List.getElem?_eq_getElem hlt] at this
            injection this with this
            rw [this]; exact Hqx.out
          · simpa using Hq.out j _ hj (List.getElem?_eq_getElem (by omega))
        exact ⟨by rw [findI_some e1]; rfl, HB.out.trans (Hb1.out.mono HB.out.size)⟩
    · have hke : k = xs.length := by omega
      subst hke
      go_wp2
      go_ret
      have e1 : xs.findIdx? q = none := by
        rw [List.findIdx?_eq_none_iff]
        intro x hx
        obtain ⟨j, hj⟩ := List.mem_iff_getElem?.1 hx
        exact Hq.out j x (List.getElem?_eq_some_iff.1 hj).1 hj
      exact ⟨by rw [findI_none e1]; rfl, HB.out⟩

set_option maxHeartbeats 1000000 in
theorem containsFuncH (fid : Nat) (caps : Array Value) (q : Int × Int → Bool) (xs : List (Int × Int)) (A : Option Addr) (c : Nat) (w : World) (hlen : xs.length ≤ 100000) (hr : Rd w A (xs.flatMap encH))
    (hcf : ∀ args w, Sem.run Try.prog (callFunc fid args) w = .ok (.enter fid args) w)
    (hf : ∀ w1 x, Below w.heap.size w w1 → x ∈ xs → Calls Try.prog fid (#[.agg #[.int .i64 x.1, .int .i64 x.2]] ++ caps) w1 fun e w' => e = .returned (.bool (q x)) ∧ Below w1.heap.size w1 w') :
    Calls Try.prog 31 #[.slice A xs.length c, .func (.func fid) #[] caps] w fun e w' => e = .returned (.bool (xs.any q)) ∧ Below w.heap.size w w' := by
  have Hf := Lib.hid (indexFuncH fid caps q xs A c w hlen hr hcf hf)
  clear hf hr hcf
  go_enter Try.func31, Try.ntmps31
  go_wp2_with fail
  refine Hf.out.mono ?_
  rintro e w1 ⟨rfl, hb1⟩
  have Hb1 := Lib.hid hb1; clear hb1
  go_wp2
  go_ret
  exact ⟨by rw [any_findI]; rfl, Hb1.out⟩

set_option maxHeartbeats 1000000 in
theorem containsFuncL (fid : Nat) (caps : Array Value) (q : Int × Int × Int → Bool) (xs : List (Int × Int × Int)) (A : Option Addr) (c : Nat) (w : World) (hlen : xs.length ≤ 100000) (hr : Rd w A (xs.flatMap encL))
    (hcf : ∀ args w, Sem.run Try.prog (callFunc fid args) w = .ok (.enter fid args) w)
    (hf : ∀ w1 x, Below w.heap.size w w1 → x ∈ xs → Calls Try.prog fid (#[.agg #[.int .i64 x.1, .int .i64 x.2.1, .int .i64 x.2.2]] ++ caps) w1 fun e w' => e = .returned (.bool (q x)) ∧ Below w1.heap.size w1 w') :
    Calls Try.prog 54 #[.slice A xs.length c, .func (.func fid) #[] caps] w fun e w' => e = .returned (.bool (xs.any q)) ∧ Below w.heap.size w w' := by
  have Hf := Lib.hid (indexFuncL fid caps q xs A c w hlen hr hcf hf)
  clear hf hr hcf
  go_enter Try.func54, Try.ntmps54
  go_wp2_with fail
  refine Hf.out.mono ?_
  rintro e w1 ⟨rfl, hb1⟩
  have Hb1 := Lib.hid hb1; clear hb1
  go_wp2
  go_ret
  exact ⟨by rw [any_findI]; rfl, Hb1.out⟩

set_option maxHeartbeats 1000000 in
theorem containsFuncI (fid : Nat) (caps : Array Value) (q : Int → Bool) (xs : List (Int)) (A : Option Addr) (c : Nat) (w : World) (hlen : xs.length ≤ 100000) (hr : Rd w A (xs.flatMap encI))
    (hcf : ∀ args w, Sem.run Try.prog (callFunc fid args) w = .ok (.enter fid args) w)
    (hf : ∀ w1 x, Below w.heap.size w w1 → x ∈ xs → Calls Try.prog fid (#[.int .i64 x] ++ caps) w1 fun e w' => e = .returned (.bool (q x)) ∧ Below w1.heap.size w1 w') :
    Calls Try.prog 42 #[.slice A xs.length c, .func (.func fid) #[] caps] w fun e w' => e = .returned (.bool (xs.any q)) ∧ Below w.heap.size w w' := by
  have Hf := Lib.hid (indexFuncI fid caps q xs A c w hlen hr hcf hf)
  clear hf hr hcf
  go_enter Try.func42, Try.ntmps42
  go_wp2_with fail
  refine Hf.out.mono ?_
  rintro e w1 ⟨rfl, hb1⟩
  have Hb1 := Lib.hid hb1; clear hb1
  go_wp2
  go_ret
  exact ⟨by rw [any_findI]; rfl, Hb1.out⟩
end Go.Proofs.Ythdlmnkefheliaa
