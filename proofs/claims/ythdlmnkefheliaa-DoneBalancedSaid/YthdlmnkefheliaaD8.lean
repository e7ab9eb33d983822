import Derived.Test.YthdlmnkefheliaaD7
import Derived.WalkSpells
set_option linter.unusedVariables false
set_option linter.unusedSimpArgs false
namespace Go.Proofs.Ythdlmnkefheliaa
open Go.RowKit

def OwnT (w : World) (e k n : Nat) (cs : List Value) (E : Ending) (w' : World) : Prop := ∃ v, E = .returned v ∧ w'.ownsRow w.heap.size e k v n cs ∧ Below w.heap.size w w'
theorem addr_add (g off j : Nat) : (⟨g, off, none⟩ : Addr).add j = ⟨g, off + j, none⟩ := by unfold Addr.add; split <;> simp_all
theorem Rd.reads {w : World} {A : Option Addr} {cs : List Value} {k n : Nat} (h : Rd w A cs) (hk : 0 < k) (hl : cs.length = n * k) : Reads w w.heap.size k A n cs := by
  refine ⟨hl, fun hn => ?_⟩
  · have hne : cs ≠ [] := by
      intro e; subst e
      have := Nat.mul_pos hn hk
      simp only [List.length_nil] at hl; omega
    obtain ⟨g, off, rfl, hc⟩ := h hne
    have hlt : g < w.heap.size := by
      have h1 : 0 < cs.length := List.length_pos_iff.2 hne
      exact World.block_lt_of_cell? w _ (hc 0 _ (List.getElem?_eq_getElem h1))
    exact ⟨_, rfl, hlt, fun j u hu => by rw [addr_add]; exact hc j u hu⟩

set_option maxHeartbeats 2000000 in
theorem cloneH_calls (xs : List (Int × Int)) (A : Option Addr) (c : Nat) (w : World) (hl : xs.length ≤ 100000) (hc : xs.length ≤ c) (hn : A = none → c = 0) (hr : Rd w A (xs.flatMap encH)) :
    Calls Try.prog 86 #[.slice A xs.length c] w (OwnT w 51 2 xs.length (xs.flatMap encH)) := by
  obtain ⟨i0, hi, hz0, hz1, hz2⟩ := info_parts info51
  have Hi := Lib.hid (And.intro hi (And.intro hz0 (And.intro hz1 hz2))); clear hi hz0 hz1 hz2
  have hR := hr.reads (by decide) (k := 2) (n := xs.length) (flatMap_len encH 2 (fun _ => rfl) xs)
  have hone : ∀ u ∈ xs.flatMap encH, u.oneCell' = true := by
    intro u hu
    obtain ⟨x, _, hx⟩ := List.mem_flatMap.1 hu
    simp only [encH, List.mem_cons, List.not_mem_nil, or_false] at hx
    rcases hx with rfl | rfl <;> rfl
  have Hr := Lib.hid hr; clear hr
  have HR := Lib.hid hR; clear hR
  have Ho := Lib.hid hone; clear hone
  have q1 := @Lib.run_eql_slice_nil Try.prog
  cases A with
  | none =>
    obtain rfl := hn rfl
    have h0 : xs.length = 0 := by omega
    obtain rfl : xs = [] := List.eq_nil_of_length_eq_zero h0
    go_enter Try.func86, Try.ntmps86
    go_wp2
    go_ret
    exact ⟨_, rfl, World.ownsRow_nil _ _ _ _, Below.refl _ _⟩
  | some ad =>
    go_enter Try.func86, Try.ntmps86
    go_wp2_with (at_builtin; refine wpList_append_any _ rfl (.tmp 5) (.tmp 6) 22 rfl w.heap.size 51 i0 _ 2 16 Try.underlying22 Hi.out.1 Hi.out.2.1 Hi.out.2.2.1 Hi.out.2.2.2 rfl (by decide) (.slice (some ⟨w.heap.size, 0, none⟩) 0 0) 0 [] rfl (World.ownsRow_made w #[] 0 (Nat.le_refl _) (Nat.zero_le _) rfl) w.heap.size (some ad) xs.length c (xs.flatMap encH) rfl (HR.out.alloc (Nat.le_refl _) _) Ho.out (by simp only [maxLen]; omega) (by omega) (by simp) ?_)
    intro v1 w1 hown hg _
    obtain ⟨A', c', rfl⟩ := own_slice hown
    have hbel : Below w.heap.size w w1 := ((Below.refl _ w).alloc (Nat.le_refl _) _).grown hg (by simp) (fun k hk => by simp [Value.ownBlock] at hk; omega)
    have Hown := Lib.hid hown; clear hown
    have Hbel := Lib.hid hbel; clear hbel
    have Hg := Lib.hid hg; clear hg
    go_wp2
    go_ret
    exact ⟨_, rfl, Hown.out, Hbel.out⟩

set_option maxHeartbeats 2000000 in
theorem cloneL_calls (xs : List (Int × Int × Int)) (A : Option Addr) (c : Nat) (w : World) (hl : xs.length ≤ 100000) (hc : xs.length ≤ c) (hn : A = none → c = 0) (hr : Rd w A (xs.flatMap encL)) :
    Calls Try.prog 87 #[.slice A xs.length c] w (OwnT w 54 3 xs.length (xs.flatMap encL)) := by
  obtain ⟨i0, hi, hz0, hz1, hz2⟩ := info_parts info54
  have Hi := Lib.hid (And.intro hi (And.intro hz0 (And.intro hz1 hz2))); clear hi hz0 hz1 hz2
  have hR := hr.reads (by decide) (k := 3) (n := xs.length) (flatMap_len encL 3 (fun _ => rfl) xs)
  have hone : ∀ u ∈ xs.flatMap encL, u.oneCell' = true := by
    intro u hu
    obtain ⟨x, _, hx⟩ := List.mem_flatMap.1 hu
    simp only [encL, List.mem_cons, List.not_mem_nil, or_false] at hx
    rcases hx with rfl | rfl | rfl <;> rfl
  have Hr := Lib.hid hr; clear hr
  have HR := Lib.hid hR; clear hR
  have Ho := Lib.hid hone; clear hone
  have q1 := @Lib.run_eql_slice_nil Try.prog
  cases A with
  | none =>
    obtain rfl := hn rfl
    have h0 : xs.length = 0 := by omega
    obtain rfl : xs = [] := List.eq_nil_of_length_eq_zero h0
    go_enter Try.func87, Try.ntmps87
    go_wp2
    go_ret
    exact ⟨_, rfl, World.ownsRow_nil _ _ _ _, Below.refl _ _⟩
  | some ad =>
    go_enter Try.func87, Try.ntmps87
    go_wp2_with (at_builtin; refine wpList_append_any _ rfl (.tmp 5) (.tmp 6) 23 rfl w.heap.size 54 i0 _ 3 24 Try.underlying23 Hi.out.1 Hi.out.2.1 Hi.out.2.2.1 Hi.out.2.2.2 rfl (by decide) (.slice (some ⟨w.heap.size, 0, none⟩) 0 0) 0 [] rfl (World.ownsRow_made w #[] 0 (Nat.le_refl _) (Nat.zero_le _) rfl) w.heap.size (some ad) xs.length c (xs.flatMap encL) rfl (HR.out.alloc (Nat.le_refl _) _) Ho.out (by simp only [maxLen]; omega) (by omega) (by simp) ?_)
    intro v1 w1 hown hg _
    obtain ⟨A', c', rfl⟩ := own_slice hown
    have hbel : Below w.heap.size w w1 := ((Below.refl _ w).alloc (Nat.le_refl _) _).grown hg (by simp) (fun k hk => by simp [Value.ownBlock] at hk; omega)
    have Hown := Lib.hid hown; clear hown
    have Hbel := Lib.hid hbel; clear hbel
    have Hg := Lib.hid hg; clear hg
    go_wp2
    go_ret
    exact ⟨_, rfl, Hown.out, Hbel.out⟩

set_option maxHeartbeats 2000000 in
theorem cloneI_calls (xs : List (Int)) (A : Option Addr) (c : Nat) (w : World) (hl : xs.length ≤ 100000) (hc : xs.length ≤ c) (hn : A = none → c = 0) (hr : Rd w A (xs.flatMap encI)) :
    Calls Try.prog 44 #[.slice A xs.length c] w (OwnT w 3 1 xs.length (xs.flatMap encI)) := by
  obtain ⟨i0, hi, hz0, hz1, hz2⟩ := info_parts info3
  have Hi := Lib.hid (And.intro hi (And.intro hz0 (And.intro hz1 hz2))); clear hi hz0 hz1 hz2
  have hR := hr.reads (by decide) (k := 1) (n := xs.length) (flatMap_len encI 1 (fun _ => rfl) xs)
  have hone : ∀ u ∈ xs.flatMap encI, u.oneCell' = true := by
    intro u hu
    obtain ⟨x, _, hx⟩ := List.mem_flatMap.1 hu
    simp only [encI, List.mem_cons, List.not_mem_nil, or_false] at hx
    rcases hx with rfl <;> rfl
  have Hr := Lib.hid hr; clear hr
  have HR := Lib.hid hR; clear hR
  have Ho := Lib.hid hone; clear hone
  have q1 := @Lib.run_eql_slice_nil Try.prog
  cases A with
  | none =>
    obtain rfl := hn rfl
    have h0 : xs.length = 0 := by omega
    obtain rfl : xs = [] := List.eq_nil_of_length_eq_zero h0
    go_enter Try.func44, Try.ntmps44
    go_wp2
    go_ret
    exact ⟨_, rfl, World.ownsRow_nil _ _ _ _, Below.refl _ _⟩
  | some ad =>
    go_enter Try.func44, Try.ntmps44
    go_wp2_with (at_builtin; refine wpList_append_any _ rfl (.tmp 5) (.tmp 6) 35 rfl w.heap.size 3 i0 _ 1 8 Try.underlying35 Hi.out.1 Hi.out.2.1 Hi.out.2.2.1 Hi.out.2.2.2 rfl (by decide) (.slice (some ⟨w.heap.size, 0, none⟩) 0 0) 0 [] rfl (World.ownsRow_made w #[] 0 (Nat.le_refl _) (Nat.zero_le _) rfl) w.heap.size (some ad) xs.length c (xs.flatMap encI) rfl (HR.out.alloc (Nat.le_refl _) _) Ho.out (by simp only [maxLen]; omega) (by omega) (by simp) ?_)
    intro v1 w1 hown hg _
    obtain ⟨A', c', rfl⟩ := own_slice hown
    have hbel : Below w.heap.size w w1 := ((Below.refl _ w).alloc (Nat.le_refl _) _).grown hg (by simp) (fun k hk => by simp [Value.ownBlock] at hk; omega)
    have Hown := Lib.hid hown; clear hown
    have Hbel := Lib.hid hbel; clear hbel
    have Hg := Lib.hid hg; clear hg
    go_wp2
    go_ret
    exact ⟨_, rfl, Hown.out, Hbel.out⟩
end Go.Proofs.Ythdlmnkefheliaa
