import Derived.Test.YthdlmnkefheliaaD3
set_option linter.unusedVariables false
set_option linter.unusedSimpArgs false
namespace Go.Proofs.Ythdlmnkefheliaa
open Go.RowKit
theorem info54 : (Try.prog.info? 54).map (fun i => (i.zero, i.size, i.bytes)) = some (some (.agg #[.int .i64 0, .int .i64 0, .int .i64 0]), 3, 24) := by kernel_rfl
theorem info51 : (Try.prog.info? 51).map (fun i => (i.zero, i.size, i.bytes)) = some (some (.agg #[.int .i64 0, .int .i64 0]), 2, 16) := by kernel_rfl
theorem info3 : (Try.prog.info? 3).map (fun i => (i.zero, i.size, i.bytes)) = some (some (.int .i64 0), 1, 8) := by kernel_rfl

def Thr.post (t : Thr) (l : Int × Int × Int) : Thr := { t with mail := t.mail ++ [l] }

/-- A state of the call's own, behind a pointer to block p; its rows lie from block B on. -/
def ThrB (w : World) (B p : Nat) (pv mv : Value) (t : Thr) : Prop :=
  B ≤ p ∧ Blk w p 84 #[.int .i64 t.grain, .int .i64 t.out, pv, mv, .bool t.ended] ∧ w.ownsRow B 51 2 pv t.procs.length (t.procs.flatMap encH) ∧ w.ownsRow B 54 3 mv t.mail.length (t.mail.flatMap encL)
def ThrO (w : World) (B p : Nat) (pv : Value) (t : Thr) : Prop := ∃ mv, ThrB w B p pv mv t

theorem own_to_rows {T : Type} {enc : T → List Value} {k e B : Nat} (hk : ∀ x, (enc x).length = k) (h0 : 0 < k) {w : World} {v : Value} {xs : List T} (h : w.ownsRow B e k v xs.length (xs.flatMap enc)) : Rows enc w v xs := by
  have hr : ∀ g, v.ownBlock = some g → Rd w (some ⟨g, 0, none⟩) (xs.flatMap enc) := fun g hg _ => ⟨g, 0, rfl, fun j u hu => by
    have := h.cells hg j u hu
    have ha : (⟨g, 0, none⟩ : Addr).add j = ⟨g, 0 + j, none⟩ := by unfold Addr.add; split <;> simp_all
    rwa [ha] at this⟩
  rcases h.2 with ⟨rfl, hn⟩ | ⟨g, cap, cur, rfl, _, _, hnc, hcm, _⟩
  · refine ⟨none, 0, by rw [hn], by omega, ⟨by omega, fun _ => rfl⟩, fun hne => ?_⟩
    have : xs = [] := List.eq_nil_of_length_eq_zero hn
    subst this
    exact absurd rfl hne
  · exact ⟨_, cap, rfl, hnc, ⟨by simpa [maxLen] using hcm, fun h => by cases h⟩, hr g rfl⟩

theorem ThrB.val {w : World} {B p : Nat} {pv mv : Value} {t : Thr} (h : ThrB w B p pv mv t) : ThrV w (.agg #[.int .i64 t.grain, .int .i64 t.out, pv, mv, .bool t.ended]) t := by
  obtain ⟨_, _, h1, h2⟩ := h
  obtain ⟨A1, c1, rfl, a1, a2, a3⟩ := own_to_rows (enc := encH) (fun _ => rfl) (by omega) h1
  obtain ⟨A2, c2, rfl, b1, b2, b3⟩ := own_to_rows (enc := encL) (fun _ => rfl) (by omega) h2
  exact ⟨A1, c1, A2, c2, rfl, a1, a2, a3, b1, b2, b3⟩

theorem ThrB.below {w w1 : World} {B p B1 : Nat} {pv mv : Value} {t : Thr} (h : ThrB w B p pv mv t) (hb : Below B1 w w1) (hB : w.heap.size ≤ B1) : ThrB w1 B p pv mv t := by
  obtain ⟨h0, h1, h2, h3⟩ := h
  have hb' := hb.mono hB
  exact ⟨h0, h1.below hb' h1.lt, h2.kept (only_of_below hb' none) (by cases pv.ownBlock <;> simp), h3.kept (only_of_below hb' none) (by cases mv.ownBlock <;> simp)⟩

theorem add_lit0 (g j : Nat) : (⟨g, 0, none⟩ : Addr).add j = ⟨g, j, none⟩ := by unfold Addr.add; split <;> simp_all
theorem own_slice {w : World} {base n e size : Nat} {v : Value} {xs : List Value} (h : w.ownsRow base e size v n xs) : ∃ A c, v = .slice A n c := by
  rcases h.2 with ⟨rfl, rfl⟩ | ⟨g, cap, cur, rfl, _⟩
  · exact ⟨none, 0, rfl⟩
  · exact ⟨_, cap, rfl⟩
theorem own_own_ne {w : World} {b b' e e' s s' n n' : Nat} {v v' : Value} {xs xs' : List Value} (h : w.ownsRow b e s v n xs) (h' : w.ownsRow b' e' s' v' n' xs') (hne : e ≠ e') : v.ownBlock = none ∨ v.ownBlock ≠ v'.ownBlock := by
  rcases h.2 with ⟨rfl, _⟩ | ⟨g, cap, cur, rfl, _, hh, _⟩
  · exact .inl rfl
  · refine .inr fun hk => ?_
    have : v'.ownBlock = some g := by rw [← hk]; rfl
    exact own_blk_ne h' (g := g) (t := e) (cs := cur) hh (Ne.symm hne) this
theorem own_set_far {w : World} {b e s n g : Nat} {v : Value} {xs : List Value} {t : TypeId} {cs : Array Value} (h : w.ownsRow b e s v n xs) (hg : Blk w g t cs) (hne : e ≠ t) (i : Nat) (u : Value) : (w.setCell ⟨g, i, none⟩ u).ownsRow b e s v n xs :=
  h.kept (only_setCell (World.grownBy.refl w _) (p := ⟨g, i, none⟩) (.inl rfl) u) (.inr (own_blk_ne h hg hne))
theorem own_below {w w1 : World} {b e s n B : Nat} {v : Value} {xs : List Value} (h : w.ownsRow b e s v n xs) (hb : Below B w w1) (hB : w.heap.size ≤ B) : w1.ownsRow b e s v n xs :=
  h.kept (only_of_below (hb.mono hB) none) (by cases v.ownBlock <;> simp)
theorem encL_snoc (ms : List (Int × Int × Int)) (l : Int × Int × Int) : (ms ++ [l]).flatMap encL = ms.flatMap encL ++ [.int .i64 l.1, .int .i64 l.2.1, .int .i64 l.2.2] := by
  rw [List.flatMap_append]; rfl

set_option maxHeartbeats 2000000 in
theorem post_calls (B p : Nat) (pv mv : Value) (t : Thr) (kind tt n : Int) (w : World) (h : ThrB w B p pv mv t) (hl : t.mail.length ≤ 100000) :
    Calls Try.prog 69 #[.pointer (some ⟨p, 0, none⟩), .int .i64 kind, .int .i64 tt, .int .i64 n] w fun e w' => e = .returned (.tuple #[]) ∧ (ThrO w' B p pv (t.post (kind, tt, n)) ∧ Below B w w') := by
  obtain ⟨i0, hi, hz0, hz1, hz2⟩ := info_parts info54
  obtain ⟨gr, ou, ps, ms, en⟩ := t
  obtain ⟨hBp, hblk, ho1, ho2⟩ := h
  simp only at hl hblk ho1 ho2
  have g3 : w.cell? ⟨p, 3, none⟩ = some mv := by rw [hblk.cell 3]; rfl
  have f3 : w.frozen? ⟨p, 3, none⟩ = false := hblk.frozen 3
  have hpl := hblk.lt
  have Hi := Lib.hid (And.intro hi (And.intro hz0 (And.intro hz1 hz2))); clear hi hz0 hz1 hz2
  have Hblk := Lib.hid hblk; clear hblk
  have Ho1 := Lib.hid ho1; clear ho1
  have Ho2 := Lib.hid ho2; clear ho2
  go_enter Try.func69, Try.ntmps69
  go_wp2_with (at_builtin; refine wpList_append_own _ rfl (.tmp 13) (.tmp 18) 23 rfl B 54 i0 _ 3 24 Try.underlying23 Hi.out.1 Hi.out.2.1 Hi.out.2.2.1 Hi.out.2.2.2 rfl (by decide) mv ms.length (ms.flatMap encL) rfl (Ho2.out.alloc _) ⟨w.heap.size, 0, none⟩ 1 1 [.int .i64 kind, .int .i64 tt, .int .i64 n] rfl rfl ?c1 ?c2 ?c3 ?c4 ?c5 ?_)
  case c1 =>
    intro j u hu
    rw [add_lit0, (Blk.new w 54 _).cell j]
    simpa using hu
  case c2 => simp [Value.oneCell']
  case c3 => simp only [maxLen]; omega
  case c4 => omega
  case c5 => simp; omega
  intro mv' w1 hown hg _
  obtain ⟨A', c', rfl⟩ := own_slice hown
  have hb1 := (Hblk.out.alloc (.cells #[.int .i64 kind, .int .i64 tt, .int .i64 n] 54)).grown hg (Ne.symm (own_blk_ne Ho2.out Hblk.out (by decide)))
  have ho1 := (Ho1.out.alloc (.cells #[.int .i64 kind, .int .i64 tt, .int .i64 n] 54)).kept hg (own_own_ne Ho1.out Ho2.out (by decide))
  have hbel : Below B w w1 := ((Below.refl B w).alloc (by omega) _).grown hg (by simp; omega) (fun k hk => (Ho2.out.lt k hk).1)
  have g3' : w1.cell? ⟨p, 3, none⟩ = some mv := by rw [hb1.cell 3]; rfl
  have f3' : w1.frozen? ⟨p, 3, none⟩ = false := hb1.frozen 3
  have Hb1 := Lib.hid hb1; clear hb1
  have Ho1' := Lib.hid ho1; clear ho1
  have Hg := Lib.hid hg; clear hg
  have Hown := Lib.hid hown; clear hown
  have Hbel := Lib.hid hbel; clear hbel
  clear g3 f3
  go_wp2
  go_end0
  refine ⟨rfl, ⟨_, hBp, Hb1.out.set_ 3 _, own_set_far Ho1'.out Hb1.out (by decide) _ _, own_set_far ?_ Hb1.out (by decide) _ _⟩, Hbel.out.setCell hBp _⟩
  have := Hown.out
  rw [Thr.post, encL_snoc]
  simpa using this
end Go.Proofs.Ythdlmnkefheliaa
