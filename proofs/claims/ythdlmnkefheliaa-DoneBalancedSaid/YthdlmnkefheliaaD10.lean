import Derived.Test.YthdlmnkefheliaaD9
import Derived.Deep.RegionLaw
set_option linter.unusedVariables false
set_option linter.unusedSimpArgs false
namespace Go.Proofs.Ythdlmnkefheliaa
open Go.RowKit
def begunE (t : Thr) (qs : List Int) : Int := if t.ok then (if qs.all (inRange t.procs.length) then 0 else 1) else 280
structure BegunV (t : Thr) (qs : List Int) (x : Value) (n : Int) (w w' : World) : Prop where
  num : n = begunE t qs
  bel : Below w.heap.size w w'
  bad : n ≠ 0 → x = .pointer none
  good : n = 0 → ∃ p pv mv, x = .pointer (some ⟨p, 0, none⟩) ∧ ThrB w' w.heap.size p pv mv t
def BegunR (t : Thr) (qs : List Int) (w : World) (e : Ending) (w' : World) : Prop := ∃ x n, e = .returned (.tuple #[x, .int .i64 n]) ∧ BegunV t qs x n w w'
theorem begunE_ok {t : Thr} {qs : List Int} (h : begunE t qs = 0) : t.ok = true ∧ ∀ q ∈ qs, inRange t.procs.length q = true := by
  unfold begunE at h
  split at h
  · rename_i h1
    split at h
    · rename_i h2; exact ⟨h1, by simpa using h2⟩
    · cases h
  · cases h
theorem begun_calls (t : Thr) (v : Value) (A : Option Addr) (c : Nat) (qs : List Int) (w : World) (hv : ThrV w v t) (hl : t.Lens) (hq : Rd w A (qs.flatMap encI)) (hql : qs.length ≤ 100) :
    Calls Try.prog 63 #[v, .slice A qs.length c] w (BegunR t qs w) := by
  by_cases hok : t.ok = true
  · by_cases hqs : ∀ q ∈ qs, inRange t.procs.length q = true
    · refine (begun_good t v A c qs w hv hl hok hq hql hqs).mono ?_
      rintro e w' ⟨p, pv, mv, rfl, hp, hb⟩
      exact ⟨_, _, rfl, by rw [begunE, if_pos hok, if_pos (by simpa using hqs)], hb, fun h => absurd rfl h, fun _ => ⟨p, pv, mv, rfl, hp⟩⟩
    · refine (begun_out t v A c qs w hv hl hok hq hql hqs).mono ?_
      rintro e w' ⟨rfl, hb⟩
      exact ⟨_, _, rfl, by rw [begunE, if_pos hok, if_neg (by simpa using hqs)], hb, fun _ => rfl, fun h => by cases h⟩
  · refine (begun_bad t v _ w hv hl hok).mono ?_
    rintro e w' ⟨rfl, hb⟩
    exact ⟨_, _, rfl, by rw [begunE, if_neg hok], hb, fun _ => rfl, fun h => by cases h⟩

theorem begun_calls' (t : Thr) (v : Value) (A : Option Addr) (n c : Nat) (qs : List Int) (w : World) (hn : n = qs.length) (hv : ThrV w v t) (hl : t.Lens) (hq : Rd w A (qs.flatMap encI)) (hql : qs.length ≤ 100) :
    Calls Try.prog 63 #[v, .slice A n c] w (BegunR t qs w) := by
  subst hn; exact begun_calls t v A c qs w hv hl hq hql
theorem own_rd {w : World} {B e k n m c : Nat} {A : Option Addr} {cs : List Value} (h : w.ownsRow B e k (.slice A n c) m cs) : Rd w A cs := by
  intro hne
  rcases h.2 with ⟨hv, hn⟩ | ⟨g, cap, cur, hv, _, _, hnc, hcm, _⟩
  · have := h.1
    rw [hn, Nat.zero_mul] at this
    exact absurd (List.eq_nil_of_length_eq_zero this) hne
  · injection hv with hA _ _
    subst hA
    exact ⟨g, 0, rfl, fun j u hu => by
      have := h.cells (g := g) rfl j u hu
      have ha : (⟨g, 0, none⟩ : Addr).add j = ⟨g, 0 + j, none⟩ := by unfold Addr.add; split <;> simp_all
      rwa [ha] at this⟩
theorem ThrB.lower {w : World} {B B' p : Nat} {pv mv : Value} {t : Thr} (h : ThrB w B p pv mv t) (hB : B' ≤ B) : ThrB w B' p pv mv t :=
  ⟨Nat.le_trans hB h.1, h.2.1, own_lower h.2.2.1 hB, own_lower h.2.2.2 hB⟩
/-- A call of a Go function as one step of a region that draws. -/
theorem step_call {P : Program} {ops : Array Oper} {o : Oper} {a : Act} {w : World} {K : Act → World → Prop} {Q : Exit → Act → World → Prop} {E : Prop}
    (hg : o.guard = none) (f : FuncId) (args : Array Value) (hrun : (execOp a.eval o).run P w = .ok (.enter f args) w)
    (hc : Calls P f args w fun e w' => ∃ v, e = .returned v ∧ K (a.put o.dst v) w') :
    if Region.wanted o (yielded ops a.tmps) = true then Oper.wp P o a w K Q else E := by
  have hw : Region.wanted o (yielded ops a.tmps) = true := by simp [Region.wanted, hg]
  rw [if_pos hw]
  unfold Oper.wp
  rw [hrun, Oper.upon_enter]
  refine hc.mono ?_
  rintro e w' ⟨v, rfl, hk⟩
  exact hk

def busyE (t : Thr) (proc : Int) (more : List Int) : Int := if begunE t (proc :: more) = 0 then (if (t.procs.getD proc.toNat (0, 0)).1 = 0 then 282 else 0) else begunE t (proc :: more)
structure BusyV (t : Thr) (proc : Int) (more : List Int) (x y : Value) (n : Int) (w w' : World) : Prop where
  num : n = busyE t proc more
  bel : Below w.heap.size w w'
  good : n = 0 → ∃ (k p g c : Nat) (mv : Value), proc = k ∧ k < t.procs.length ∧ x = .pointer (some ⟨p, 0, none⟩) ∧ y = .pointer (some ⟨g, k * 2, none⟩) ∧ ThrB w' w.heap.size p (.slice (some ⟨g, 0, none⟩) t.procs.length c) mv t
def BusyR (t : Thr) (proc : Int) (more : List Int) (w : World) (e : Ending) (w' : World) : Prop := ∃ x y n, e = .returned (.tuple #[x, y, .int .i64 n]) ∧ BusyV t proc more x y n w w'

set_option maxRecDepth 100000 in
set_option maxHeartbeats 4000000 in
theorem busy_calls (t : Thr) (v : Value) (proc : Int) (A : Option Addr) (c : Nat) (more : List Int) (w : World) (hv : ThrV w v t) (hl : t.Lens) (hq : Rd w A (more.flatMap encI)) (hql : more.length ≤ 50) :
    Calls Try.prog 68 #[v, .int .i64 proc, .slice A more.length c] w (BusyR t proc more w) := by
  obtain ⟨i0, hi, hz0, hz1, hz2⟩ := info_parts info3
  have Hi := Lib.hid (And.intro hi (And.intro hz0 (And.intro hz1 hz2))); clear hi hz0 hz1 hz2
  have hv0 := hv
  obtain ⟨gr, ou, ps, ms, en⟩ := t
  obtain ⟨A1, c1, A2, c2, rfl, k1, k2, k3, k4, k5, k6⟩ := hv
  clear k1 k2 k3 k4 k5 k6
  simp only at hv0 ⊢
  have HL := Lib.hid hl; clear hl
  obtain ⟨W0, hW0⟩ : ∃ W0, W0 = w.alloc (.cells #[.int .i64 gr, .int .i64 ou, .slice A1 ps.length c1, .slice A2 ms.length c2, .bool en] 25) := ⟨_, rfl⟩
  have hB0 : Below w.heap.size w W0 := by rw [hW0]; exact (Below.refl _ _).alloc (Nat.le_refl _) _
  have hz : Blk W0 w.heap.size 25 #[.int .i64 gr, .int .i64 ou, .slice A1 ps.length c1, .slice A2 ms.length c2, .bool en] := by rw [hW0]; exact Blk.new _ _ _
  have HV := Lib.hid (hv0.below hB0 (Nat.le_refl _)); clear hv0
  have HQ := Lib.hid (hq.below hB0 (Nat.le_refl _)); clear hq
  have hsz := hz.lt
  have HZ := Lib.hid hz; clear hz
  have HB0 := Lib.hid hB0; clear hB0
  have HW := Lib.hid hW0; clear hW0
  have hown0 : (((w.alloc (.cells #[.int .i64 gr, .int .i64 ou, .slice A1 ps.length c1, .slice A2 ms.length c2, .bool en] 25)).alloc (.cells #[.int .i64 proc] 3)).drew).ownsRow W0.heap.size 3 1 (.slice (some ⟨w.heap.size + 1, 0, none⟩) 1 1) 1 [.int .i64 proc] :=
    ⟨rfl, .inr ⟨w.heap.size + 1, 1, #[.int .i64 proc], rfl, by rw [HW.out]; simp, by have := heap_alloc_new (w.alloc (.cells #[.int .i64 gr, .int .i64 ou, .slice A1 ps.length c1, .slice A2 ms.length c2, .bool en] 25)) (.cells #[.int .i64 proc] 3); rw [show (w.alloc (.cells #[.int .i64 gr, .int .i64 ou, .slice A1 ps.length c1, .slice A2 ms.length c2, .bool en] 25)).heap.size = w.heap.size + 1 from by simp] at this; exact this, Nat.le_refl _, by simp [maxLen], rfl, rfl⟩⟩
  have hbel0 : Below W0.heap.size W0 (((w.alloc (.cells #[.int .i64 gr, .int .i64 ou, .slice A1 ps.length c1, .slice A2 ms.length c2, .bool en] 25)).alloc (.cells #[.int .i64 proc] 3)).drew) := by
    rw [HW.out]; exact ((Below.refl _ _).alloc (Nat.le_refl _) _).drew
  have hrd0 := (HQ.out.below hbel0 (Nat.le_refl _)).reads (by decide) (k := 1) (n := more.length) (flatMap_len encI 1 (fun _ => rfl) more)
  have hone : ∀ u ∈ more.flatMap encI, u.oneCell' = true := by
    intro u hu
    obtain ⟨x, _, hx⟩ := List.mem_flatMap.1 hu
    simp only [encI, List.mem_cons, List.not_mem_nil, or_false] at hx
    rcases hx with rfl; rfl
  have HO := Lib.hid hown0; clear hown0
  have HBE := Lib.hid hbel0; clear hbel0
  have HRD := Lib.hid hrd0; clear hrd0
  have H1 := Lib.hid hone; clear hone
  go_enter Try.func68, Try.ntmps68
  go_wp2
  go_region_law (first
    | (refine step_append_any _ rfl (.tmp 15) (.tmp 16) 35 rfl W0.heap.size 3 i0 _ 1 8 Try.underlying35 Hi.out.1 Hi.out.2.1 Hi.out.2.2.1 Hi.out.2.2.2 rfl (by decide) (.slice (some ⟨w.heap.size + 1, 0, none⟩) 1 1) 1 [.int .i64 proc] rfl HO.out _ A more.length c (more.flatMap encI) rfl HRD.out H1.out (by simp only [maxLen]; omega) (by omega) HBE.out.size ?_
       intro v1 w1 hown hg _
       obtain ⟨A', c', rfl⟩ := own_slice hown
       have Hown := Lib.hid hown; clear hown
       have Hbel := Lib.hid (show Below W0.heap.size W0 w1 from HBE.out.grown hg HBE.out.size (fun k hk => (HO.out.lt k hk).1)); clear hg
       obtain ⟨⟨u0, u1, u2, u3, u4⟩, -⟩ := (HZ.out.below Hbel.out hsz).five)
    | (refine step_call rfl 63 #[.agg #[.int .i64 gr, .int .i64 ou, .slice A1 ps.length c1, .slice A2 ms.length c2, .bool en], .slice A' (1 + more.length) c'] ?_ ?_
       · go_simp
       refine (begun_calls' ⟨gr, ou, ps, ms, en⟩ _ A' _ c' (proc :: more) _ (by simp; omega) (HV.out.below Hbel.out (Nat.le_refl _)) HL.out (own_rd Hown.out) (by simp; omega)).mono ?_
       rintro e w3 ⟨x, n, rfl, hbv⟩
       refine ⟨_, rfl, ?_⟩
       have Hbv := Lib.hid hbv; clear hbv))
  all_goals
    clear u0 u1 u2 u3 u4
    have hb13 : Below w.heap.size w w3 := (HB0.out.trans (Hbel.out.mono (Nat.le_of_lt hsz))).trans (Hbv.out.bel.mono (Nat.le_trans HB0.out.size Hbel.out.size))
    have HB13 := Lib.hid hb13; clear hb13
    by_cases hn : n = 0
    · have Hok := Lib.hid (begunE_ok (Hbv.out.num.symm.trans hn))
      have Hbe := Lib.hid (Hbv.out.num.symm.trans hn)
      obtain ⟨p, pv, mv, rfl, hB⟩ := Hbv.out.good hn
      obtain rfl := hn
      have hpr := Hok.out.2 proc (by simp)
      rw [inRange, bd_iff] at hpr
      simp only at hpr hB
      obtain ⟨k, rfl⟩ := Int.eq_ofNat_of_zero_le hpr.1
      have hk : k < ps.length := by omega
      clear hpr
      obtain ⟨g, cp, rfl, -, -⟩ := hB.2.2.1.form (show 0 < ps.length by omega)
      obtain ⟨x, hx⟩ : ∃ x, ps[k]? = some x := ⟨_, List.getElem?_eq_getElem hk⟩
      have hgd : ps.getD k (0, 0) = x := by rw [List.getD_eq_getElem?_getD, hx]; rfl
      obtain ⟨g', off, hgo, e0, e1⟩ := Rd.atH (own_rd hB.2.2.1) hx
      injection hgo with hgo
      injection hgo with hg1 hg2 _
      subst hg1 hg2
      rw [Nat.zero_add] at e0 e1
      obtain ⟨⟨b0, b1, b2, b3, b4⟩, -⟩ := hB.2.1.five
      have HBB := Lib.hid hB; clear hB
      have Hgd := Lib.hid hgd; clear hgd hx
      by_cases hx0 : x.1 = 0
      · have hx0b : (x.1 == 0) = true := by simpa using hx0
        have Hx0 := Lib.hid hx0; clear hx0
        go_wp2
        go_ret3
        exact ⟨_, _, _, rfl, by rw [busyE, if_pos Hbe.out, Int.toNat_natCast, if_pos (by rw [Hgd.out]; exact Hx0.out)], HB13.out, fun h => by cases h⟩
      · have hx0b : (x.1 == 0) = false := by simpa using hx0
        have Hx0 := Lib.hid hx0; clear hx0
        go_wp2
        go_ret3
        exact ⟨_, _, _, rfl, by rw [busyE, if_pos Hbe.out, Int.toNat_natCast, if_neg (by rw [Hgd.out]; exact Hx0.out)], HB13.out, fun _ => ⟨k, p, g, cp, mv, rfl, hk, rfl, by simp, ThrB.lower HBB.out (Nat.le_trans HB0.out.size Hbel.out.size)⟩⟩
    · have hnb : (n != 0) = true := by simpa using hn
      have Hn := Lib.hid hn; clear hn
      go_wp2
      go_ret3
      exact ⟨_, _, _, rfl, by rw [busyE, if_neg (by rw [← Hbv.out.num]; exact Hn.out)]; exact Hbv.out.num, HB13.out, fun h => absurd h Hn.out⟩
end Go.Proofs.Ythdlmnkefheliaa
