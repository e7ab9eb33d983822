import Derived.Test.YthdlmnkefheliaaD17
import Derived.Test.YthdlmnkefheliaaD20
import Derived.Test.YthdlmnkefheliaaD13
set_option linter.unusedVariables false
set_option linter.unusedSimpArgs false
namespace Go.Proofs.Ythdlmnkefheliaa
open Go.RowKit

def balGo : List (Int × Int) → Nat → Thr → Thr × Int × Int
  | [], k, t => (t, (k : Int), 0)
  | m :: ms, k, t => if (moveM t m.1 m.2).2 = 0 then balGo ms (k + 1) (moveM t m.1 m.2).1 else if (moveM t m.1 m.2).2 = 281 then (t, (k : Int), 0) else (Thr.zero, 0, (moveM t m.1 m.2).2)
def balanceM (t : Thr) : Thr × Int × Int :=
  if begunE t [] = 0 then
    (if (planM (t.procs.map Prod.fst)).2 = 0 then balGo (planM (t.procs.map Prod.fst)).1 0 t else (Thr.zero, 0, 2))
  else (Thr.zero, 0, begunE t [])
def RetI (r : Thr × Int × Int) (w : World) (e : Ending) (w' : World) : Prop :=
  ∃ v, e = .returned (.tuple #[v, .int .i64 r.2.1, .int .i64 r.2.2]) ∧ ThrF w.heap.size w' v r.1 ∧ Below w.heap.size w w'
theorem fin_zero {t : Thr} (h : t.fin.2 = 0) : t.fin.1.ok = true := by
  by_cases hok : t.ok = true
  · rw [Thr.fin_ok hok]; exact hok
  · rw [Thr.fin_bad hok] at h; simp at h
theorem ok_lens {t : Thr} (h : t.ok = true) : t.Lens := by
  have := Thr.good_iff.1 h
  have h1 := this.pl1
  have h2 := this.ml
  exact ⟨by omega, by omega⟩
theorem moveM_ok {t : Thr} {a b : Int} (h : (moveM t a b).2 = 0) : (moveM t a b).1.ok = true := by
  unfold moveM at h ⊢
  split at h
  · split at h
    · simp at h
    · rename_i h1 h2
      rw [if_pos h1, if_neg h2]
      exact fin_zero h
  · rename_i h1
    exact absurd h h1
theorem planr_calls (r : List (Int × Int) × Int) (n : Nat) (l0 : List Int) (A : Option Addr) (c : Nat) (w : World) (hr' : r = planM l0) (hn' : n = l0.length) (hlen : l0.length ≤ 100000) (hc : l0.length ≤ c) (hn : A = none → c = 0) (hr : Rd w A (l0.flatMap encI)) :
    Calls Try.prog 23 #[.slice A n c] w (RetP w r) := by
  subst hr' hn'; exact plan_calls l0 A c w hlen hc hn hr
theorem mover_calls (r : Thr × Int) (t : Thr) (v : Value) (proc to_ : Int) (w : World) (hr : r = moveM t proc to_) (hv : ThrV w v t) (hl : t.Lens) :
    Calls Try.prog 36 #[v, .int .i64 proc, .int .i64 to_] w (RetT r w) := by
  subst hr; exact move_calls t v proc to_ w hv hl
def BoxT (w : World) (b B : Nat) (t : Thr) : Prop := ∃ A1 c1 A2 c2, Blk w b 25 #[.int .i64 t.grain, .int .i64 t.out, .slice A1 t.procs.length c1, .slice A2 t.mail.length c2, .bool t.ended] ∧
  w.ownsRow B 51 2 (.slice A1 t.procs.length c1) t.procs.length (t.procs.flatMap encH) ∧ w.ownsRow B 54 3 (.slice A2 t.mail.length c2) t.mail.length (t.mail.flatMap encL)
theorem ThrF.rows {B n1 n2 c1 c2 : Nat} {A1 A2 : Option Addr} {a b : Int} {e : Bool} {w : World} {t : Thr} (h : ThrF B w (.agg #[.int .i64 a, .int .i64 b, .slice A1 n1 c1, .slice A2 n2 c2, .bool e]) t) :
    w.ownsRow B 51 2 (.slice A1 t.procs.length c1) t.procs.length (t.procs.flatMap encH) ∧ w.ownsRow B 54 3 (.slice A2 t.mail.length c2) t.mail.length (t.mail.flatMap encL) := by
  obtain ⟨A1', c1', A2', c2', he, h1, h2⟩ := h
  simp only [Value.agg.injEq, Array.mk.injEq, List.cons.injEq, Value.int.injEq, Value.slice.injEq] at he
  obtain ⟨_, _, ⟨rfl, _, rfl⟩, ⟨rfl, _, rfl⟩, _⟩ := he
  exact ⟨h1, h2⟩
theorem BoxT.store {w : World} {b B c1 c2 : Nat} {A1 A2 : Option Addr} {u0 u1 u2 u3 u4 : Value} {t : Thr} (h : Blk w b 25 #[u0, u1, u2, u3, u4]) (hv : ThrF B w (.agg #[.int .i64 t.grain, .int .i64 t.out, .slice A1 t.procs.length c1, .slice A2 t.mail.length c2, .bool t.ended]) t) :
    BoxT (((((w.setCell ⟨b, 0, none⟩ (.int .i64 t.grain)).setCell ⟨b, 1, none⟩ (.int .i64 t.out)).setCell ⟨b, 2, none⟩ (.slice A1 t.procs.length c1)).setCell ⟨b, 3, none⟩ (.slice A2 t.mail.length c2)).setCell ⟨b, 4, none⟩ (.bool t.ended)) b B t := by
  have h2 := (hv.set5 h (.int .i64 t.grain) (.int .i64 t.out) (.slice A1 t.procs.length c1) (.slice A2 t.mail.length c2) (.bool t.ended)).rows
  exact ⟨A1, c1, A2, c2, by simpa using ((((h.set_ 0 (.int .i64 t.grain)).set_ 1 (.int .i64 t.out)).set_ 2 (.slice A1 t.procs.length c1)).set_ 3 (.slice A2 t.mail.length c2)).set_ 4 (.bool t.ended), h2.1, h2.2⟩
theorem BoxT.alloc {w : World} {b B : Nat} {t : Thr} (h : BoxT w b B t) (o : Obj) : BoxT (w.alloc o) b B t := by
  obtain ⟨A1, c1, A2, c2, h1, h2, h3⟩ := h
  exact ⟨A1, c1, A2, c2, h1.alloc o, h2.alloc o, h3.alloc o⟩
theorem ThrF.alloc {B : Nat} {w : World} {v : Value} {t : Thr} (h : ThrF B w v t) (o : Obj) : ThrF B (w.alloc o) v t := h.below ((Below.refl _ w).alloc (Nat.le_refl _) o) (Nat.le_refl _)
theorem planGo_len : ∀ (n : Nat) (l : List Int) (out : List (Int × Int)), (planGo n l out).length ≤ out.length + n
  | 0, l, out => Nat.le_refl _
  | n + 1, l, out => by
    rw [planGo]
    split
    · omega
    · have := planGo_len n (planStep l) (out ++ [(maxAt l, minAt l)])
      rw [List.length_append, List.length_cons, List.length_nil] at this
      omega
theorem planM_len (l : List Int) : (planM l).1.length ≤ 16000000 := by
  rw [planM]
  split
  · rename_i h
    rw [Bool.and_eq_true, Bool.not_eq_true', bd_iff] at h
    have hb : ∀ x ∈ l, 0 ≤ x ∧ x ≤ 1000 := fun x hx => by
      have := List.any_eq_false.1 h.2 x hx
      exact (bd_iff _ _ _).1 (by simpa using this)
    have h1 := planGo_len (sq l).toNat l []
    have h2 := sq_le l hb
    simp only [List.length_nil] at h1 ⊢
    omega
  · simp
theorem own_len {T : Type} {enc : T → List Value} {k e B : Nat} (hk : ∀ x, (enc x).length = k) (h0 : 0 < k) {w : World} {A : Option Addr} {c : Nat} {xs : List T} (h : w.ownsRow B e k (.slice A xs.length c) xs.length (xs.flatMap enc)) : xs.length ≤ c ∧ (A = none → c = 0) := by
  obtain ⟨A', c', he, h1, h2, h3⟩ := own_to_rows hk h0 h
  injection he with he1 _ he2
  subst he1 he2
  exact ⟨h1, h2.2⟩

set_option maxRecDepth 100000 in
set_option maxHeartbeats 4000000 in
theorem balance_calls (t : Thr) (v : Value) (w : World) (hv : ThrV w v t) (hl : t.Lens) :
    Calls Try.prog 25 #[v] w (RetI (balanceM t) w) := by
  have hv0 := hv
  obtain ⟨gr, ou, ps, ms, en⟩ := t
  obtain ⟨A1, c1, A2, c2, rfl, k1, k2, k3, k4, k5, k6⟩ := hv
  clear k1 k2 k3 k4 k5 k6
  simp only at hv0 ⊢
  have HL := Lib.hid hl; clear hl
  obtain ⟨W0, hW0⟩ : ∃ W0, W0 = ((w.alloc (.cells #[.int .i64 gr, .int .i64 ou, .slice A1 ps.length c1, .slice A2 ms.length c2, .bool en] 25)).alloc (.cells #[.int .i64 0, .int .i64 0, .slice none 0 0, .slice none 0 0, .bool false] 25)) := ⟨_, rfl⟩
  have hB0 : Below w.heap.size w W0 := by rw [hW0]; exact ((Below.refl _ _).alloc (Nat.le_refl _) _).alloc (by simp) _
  have hz : Blk W0 (w.heap.size + 1) 25 #[.int .i64 0, .int .i64 0, .slice none 0 0, .slice none 0 0, .bool false] := by
    rw [hW0]
    have := Blk.new (w.alloc (.cells #[.int .i64 gr, .int .i64 ou, .slice A1 ps.length c1, .slice A2 ms.length c2, .bool en] 25)) 25 #[.int .i64 0, .int .i64 0, .slice none 0 0, .slice none 0 0, .bool false]
    rw [show (w.alloc (.cells #[.int .i64 gr, .int .i64 ou, .slice A1 ps.length c1, .slice A2 ms.length c2, .bool en] 25)).heap.size = w.heap.size + 1 from by simp] at this
    exact this
  have HV := Lib.hid (hv0.below hB0 (Nat.le_refl _)); clear hv0
  have hsz := hz.lt
  have HZ := Lib.hid hz; clear hz
  have HB0 := Lib.hid hB0; clear hB0
  have HW := Lib.hid hW0; clear hW0
  go_enter Try.func25, Try.ntmps25
  go_wp2_with fail
  rw [← HW.out]
  refine (begun_calls ⟨gr, ou, ps, ms, en⟩ _ none 0 [] _ HV.out HL.out (rd_nil _ _) (by simp)).mono ?_
  rintro e w1 ⟨x, n, rfl, hbv⟩
  have hb01 : Below W0.heap.size W0 w1 := hbv.bel
  obtain ⟨⟨z0, z1, z2, z3, z4⟩, ⟨y0, y1, y2, y3, y4⟩⟩ := (HZ.out.below hb01 hsz).five
  have HZ1 := Lib.hid (HZ.out.below hb01 hsz)
  have HB1 := Lib.hid (HB0.out.trans (hb01.mono HB0.out.size)); clear hb01
  have Hbv := Lib.hid hbv; clear hbv
  by_cases hn : n = 0
  case neg =>
    have hf : balanceM ⟨gr, ou, ps, ms, en⟩ = (Thr.zero, 0, n) := by rw [balanceM, if_neg (by rw [← Hbv.out.num]; exact hn), Hbv.out.num]
    have Hf := Lib.hid hf; clear hf
    have hnb : (n != 0) = true := by simpa using hn
    clear hn
    go_wp2
    exact bodyPost_ret (v := .tuple #[.agg #[.int .i64 0, .int .i64 0, .slice none 0 0, .slice none 0 0, .bool false], .int .i64 0, .int .i64 n]) (by simp [results, Try.results25, go_sem, *]) rfl
      ⟨_, by rw [Hf.out], by rw [Hf.out]; exact ThrF.zero _ _, below_set5 HB1.out (Nat.le_succ _) _ _ _ _ _⟩
  have Hbe := Lib.hid (Hbv.out.num.symm.trans hn)
  have hok := (begunE_ok Hbe.out).1
  have Hgd := Lib.hid (Thr.good_iff.1 hok); clear hok
  obtain ⟨p, pv, mv, rfl, hB⟩ := Hbv.out.good hn
  obtain rfl := hn
  have hl1 := Hgd.out.pl1
  have hl0 := Hgd.out.pl0
  simp only at hl0 hl1 hB
  obtain ⟨A2', c2', rfl⟩ := own_slice hB.2.2.2
  obtain ⟨gp, cp, hpv, -, -⟩ := hB.2.2.1.form (show 0 < ps.length by omega)
  subst hpv
  obtain ⟨⟨b0, b1, b2, b3, b4⟩, ⟨f0, f1, f2, f3, f4⟩⟩ := hB.2.1.five
  have hplt := hB.2.1.lt
  have HRP := Lib.hid (own_rd hB.2.2.1)
  have HB := Lib.hid hB; clear hB
  obtain ⟨i3, hi3, hy0, hy1, hy2⟩ := info_parts info3
  have Hi3 := Lib.hid (And.intro hi3 (And.intro hy0 (And.intro hy1 hy2))); clear hi3 hy0 hy1 hy2
  go_wp2_with fail
  go_loopw [7, 9, 31] (fun o _ i wr => ∃ k : Nat, k ≤ ps.length ∧ i = .int .i64 k ∧ wr.ownsRow w1.heap.size 3 1 o k (((ps.take k).map Prod.fst).flatMap encI) ∧ Below w1.heap.size w1 wr) (fun _ _ i _ => ps.length - (intOf i).toNat)
  case atStart => exact ⟨0, Nat.zero_le _, rfl, World.ownsRow_nil _ _ _ _, Below.refl _ _⟩
  case round =>
    obtain ⟨k, hk, rfl, hoo, hB1⟩ := hrel
    have HB1' := Lib.hid hB1; clear hB1
    obtain ⟨A', c', rfl⟩ := own_slice hoo
    have Hoo := Lib.hid hoo; clear hoo
    by_cases hlt : k < ps.length
    · obtain ⟨x, hx⟩ : ∃ x, ps[k]? = some x := ⟨_, List.getElem?_eq_getElem hlt⟩
      obtain ⟨g', off', hg', c0, c1'⟩ := Rd.atH (HRP.out.below HB1'.out (Nat.le_refl _)) hx
      injection hg' with hg'
      injection hg' with hg1 hg2 _
      subst hg1 hg2
      rw [Nat.zero_add] at c0 c1'
      obtain ⟨x1, x2⟩ := x
      simp only at c0 c1'
      have Hx := Lib.hid hx; clear hx
      have hbn := Blk.new (wr.alloc (.cells #[.int .i64 x1, .int .i64 x2] 51)) 3 #[.int .i64 x1]
      rw [show (wr.alloc (.cells #[.int .i64 x1, .int .i64 x2] 51)).heap.size = wr.heap.size + 1 from by simp] at hbn
      have Hbn := Lib.hid hbn; clear hbn
      have Hoo2 := Lib.hid ((Hoo.out.alloc (.cells #[.int .i64 x1, .int .i64 x2] 51)).alloc (.cells #[.int .i64 x1] 3))
      have hb2 := (HB1'.out.alloc HB1'.out.size (.cells #[.int .i64 x1, .int .i64 x2] 51)).alloc (Nat.le_trans HB1'.out.size (by simp)) (.cells #[.int .i64 x1] 3)
      have Hb2 := Lib.hid hb2; clear hb2
      have hmax : k + 1 ≤ maxLen := by simp only [maxLen]; omega
      have hby : (k + 1) * 8 ≤ 140737488355328 := by omega
      have hbs := Hb2.out.size
      have Hcc := Lib.hid (And.intro hmax (And.intro hby hbs)); clear hmax hby hbs
      go_wp2_with (at_builtin; refine wpList_append_own _ rfl (.tmp 35) (.tmp 38) 35 rfl w1.heap.size 3 i3 _ 1 8 Try.underlying35 Hi3.out.1 Hi3.out.2.1 Hi3.out.2.2.1 Hi3.out.2.2.2 rfl (by decide) (.slice A' k c') k (((ps.take k).map Prod.fst).flatMap encI) rfl Hoo2.out ⟨wr.heap.size + 1, 0, none⟩ 1 1 [.int .i64 x1] rfl rfl ?c1 ?c2 Hcc.out.1 Hcc.out.2.1 Hcc.out.2.2 ?_)
      case c2 => simp [Value.oneCell']
      intro v7 w7 hown hg _
      have Hb9 := Lib.hid (Hb2.out.grown hg Hcc.out.2.2 (fun k hk => (Hoo2.out.lt k hk).1))
      have Hoo9 := Lib.hid hown; clear hown hg
      go_wp2
      go_roundw
      case rel => exact ⟨k + 1, by omega, by go_num, by
        have := Hoo9.out
        obtain ⟨hkk, hxx⟩ := List.getElem?_eq_some_iff.1 Hx.out
        rw [List.take_succ_eq_append_getElem hkk, hxx, List.map_append, List.flatMap_append]
        simpa [encI] using this, Hb9.out⟩
      case measure => simp [intOf]; omega
    · have hke : k = ps.length := by omega
      subst hke
      obtain ⟨l0, hl0'⟩ : ∃ l0, l0 = ps.map Prod.fst := ⟨_, rfl⟩
      have hll : ps.length = l0.length := by rw [hl0']; simp
      have hoo' := Hoo.out
      rw [List.take_length, ← hl0'] at hoo'
      have hoc := own_len (k := 1) (enc := encI) (xs := l0) (B := w1.heap.size) (e := 3) (w := wr) (A := A') (c := c') (fun _ => rfl) (by omega) (by rw [← hll]; exact hoo')
      have Hoc := Lib.hid hoc; clear hoc
      have Hoo' := Lib.hid (own_rd hoo'); clear hoo'
      have Hl0 := Lib.hid hl0'; clear hl0'
      have Hll := Lib.hid hll; clear hll
      obtain ⟨r, hr⟩ : ∃ r, r = planM l0 := ⟨_, rfl⟩
      have Hr := Lib.hid hr; clear hr
      go_wp2_with fail
      refine (planr_calls r ps.length l0 A' c' _ Hr.out Hll.out (by rw [← Hll.out]; omega) Hoc.out.1 Hoc.out.2 Hoo'.out).mono ?_
      obtain ⟨mvs, pe⟩ := r
      rintro e w2 ⟨v2, rfl, hmv, hb2⟩
      simp only at hmv
      obtain ⟨Am, cm, rfl⟩ := own_slice hmv
      have Hmv := Lib.hid hmv; clear hmv
      have hb12 := HB1'.out.trans (hb2.mono HB1'.out.size)
      have Hb12 := Lib.hid hb12; clear hb12 hb2
      have hsz1 := HZ1.out.lt
      have HZ2 := Lib.hid (HZ1.out.below Hb12.out hsz1)
      obtain ⟨⟨z0, z1, z2, z3, z4⟩, ⟨y0, y1, y2, y3, y4⟩⟩ := HZ2.out.five
      have HB2 := Lib.hid (HB1.out.trans (Hb12.out.mono HB1.out.size))
      by_cases hpe : pe = 0
      case neg =>
        have hf : balanceM ⟨gr, ou, ps, ms, en⟩ = (Thr.zero, 0, 2) := by rw [balanceM, if_pos Hbe.out, if_neg]; simp only [← Hl0.out, ← Hr.out]; exact hpe
        have Hf := Lib.hid hf; clear hf
        have hpb : (pe != 0) = true := by simpa using hpe
        clear hpe
        go_wp2
        exact bodyPost_ret (v := .tuple #[.agg #[.int .i64 0, .int .i64 0, .slice none 0 0, .slice none 0 0, .bool false], .int .i64 0, .int .i64 2]) (by simp [results, Try.results25, go_sem, *]) rfl
          ⟨_, by rw [Hf.out], by rw [Hf.out]; exact ThrF.zero _ _, below_set5 HB2.out (Nat.le_succ _) _ _ _ _ _⟩
      subst hpe
      obtain ⟨R, hR⟩ : ∃ R, R = balanceM ⟨gr, ou, ps, ms, en⟩ := ⟨_, rfl⟩
      have hf : balGo mvs 0 ⟨gr, ou, ps, ms, en⟩ = R := by rw [hR, balanceM, if_pos Hbe.out]; simp only [← Hl0.out, ← Hr.out, if_true]
      have Hf := Lib.hid hf; clear hf
      have HR := Lib.hid hR; clear hR
      have hmvl : mvs.length ≤ 16000000 := by
        have := planM_len l0
        rw [← Hr.out] at this
        exact this
      have hszB : w.heap.size ≤ w2.heap.size := HB2.out.size
      have hbox : BoxT (w2.alloc (.cells #[.int .i64 gr, .int .i64 ou, .slice (some ⟨gp, 0, none⟩) ps.length cp, .slice A2' ms.length c2', .bool en] 25)) w2.heap.size w.heap.size ⟨gr, ou, ps, ms, en⟩ :=
        ⟨_, _, _, _, Blk.new _ _ _, (own_lower (own_below HB.out.2.2.1 Hb12.out (Nat.le_refl _)) (Nat.le_trans (Nat.le_of_lt (Nat.lt_of_succ_lt hsz)) (Nat.le_refl _))).alloc _, (own_lower (own_below HB.out.2.2.2 Hb12.out (Nat.le_refl _)) (Nat.le_trans (Nat.le_of_lt (Nat.lt_of_succ_lt hsz)) (Nat.le_refl _))).alloc _⟩
      have Hbox := Lib.hid hbox; clear hbox
      have hzb := HZ2.out.lt
      obtain ⟨⟨b0, b1, b2, b3, b4⟩, ⟨f0, f1, f2, f3, f4⟩⟩ := (HB.out.2.1.below Hb12.out hplt).five
      go_wp2_with fail
      go_loopw [12, 55] (fun _ i wr => ∃ (k : Nat) (t' : Thr), k ≤ mvs.length ∧ i = .int .i64 k ∧ balGo (mvs.drop k) k t' = R ∧ t'.Lens ∧ BoxT wr w2.heap.size w.heap.size t' ∧ Below w2.heap.size w2 wr) (fun _ i _ => mvs.length - (intOf i).toNat)
      case atStart => exact ⟨0, _, Nat.zero_le _, rfl, Hf.out, HL.out, Hbox.out, (Below.refl _ _).alloc (Nat.le_refl _) _⟩
      case round =>
        obtain ⟨k, t', hk, rfl, hgo, hlen', hbx, hbr⟩ := hrel
        obtain ⟨gr', ou', ps', ms', en'⟩ := t'
        obtain ⟨D1, d1, D2, d2, hblk, ho1, ho2⟩ := hbx
        simp only at hblk ho1 ho2
        have HT' := Lib.hid (show ThrF w.heap.size wr (.agg #[.int .i64 gr', .int .i64 ou', .slice D1 ps'.length d1, .slice D2 ms'.length d2, .bool en']) ⟨gr', ou', ps', ms', en'⟩ from ⟨D1, d1, D2, d2, rfl, ho1, ho2⟩)
        clear ho1 ho2
        have Hbr := Lib.hid hbr; clear hbr
        have Hgo := Lib.hid hgo; clear hgo
        have Hlen := Lib.hid hlen'; clear hlen'
        have Hblk := Lib.hid hblk; clear hblk
        have hblt := Hblk.out.lt
        obtain ⟨⟨b0, b1, b2, b3, b4⟩, ⟨f0, f1, f2, f3, f4⟩⟩ := Hblk.out.five
        have HZr := Lib.hid (HZ2.out.below Hbr.out hzb)
        obtain ⟨⟨z0, z1, z2, z3, z4⟩, ⟨y0, y1, y2, y3, y4⟩⟩ := HZr.out.five
        by_cases hlt : k < mvs.length
        · obtain ⟨x, hx⟩ : ∃ x, mvs[k]? = some x := ⟨_, List.getElem?_eq_getElem hlt⟩
          obtain ⟨gm, om, hgm, c0, c1'⟩ := Rd.atH (own_rd (own_below Hmv.out Hbr.out (Nat.le_refl _))) hx
          subst hgm
          obtain ⟨m1, m2⟩ := x
          simp only at c0 c1'
          have Hx := Lib.hid hx; clear hx
          obtain ⟨r, hr⟩ : ∃ r, r = moveM ⟨gr', ou', ps', ms', en'⟩ m1 m2 := ⟨_, rfl⟩
          have Hrm := Lib.hid hr; clear hr
          have hdrop : mvs.drop k = (m1, m2) :: mvs.drop (k + 1) := by
            obtain ⟨h1, h2⟩ := List.getElem?_eq_some_iff.1 Hx.out
            rw [List.drop_eq_getElem_cons h1, h2]
          have hgo' : (if r.2 = 0 then balGo (mvs.drop (k + 1)) (k + 1) r.1 else if r.2 = 281 then (⟨gr', ou', ps', ms', en'⟩, (k : Int), 0) else (Thr.zero, 0, r.2)) = R := by
            rw [← Hgo.out, hdrop, balGo, ← Hrm.out]
          have Hgo' := Lib.hid hgo'; clear hgo' hdrop
          go_wp2_with fail
          refine (mover_calls r ⟨gr', ou', ps', ms', en'⟩ _ m1 m2 _ Hrm.out ((HT'.out.below (Below.alloc (Below.refl _ wr) (Nat.le_refl _) _) (Nat.le_refl _)).val) Hlen.out).mono ?_
          obtain ⟨⟨gr2, ou2, ps2, ms2, en2⟩, e2⟩ := r
          rintro e w3 ⟨v3, rfl, hv3, hb3⟩
          simp only at hv3
          have hv3' := hv3
          obtain ⟨G1, g1, G2, g2, rfl, -, -⟩ := hv3'
          have hwa : wr.heap.size ≤ (wr.alloc (.cells #[.int .i64 m1, .int .i64 m2] 42)).heap.size := by simp
          have hwr : w.heap.size ≤ wr.heap.size := Nat.le_trans hszB Hbr.out.size
          have HV3 := Lib.hid (hv3.lower (Nat.le_trans hwr hwa)); clear hv3
          have hb3' : Below wr.heap.size wr w3 := ((Below.refl _ wr).alloc (Nat.le_refl _) _).trans (hb3.mono hwa)
          have Hblk3 := Lib.hid (Hblk.out.below hb3' hblt)
          have HZ3 := Lib.hid (HZr.out.below hb3' HZr.out.lt)
          have HT3 := Lib.hid (HT'.out.below hb3' (Nat.le_refl _))
          have Hbr3 := Lib.hid (Hbr.out.trans (hb3'.mono Hbr.out.size))
          have HBw3 := Lib.hid (HB2.out.trans (Hbr3.out.mono HB2.out.size))
          clear hb3 hb3' hwa
          obtain ⟨⟨b0, b1, b2, b3, b4⟩, ⟨f0, f1, f2, f3, f4⟩⟩ := Hblk3.out.five
          obtain ⟨⟨z0, z1, z2, z3, z4⟩, ⟨y0, y1, y2, y3, y4⟩⟩ := HZ3.out.five
          have hblt3 := Hblk3.out.lt
          have hzlt3 := HZ3.out.lt
          have hbz : w2.heap.size ≠ w.heap.size + 1 := by omega
          have Hbz := Lib.hid hbz; clear hbz
          by_cases he0 : e2 = 0
          · subst he0
            have hgo2 : balGo (mvs.drop (k + 1)) (k + 1) ⟨gr2, ou2, ps2, ms2, en2⟩ = R := by have := Hgo'.out; simpa using this
            have hln2 : Thr.Lens ⟨gr2, ou2, ps2, ms2, en2⟩ := by
              have := @moveM_ok ⟨gr', ou', ps', ms', en'⟩ m1 m2 (by rw [← Hrm.out])
              rw [← Hrm.out] at this
              exact ok_lens this
            have Hgo2 := Lib.hid hgo2; clear hgo2
            have Hln2 := Lib.hid hln2; clear hln2
            have hbox2 := (BoxT.store Hblk3.out HV3.out).alloc (.cells #[.int .i64 gr2, .int .i64 ou2, .slice G1 ps2.length g1, .slice G2 ms2.length g2, .bool en2] 25)
            have hbel2 := below_set5 Hbr3.out (Nat.le_refl _) (.int .i64 gr2) (.int .i64 ou2) (.slice G1 ps2.length g1) (.slice G2 ms2.length g2) (.bool en2)
            have Hbel2 := Lib.hid (hbel2.alloc hbel2.size (.cells #[.int .i64 gr2, .int .i64 ou2, .slice G1 ps2.length g1, .slice G2 ms2.length g2, .bool en2] 25)); clear hbel2
            have Hbox2 := Lib.hid hbox2; clear hbox2
            go_wp2
            go_roundw
            case rel => exact ⟨k + 1, _, by omega, by go_num, Hgo2.out, Hln2.out, Hbox2.out, Hbel2.out⟩
            case measure => simp [intOf]; omega
          · have he0b : (e2 == 0) = false := by simpa using he0
            by_cases he1 : e2 = 281
            · subst he1
              have hr1 : balanceM ⟨gr, ou, ps, ms, en⟩ = (⟨gr', ou', ps', ms', en'⟩, (k : Int), 0) := by rw [← HR.out, ← Hgo'.out]; rfl
              have Hr1 := Lib.hid hr1; clear hr1
              go_wp2
              have hb5 := below_set5 HBw3.out (Nat.le_succ _) (.int .i64 gr') (.int .i64 ou') (.slice D1 ps'.length d1) (.slice D2 ms'.length d2) (.bool en')
              exact bodyPost_ret (v := .tuple #[.agg #[.int .i64 gr', .int .i64 ou', .slice D1 ps'.length d1, .slice D2 ms'.length d2, .bool en'], .int .i64 k, .int .i64 0]) (by simp [results, Try.results25, go_sem, *]) rfl
                ⟨_, by rw [Hr1.out], by rw [Hr1.out]; exact (HT3.out.set5 HZ3.out _ _ _ _ _).alloc _, hb5.alloc hb5.size _⟩
            · have he1b : (e2 == 281) = false := by simpa using he1
              have hr1 : balanceM ⟨gr, ou, ps, ms, en⟩ = (Thr.zero, 0, e2) := by
                rw [← HR.out, ← Hgo'.out]
                simp only
                rw [if_neg he0, if_neg he1]
              have Hr1 := Lib.hid hr1; clear hr1
              clear he0 he1
              go_wp2
              have hb5 := below_set5 HBw3.out (Nat.le_succ _) (.int .i64 0) (.int .i64 0) (.slice none 0 0) (.slice none 0 0) (.bool false)
              exact bodyPost_ret (v := .tuple #[.agg #[.int .i64 0, .int .i64 0, .slice none 0 0, .slice none 0 0, .bool false], .int .i64 0, .int .i64 e2]) (by simp [results, Try.results25, go_sem, *]) rfl
                ⟨_, by rw [Hr1.out], by rw [Hr1.out]; exact ThrF.zero _ _, hb5.alloc hb5.size _⟩
        · have hke : k = mvs.length := by omega
          subst hke
          have hr0 := Hgo.out
          rw [List.drop_length] at hr0
          have Hr0 := Lib.hid hr0; clear hr0
          have hr1 : balanceM ⟨gr, ou, ps, ms, en⟩ = (⟨gr', ou', ps', ms', en'⟩, (mvs.length : Int), 0) := by rw [← HR.out, ← Hr0.out]; rfl
          have Hr1 := Lib.hid hr1; clear hr1
          go_wp2
          exact bodyPost_ret (v := .tuple #[.agg #[.int .i64 gr', .int .i64 ou', .slice D1 ps'.length d1, .slice D2 ms'.length d2, .bool en'], .int .i64 (mvs.length : Int), .int .i64 0]) (by simp [results, Try.results25, go_sem, *]) rfl
            ⟨_, by rw [Hr1.out], by rw [Hr1.out]; exact HT'.out.set5 HZr.out _ _ _ _ _, below_set5 (HB2.out.trans (Hbr.out.mono HB2.out.size)) (Nat.le_succ _) _ _ _ _ _⟩
end Go.Proofs.Ythdlmnkefheliaa
