import Derived.Test.YthdlmnkefheliaaD2
import Derived.RegionTactic
import Derived.ChangeAlike
import Derived.Deep.RegionWith
import Derived.Deep.RegionHeld3
import Derived.BigRegion
import Derived.Outline
set_option linter.unusedVariables false
set_option linter.unusedSimpArgs false
namespace Go.Proofs.Ythdlmnkefheliaa
open Go.RowKit
theorem cf_of {fid : Nat} (h : ∀ args w, Sem.run Try.prog (callFunc fid args) w = .ok (.enter fid args) w) : ∀ args w, Sem.run Try.prog (callFunc fid args) w = .ok (.enter fid args) w := h
theorem cf52 : ∀ args w, Sem.run Try.prog (callFunc 52 args) w = .ok (.enter 52 args) w := fun args w => by go_simp
theorem cf55 : ∀ args w, Sem.run Try.prog (callFunc 55 args) w = .ok (.enter 55 args) w := fun args w => by go_simp
theorem cf75 : ∀ args w, Sem.run Try.prog (callFunc 75 args) w = .ok (.enter 75 args) w := fun args w => by go_simp
theorem cf76 : ∀ args w, Sem.run Try.prog (callFunc 76 args) w = .ok (.enter 76 args) w := fun args w => by go_simp
theorem cf61 : ∀ args w, Sem.run Try.prog (callFunc 61 args) w = .ok (.enter 61 args) w := fun args w => by go_simp
theorem cf32 : ∀ args w, Sem.run Try.prog (callFunc 32 args) w = .ok (.enter 32 args) w := fun args w => by go_simp
theorem cf43 : ∀ args w, Sem.run Try.prog (callFunc 43 args) w = .ok (.enter 43 args) w := fun args w => by go_simp

/-- Where a Below was got from a world that is itself above. -/
theorem below_tr {w0 w1 w2 : World} (h : Below w0.heap.size w0 w1) (k : Below w1.heap.size w1 w2) : Below w0.heap.size w0 w2 := h.trans (k.mono h.size)

set_option maxHeartbeats 1000000 in
theorem f52_calls (x : Int × Int) (w : World) :
    Calls Try.prog 52 #[.agg #[.int .i64 x.1, .int .i64 x.2]] w fun e w' => e = .returned (.bool (!holderOk x)) ∧ Below w.heap.size w w' := by
  go_enter Try.func52, Try.ntmps52
  go_wp2_with fail
  refine (isHolder_calls x _).mono ?_; rintro e w1 ⟨rfl, hb⟩
  go_wp2
  go_ret
  exact ⟨rfl, below_tr ((Below.refl _ _).alloc (Nat.le_refl _) _) (by assumption)⟩

set_option maxHeartbeats 1000000 in
theorem f55_calls (x : Int × Int × Int) (p n c : Nat) (A : Option Addr) (w : World) (hn : n ≤ 100000) (hp : w.cell? ⟨p, 2, none⟩ = some (.slice A n c)) :
    Calls Try.prog 55 #[.agg #[.int .i64 x.1, .int .i64 x.2.1, .int .i64 x.2.2], .pointer (some ⟨p, 0, none⟩)] w fun e w' => e = .returned (.bool (!letterOk n x)) ∧ Below w.heap.size w w' := by
  have hpl : p < w.heap.size := World.block_lt_of_cell? w ⟨p, 2, none⟩ hp
  go_enter Try.func55, Try.ntmps55
  go_wp2_with fail
  refine (isLetter_calls x n (by omega) (by omega) _).mono ?_; rintro e w1 ⟨rfl, hb⟩
  go_wp2
  go_ret
  exact ⟨rfl, below_tr ((Below.refl _ _).alloc (Nat.le_refl _) _) (by assumption)⟩

set_option maxHeartbeats 1000000 in
theorem f75_calls (x : Int × Int) (w : World) :
    Calls Try.prog 75 #[.agg #[.int .i64 x.1, .int .i64 x.2]] w fun e w' => e = .returned (.bool (decide (0 < x.1))) ∧ Below w.heap.size w w' := by
  go_enter Try.func75, Try.ntmps75
  go_wp2
  go_ret
  exact ⟨by simp, (Below.refl _ _).alloc (Nat.le_refl _) _⟩

set_option maxHeartbeats 1000000 in
theorem f76_calls (x : Int × Int × Int) (w : World) :
    Calls Try.prog 76 #[.agg #[.int .i64 x.1, .int .i64 x.2.1, .int .i64 x.2.2]] w fun e w' => e = .returned (.bool (x.1 == 1)) ∧ Below w.heap.size w w' := by
  go_enter Try.func76, Try.ntmps76
  go_wp2
  go_ret
  exact ⟨by simp, (Below.refl _ _).alloc (Nat.le_refl _) _⟩

set_option maxHeartbeats 1000000 in
theorem f32_calls (x : Int × Int) (w : World) :
    Calls Try.prog 32 #[.agg #[.int .i64 x.1, .int .i64 x.2]] w fun e w' => e = .returned (.bool (decide (200 < x.1))) ∧ Below w.heap.size w w' := by
  go_enter Try.func32, Try.ntmps32
  go_wp2
  go_ret
  exact ⟨by simp, (Below.refl _ _).alloc (Nat.le_refl _) _⟩

theorem f61_calls (x : Int) (w : World) :
    Calls Try.prog 61 #[.int .i64 x] w fun e w' => e = .returned (.bool (!bd 0 1000 x)) ∧ Below w.heap.size w w' := by
  go_enter Try.func61, Try.ntmps61
  go_wp2_with (go_at_call 51; refine (bd_calls _ _ _ _ rfl _).mono ?_; rintro e w' ⟨rfl, rfl⟩)
  go_ret
  exact ⟨by rfl, Below.refl _ _⟩

theorem bd_lo (x : Int) (h : x < 0) : (!bd 0 1000 x) = true := by unfold bd; rw [Bool.eq_iff_iff]; simp; omega
theorem bd_hi (x : Int) (h : ¬ x < 0) : (!bd 0 1000 x) = decide (1000 < x) := by unfold bd; rw [Bool.eq_iff_iff]; simp; omega
theorem f43_calls (x : Int) (w : World) :
    Calls Try.prog 43 #[.int .i64 x] w fun e w' => e = .returned (.bool (!bd 0 1000 x)) ∧ Below w.heap.size w w' := by
  by_cases h0 : x < 0
  · have h0b : decide (x < 0) = true := decide_eq_true h0
    go_enter Try.func43, Try.ntmps43
    go_wp2
    go_ret
    exact ⟨by rw [bd_lo x h0]; rfl, Below.refl _ _⟩
  · have h0b : decide (x < 0) = false := decide_eq_false h0
    go_enter Try.func43, Try.ntmps43
    go_wp2
    go_ret
    exact ⟨by rw [bd_hi x (by omega)]; rfl, Below.refl _ _⟩
def Thr.headOk (t : Thr) : Bool := bd 2 1048576 t.grain && (bd 1 16 t.procs.length && (decide (t.mail.length ≤ 4000) && (bd 0 1099511627776 t.out && !(t.ended && t.out != 0))))
def Thr.ok (t : Thr) : Bool := t.headOk && (!t.procs.any (fun x => !holderOk x) && (!t.mail.any (fun x => !letterOk t.procs.length x) && t.wsum == t.out))
def Thr.check (t : Thr) : Int := if t.ok then 0 else 280

theorem bd_iff (lo hi a : Int) : bd lo hi a = true ↔ lo ≤ a ∧ a ≤ hi := by unfold bd; simp
theorem holder_iff (x : Int × Int) : holderOk x = true ↔ (0 ≤ x.1 ∧ x.1 ≤ 1000000) ∧ (0 ≤ x.2 ∧ x.2 ≤ 1099511627776) ∧ (x.1 = 0 ↔ x.2 = 0) := by
  have h : ((x.1 == 0) == (x.2 == 0)) = true ↔ (x.1 = 0 ↔ x.2 = 0) := by rw [beq_iff_eq, Bool.eq_iff_iff]; simp
  unfold holderOk
  rw [Bool.and_eq_true, Bool.and_eq_true, bd_iff, bd_iff, h]
theorem letter_iff (np : Int) (l : Int × Int × Int) : letterOk np l = true ↔
    (l.1 = 3 ∧ l.2.2 = 0 ∧ 0 ≤ l.2.1 ∧ l.2.1 ≤ np - 1) ∨ (l.1 = 2 ∧ l.2.1 = 0 ∧ 1 ≤ l.2.2 ∧ l.2.2 ≤ 1099511627776) ∨
    ((l.1 = 1 ∨ l.1 = 4) ∧ (0 ≤ l.2.1 ∧ l.2.1 ≤ np - 1) ∧ 1 ≤ l.2.2 ∧ l.2.2 ≤ 1099511627776) := by
  unfold letterOk
  split
  · rename_i h; simp [h, bd_iff]
  · split
    · rename_i h1 h; simp [h, bd_iff]
    · split
      · rename_i h1 h2 h; simp [h1, h2, h, bd_iff]
      · rename_i h1 h2 h; simp [h1, h2, h]

theorem wts_of {t : Thr} (hl : bd 1 16 t.procs.length = true) (hm : t.mail.length ≤ 4000) (hp : t.procs.any (fun x => !holderOk x) = false) (hq : t.mail.any (fun x => !letterOk t.procs.length x) = false) : t.Wts := by
  rw [bd_iff] at hl
  refine ⟨fun x hx => ?_, fun x hx => ?_, by omega, hm⟩
  · have : holderOk x = true := by simpa using List.any_eq_false.1 hp x hx
    exact ((holder_iff x).1 this).2.1
  · have : letterOk t.procs.length x = true := by simpa using List.any_eq_false.1 hq x hx
    rcases (letter_iff _ x).1 this with h | h | h <;> omega

theorem Rd.slice_below {w w1 : World} {A : Option Addr} {cs : List Value} (h : Rd w A cs) (hb : Below w.heap.size w w1) : Rd w1 A cs := h.below hb (Nat.le_refl _)
theorem weights_calls' (ws : Int) (t : Thr) (v : Value) (w : World) (hv : ThrV w v t) (he : ws = wsumL t.procs t.mail) (hw : t.Wts) :
    Calls Try.prog 57 #[v] w fun e w' => e = .returned (.int .i64 ws) ∧ Below w.heap.size w w' := by
  rw [he]; exact weights_calls t v w hv hw

set_option maxHeartbeats 4000000 in
theorem check_calls (t : Thr) (v : Value) (w : World) (hv : ThrV w v t) (hl : t.Lens) :
    Calls Try.prog 20 #[v] w fun e w' => e = .returned (.int .i64 t.check) ∧ Below w.heap.size w w' := by
  obtain ⟨gr, ou, ps, ms, en⟩ := t
  obtain ⟨A1, c1, A2, c2, rfl, k1, k2, k3, k4, k5, k6⟩ := hv
  obtain ⟨hl1, hl2⟩ := hl
  simp only at hl1 hl2 k1 k2 k3 k4 k5 k6
  obtain ⟨W0, hW0⟩ : ∃ W0, W0 = w.alloc (.cells #[.int .i64 gr, .int .i64 ou, .slice A1 ps.length c1, .slice A2 ms.length c2, .bool en] 25) := ⟨_, rfl⟩
  have hB0 : Below w.heap.size w W0 := by rw [hW0]; exact (Below.refl _ _).alloc (Nat.le_refl _) _
  have HV := Lib.hid (show ThrV W0 _ ⟨gr, ou, ps, ms, en⟩ from ThrV.below ⟨A1, c1, A2, c2, rfl, k1, k2, k3, k4, k5, k6⟩ hB0 (Nat.le_refl _))
  clear k1 k2 k4 k5
  have HR1 := Lib.hid (k3.below hB0 (Nat.le_refl _)); clear k3
  have HR2 := Lib.hid (k6.below hB0 (Nat.le_refl _)); clear k6
  have hsz : w.heap.size < W0.heap.size := by rw [hW0]; simp
  have HC : ∀ i u, (#[.int .i64 gr, .int .i64 ou, .slice A1 ps.length c1, .slice A2 ms.length c2, .bool en] : Array Value)[i]? = some u → W0.cell? ⟨w.heap.size, i, none⟩ = some u := by
    intro i u hu; rw [hW0]; unfold World.cell?; rw [heap_alloc_new]; simpa using hu
  have HCC := Lib.hid HC; clear HC
  have HB0 := Lib.hid hB0; clear hB0
  have HW := Lib.hid hW0; clear hW0
  rcases h1 : bd 2 1048576 gr with _ | _
  · have H1 := Lib.hid h1; clear h1
    go_enter Try.func20, Try.ntmps20
    go_wp2_with (go_at_call 51; first | (with_reducible refine (bd_calls gr _ _ _ H1.out _).mono ?_; rintro e w' ⟨rfl, rfl⟩))
    go_ret
    exact ⟨by rw [Thr.check, if_neg (by simp [Thr.ok, Thr.headOk, H1.out])]; rfl, (Below.refl _ _).alloc (Nat.le_refl _) _⟩
  have H1 := Lib.hid h1; clear h1
  rcases h2 : bd 1 16 ps.length with _ | _
  · have H2 := Lib.hid h2; clear h2
    go_enter Try.func20, Try.ntmps20
    go_wp2_with (go_at_call 51; first | (with_reducible refine (bd_calls gr _ _ _ H1.out _).mono ?_; rintro e w' ⟨rfl, rfl⟩) | (with_reducible refine (bd_calls ((ps.length : Nat) : Int) _ _ _ H2.out _).mono ?_; rintro e w' ⟨rfl, rfl⟩))
    go_ret
    exact ⟨by rw [Thr.check, if_neg (by simp [Thr.ok, Thr.headOk, H2.out])]; rfl, (Below.refl _ _).alloc (Nat.le_refl _) _⟩
  have H2 := Lib.hid h2; clear h2
  by_cases h3 : ms.length ≤ 4000
  case neg =>
    have h3b : decide (4000 < ms.length) = true := decide_eq_true (by omega)
    go_enter Try.func20, Try.ntmps20
    go_wp2_with (go_at_call 51; first | (with_reducible refine (bd_calls gr _ _ _ H1.out _).mono ?_; rintro e w' ⟨rfl, rfl⟩) | (with_reducible refine (bd_calls ((ps.length : Nat) : Int) _ _ _ H2.out _).mono ?_; rintro e w' ⟨rfl, rfl⟩))
    go_ret
    exact ⟨by rw [Thr.check, if_neg (by simp [Thr.ok, Thr.headOk, h3])]; rfl, (Below.refl _ _).alloc (Nat.le_refl _) _⟩
  have h3b : decide (4000 < ms.length) = false := decide_eq_false (by omega)
  rcases h4 : bd 0 1099511627776 ou with _ | _
  · have H4 := Lib.hid h4; clear h4
    go_enter Try.func20, Try.ntmps20
    go_wp2_with (go_at_call 51; first | (with_reducible refine (bd_calls gr _ _ _ H1.out _).mono ?_; rintro e w' ⟨rfl, rfl⟩) | (with_reducible refine (bd_calls ((ps.length : Nat) : Int) _ _ _ H2.out _).mono ?_; rintro e w' ⟨rfl, rfl⟩) | (with_reducible refine (bd_calls ou _ _ _ H4.out _).mono ?_; rintro e w' ⟨rfl, rfl⟩))
    go_ret
    exact ⟨by rw [Thr.check, if_neg (by simp [Thr.ok, Thr.headOk, H4.out])]; rfl, (Below.refl _ _).alloc (Nat.le_refl _) _⟩
  have H4 := Lib.hid h4; clear h4
  by_cases h5 : en = true ∧ ou ≠ 0
  · obtain ⟨rfl, h5o⟩ := h5
    have h5b : (ou != 0) = true := by simpa using h5o
    go_enter Try.func20, Try.ntmps20
    go_wp2_with (go_at_call 51; first | (with_reducible refine (bd_calls gr _ _ _ H1.out _).mono ?_; rintro e w' ⟨rfl, rfl⟩) | (with_reducible refine (bd_calls ((ps.length : Nat) : Int) _ _ _ H2.out _).mono ?_; rintro e w' ⟨rfl, rfl⟩) | (with_reducible refine (bd_calls ou _ _ _ H4.out _).mono ?_; rintro e w' ⟨rfl, rfl⟩))
    go_ret
    exact ⟨by rw [Thr.check, if_neg (by simp [Thr.ok, Thr.headOk, h5b])]; rfl, (Below.refl _ _).alloc (Nat.le_refl _) _⟩
  have HF1 := Lib.hid (containsFuncH 52 #[] (fun x => !holderOk x) ps A1 c1 W0 hl1 HR1.out cf52 fun w1 x _ _ => f52_calls x w1)
  have HFF2 : ∀ w1, Below W0.heap.size W0 w1 → _ := fun w1 hb1 => containsFuncL 55 #[.pointer (some ⟨w.heap.size, 0, none⟩)] (fun x => !letterOk ps.length x) ms A2 c2 w1 hl2 (HR2.out.below hb1 (Nat.le_refl _)) cf55
    (fun w2 x hb2 _ => f55_calls x w.heap.size ps.length c1 A1 w2 hl1 (((hb1.trans (hb2.mono hb1.size)).cell (p := ⟨w.heap.size, 2, none⟩) hsz).trans (HCC.out 2 _ rfl)))
  have HF2 := Lib.hid HFF2; clear HFF2
  have HEN := Lib.hid (show en = true → (ou != 0) = false from fun he => by simpa [he] using h5)
  clear h5
  rcases h6 : ps.any (fun x => !holderOk x) with _ | _
  case true =>
    have hfin : Thr.check ⟨gr, ou, ps, ms, en⟩ = 280 := by rw [Thr.check, if_neg (by simp [Thr.ok, h6])]
    have Hfin := Lib.hid hfin; clear hfin
    rw [h6] at HF1
    clear h6
    cases en
    all_goals
      (try have h5c : (ou != 0) = false := HEN.out rfl)
      go_enter Try.func20, Try.ntmps20
      go_wp2_with (go_at_call 51; first | (with_reducible refine (bd_calls gr _ _ _ H1.out _).mono ?_; rintro e w' ⟨rfl, rfl⟩) | (with_reducible refine (bd_calls ((ps.length : Nat) : Int) _ _ _ H2.out _).mono ?_; rintro e w' ⟨rfl, rfl⟩) | (with_reducible refine (bd_calls ou _ _ _ H4.out _).mono ?_; rintro e w' ⟨rfl, rfl⟩))
      rw [← HW.out]
      refine HF1.out.mono ?_
      rintro e w1 ⟨rfl, hb1⟩
      have Hb1 := Lib.hid hb1; clear hb1
      go_wp2
      go_quiet (fail)
      go_wp2
      go_ret
      exact ⟨by rw [Hfin.out]; rfl, HB0.out.trans (below_drewN ((Hb1.out).mono (Nat.le_of_lt hsz)) _)⟩
  have H6 := Lib.hid h6
  rw [h6] at HF1
  clear h6
  rcases h7 : ms.any (fun x => !letterOk ps.length x) with _ | _
  case true =>
    have hfin : Thr.check ⟨gr, ou, ps, ms, en⟩ = 280 := by rw [Thr.check, if_neg (by simp [Thr.ok, h7])]
    have Hfin := Lib.hid hfin; clear hfin
    rw [h7] at HF2
    clear h7
    cases en
    all_goals
      (try have h5c : (ou != 0) = false := HEN.out rfl)
      go_enter Try.func20, Try.ntmps20
      go_wp2_with (go_at_call 51; first | (with_reducible refine (bd_calls gr _ _ _ H1.out _).mono ?_; rintro e w' ⟨rfl, rfl⟩) | (with_reducible refine (bd_calls ((ps.length : Nat) : Int) _ _ _ H2.out _).mono ?_; rintro e w' ⟨rfl, rfl⟩) | (with_reducible refine (bd_calls ou _ _ _ H4.out _).mono ?_; rintro e w' ⟨rfl, rfl⟩))
      rw [← HW.out]
      refine HF1.out.mono ?_
      rintro e w1 ⟨rfl, hb1⟩
      have Hb1 := Lib.hid hb1; clear hb1
      have gg3 := (Hb1.out.cell (p := ⟨w.heap.size, 3, none⟩) hsz).trans (HCC.out 3 _ rfl)
      go_wp2_with fail
      refine (HF2.out w1 Hb1.out).mono ?_
      rintro e w2 ⟨rfl, hb2⟩
      have Hb2 := Lib.hid (Hb1.out.trans (hb2.mono Hb1.out.size)); clear hb2 gg3
      go_wp2
      go_quiet (fail)
      go_wp2
      go_ret
      exact ⟨by rw [Hfin.out]; rfl, HB0.out.trans (below_drewN ((Hb2.out).mono (Nat.le_of_lt hsz)) _)⟩
  have H7 := Lib.hid h7
  rw [h7] at HF2
  clear h7
  obtain ⟨ws, hws⟩ : ∃ ws, ws = wsumL ps ms := ⟨_, rfl⟩
  obtain ⟨R, h8, hfin⟩ : ∃ R : Int, (((ws != ou) = true ∧ R = 280) ∨ ((ws != ou) = false ∧ R = 0)) ∧ Thr.check ⟨gr, ou, ps, ms, en⟩ = R := by
    by_cases h8 : ws = ou
    · refine ⟨0, .inr ⟨by simpa using h8, rfl⟩, ?_⟩
      have he := HEN.out
      rw [Thr.check, if_pos]
      have h6 := H6.out
      have h7 := H7.out
      simp only [Thr.ok, Thr.headOk, H1.out, H2.out, H4.out, h6, h7, decide_eq_true h3, Thr.wsum, ← hws, h8]
      cases en
      · simp
      · simp [he rfl]
    · refine ⟨280, .inl ⟨by simpa using h8, rfl⟩, ?_⟩
      rw [Thr.check, if_neg]
      simp only [Thr.ok, Thr.wsum, ← hws]
      have : (ws == ou) = false := by simpa using h8
      simp [this]
  have HWT := Lib.hid (show ∀ e', Thr.Wts ⟨gr, ou, ps, ms, e'⟩ from fun e' => wts_of (t := ⟨gr, ou, ps, ms, e'⟩) H2.out h3 H6.out H7.out)
  have Hws := Lib.hid hws; clear hws
  have Hfin := Lib.hid hfin; clear hfin
  rcases h8 with ⟨h8, rfl⟩ | ⟨h8, rfl⟩
  all_goals
    cases en
    all_goals
      (try have h5c : (ou != 0) = false := HEN.out rfl)
      go_enter Try.func20, Try.ntmps20
      go_wp2_with (go_at_call 51; first | (with_reducible refine (bd_calls gr _ _ _ H1.out _).mono ?_; rintro e w' ⟨rfl, rfl⟩) | (with_reducible refine (bd_calls ((ps.length : Nat) : Int) _ _ _ H2.out _).mono ?_; rintro e w' ⟨rfl, rfl⟩) | (with_reducible refine (bd_calls ou _ _ _ H4.out _).mono ?_; rintro e w' ⟨rfl, rfl⟩))
      rw [← HW.out]
      refine HF1.out.mono ?_
      rintro e w1 ⟨rfl, hb1⟩
      have Hb1 := Lib.hid hb1; clear hb1
      have gg3 := (Hb1.out.cell (p := ⟨w.heap.size, 3, none⟩) hsz).trans (HCC.out 3 _ rfl)
      go_wp2_with fail
      refine (HF2.out w1 Hb1.out).mono ?_
      rintro e w2 ⟨rfl, hb2⟩
      have Hb2 := Lib.hid (Hb1.out.trans (hb2.mono Hb1.out.size)); clear hb2 gg3
      have gg0 := (Hb2.out.cell (p := ⟨w.heap.size, 0, none⟩) hsz).trans (HCC.out 0 _ rfl)
      have gg1 := (Hb2.out.cell (p := ⟨w.heap.size, 1, none⟩) hsz).trans (HCC.out 1 _ rfl)
      have gg2 := (Hb2.out.cell (p := ⟨w.heap.size, 2, none⟩) hsz).trans (HCC.out 2 _ rfl)
      have gg3 := (Hb2.out.cell (p := ⟨w.heap.size, 3, none⟩) hsz).trans (HCC.out 3 _ rfl)
      have gg4 := (Hb2.out.cell (p := ⟨w.heap.size, 4, none⟩) hsz).trans (HCC.out 4 _ rfl)
      go_wp2
      go_region_with (go_at_call 57; refine (weights_calls' ws _ _ _ (HV.out.below Hb2.out.drew (Nat.le_refl _)) Hws.out (HWT.out _)).mono ?_; rintro e w3 ⟨rfl, hb3⟩; have Hb3 := Lib.hid (Hb2.out.drew.trans (hb3.mono Hb2.out.size)); clear hb3; have gg5 := (Hb3.out.cell (p := ⟨w.heap.size, 1, none⟩) hsz).trans (HCC.out 1 _ rfl))
      all_goals
        go_wp2
        go_ret
        exact ⟨by rw [Hfin.out]; rfl, HB0.out.trans (Hb3.out.mono (Nat.le_of_lt hsz))⟩
end Go.Proofs.Ythdlmnkefheliaa
