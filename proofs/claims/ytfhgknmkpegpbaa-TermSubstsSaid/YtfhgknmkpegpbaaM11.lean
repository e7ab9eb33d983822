/- Part 11 of the base: the walks and plain facts that the statement rests on. -/
import Derived.Test.YtfhgknmkpegpbaaM10
import Derived.Test.YtfhgknmkpegpbaaM4

set_option linter.unusedVariables false
set_option linter.unusedSimpArgs false
namespace Go.Proofs.Ytfhgknmkpegpbaa
open Go.RowKit
def cmpE (a b : List Tm) (i : Nat) : Tm := (sgL a i).sub (sgL b)
noncomputable def cmpO (a b : List Tm) (i : Nat) : Tm := if sameB (cmpE a b i) (Tm.va i) = true then Tm.zero else cmpE a b i
noncomputable def composeR (a b : List Tm) : Option (List Tm) :=
 if subB a = true ∧ subB b = true then (if (List.range (max a.length b.length)).all (fun i => isB (cmpE a b i)) = true then some ((List.range (max a.length b.length)).map (cmpO a b)) else none) else none
def composeE (a b : List Tm) : Int := if subB a = true ∧ subB b = true then 2 else 1
def RetML (w : World) (r : Option (List Tm)) (er : Int) (e : Ending) (w' : World) : Prop :=
 ∃ A c, e = .returned (.tuple #[.slice A (r.getD []).length c, .int .i64 (if r.isSome then 0 else er)]) ∧ TmC (w.heap.size ≤ ·) w' A c (r.getD []) ∧ Below w.heap.size w w'
theorem subB_len {l : List Tm} (h : subB l = true) : l.length ≤ 100000 := by
 unfold subB at h; rw [Bool.and_eq_true, decide_eq_true_eq] at h; exact h.1
theorem subB_at {l : List Tm} (h : subB l = true) {y : Tm} (hy : y ∈ l) : freeB y = false → isB y = true := fun hf => by
 unfold subB at h
 rw [Bool.and_eq_true, Bool.not_eq_true', List.any_eq_false] at h
 have := h.2 y hy
 unfold badB at this
 rw [hf] at this
 simpa using this
theorem va_isB {k : Nat} (h : k < 100000) : isB (Tm.va k) = true := isB_iff.2 ⟨va_ok (by omega) (by omega), by show 1 + 0 ≤ 4000; omega, by show 0 + 1 ≤ 600; omega⟩
theorem SubC.fin {P : Nat → Prop} {w : World} {g : Nat} {sub : List Tm} (h : SubC P w g sub) (hP : P g) (hl : sub.length ≤ 9223372036854775807) : TmC P w (some ⟨g, 0, none⟩) sub.length sub := by
 obtain ⟨es, rfl, h2, h3⟩ := h
 rw [List.length_map] at hl ⊢
 exact TmC.lit es h3 h2 hP hl
theorem SubC.mono {P Q : Nat → Prop} {w : World} {g : Nat} {sub : List Tm} (h : SubC P w g sub) (hPQ : ∀ j, P j → Q j) : SubC Q w g sub := by
 obtain ⟨es, h1, h2, h3⟩ := h
 exact ⟨es, h1, h2, fun e he => ⟨(h3 e he).1, (h3 e he).2.mono hPQ⟩⟩
section
variable {P : Program} {ops : Array Oper} {Q : Exit → Act → World → Prop} {md : Region.Mode} {S : World → Prop}
theorem twoH {i j : Nat} {fuel : Nat} {listed : Array Bool} {a : Act} {w : World} (hr : Region.ready md ops listed = [i, j]) (hi : (ops[i]?).isSome = true) (hj : (ops[j]?).isSome = true)
  (h : ∀ o, ops[i]? = some o → ∀ K' : Act → World → Prop, Shut (∀ a w, S w → (S w → wpAnyH P md ops Q S fuel (listed.setIfInBounds i true) a w) → K' a w) → if Region.wanted o (yielded ops a.tmps) = true then Oper.wp P o a w K' Q else K' (a.put o.dst undef) w)
  (h2 : ∀ o, ops[j]? = some o → ∀ K' : Act → World → Prop, Shut (∀ a w, S w → (S w → wpAnyH P md ops Q S fuel (listed.setIfInBounds j true) a w) → K' a w) → if Region.wanted o (yielded ops a.tmps) = true then Oper.wp P o a w K' Q else K' (a.put o.dst undef) w) :
  wpAnyH P md ops Q S (fuel + 1) listed a w := by
 cases ho : ops[i]? with
 | none => rw [ho] at hi; cases hi
 | some o =>
  cases ho2 : ops[j]? with
  | none => rw [ho2] at hj; cases hj
  | some o2 => exact wpAnyH_ready hr (by simp) (AllReadyH.cons ho (h o ho) (AllReadyH.cons ho2 (h2 o2 ho2) AllReadyH.nil))
end
set_option maxRecDepth 100000 in
set_option maxHeartbeats 8000000 in
theorem compose_calls (a b : List Tm) (P Q : Nat → Prop) (w : World) (A : Option Addr) (c : Nat) (B : Option Addr) (d : Nat) (ha : TmC P w A c a) (hb : TmC Q w B d b) :
  Calls Try.prog 53 #[.slice A a.length c, .slice B b.length d] w (RetML w (composeR a b) (composeE a b)) := by
 have hal := ha.len; have hbl := hb.len
 have Ha := Lib.hid (ha.inside.mono (Q := (· < w.heap.size)) (fun g h => h.2)); have Hbb := Lib.hid (hb.inside.mono (Q := (· < w.heap.size)) (fun g h => h.2)); clear ha hb
 obtain ⟨sa, hsa⟩ : ∃ s, s = subB a := ⟨_, rfl⟩
 obtain ⟨sb, hsb⟩ : ∃ s, s = subB b := ⟨_, rfl⟩
 obtain ⟨R, hR⟩ : ∃ R, R = composeR a b := ⟨_, rfl⟩
 obtain ⟨er, her⟩ : ∃ er, er = composeE a b := ⟨_, rfl⟩
 rw [← hR, ← her]
 unfold composeR at hR
 unfold composeE at her
 rw [← hsa, ← hsb] at hR her
 have HR := Lib.hid hR; have Her := Lib.hid her; have Hsa := Lib.hid hsa; have Hsb := Lib.hid hsb; clear hR her
 have hcall := substitution_calls a _ A c w Ha.out
 rw [← hsa] at hcall
 have Hcall := Lib.hid hcall; clear hcall hsa hsb
 go_enter Try.func53, Try.ntmps53
 go_wp2_with fail
 refine Hcall.out.mono ?_
 rintro e w1 ⟨rfl, hb1⟩
 have HB1 := Lib.hid hb1; clear hb1 Hcall
 cases sa
 case false =>
  have hr : R = none := by have := HR.out; simpa using this
  have her : er = 1 := by have := Her.out; simpa using this
  subst hr her
  go_wp2
  exact bodyPost_ret (v := .tuple #[.slice none 0 0, .int .i64 1]) (by simp [results, Try.results53, go_sem]) rfl (R := RetML w none 1) ⟨none, 0, rfl, TmC.nil _ _ (by omega) (fun _ => rfl), HB1.out⟩
 have hcall := substitution_calls b _ B d w1 (Hbb.out.stay HB1.out (Nat.le_refl _))
 rw [← Hsb.out] at hcall
 have Hcall := Lib.hid hcall; clear hcall
 go_wp2_with fail
 refine Hcall.out.mono ?_
 rintro e w2 ⟨rfl, hb2⟩
 have HB2 := Lib.hid (HB1.out.trans (hb2.mono HB1.out.size)); clear hb2 Hcall HB1
 cases sb
 case false =>
  have hr : R = none := by have := HR.out; simpa using this
  have her : er = 1 := by have := Her.out; simpa using this
  subst hr her
  go_wp2
  exact bodyPost_ret (v := .tuple #[.slice none 0 0, .int .i64 1]) (by simp [results, Try.results53, go_sem]) rfl (R := RetML w none 1) ⟨none, 0, rfl, TmC.nil _ _ (by omega) (fun _ => rfl), HB2.out⟩
 have her : er = 2 := by have := Her.out; simpa using this
 subst her
 clear Her
 have hr := HR.out; simp only [and_self, if_true] at hr
 have Hr := Lib.hid hr; clear hr HR
 have hla := subB_len Hsa.out.symm; have hlb := subB_len Hsb.out.symm
 obtain ⟨m, hm⟩ : ∃ m : Nat, m = max a.length b.length := ⟨_, rfl⟩
 rw [← hm] at Hr
 have hm1 : m ≤ 100000 := by omega
 have hmx : max (a.length : Int) (b.length : Int) = (m : Int) := by omega
 have hmk := fun W => mkT m hm1 W
 have hm0 : (0 : Int) ≤ (m : Int) := by omega
 have Hm := Lib.hid hm; clear hm
 go_wp2
 try rw [hmx]
 go_wp2
 obtain ⟨W3, hW3⟩ : ∃ W, W = w2.alloc (.cells (madeCells zc (m * 4)) 25) := ⟨_, rfl⟩
 rw [← hW3]
 obtain ⟨G, hG⟩ : ∃ G, G = w2.heap.size := ⟨_, rfl⟩
 have HS3 := Lib.hid (show SubC (fun j => w.heap.size ≤ j ∧ j ≠ G) W3 G (List.replicate m Tm.zero) from by rw [hW3, hG]; exact SubC.made _ _ _)
 have HB3 := Lib.hid (show Below w.heap.size w W3 from by rw [hW3]; exact HB2.out.alloc HB2.out.size _)
 have HGw := Lib.hid (show w.heap.size ≤ G from by rw [hG]; exact HB2.out.size)
 rw [← hG]
 clear hW3 hG HB2
 go_wp2
 go_loopw [28] (fun i wr => ∃ k : Nat, k ≤ m ∧ i = .int .i64 k ∧ Hid ((List.range k).all (fun i => isB (cmpE a b i)) = true) ∧ Hid (SubC (fun j => w.heap.size ≤ j ∧ j ≠ G) wr G ((List.range k).map (cmpO a b) ++ List.replicate (m - k) Tm.zero)) ∧ Hid (Below w.heap.size w wr)) (fun i _ => m - (intOf i).toNat)
 case atStart => exact ⟨0, Nat.zero_le _, rfl, Lib.hid rfl, Lib.hid (by simpa using HS3.out), HB3⟩
 case round =>
  obtain ⟨k, hk, rfl, Hal, HS, HB⟩ := hrel
  by_cases hlt : k < m
  case neg =>
   have hke : k = m := by omega
   subst hke
   have hr : R = some ((List.range k).map (cmpO a b)) := by have := Hr.out; rw [if_pos Hal.out] at this; exact this
   subst hr
   have hs := HS.out; rw [Nat.sub_self, List.replicate_zero, List.append_nil] at hs
   have hlen : ((List.range k).map (cmpO a b)).length = k := by simp
   have hf := hs.mono (Q := (w.heap.size ≤ ·)) (fun j h => h.1)
   have hf2 := hf.fin HGw.out (by omega)
   rw [hlen] at hf2
   have Hf := Lib.hid hf2; clear hf hf2 hs
   go_wp2
   exact bodyPost_ret (v := .tuple #[.slice (some ⟨G, 0, none⟩) k k, .int .i64 0]) (by simp [results, Try.results53, go_sem]) rfl (R := RetML w _ 2) ⟨some ⟨G, 0, none⟩, k, by rw [show (some ((List.range k).map (cmpO a b))).getD [] = (List.range k).map (cmpO a b) from rfl, hlen]; rfl, Hf.out, HB.out⟩
  have hsg := HS.out.lt
  obtain ⟨U1, hU1⟩ : ∃ U, U = (wr.alloc (.cells #[.int .i64 1, .int .i64 (k : Int), .string ⟨#[]⟩, .slice none 0 0] 25)).alloc (.cells #[.int .i64 1, .int .i64 (k : Int), .string ⟨#[]⟩, .slice none 0 0] 25) := ⟨_, rfl⟩
  have hbU : Below wr.heap.size wr U1 := by rw [hU1]; exact ((Below.refl _ _).alloc (Nat.le_refl _) _).alloc (by simp) _
  have HO1 := Lib.hid (show Blk U1 wr.heap.size 25 #[.int .i64 1, .int .i64 (k : Int), .string ⟨#[]⟩, .slice none 0 0] from by rw [hU1]; exact (Blk.new _ _ _).alloc _)
  have HT1 := Lib.hid (show Blk U1 (wr.heap.size + 1) 25 #[.int .i64 1, .int .i64 (k : Int), .string ⟨#[]⟩, .slice none 0 0] from by rw [hU1]; exact Blk.new' (by simp))
  have HBU1 := Lib.hid hbU
  have HU1 := Lib.hid hU1; clear hU1 hbU
  have hwb := HB.out.size
  go_upto_region 9 with (fail)
  rw [← HU1.out]
  clear HU1
  by_cases hj : k < a.length
  case neg =>
   have d1 : decide ((k : Int) < (a.length : Int)) = false := decide_eq_false (by omega)
   have hz := sgL_none hj
   go_upto_region 11 with (fail)
   have hzo := va_isB (k := k) (by omega)
   have hR2 := repT_eq (pickF b) (isB_iff.1 hzo).1
   rw [show (Tm.va k).sub (sgF (pickF b)) = cmpE a b k from by unfold cmpE; rw [hz]; rfl] at hR2
   obtain ⟨R2, hR2e⟩ : ∃ R2, R2 = repT (pickF b) (Tm.va k) := ⟨_, rfl⟩
   rw [← hR2e] at hR2
   have hsz : (Tm.va k).size ≤ 1000000 := by have := (isB_iff.1 hzo).2.1; omega
   have hvar : ∀ x ∈ (Tm.va k).pre, x.k = 1 → 0 ≤ x.n ∧ x.n < 100000 := fun x hx hk => var_bd (okB_pre (Tm.va k) (isB_iff.1 hzo).1 x hx) hk
   have hBw : Below w.heap.size w U1 := HB.out.trans (HBU1.out.mono HB.out.size)
   have hrep : ∀ W cb, Below U1.heap.size U1 W → U1.heap.size ≤ cb → Blk W cb 22 #[.slice B b.length d] → Calls Try.prog 85 #[.agg #[.int .i64 1, .int .i64 (k : Int), .string ⟨#[]⟩, .slice none 0 0], .func (.func 133) #[] #[.pointer (some ⟨cb, 0, none⟩)]] W (RetME W R2 2) := fun W cb hW hcb hbk => by
    have hsW := hW.size
    have hw2s := hBw.size
    rw [hR2e]
    refine replaced_calls 133 cb (pickF b) (fun g => g < w.heap.size) (fun W' => Blk W' cb 22 #[.slice B b.length d] ∧ TmC (fun g => g < w.heap.size) W' B d b) W (fun q W' W'' h1 h2 h3 => ⟨h2.1.but h3 (by have := hbk.lt; omega), h2.2.but h3 (fun g hg => by omega)⟩) (fun g hg => by omega) (fun _ _ => rfl)
     (fun n x hx => pickF_size Hsb.out.symm hx) (fun W' n h1 h2 h3 => picked1_calls b _ B d cb W' n h1.1 h1.2 h2 h3) (Tm.va k) (fun _ => True) _ (TmV.va _ _ _) ⟨hbk, (Hbb.out.stay hBw (Nat.le_refl _)).stay hW (Nat.le_refl _)⟩ hsz hvar
   have Hrep := Lib.hid hrep; have HR2 := Lib.hid hR2; have HBw := Lib.hid hBw; clear hrep hsz hvar hR2 hR2e hBw hz hzo
   obtain ⟨⟨t0, t1, t2, t3⟩, -⟩ := HT1.out.four; have tl := HT1.out.lt
   have hbase : ∀ p ∈ ([(⟨wr.heap.size + 1, 0, none⟩, .int .i64 1), (⟨wr.heap.size + 1, 1, none⟩, .int .i64 (k : Int)), (⟨wr.heap.size + 1, 2, none⟩, .string ⟨#[]⟩), (⟨wr.heap.size + 1, 3, none⟩, .slice none 0 0)] : List (Addr × Value)), U1.cell? p.1 = some p.2 := fun p hp => by simp only [List.mem_cons, List.not_mem_nil, or_false] at hp; rcases hp with rfl | rfl | rfl | rfl <;> assumption
   have Hbase := Lib.hid hbase; clear hbase
   go_wp2_with fail
   refine wp_region_noPanic ?_
   refine wp_region_held_drew (S := SW U1 [(⟨wr.heap.size + 1, 0, none⟩, .int .i64 1), (⟨wr.heap.size + 1, 1, none⟩, .int .i64 (k : Int)), (⟨wr.heap.size + 1, 2, none⟩, .string ⟨#[]⟩), (⟨wr.heap.size + 1, 3, none⟩, .slice none 0 0)]) (by kernel_rfl) ?_ (fun hHeld => ?_)
   ·exact SW.start Hbase.out
   clear t0 t1 t2 t3 tl
   obtain ⟨wd, hwd⟩ : ∃ W, W = U1.drew := ⟨_, rfl⟩
   rw [← hwd] at hHeld ⊢
   have Hsd := Lib.hid (show wd.heap.size = U1.heap.size from by rw [hwd]; rfl); clear hwd
   refine takeH (i := 0) (d := 51) (.agg #[.int .i64 1, .int .i64 (k : Int), .string ⟨#[]⟩, .slice none 0 0]) (by kernel_rfl) (by kernel_rfl) (by kernel_rfl) (by kernel_rfl) (fun _ _ _ _ h => h) (fun o ho => ?_) hHeld ?_
   ·simp only [List.getElem?_toArray, List.getElem?_cons_zero, List.getElem?_cons_succ, Option.some.injEq] at ho
    subst ho
    refine Or.inl ⟨by rfl, fun w hSw => ?_⟩
    have s0 := hSw.at 0 rfl
    have s1 := hSw.at 1 rfl
    have s2 := hSw.at 2 rfl
    have s3 := hSw.at 3 rfl
    go_simp
   simp only [Act.put, List.setIfInBounds_toArray, List.set_cons_zero, List.set_cons_succ]
   refine takeH (i := 1) (d := 52) (.slice B b.length d) (by kernel_rfl) (by kernel_rfl) (by kernel_rfl) (by kernel_rfl) (fun _ _ _ _ h => h) (fun o ho => ?_) hHeld ?_
   ·simp only [List.getElem?_toArray, List.getElem?_cons_zero, List.getElem?_cons_succ, Option.some.injEq] at ho
    subst ho
    refine Or.inl ⟨by rfl, fun w hSw => ?_⟩
    go_simp
   simp only [Act.put, List.setIfInBounds_toArray, List.set_cons_zero, List.set_cons_succ]
   refine twoH (i := 2) (j := 7) (by kernel_rfl) (by kernel_rfl) (by kernel_rfl) (fun o ho K2 hK => ?_) (fun o ho K2 hK => ?_)
   ·
    simp only [List.getElem?_toArray, List.getElem?_cons_zero, List.getElem?_cons_succ, Option.some.injEq] at ho
    subst ho
    go_simp
    refine (picked_calls _ _ _ _).mono ?_
    rintro e y1 ⟨rfl, hwx⟩
    dsimp only
    have hb : Below wd.heap.size wd y1 := by rw [hwx]; exact (Below.refl _ _).alloc (Nat.le_refl _) _
    have HC := Lib.hid (show Blk y1 wd.heap.size 22 #[.slice B b.length d] from by rw [hwx]; exact Blk.new _ _ _)
    refine hK.out _ _ (hHeld.below hb) (fun hHeld => ?_)
    clear hK K2 hwx
    try simp only [Act.put, List.setIfInBounds_toArray, List.set_cons_zero, List.set_cons_succ]
    refine twoH (i := 3) (j := 7) (by kernel_rfl) (by kernel_rfl) (by kernel_rfl) (fun o ho K2 hK => ?_) (fun o ho K2 hK => ?_)
    ·
     simp only [List.getElem?_toArray, List.getElem?_cons_zero, List.getElem?_cons_succ, Option.some.injEq] at ho
     subst ho
     go_simp
     refine (Hrep.out y1 _ hHeld.1.out (by have h1 := Hsd.out; first | omega | (have h2 := HZl.out; omega)) HC.out).mono ?_
     rintro e u3 ⟨A2, c2, rfl, hs2, hx2, hb⟩
     generalize hz : (if R2.isSome = true then (0 : Int) else 2) = er2; have Hz := Lib.hid hz; clear hz
     dsimp only
     have Hx2 := Lib.hid hx2; have Hs2 := Lib.hid hs2; clear hx2 hs2
     have HW3 := Lib.hid hb
     refine hK.out _ _ (hHeld.below hb) (fun hHeld => ?_)
     clear hK K2 hb
     try simp only [Act.put, List.setIfInBounds_toArray, List.set_cons_zero, List.set_cons_succ]
     refine takeH (i := 4) (d := 50) (.tuple #[.agg #[.int .i64 (R2.getD Tm.zero).k, .int .i64 (R2.getD Tm.zero).n, .string (R2.getD Tm.zero).s, .slice A2 (R2.getD Tm.zero).l.length c2], .int .i64 er2]) (by kernel_rfl) (by kernel_rfl) (by kernel_rfl) (by kernel_rfl) (fun _ _ _ _ h => h) (fun o ho => ?_) hHeld ?_
     ·simp only [List.getElem?_toArray, List.getElem?_cons_zero, List.getElem?_cons_succ, Option.some.injEq] at ho
      subst ho
      refine Or.inl ⟨by rfl, fun w hSw => ?_⟩
      go_simp
     simp only [Act.put, List.setIfInBounds_toArray, List.set_cons_zero, List.set_cons_succ]
     refine takeH (i := 5) (d := 55) (.agg #[.int .i64 (R2.getD Tm.zero).k, .int .i64 (R2.getD Tm.zero).n, .string (R2.getD Tm.zero).s, .slice A2 (R2.getD Tm.zero).l.length c2]) (by kernel_rfl) (by kernel_rfl) (by kernel_rfl) (by kernel_rfl) (fun _ _ _ _ h => h) (fun o ho => ?_) hHeld ?_
     ·simp only [List.getElem?_toArray, List.getElem?_cons_zero, List.getElem?_cons_succ, Option.some.injEq] at ho
      subst ho
      refine Or.inl ⟨by rfl, fun w hSw => ?_⟩
      go_simp
     simp only [Act.put, List.setIfInBounds_toArray, List.set_cons_zero, List.set_cons_succ]
     refine takeH (i := 6) (d := 56) (.int .i64 er2) (by kernel_rfl) (by kernel_rfl) (by kernel_rfl) (by kernel_rfl) (fun _ _ _ _ h => h) (fun o ho => ?_) hHeld ?_
     ·simp only [List.getElem?_toArray, List.getElem?_cons_zero, List.getElem?_cons_succ, Option.some.injEq] at ho
      subst ho
      refine Or.inl ⟨by rfl, fun w hSw => ?_⟩
      go_simp
     simp only [Act.put, List.setIfInBounds_toArray, List.set_cons_zero, List.set_cons_succ]
     refine stepH (i := 7) (by kernel_rfl) (by kernel_rfl) (fun o ho K2 hK => ?_)
     simp only [List.getElem?_toArray, List.getElem?_cons_zero, List.getElem?_cons_succ, Option.some.injEq] at ho
     subst ho
     go_simp
     obtain ⟨y2, hwx⟩ : ∃ W, W = u3.alloc (.cells #[.int .i64 0, .int .i64 0, .string ⟨#[]⟩, .slice none 0 0] 25) := ⟨_, rfl⟩
     rw [← hwx]
     have hb : Below u3.heap.size u3 y2 := by rw [hwx]; exact (Below.refl _ _).alloc (Nat.le_refl _) _
     have HZ := Lib.hid (show Blk y2 u3.heap.size 25 #[.int .i64 0, .int .i64 0, .string ⟨#[]⟩, .slice none 0 0] from by rw [hwx]; exact Blk.new _ _ _)
     refine hK.out _ _ (hHeld.below hb) (fun hHeld => ?_)
     clear hK K2 hwx
     try simp only [Act.put, List.setIfInBounds_toArray, List.set_cons_zero, List.set_cons_succ]
     have Hbx := Lib.hid (show U1.heap.size ≤ u3.heap.size from by have h1 := HW3.out.size; have h2 := HC.out.lt; have h3 := Hsd.out; omega)
     have HxW := Lib.hid ((Hx2.out.inside.stay hb (Nat.le_refl _)).mono (Q := fun g => U1.heap.size ≤ g ∧ g ≠ u3.heap.size) (fun g hg => ⟨by have h1 := hg.1; have h2 := HC.out.lt; have h3 := Hsd.out; omega, by have h1 := hg.2; omega⟩)); clear hb
     have HO2 := Lib.hid (show Blk y2 wr.heap.size 25 _ from HO1.out.below hHeld.1.out HO1.out.lt)
     obtain ⟨⟨z0, z1, z2, z3⟩, ⟨g0, g1, g2, g3⟩⟩ := HZ.out.four; have zl := HZ.out.lt
     refine stepH (i := 8) (by kernel_rfl) (by kernel_rfl) (fun o ho K2 hK => ?_)
     simp only [List.getElem?_toArray, List.getElem?_cons_zero, List.getElem?_cons_succ, Option.some.injEq] at ho
     subst ho
     go_simp
     obtain ⟨U5, hU5⟩ : ∃ U, U = (((y2.setCell ⟨u3.heap.size, 0, none⟩ (.int .i64 (R2.getD Tm.zero).k)).setCell ⟨u3.heap.size, 1, none⟩ (.int .i64 (R2.getD Tm.zero).n)).setCell ⟨u3.heap.size, 2, none⟩ (.string (R2.getD Tm.zero).s)).setCell ⟨u3.heap.size, 3, none⟩ (.slice A2 (R2.getD Tm.zero).l.length c2) := ⟨_, rfl⟩
     rw [← hU5]
     have hbut : But (u3.heap.size) y2 U5 := by rw [hU5]; exact ((((But.refl _ _).setCell 0 _).setCell 1 _).setCell 2 _).setCell 3 _
     have HX5 := Lib.hid (show Blk U5 (u3.heap.size) 25 #[.int .i64 (R2.getD Tm.zero).k, .int .i64 (R2.getD Tm.zero).n, .string (R2.getD Tm.zero).s, .slice A2 (R2.getD Tm.zero).l.length c2] from by rw [hU5]; exact set4_at y2 (u3.heap.size) _ 25 HZ.out rfl _ _ _ _)
     have HO5 := Lib.hid (show Blk U5 wr.heap.size 25 _ from (hbut.block _ HO2.out.lt (by have := HO1.out.lt; have := Hbx.out; omega)).trans HO2.out)
     have HBU5 := Lib.hid (show Below U1.heap.size U1 U5 from hHeld.1.out.trans (hbut.below Hbx.out hHeld.1.out.size))
     have Hx5 := Lib.hid ((HxW.out.but hbut (fun g hg => hg.2)).mono (Q := fun g => U1.heap.size ≤ g) (fun g hg => hg.1))
     refine hK.out _ _ ⟨HBU5, fun p hp => keep_cell HBU5.out (Hbase.out p hp)⟩ (fun hHeld => ?_)
     clear hK K2 z0 z1 z2 z3 g0 g1 g2 g3 zl
     try simp only [Act.put, List.setIfInBounds_toArray, List.set_cons_zero, List.set_cons_succ]
     refine takeH (i := 9) (d := 11) (.int .i64 er2) (by kernel_rfl) (by kernel_rfl) (by kernel_rfl) (by kernel_rfl) (fun _ _ _ _ h => h) (fun o ho => ?_) hHeld ?_
     ·simp only [List.getElem?_toArray, List.getElem?_cons_zero, List.getElem?_cons_succ, Option.some.injEq] at ho
      subst ho
      refine Or.inl ⟨by rfl, fun w hSw => ?_⟩
      go_simp
     simp only [Act.put, List.setIfInBounds_toArray, List.set_cons_zero, List.set_cons_succ]
     refine wpAnyH_done (by kernel_rfl) ?_ _
     refine NoPanic.normal ?_
     obtain ⟨bx, hbx⟩ : ∃ b, b = u3.heap.size := ⟨_, rfl⟩
     rw [← hbx] at HX5 ⊢
     clear hU5 hbut hbx Hbx HO2 Hx2 HxW HZ HC hHeld Hbase Hrep
     by_cases hib : isB (cmpE a b k) = true
     case neg =>
      have hn : R2 = none := by rw [HR2.out, if_neg hib]
      subst hn
      obtain rfl : er2 = 2 := by have := Hz.out; simpa using this.symm
      have hr : R = none := by
       rw [Hr.out, if_neg]
       intro h
       rw [List.all_eq_true] at h
       exact hib (h k (List.mem_range.2 hlt))
      subst hr
      have HBF := Lib.hid (HBw.out.trans (HBU5.out.mono HBw.out.size))
      go_wp2
      exact bodyPost_ret (v := .tuple #[.slice none 0 0, .int .i64 2]) (by simp [results, Try.results53, go_sem]) rfl (R := RetML w none 2) ⟨none, 0, rfl, TmC.nil _ _ (by omega) (fun _ => rfl), HBF.out⟩
     have hn : R2 = some (cmpE a b k) := by rw [HR2.out, if_pos hib]
     subst hn
     obtain rfl : er2 = 0 := by have := Hz.out; simpa using this.symm
     clear Hz
     obtain ⟨x, hx⟩ : ∃ x, x = cmpE a b k := ⟨_, rfl⟩
     have Hal2 := Lib.hid (show (List.range (k + 1)).all (fun i => isB (cmpE a b i)) = true from by rw [List.range_succ, List.all_append, Hal.out]; simp [hib])
     rw [← hx] at Hs2 Hx5 HX5 HR2 ⊢
     rw [show (some x).getD Tm.zero = x from rfl] at Hs2 Hx5 HX5 ⊢
     have Hx := Lib.hid hx; clear hx hib HR2
     obtain ⟨q, hq⟩ : ∃ q, q = sameB x (Tm.va k) := ⟨_, rfl⟩
     have hcall := same_calls x _ (fun _ => True) U5 _ (vV k) (Tm.va k) ⟨A2, c2, rfl, Hs2.out, Hx5.out⟩ (TmV.va _ _ _)
     rw [← hq] at hcall; simp only [vV] at hcall
     have Hcall := Lib.hid hcall; have Hq := Lib.hid hq; clear hcall hq
     obtain ⟨⟨x0, x1, x2, x3⟩, -⟩ := HX5.out.four; have xl := HX5.out.lt; obtain ⟨⟨o0, o1, o2, o3⟩, -⟩ := HO5.out.four; have ol := HO5.out.lt
     go_wp2_with fail
     refine Hcall.out.mono ?_
     rintro e u6 ⟨rfl, hb6⟩
     clear x0 x1 x2 x3 xl o0 o1 o2 o3 ol Hcall HO5
     have hB6 : Below U1.heap.size U1 u6 := HBU5.out.trans (hb6.mono HBU5.out.size)
     have HX6 := Lib.hid (HX5.out.below hb6 HX5.out.lt); have Hx6 := Lib.hid (Hx5.out.stay hb6 (Nat.le_refl _))
     have hBr6 : Below wr.heap.size wr u6 := HBU1.out.trans (hB6.mono HBU1.out.size)
     have HS6 := Lib.hid (HS.out.below hBr6 (Nat.le_refl _)); have HB6 := Lib.hid (HB.out.trans (hBr6.mono HB.out.size))
     have Hrs := Lib.hid (show wr.heap.size ≤ U1.heap.size from HBU1.out.size)
     clear hb6 hB6 hBr6 HX5 Hx5 HBU5
     have hmk1 : m - k = (m - (k + 1)) + 1 := by omega
     cases q
     case true =>
      have Hnew := Lib.hid (show SubC (fun j => w.heap.size ≤ j ∧ j ≠ G) u6 G ((List.range (k + 1)).map (cmpO a b) ++ List.replicate (m - (k + 1)) Tm.zero) from by
       have h1 := HS6.out
       rw [hmk1, List.replicate_succ] at h1
       have h2 : cmpO a b k = Tm.zero := by unfold cmpO; rw [← Hx.out, ← Hq.out, if_pos rfl]
       rw [List.range_succ, List.map_append, List.map_singleton, h2, List.append_assoc]; exact h1)
      go_wp2
      go_roundw
      case rel => exact ⟨k + 1, by omega, by go_num, Hal2, Hnew, HB6⟩
      case measure => simp [intOf]; omega
     have hlen : ((List.range k).map (cmpO a b) ++ List.replicate (m - k) Tm.zero).length = m := by simp; omega
     have hput := HS6.out.put (n := k) (by rw [hlen]; exact hlt) Hs2.out (Hx6.out.mono (Q := fun j => w.heap.size ≤ j ∧ j ≠ G) (fun j hj => ⟨by have := Hrs.out; omega, by have := Hrs.out; omega⟩)) (fun j hj => hj.2)
     have Hnew := Lib.hid (show SubC (fun j => w.heap.size ≤ j ∧ j ≠ G) _ G ((List.range (k + 1)).map (cmpO a b) ++ List.replicate (m - (k + 1)) Tm.zero) from by
      have h1 := hput
      rw [hmk1, List.replicate_succ, List.set_append_right _ _ (by simp)] at h1
      simp only [List.length_map, List.length_range, Nat.sub_self, List.set_cons_zero] at h1
      have h2 : cmpO a b k = x := by unfold cmpO; rw [← Hx.out, ← Hq.out, if_neg (by simp)]
      rw [List.range_succ, List.map_append, List.map_singleton, h2, List.append_assoc]; exact h1)
     have hgw := HGw.out
     have HB7 := Lib.hid ((((HB6.out.setCell (p := ⟨G, k * 4, none⟩) hgw (.int .i64 x.k)).setCell (p := ⟨G, k * 4 + 1, none⟩) hgw (.int .i64 x.n)).setCell (p := ⟨G, k * 4 + 2, none⟩) hgw (.string x.s)).setCell (p := ⟨G, k * 4 + 3, none⟩) hgw (.slice A2 x.l.length c2))
     obtain ⟨⟨x0, x1, x2, x3⟩, -⟩ := HX6.out.four; have xl := HX6.out.lt
     obtain ⟨y, hy⟩ : ∃ y, ((List.range k).map (cmpO a b) ++ List.replicate (m - k) Tm.zero)[k]? = some y := ⟨_, List.getElem?_eq_getElem (by rw [hlen]; exact hlt)⟩
     obtain ⟨A6, c6, q0, q1, q2, q3, -, -⟩ := HS6.out.cells hy
     have f0 := HS6.out.frozen (k * 4); have f1 := HS6.out.frozen (k * 4 + 1); have f2 := HS6.out.frozen (k * 4 + 2); have f3 := HS6.out.frozen (k * 4 + 3); have gl := HS6.out.lt
     have hk0 : (0 : Int) ≤ (k : Int) := by omega
     have hk1 : (k : Int) < (m : Int) := by omega
     clear hput hy hlen hgw
     go_wp2
     go_roundw
     case rel => exact ⟨k + 1, by omega, by go_num, Hal2, Hnew, HB7⟩
     case measure => simp [intOf]; omega
    ·
     simp only [List.getElem?_toArray, List.getElem?_cons_zero, List.getElem?_cons_succ, Option.some.injEq] at ho
     subst ho
     go_simp
     obtain ⟨y2, hwx⟩ : ∃ W, W = y1.alloc (.cells #[.int .i64 0, .int .i64 0, .string ⟨#[]⟩, .slice none 0 0] 25) := ⟨_, rfl⟩
     rw [← hwx]
     have hb : Below y1.heap.size y1 y2 := by rw [hwx]; exact (Below.refl _ _).alloc (Nat.le_refl _) _
     have HZ := Lib.hid (show Blk y2 y1.heap.size 25 #[.int .i64 0, .int .i64 0, .string ⟨#[]⟩, .slice none 0 0] from by rw [hwx]; exact Blk.new _ _ _)
     refine hK.out _ _ (hHeld.below hb) (fun hHeld => ?_)
     clear hK K2 hwx
     try simp only [Act.put, List.setIfInBounds_toArray, List.set_cons_zero, List.set_cons_succ]
     have HC2 := Lib.hid (HC.out.below hb HC.out.lt); have HCl := Lib.hid HC.out.lt; clear HC; have HC := HC2; clear HC2; have HZl := Lib.hid HZ.out.lt; clear hb
     refine stepH (i := 3) (by kernel_rfl) (by kernel_rfl) (fun o ho K2 hK => ?_)
     simp only [List.getElem?_toArray, List.getElem?_cons_zero, List.getElem?_cons_succ, Option.some.injEq] at ho
     subst ho
     go_simp
     refine (Hrep.out y2 _ hHeld.1.out (by have h1 := Hsd.out; first | omega | (have h2 := HZl.out; omega)) HC.out).mono ?_
     rintro e u3 ⟨A2, c2, rfl, hs2, hx2, hb⟩
     generalize hz : (if R2.isSome = true then (0 : Int) else 2) = er2; have Hz := Lib.hid hz; clear hz
     dsimp only
     have Hx2 := Lib.hid hx2; have Hs2 := Lib.hid hs2; clear hx2 hs2
     have HW3 := Lib.hid hb
     refine hK.out _ _ (hHeld.below hb) (fun hHeld => ?_)
     clear hK K2 hb
     try simp only [Act.put, List.setIfInBounds_toArray, List.set_cons_zero, List.set_cons_succ]
     have HZ2 := Lib.hid (HZ.out.below HW3.out HZl.out); clear HZ; have HZ := HZ2; clear HZ2
     refine takeH (i := 4) (d := 50) (.tuple #[.agg #[.int .i64 (R2.getD Tm.zero).k, .int .i64 (R2.getD Tm.zero).n, .string (R2.getD Tm.zero).s, .slice A2 (R2.getD Tm.zero).l.length c2], .int .i64 er2]) (by kernel_rfl) (by kernel_rfl) (by kernel_rfl) (by kernel_rfl) (fun _ _ _ _ h => h) (fun o ho => ?_) hHeld ?_
     ·simp only [List.getElem?_toArray, List.getElem?_cons_zero, List.getElem?_cons_succ, Option.some.injEq] at ho
      subst ho
      refine Or.inl ⟨by rfl, fun w hSw => ?_⟩
      go_simp
     simp only [Act.put, List.setIfInBounds_toArray, List.set_cons_zero, List.set_cons_succ]
     refine takeH (i := 5) (d := 55) (.agg #[.int .i64 (R2.getD Tm.zero).k, .int .i64 (R2.getD Tm.zero).n, .string (R2.getD Tm.zero).s, .slice A2 (R2.getD Tm.zero).l.length c2]) (by kernel_rfl) (by kernel_rfl) (by kernel_rfl) (by kernel_rfl) (fun _ _ _ _ h => h) (fun o ho => ?_) hHeld ?_
     ·simp only [List.getElem?_toArray, List.getElem?_cons_zero, List.getElem?_cons_succ, Option.some.injEq] at ho
      subst ho
      refine Or.inl ⟨by rfl, fun w hSw => ?_⟩
      go_simp
     simp only [Act.put, List.setIfInBounds_toArray, List.set_cons_zero, List.set_cons_succ]
     refine takeH (i := 6) (d := 56) (.int .i64 er2) (by kernel_rfl) (by kernel_rfl) (by kernel_rfl) (by kernel_rfl) (fun _ _ _ _ h => h) (fun o ho => ?_) hHeld ?_
     ·simp only [List.getElem?_toArray, List.getElem?_cons_zero, List.getElem?_cons_succ, Option.some.injEq] at ho
      subst ho
      refine Or.inl ⟨by rfl, fun w hSw => ?_⟩
      go_simp
     simp only [Act.put, List.setIfInBounds_toArray, List.set_cons_zero, List.set_cons_succ]
     have Hbx := Lib.hid (show U1.heap.size ≤ y1.heap.size from by have h2 := HCl.out; have h3 := Hsd.out; omega)
     have HxW := Lib.hid (Hx2.out.mono (Q := fun g => U1.heap.size ≤ g ∧ g ≠ y1.heap.size) (fun g hg => ⟨by have h1 := Hbx.out; have h2 := HZl.out; have h3 : y2.heap.size ≤ g := hg; omega, by have h2 := HZl.out; have h3 : y2.heap.size ≤ g := hg; omega⟩))
     have HO2 := Lib.hid (show Blk u3 wr.heap.size 25 _ from HO1.out.below hHeld.1.out HO1.out.lt)
     obtain ⟨⟨z0, z1, z2, z3⟩, ⟨g0, g1, g2, g3⟩⟩ := HZ.out.four; have zl := HZ.out.lt
     refine stepH (i := 8) (by kernel_rfl) (by kernel_rfl) (fun o ho K2 hK => ?_)
     simp only [List.getElem?_toArray, List.getElem?_cons_zero, List.getElem?_cons_succ, Option.some.injEq] at ho
     subst ho
     go_simp
     obtain ⟨U5, hU5⟩ : ∃ U, U = (((u3.setCell ⟨y1.heap.size, 0, none⟩ (.int .i64 (R2.getD Tm.zero).k)).setCell ⟨y1.heap.size, 1, none⟩ (.int .i64 (R2.getD Tm.zero).n)).setCell ⟨y1.heap.size, 2, none⟩ (.string (R2.getD Tm.zero).s)).setCell ⟨y1.heap.size, 3, none⟩ (.slice A2 (R2.getD Tm.zero).l.length c2) := ⟨_, rfl⟩
     rw [← hU5]
     have hbut : But (y1.heap.size) u3 U5 := by rw [hU5]; exact ((((But.refl _ _).setCell 0 _).setCell 1 _).setCell 2 _).setCell 3 _
     have HX5 := Lib.hid (show Blk U5 (y1.heap.size) 25 #[.int .i64 (R2.getD Tm.zero).k, .int .i64 (R2.getD Tm.zero).n, .string (R2.getD Tm.zero).s, .slice A2 (R2.getD Tm.zero).l.length c2] from by rw [hU5]; exact set4_at u3 (y1.heap.size) _ 25 HZ.out rfl _ _ _ _)
     have HO5 := Lib.hid (show Blk U5 wr.heap.size 25 _ from (hbut.block _ HO2.out.lt (by have := HO1.out.lt; have := Hbx.out; omega)).trans HO2.out)
     have HBU5 := Lib.hid (show Below U1.heap.size U1 U5 from hHeld.1.out.trans (hbut.below Hbx.out hHeld.1.out.size))
     have Hx5 := Lib.hid ((HxW.out.but hbut (fun g hg => hg.2)).mono (Q := fun g => U1.heap.size ≤ g) (fun g hg => hg.1))
     refine hK.out _ _ ⟨HBU5, fun p hp => keep_cell HBU5.out (Hbase.out p hp)⟩ (fun hHeld => ?_)
     clear hK K2 z0 z1 z2 z3 g0 g1 g2 g3 zl
     try simp only [Act.put, List.setIfInBounds_toArray, List.set_cons_zero, List.set_cons_succ]
     refine takeH (i := 9) (d := 11) (.int .i64 er2) (by kernel_rfl) (by kernel_rfl) (by kernel_rfl) (by kernel_rfl) (fun _ _ _ _ h => h) (fun o ho => ?_) hHeld ?_
     ·simp only [List.getElem?_toArray, List.getElem?_cons_zero, List.getElem?_cons_succ, Option.some.injEq] at ho
      subst ho
      refine Or.inl ⟨by rfl, fun w hSw => ?_⟩
      go_simp
     simp only [Act.put, List.setIfInBounds_toArray, List.set_cons_zero, List.set_cons_succ]
     refine wpAnyH_done (by kernel_rfl) ?_ _
     refine NoPanic.normal ?_
     obtain ⟨bx, hbx⟩ : ∃ b, b = y1.heap.size := ⟨_, rfl⟩
     rw [← hbx] at HX5 ⊢
     clear hU5 hbut hbx Hbx HO2 Hx2 HxW HZ HC hHeld Hbase Hrep
     by_cases hib : isB (cmpE a b k) = true
     case neg =>
      have hn : R2 = none := by rw [HR2.out, if_neg hib]
      subst hn
      obtain rfl : er2 = 2 := by have := Hz.out; simpa using this.symm
      have hr : R = none := by
       rw [Hr.out, if_neg]
       intro h
       rw [List.all_eq_true] at h
       exact hib (h k (List.mem_range.2 hlt))
      subst hr
      have HBF := Lib.hid (HBw.out.trans (HBU5.out.mono HBw.out.size))
      go_wp2
      exact bodyPost_ret (v := .tuple #[.slice none 0 0, .int .i64 2]) (by simp [results, Try.results53, go_sem]) rfl (R := RetML w none 2) ⟨none, 0, rfl, TmC.nil _ _ (by omega) (fun _ => rfl), HBF.out⟩
     have hn : R2 = some (cmpE a b k) := by rw [HR2.out, if_pos hib]
     subst hn
     obtain rfl : er2 = 0 := by have := Hz.out; simpa using this.symm
     clear Hz
     obtain ⟨x, hx⟩ : ∃ x, x = cmpE a b k := ⟨_, rfl⟩
     have Hal2 := Lib.hid (show (List.range (k + 1)).all (fun i => isB (cmpE a b i)) = true from by rw [List.range_succ, List.all_append, Hal.out]; simp [hib])
     rw [← hx] at Hs2 Hx5 HX5 HR2 ⊢
     rw [show (some x).getD Tm.zero = x from rfl] at Hs2 Hx5 HX5 ⊢
     have Hx := Lib.hid hx; clear hx hib HR2
     obtain ⟨q, hq⟩ : ∃ q, q = sameB x (Tm.va k) := ⟨_, rfl⟩
     have hcall := same_calls x _ (fun _ => True) U5 _ (vV k) (Tm.va k) ⟨A2, c2, rfl, Hs2.out, Hx5.out⟩ (TmV.va _ _ _)
     rw [← hq] at hcall; simp only [vV] at hcall
     have Hcall := Lib.hid hcall; have Hq := Lib.hid hq; clear hcall hq
     obtain ⟨⟨x0, x1, x2, x3⟩, -⟩ := HX5.out.four; have xl := HX5.out.lt; obtain ⟨⟨o0, o1, o2, o3⟩, -⟩ := HO5.out.four; have ol := HO5.out.lt
     go_wp2_with fail
     refine Hcall.out.mono ?_
     rintro e u6 ⟨rfl, hb6⟩
     clear x0 x1 x2 x3 xl o0 o1 o2 o3 ol Hcall HO5
     have hB6 : Below U1.heap.size U1 u6 := HBU5.out.trans (hb6.mono HBU5.out.size)
     have HX6 := Lib.hid (HX5.out.below hb6 HX5.out.lt); have Hx6 := Lib.hid (Hx5.out.stay hb6 (Nat.le_refl _))
     have hBr6 : Below wr.heap.size wr u6 := HBU1.out.trans (hB6.mono HBU1.out.size)
     have HS6 := Lib.hid (HS.out.below hBr6 (Nat.le_refl _)); have HB6 := Lib.hid (HB.out.trans (hBr6.mono HB.out.size))
     have Hrs := Lib.hid (show wr.heap.size ≤ U1.heap.size from HBU1.out.size)
     clear hb6 hB6 hBr6 HX5 Hx5 HBU5
     have hmk1 : m - k = (m - (k + 1)) + 1 := by omega
     cases q
     case true =>
      have Hnew := Lib.hid (show SubC (fun j => w.heap.size ≤ j ∧ j ≠ G) u6 G ((List.range (k + 1)).map (cmpO a b) ++ List.replicate (m - (k + 1)) Tm.zero) from by
       have h1 := HS6.out
       rw [hmk1, List.replicate_succ] at h1
       have h2 : cmpO a b k = Tm.zero := by unfold cmpO; rw [← Hx.out, ← Hq.out, if_pos rfl]
       rw [List.range_succ, List.map_append, List.map_singleton, h2, List.append_assoc]; exact h1)
      go_wp2
      go_roundw
      case rel => exact ⟨k + 1, by omega, by go_num, Hal2, Hnew, HB6⟩
      case measure => simp [intOf]; omega
     have hlen : ((List.range k).map (cmpO a b) ++ List.replicate (m - k) Tm.zero).length = m := by simp; omega
     have hput := HS6.out.put (n := k) (by rw [hlen]; exact hlt) Hs2.out (Hx6.out.mono (Q := fun j => w.heap.size ≤ j ∧ j ≠ G) (fun j hj => ⟨by have := Hrs.out; omega, by have := Hrs.out; omega⟩)) (fun j hj => hj.2)
     have Hnew := Lib.hid (show SubC (fun j => w.heap.size ≤ j ∧ j ≠ G) _ G ((List.range (k + 1)).map (cmpO a b) ++ List.replicate (m - (k + 1)) Tm.zero) from by
      have h1 := hput
      rw [hmk1, List.replicate_succ, List.set_append_right _ _ (by simp)] at h1
      simp only [List.length_map, List.length_range, Nat.sub_self, List.set_cons_zero] at h1
      have h2 : cmpO a b k = x := by unfold cmpO; rw [← Hx.out, ← Hq.out, if_neg (by simp)]
      rw [List.range_succ, List.map_append, List.map_singleton, h2, List.append_assoc]; exact h1)
     have hgw := HGw.out
     have HB7 := Lib.hid ((((HB6.out.setCell (p := ⟨G, k * 4, none⟩) hgw (.int .i64 x.k)).setCell (p := ⟨G, k * 4 + 1, none⟩) hgw (.int .i64 x.n)).setCell (p := ⟨G, k * 4 + 2, none⟩) hgw (.string x.s)).setCell (p := ⟨G, k * 4 + 3, none⟩) hgw (.slice A2 x.l.length c2))
     obtain ⟨⟨x0, x1, x2, x3⟩, -⟩ := HX6.out.four; have xl := HX6.out.lt
     obtain ⟨y, hy⟩ : ∃ y, ((List.range k).map (cmpO a b) ++ List.replicate (m - k) Tm.zero)[k]? = some y := ⟨_, List.getElem?_eq_getElem (by rw [hlen]; exact hlt)⟩
     obtain ⟨A6, c6, q0, q1, q2, q3, -, -⟩ := HS6.out.cells hy
     have f0 := HS6.out.frozen (k * 4); have f1 := HS6.out.frozen (k * 4 + 1); have f2 := HS6.out.frozen (k * 4 + 2); have f3 := HS6.out.frozen (k * 4 + 3); have gl := HS6.out.lt
     have hk0 : (0 : Int) ≤ (k : Int) := by omega
     have hk1 : (k : Int) < (m : Int) := by omega
     clear hput hy hlen hgw
     go_wp2
     go_roundw
     case rel => exact ⟨k + 1, by omega, by go_num, Hal2, Hnew, HB7⟩
     case measure => simp [intOf]; omega
   ·
    simp only [List.getElem?_toArray, List.getElem?_cons_zero, List.getElem?_cons_succ, Option.some.injEq] at ho
    subst ho
    go_simp
    obtain ⟨y1, hwx⟩ : ∃ W, W = wd.alloc (.cells #[.int .i64 0, .int .i64 0, .string ⟨#[]⟩, .slice none 0 0] 25) := ⟨_, rfl⟩
    rw [← hwx]
    have hb : Below wd.heap.size wd y1 := by rw [hwx]; exact (Below.refl _ _).alloc (Nat.le_refl _) _
    have HZ := Lib.hid (show Blk y1 wd.heap.size 25 #[.int .i64 0, .int .i64 0, .string ⟨#[]⟩, .slice none 0 0] from by rw [hwx]; exact Blk.new _ _ _)
    refine hK.out _ _ (hHeld.below hb) (fun hHeld => ?_)
    clear hK K2 hwx
    try simp only [Act.put, List.setIfInBounds_toArray, List.set_cons_zero, List.set_cons_succ]
    have HZl := Lib.hid HZ.out.lt; clear hb
    refine stepH (i := 2) (by kernel_rfl) (by kernel_rfl) (fun o ho K2 hK => ?_)
    simp only [List.getElem?_toArray, List.getElem?_cons_zero, List.getElem?_cons_succ, Option.some.injEq] at ho
    subst ho
    go_simp
    refine (picked_calls _ _ _ _).mono ?_
    rintro e y2 ⟨rfl, hwx⟩
    dsimp only
    have hb : Below y1.heap.size y1 y2 := by rw [hwx]; exact (Below.refl _ _).alloc (Nat.le_refl _) _
    have HC := Lib.hid (show Blk y2 y1.heap.size 22 #[.slice B b.length d] from by rw [hwx]; exact Blk.new _ _ _)
    refine hK.out _ _ (hHeld.below hb) (fun hHeld => ?_)
    clear hK K2 hwx
    try simp only [Act.put, List.setIfInBounds_toArray, List.set_cons_zero, List.set_cons_succ]
    have HZ2 := Lib.hid (HZ.out.below hb HZl.out); clear HZ; have HZ := HZ2; clear HZ2; have HZm := Lib.hid (show y1.heap.size ≤ y2.heap.size from hb.size); clear hb
    refine stepH (i := 3) (by kernel_rfl) (by kernel_rfl) (fun o ho K2 hK => ?_)
    simp only [List.getElem?_toArray, List.getElem?_cons_zero, List.getElem?_cons_succ, Option.some.injEq] at ho
    subst ho
    go_simp
    refine (Hrep.out y2 _ hHeld.1.out (by have h1 := Hsd.out; first | omega | (have h2 := HZl.out; omega)) HC.out).mono ?_
    rintro e u3 ⟨A2, c2, rfl, hs2, hx2, hb⟩
    generalize hz : (if R2.isSome = true then (0 : Int) else 2) = er2; have Hz := Lib.hid hz; clear hz
    dsimp only
    have Hx2 := Lib.hid hx2; have Hs2 := Lib.hid hs2; clear hx2 hs2
    have HW3 := Lib.hid hb
    refine hK.out _ _ (hHeld.below hb) (fun hHeld => ?_)
    clear hK K2 hb
    try simp only [Act.put, List.setIfInBounds_toArray, List.set_cons_zero, List.set_cons_succ]
    have HZ2 := Lib.hid (HZ.out.below HW3.out HZ.out.lt); clear HZ; have HZ := HZ2; clear HZ2
    refine takeH (i := 4) (d := 50) (.tuple #[.agg #[.int .i64 (R2.getD Tm.zero).k, .int .i64 (R2.getD Tm.zero).n, .string (R2.getD Tm.zero).s, .slice A2 (R2.getD Tm.zero).l.length c2], .int .i64 er2]) (by kernel_rfl) (by kernel_rfl) (by kernel_rfl) (by kernel_rfl) (fun _ _ _ _ h => h) (fun o ho => ?_) hHeld ?_
    ·simp only [List.getElem?_toArray, List.getElem?_cons_zero, List.getElem?_cons_succ, Option.some.injEq] at ho
     subst ho
     refine Or.inl ⟨by rfl, fun w hSw => ?_⟩
     go_simp
    simp only [Act.put, List.setIfInBounds_toArray, List.set_cons_zero, List.set_cons_succ]
    refine takeH (i := 5) (d := 55) (.agg #[.int .i64 (R2.getD Tm.zero).k, .int .i64 (R2.getD Tm.zero).n, .string (R2.getD Tm.zero).s, .slice A2 (R2.getD Tm.zero).l.length c2]) (by kernel_rfl) (by kernel_rfl) (by kernel_rfl) (by kernel_rfl) (fun _ _ _ _ h => h) (fun o ho => ?_) hHeld ?_
    ·simp only [List.getElem?_toArray, List.getElem?_cons_zero, List.getElem?_cons_succ, Option.some.injEq] at ho
     subst ho
     refine Or.inl ⟨by rfl, fun w hSw => ?_⟩
     go_simp
    simp only [Act.put, List.setIfInBounds_toArray, List.set_cons_zero, List.set_cons_succ]
    refine takeH (i := 6) (d := 56) (.int .i64 er2) (by kernel_rfl) (by kernel_rfl) (by kernel_rfl) (by kernel_rfl) (fun _ _ _ _ h => h) (fun o ho => ?_) hHeld ?_
    ·simp only [List.getElem?_toArray, List.getElem?_cons_zero, List.getElem?_cons_succ, Option.some.injEq] at ho
     subst ho
     refine Or.inl ⟨by rfl, fun w hSw => ?_⟩
     go_simp
    simp only [Act.put, List.setIfInBounds_toArray, List.set_cons_zero, List.set_cons_succ]
    have Hbx := Lib.hid (show U1.heap.size ≤ wd.heap.size from by rw [Hsd.out]; exact Nat.le_refl _)
    have HxW := Lib.hid (Hx2.out.mono (Q := fun g => U1.heap.size ≤ g ∧ g ≠ wd.heap.size) (fun g hg => ⟨by have h1 := HZl.out; have h2 := HZm.out; have h3 : y2.heap.size ≤ g := hg; have h4 := Hsd.out; omega, by have h1 := HZl.out; have h2 := HZm.out; have h3 : y2.heap.size ≤ g := hg; omega⟩))
    have HO2 := Lib.hid (show Blk u3 wr.heap.size 25 _ from HO1.out.below hHeld.1.out HO1.out.lt)
    obtain ⟨⟨z0, z1, z2, z3⟩, ⟨g0, g1, g2, g3⟩⟩ := HZ.out.four; have zl := HZ.out.lt
    refine stepH (i := 8) (by kernel_rfl) (by kernel_rfl) (fun o ho K2 hK => ?_)
    simp only [List.getElem?_toArray, List.getElem?_cons_zero, List.getElem?_cons_succ, Option.some.injEq] at ho
    subst ho
    go_simp
    obtain ⟨U5, hU5⟩ : ∃ U, U = (((u3.setCell ⟨wd.heap.size, 0, none⟩ (.int .i64 (R2.getD Tm.zero).k)).setCell ⟨wd.heap.size, 1, none⟩ (.int .i64 (R2.getD Tm.zero).n)).setCell ⟨wd.heap.size, 2, none⟩ (.string (R2.getD Tm.zero).s)).setCell ⟨wd.heap.size, 3, none⟩ (.slice A2 (R2.getD Tm.zero).l.length c2) := ⟨_, rfl⟩
    rw [← hU5]
    have hbut : But (wd.heap.size) u3 U5 := by rw [hU5]; exact ((((But.refl _ _).setCell 0 _).setCell 1 _).setCell 2 _).setCell 3 _
    have HX5 := Lib.hid (show Blk U5 (wd.heap.size) 25 #[.int .i64 (R2.getD Tm.zero).k, .int .i64 (R2.getD Tm.zero).n, .string (R2.getD Tm.zero).s, .slice A2 (R2.getD Tm.zero).l.length c2] from by rw [hU5]; exact set4_at u3 (wd.heap.size) _ 25 HZ.out rfl _ _ _ _)
    have HO5 := Lib.hid (show Blk U5 wr.heap.size 25 _ from (hbut.block _ HO2.out.lt (by have := HO1.out.lt; have := Hbx.out; omega)).trans HO2.out)
    have HBU5 := Lib.hid (show Below U1.heap.size U1 U5 from hHeld.1.out.trans (hbut.below Hbx.out hHeld.1.out.size))
    have Hx5 := Lib.hid ((HxW.out.but hbut (fun g hg => hg.2)).mono (Q := fun g => U1.heap.size ≤ g) (fun g hg => hg.1))
    refine hK.out _ _ ⟨HBU5, fun p hp => keep_cell HBU5.out (Hbase.out p hp)⟩ (fun hHeld => ?_)
    clear hK K2 z0 z1 z2 z3 g0 g1 g2 g3 zl
    try simp only [Act.put, List.setIfInBounds_toArray, List.set_cons_zero, List.set_cons_succ]
    refine takeH (i := 9) (d := 11) (.int .i64 er2) (by kernel_rfl) (by kernel_rfl) (by kernel_rfl) (by kernel_rfl) (fun _ _ _ _ h => h) (fun o ho => ?_) hHeld ?_
    ·simp only [List.getElem?_toArray, List.getElem?_cons_zero, List.getElem?_cons_succ, Option.some.injEq] at ho
     subst ho
     refine Or.inl ⟨by rfl, fun w hSw => ?_⟩
     go_simp
    simp only [Act.put, List.setIfInBounds_toArray, List.set_cons_zero, List.set_cons_succ]
    refine wpAnyH_done (by kernel_rfl) ?_ _
    refine NoPanic.normal ?_
    obtain ⟨bx, hbx⟩ : ∃ b, b = wd.heap.size := ⟨_, rfl⟩
    rw [← hbx] at HX5 ⊢
    clear hU5 hbut hbx Hbx HO2 Hx2 HxW HZ HC hHeld Hbase Hrep
    by_cases hib : isB (cmpE a b k) = true
    case neg =>
     have hn : R2 = none := by rw [HR2.out, if_neg hib]
     subst hn
     obtain rfl : er2 = 2 := by have := Hz.out; simpa using this.symm
     have hr : R = none := by
      rw [Hr.out, if_neg]
      intro h
      rw [List.all_eq_true] at h
      exact hib (h k (List.mem_range.2 hlt))
     subst hr
     have HBF := Lib.hid (HBw.out.trans (HBU5.out.mono HBw.out.size))
     go_wp2
     exact bodyPost_ret (v := .tuple #[.slice none 0 0, .int .i64 2]) (by simp [results, Try.results53, go_sem]) rfl (R := RetML w none 2) ⟨none, 0, rfl, TmC.nil _ _ (by omega) (fun _ => rfl), HBF.out⟩
    have hn : R2 = some (cmpE a b k) := by rw [HR2.out, if_pos hib]
    subst hn
    obtain rfl : er2 = 0 := by have := Hz.out; simpa using this.symm
    clear Hz
    obtain ⟨x, hx⟩ : ∃ x, x = cmpE a b k := ⟨_, rfl⟩
    have Hal2 := Lib.hid (show (List.range (k + 1)).all (fun i => isB (cmpE a b i)) = true from by rw [List.range_succ, List.all_append, Hal.out]; simp [hib])
    rw [← hx] at Hs2 Hx5 HX5 HR2 ⊢
    rw [show (some x).getD Tm.zero = x from rfl] at Hs2 Hx5 HX5 ⊢
    have Hx := Lib.hid hx; clear hx hib HR2
    obtain ⟨q, hq⟩ : ∃ q, q = sameB x (Tm.va k) := ⟨_, rfl⟩
    have hcall := same_calls x _ (fun _ => True) U5 _ (vV k) (Tm.va k) ⟨A2, c2, rfl, Hs2.out, Hx5.out⟩ (TmV.va _ _ _)
    rw [← hq] at hcall; simp only [vV] at hcall
    have Hcall := Lib.hid hcall; have Hq := Lib.hid hq; clear hcall hq
    obtain ⟨⟨x0, x1, x2, x3⟩, -⟩ := HX5.out.four; have xl := HX5.out.lt; obtain ⟨⟨o0, o1, o2, o3⟩, -⟩ := HO5.out.four; have ol := HO5.out.lt
    go_wp2_with fail
    refine Hcall.out.mono ?_
    rintro e u6 ⟨rfl, hb6⟩
    clear x0 x1 x2 x3 xl o0 o1 o2 o3 ol Hcall HO5
    have hB6 : Below U1.heap.size U1 u6 := HBU5.out.trans (hb6.mono HBU5.out.size)
    have HX6 := Lib.hid (HX5.out.below hb6 HX5.out.lt); have Hx6 := Lib.hid (Hx5.out.stay hb6 (Nat.le_refl _))
    have hBr6 : Below wr.heap.size wr u6 := HBU1.out.trans (hB6.mono HBU1.out.size)
    have HS6 := Lib.hid (HS.out.below hBr6 (Nat.le_refl _)); have HB6 := Lib.hid (HB.out.trans (hBr6.mono HB.out.size))
    have Hrs := Lib.hid (show wr.heap.size ≤ U1.heap.size from HBU1.out.size)
    clear hb6 hB6 hBr6 HX5 Hx5 HBU5
    have hmk1 : m - k = (m - (k + 1)) + 1 := by omega
    cases q
    case true =>
     have Hnew := Lib.hid (show SubC (fun j => w.heap.size ≤ j ∧ j ≠ G) u6 G ((List.range (k + 1)).map (cmpO a b) ++ List.replicate (m - (k + 1)) Tm.zero) from by
      have h1 := HS6.out
      rw [hmk1, List.replicate_succ] at h1
      have h2 : cmpO a b k = Tm.zero := by unfold cmpO; rw [← Hx.out, ← Hq.out, if_pos rfl]
      rw [List.range_succ, List.map_append, List.map_singleton, h2, List.append_assoc]; exact h1)
     go_wp2
     go_roundw
     case rel => exact ⟨k + 1, by omega, by go_num, Hal2, Hnew, HB6⟩
     case measure => simp [intOf]; omega
    have hlen : ((List.range k).map (cmpO a b) ++ List.replicate (m - k) Tm.zero).length = m := by simp; omega
    have hput := HS6.out.put (n := k) (by rw [hlen]; exact hlt) Hs2.out (Hx6.out.mono (Q := fun j => w.heap.size ≤ j ∧ j ≠ G) (fun j hj => ⟨by have := Hrs.out; omega, by have := Hrs.out; omega⟩)) (fun j hj => hj.2)
    have Hnew := Lib.hid (show SubC (fun j => w.heap.size ≤ j ∧ j ≠ G) _ G ((List.range (k + 1)).map (cmpO a b) ++ List.replicate (m - (k + 1)) Tm.zero) from by
     have h1 := hput
     rw [hmk1, List.replicate_succ, List.set_append_right _ _ (by simp)] at h1
     simp only [List.length_map, List.length_range, Nat.sub_self, List.set_cons_zero] at h1
     have h2 : cmpO a b k = x := by unfold cmpO; rw [← Hx.out, ← Hq.out, if_neg (by simp)]
     rw [List.range_succ, List.map_append, List.map_singleton, h2, List.append_assoc]; exact h1)
    have hgw := HGw.out
    have HB7 := Lib.hid ((((HB6.out.setCell (p := ⟨G, k * 4, none⟩) hgw (.int .i64 x.k)).setCell (p := ⟨G, k * 4 + 1, none⟩) hgw (.int .i64 x.n)).setCell (p := ⟨G, k * 4 + 2, none⟩) hgw (.string x.s)).setCell (p := ⟨G, k * 4 + 3, none⟩) hgw (.slice A2 x.l.length c2))
    obtain ⟨⟨x0, x1, x2, x3⟩, -⟩ := HX6.out.four; have xl := HX6.out.lt
    obtain ⟨y, hy⟩ : ∃ y, ((List.range k).map (cmpO a b) ++ List.replicate (m - k) Tm.zero)[k]? = some y := ⟨_, List.getElem?_eq_getElem (by rw [hlen]; exact hlt)⟩
    obtain ⟨A6, c6, q0, q1, q2, q3, -, -⟩ := HS6.out.cells hy
    have f0 := HS6.out.frozen (k * 4); have f1 := HS6.out.frozen (k * 4 + 1); have f2 := HS6.out.frozen (k * 4 + 2); have f3 := HS6.out.frozen (k * 4 + 3); have gl := HS6.out.lt
    have hk0 : (0 : Int) ≤ (k : Int) := by omega
    have hk1 : (k : Int) < (m : Int) := by omega
    clear hput hy hlen hgw
    go_wp2
    go_roundw
    case rel => exact ⟨k + 1, by omega, by go_num, Hal2, Hnew, HB7⟩
    case measure => simp [intOf]; omega
  have d1 : decide ((k : Int) < (a.length : Int)) = true := decide_eq_true (by omega)
  obtain ⟨y, hy⟩ : ∃ y, a[k]? = some y := ⟨_, List.getElem?_eq_getElem hj⟩
  have hsgl := sgL_at hy
  have hyo := subB_at Hsa.out.symm (List.mem_of_getElem? hy)
  have hU1w := HB.out.trans (HBU1.out.mono HB.out.size)
  obtain ⟨gs, os, Ay, cy, hAs, -, ⟨e0, e1, e2, e3⟩, sy, hyc⟩ := (Ha.out.stay hU1w (Nat.le_refl _)).at_ hy
  have hcall := free_calls y _ U1 _ ⟨Ay, cy, rfl, sy, hyc⟩
  obtain ⟨f, hf⟩ : ∃ f, f = freeB y := ⟨_, rfl⟩
  rw [← hf] at hcall hsgl hyo
  have Hcall := Lib.hid hcall; have Hyc := Lib.hid hyc; have Hsgl := Lib.hid hsgl; have Hyo := Lib.hid hyo; clear hcall hyc hf hsgl hy hyo hU1w
  subst hAs
  have hk0 : (0 : Int) ≤ (k : Int) := by omega
  have hk1 : (k : Int) < (a.length : Int) := by omega
  go_wp2_with fail
  refine Hcall.out.mono ?_
  rintro e U3 ⟨rfl, hb⟩
  have HBU3 := Lib.hid (HBU1.out.trans (hb.mono HBU1.out.size)); have HT3 := Lib.hid (HT1.out.below hb HT1.out.lt); have HO3 := Lib.hid (HO1.out.below hb HO1.out.lt); have Hyc3 := Lib.hid (Hyc.out.stay hb (Nat.le_refl _))
  replace e0 := keep_cell hb e0; replace e1 := keep_cell hb e1; replace e2 := keep_cell hb e2; replace e3 := keep_cell hb e3
  clear hb Hcall HT1 HO1 HBU1 Hyc
  cases f
  case true =>
   have hz := Hsgl.out; rw [if_pos rfl] at hz
   clear Hsgl Hyo e0 e1 e2 e3 hk0 hk1
   go_upto_region 11 with (fail)
   have hzo := va_isB (k := k) (by omega)
   have hR2 := repT_eq (pickF b) (isB_iff.1 hzo).1
   rw [show (Tm.va k).sub (sgF (pickF b)) = cmpE a b k from by unfold cmpE; rw [hz]; rfl] at hR2
   obtain ⟨R2, hR2e⟩ : ∃ R2, R2 = repT (pickF b) (Tm.va k) := ⟨_, rfl⟩
   rw [← hR2e] at hR2
   have hsz : (Tm.va k).size ≤ 1000000 := by have := (isB_iff.1 hzo).2.1; omega
   have hvar : ∀ x ∈ (Tm.va k).pre, x.k = 1 → 0 ≤ x.n ∧ x.n < 100000 := fun x hx hk => var_bd (okB_pre (Tm.va k) (isB_iff.1 hzo).1 x hx) hk
   have hBw : Below w.heap.size w U3 := HB.out.trans (HBU3.out.mono HB.out.size)
   have hrep : ∀ W cb, Below U3.heap.size U3 W → U3.heap.size ≤ cb → Blk W cb 22 #[.slice B b.length d] → Calls Try.prog 85 #[.agg #[.int .i64 1, .int .i64 (k : Int), .string ⟨#[]⟩, .slice none 0 0], .func (.func 133) #[] #[.pointer (some ⟨cb, 0, none⟩)]] W (RetME W R2 2) := fun W cb hW hcb hbk => by
    have hsW := hW.size
    have hw2s := hBw.size
    rw [hR2e]
    refine replaced_calls 133 cb (pickF b) (fun g => g < w.heap.size) (fun W' => Blk W' cb 22 #[.slice B b.length d] ∧ TmC (fun g => g < w.heap.size) W' B d b) W (fun q W' W'' h1 h2 h3 => ⟨h2.1.but h3 (by have := hbk.lt; omega), h2.2.but h3 (fun g hg => by omega)⟩) (fun g hg => by omega) (fun _ _ => rfl)
     (fun n x hx => pickF_size Hsb.out.symm hx) (fun W' n h1 h2 h3 => picked1_calls b _ B d cb W' n h1.1 h1.2 h2 h3) (Tm.va k) (fun _ => True) _ (TmV.va _ _ _) ⟨hbk, (Hbb.out.stay hBw (Nat.le_refl _)).stay hW (Nat.le_refl _)⟩ hsz hvar
   have Hrep := Lib.hid hrep; have HR2 := Lib.hid hR2; have HBw := Lib.hid hBw; clear hrep hsz hvar hR2 hR2e hBw hz hzo
   obtain ⟨⟨t0, t1, t2, t3⟩, -⟩ := HT3.out.four; have tl := HT3.out.lt
   have hbase : ∀ p ∈ ([(⟨wr.heap.size + 1, 0, none⟩, .int .i64 1), (⟨wr.heap.size + 1, 1, none⟩, .int .i64 (k : Int)), (⟨wr.heap.size + 1, 2, none⟩, .string ⟨#[]⟩), (⟨wr.heap.size + 1, 3, none⟩, .slice none 0 0)] : List (Addr × Value)), U3.cell? p.1 = some p.2 := fun p hp => by simp only [List.mem_cons, List.not_mem_nil, or_false] at hp; rcases hp with rfl | rfl | rfl | rfl <;> assumption
   have Hbase := Lib.hid hbase; clear hbase
   go_wp2_with fail
   refine wp_region_noPanic ?_
   refine wp_region_held_drew (S := SW U3 [(⟨wr.heap.size + 1, 0, none⟩, .int .i64 1), (⟨wr.heap.size + 1, 1, none⟩, .int .i64 (k : Int)), (⟨wr.heap.size + 1, 2, none⟩, .string ⟨#[]⟩), (⟨wr.heap.size + 1, 3, none⟩, .slice none 0 0)]) (by kernel_rfl) ?_ (fun hHeld => ?_)
   ·exact SW.start Hbase.out
   clear t0 t1 t2 t3 tl
   obtain ⟨wd, hwd⟩ : ∃ W, W = U3.drew := ⟨_, rfl⟩
   rw [← hwd] at hHeld ⊢
   have Hsd := Lib.hid (show wd.heap.size = U3.heap.size from by rw [hwd]; rfl); clear hwd
   refine takeH (i := 0) (d := 51) (.agg #[.int .i64 1, .int .i64 (k : Int), .string ⟨#[]⟩, .slice none 0 0]) (by kernel_rfl) (by kernel_rfl) (by kernel_rfl) (by kernel_rfl) (fun _ _ _ _ h => h) (fun o ho => ?_) hHeld ?_
   ·simp only [List.getElem?_toArray, List.getElem?_cons_zero, List.getElem?_cons_succ, Option.some.injEq] at ho
    subst ho
    refine Or.inl ⟨by rfl, fun w hSw => ?_⟩
    have s0 := hSw.at 0 rfl
    have s1 := hSw.at 1 rfl
    have s2 := hSw.at 2 rfl
    have s3 := hSw.at 3 rfl
    go_simp
   simp only [Act.put, List.setIfInBounds_toArray, List.set_cons_zero, List.set_cons_succ]
   refine takeH (i := 1) (d := 52) (.slice B b.length d) (by kernel_rfl) (by kernel_rfl) (by kernel_rfl) (by kernel_rfl) (fun _ _ _ _ h => h) (fun o ho => ?_) hHeld ?_
   ·simp only [List.getElem?_toArray, List.getElem?_cons_zero, List.getElem?_cons_succ, Option.some.injEq] at ho
    subst ho
    refine Or.inl ⟨by rfl, fun w hSw => ?_⟩
    go_simp
   simp only [Act.put, List.setIfInBounds_toArray, List.set_cons_zero, List.set_cons_succ]
   refine twoH (i := 2) (j := 7) (by kernel_rfl) (by kernel_rfl) (by kernel_rfl) (fun o ho K2 hK => ?_) (fun o ho K2 hK => ?_)
   ·
    simp only [List.getElem?_toArray, List.getElem?_cons_zero, List.getElem?_cons_succ, Option.some.injEq] at ho
    subst ho
    go_simp
    refine (picked_calls _ _ _ _).mono ?_
    rintro e y1 ⟨rfl, hwx⟩
    dsimp only
    have hb : Below wd.heap.size wd y1 := by rw [hwx]; exact (Below.refl _ _).alloc (Nat.le_refl _) _
    have HC := Lib.hid (show Blk y1 wd.heap.size 22 #[.slice B b.length d] from by rw [hwx]; exact Blk.new _ _ _)
    refine hK.out _ _ (hHeld.below hb) (fun hHeld => ?_)
    clear hK K2 hwx
    try simp only [Act.put, List.setIfInBounds_toArray, List.set_cons_zero, List.set_cons_succ]
    refine twoH (i := 3) (j := 7) (by kernel_rfl) (by kernel_rfl) (by kernel_rfl) (fun o ho K2 hK => ?_) (fun o ho K2 hK => ?_)
    ·
     simp only [List.getElem?_toArray, List.getElem?_cons_zero, List.getElem?_cons_succ, Option.some.injEq] at ho
     subst ho
     go_simp
     refine (Hrep.out y1 _ hHeld.1.out (by have h1 := Hsd.out; first | omega | (have h2 := HZl.out; omega)) HC.out).mono ?_
     rintro e u3 ⟨A2, c2, rfl, hs2, hx2, hb⟩
     generalize hz : (if R2.isSome = true then (0 : Int) else 2) = er2; have Hz := Lib.hid hz; clear hz
     dsimp only
     have Hx2 := Lib.hid hx2; have Hs2 := Lib.hid hs2; clear hx2 hs2
     have HW3 := Lib.hid hb
     refine hK.out _ _ (hHeld.below hb) (fun hHeld => ?_)
     clear hK K2 hb
     try simp only [Act.put, List.setIfInBounds_toArray, List.set_cons_zero, List.set_cons_succ]
     refine takeH (i := 4) (d := 50) (.tuple #[.agg #[.int .i64 (R2.getD Tm.zero).k, .int .i64 (R2.getD Tm.zero).n, .string (R2.getD Tm.zero).s, .slice A2 (R2.getD Tm.zero).l.length c2], .int .i64 er2]) (by kernel_rfl) (by kernel_rfl) (by kernel_rfl) (by kernel_rfl) (fun _ _ _ _ h => h) (fun o ho => ?_) hHeld ?_
     ·simp only [List.getElem?_toArray, List.getElem?_cons_zero, List.getElem?_cons_succ, Option.some.injEq] at ho
      subst ho
      refine Or.inl ⟨by rfl, fun w hSw => ?_⟩
      go_simp
     simp only [Act.put, List.setIfInBounds_toArray, List.set_cons_zero, List.set_cons_succ]
     refine takeH (i := 5) (d := 55) (.agg #[.int .i64 (R2.getD Tm.zero).k, .int .i64 (R2.getD Tm.zero).n, .string (R2.getD Tm.zero).s, .slice A2 (R2.getD Tm.zero).l.length c2]) (by kernel_rfl) (by kernel_rfl) (by kernel_rfl) (by kernel_rfl) (fun _ _ _ _ h => h) (fun o ho => ?_) hHeld ?_
     ·simp only [List.getElem?_toArray, List.getElem?_cons_zero, List.getElem?_cons_succ, Option.some.injEq] at ho
      subst ho
      refine Or.inl ⟨by rfl, fun w hSw => ?_⟩
      go_simp
     simp only [Act.put, List.setIfInBounds_toArray, List.set_cons_zero, List.set_cons_succ]
     refine takeH (i := 6) (d := 56) (.int .i64 er2) (by kernel_rfl) (by kernel_rfl) (by kernel_rfl) (by kernel_rfl) (fun _ _ _ _ h => h) (fun o ho => ?_) hHeld ?_
     ·simp only [List.getElem?_toArray, List.getElem?_cons_zero, List.getElem?_cons_succ, Option.some.injEq] at ho
      subst ho
      refine Or.inl ⟨by rfl, fun w hSw => ?_⟩
      go_simp
     simp only [Act.put, List.setIfInBounds_toArray, List.set_cons_zero, List.set_cons_succ]
     refine stepH (i := 7) (by kernel_rfl) (by kernel_rfl) (fun o ho K2 hK => ?_)
     simp only [List.getElem?_toArray, List.getElem?_cons_zero, List.getElem?_cons_succ, Option.some.injEq] at ho
     subst ho
     go_simp
     obtain ⟨y2, hwx⟩ : ∃ W, W = u3.alloc (.cells #[.int .i64 0, .int .i64 0, .string ⟨#[]⟩, .slice none 0 0] 25) := ⟨_, rfl⟩
     rw [← hwx]
     have hb : Below u3.heap.size u3 y2 := by rw [hwx]; exact (Below.refl _ _).alloc (Nat.le_refl _) _
     have HZ := Lib.hid (show Blk y2 u3.heap.size 25 #[.int .i64 0, .int .i64 0, .string ⟨#[]⟩, .slice none 0 0] from by rw [hwx]; exact Blk.new _ _ _)
     refine hK.out _ _ (hHeld.below hb) (fun hHeld => ?_)
     clear hK K2 hwx
     try simp only [Act.put, List.setIfInBounds_toArray, List.set_cons_zero, List.set_cons_succ]
     have Hbx := Lib.hid (show U3.heap.size ≤ u3.heap.size from by have h1 := HW3.out.size; have h2 := HC.out.lt; have h3 := Hsd.out; omega)
     have HxW := Lib.hid ((Hx2.out.inside.stay hb (Nat.le_refl _)).mono (Q := fun g => U3.heap.size ≤ g ∧ g ≠ u3.heap.size) (fun g hg => ⟨by have h1 := hg.1; have h2 := HC.out.lt; have h3 := Hsd.out; omega, by have h1 := hg.2; omega⟩)); clear hb
     have HO2 := Lib.hid (show Blk y2 wr.heap.size 25 _ from HO3.out.below hHeld.1.out HO3.out.lt)
     obtain ⟨⟨z0, z1, z2, z3⟩, ⟨g0, g1, g2, g3⟩⟩ := HZ.out.four; have zl := HZ.out.lt
     refine stepH (i := 8) (by kernel_rfl) (by kernel_rfl) (fun o ho K2 hK => ?_)
     simp only [List.getElem?_toArray, List.getElem?_cons_zero, List.getElem?_cons_succ, Option.some.injEq] at ho
     subst ho
     go_simp
     obtain ⟨U5, hU5⟩ : ∃ U, U = (((y2.setCell ⟨u3.heap.size, 0, none⟩ (.int .i64 (R2.getD Tm.zero).k)).setCell ⟨u3.heap.size, 1, none⟩ (.int .i64 (R2.getD Tm.zero).n)).setCell ⟨u3.heap.size, 2, none⟩ (.string (R2.getD Tm.zero).s)).setCell ⟨u3.heap.size, 3, none⟩ (.slice A2 (R2.getD Tm.zero).l.length c2) := ⟨_, rfl⟩
     rw [← hU5]
     have hbut : But (u3.heap.size) y2 U5 := by rw [hU5]; exact ((((But.refl _ _).setCell 0 _).setCell 1 _).setCell 2 _).setCell 3 _
     have HX5 := Lib.hid (show Blk U5 (u3.heap.size) 25 #[.int .i64 (R2.getD Tm.zero).k, .int .i64 (R2.getD Tm.zero).n, .string (R2.getD Tm.zero).s, .slice A2 (R2.getD Tm.zero).l.length c2] from by rw [hU5]; exact set4_at y2 (u3.heap.size) _ 25 HZ.out rfl _ _ _ _)
     have HO5 := Lib.hid (show Blk U5 wr.heap.size 25 _ from (hbut.block _ HO2.out.lt (by have := HO3.out.lt; have := Hbx.out; omega)).trans HO2.out)
     have HBU5 := Lib.hid (show Below U3.heap.size U3 U5 from hHeld.1.out.trans (hbut.below Hbx.out hHeld.1.out.size))
     have Hx5 := Lib.hid ((HxW.out.but hbut (fun g hg => hg.2)).mono (Q := fun g => U3.heap.size ≤ g) (fun g hg => hg.1))
     refine hK.out _ _ ⟨HBU5, fun p hp => keep_cell HBU5.out (Hbase.out p hp)⟩ (fun hHeld => ?_)
     clear hK K2 z0 z1 z2 z3 g0 g1 g2 g3 zl
     try simp only [Act.put, List.setIfInBounds_toArray, List.set_cons_zero, List.set_cons_succ]
     refine takeH (i := 9) (d := 11) (.int .i64 er2) (by kernel_rfl) (by kernel_rfl) (by kernel_rfl) (by kernel_rfl) (fun _ _ _ _ h => h) (fun o ho => ?_) hHeld ?_
     ·simp only [List.getElem?_toArray, List.getElem?_cons_zero, List.getElem?_cons_succ, Option.some.injEq] at ho
      subst ho
      refine Or.inl ⟨by rfl, fun w hSw => ?_⟩
      go_simp
     simp only [Act.put, List.setIfInBounds_toArray, List.set_cons_zero, List.set_cons_succ]
     refine wpAnyH_done (by kernel_rfl) ?_ _
     refine NoPanic.normal ?_
     obtain ⟨bx, hbx⟩ : ∃ b, b = u3.heap.size := ⟨_, rfl⟩
     rw [← hbx] at HX5 ⊢
     clear hU5 hbut hbx Hbx HO2 Hx2 HxW HZ HC hHeld Hbase Hrep
     by_cases hib : isB (cmpE a b k) = true
     case neg =>
      have hn : R2 = none := by rw [HR2.out, if_neg hib]
      subst hn
      obtain rfl : er2 = 2 := by have := Hz.out; simpa using this.symm
      have hr : R = none := by
       rw [Hr.out, if_neg]
       intro h
       rw [List.all_eq_true] at h
       exact hib (h k (List.mem_range.2 hlt))
      subst hr
      have HBF := Lib.hid (HBw.out.trans (HBU5.out.mono HBw.out.size))
      go_wp2
      exact bodyPost_ret (v := .tuple #[.slice none 0 0, .int .i64 2]) (by simp [results, Try.results53, go_sem]) rfl (R := RetML w none 2) ⟨none, 0, rfl, TmC.nil _ _ (by omega) (fun _ => rfl), HBF.out⟩
     have hn : R2 = some (cmpE a b k) := by rw [HR2.out, if_pos hib]
     subst hn
     obtain rfl : er2 = 0 := by have := Hz.out; simpa using this.symm
     clear Hz
     obtain ⟨x, hx⟩ : ∃ x, x = cmpE a b k := ⟨_, rfl⟩
     have Hal2 := Lib.hid (show (List.range (k + 1)).all (fun i => isB (cmpE a b i)) = true from by rw [List.range_succ, List.all_append, Hal.out]; simp [hib])
     rw [← hx] at Hs2 Hx5 HX5 HR2 ⊢
     rw [show (some x).getD Tm.zero = x from rfl] at Hs2 Hx5 HX5 ⊢
     have Hx := Lib.hid hx; clear hx hib HR2
     obtain ⟨q, hq⟩ : ∃ q, q = sameB x (Tm.va k) := ⟨_, rfl⟩
     have hcall := same_calls x _ (fun _ => True) U5 _ (vV k) (Tm.va k) ⟨A2, c2, rfl, Hs2.out, Hx5.out⟩ (TmV.va _ _ _)
     rw [← hq] at hcall; simp only [vV] at hcall
     have Hcall := Lib.hid hcall; have Hq := Lib.hid hq; clear hcall hq
     obtain ⟨⟨x0, x1, x2, x3⟩, -⟩ := HX5.out.four; have xl := HX5.out.lt; obtain ⟨⟨o0, o1, o2, o3⟩, -⟩ := HO5.out.four; have ol := HO5.out.lt
     go_wp2_with fail
     refine Hcall.out.mono ?_
     rintro e u6 ⟨rfl, hb6⟩
     clear x0 x1 x2 x3 xl o0 o1 o2 o3 ol Hcall HO5
     have hB6 : Below U3.heap.size U3 u6 := HBU5.out.trans (hb6.mono HBU5.out.size)
     have HX6 := Lib.hid (HX5.out.below hb6 HX5.out.lt); have Hx6 := Lib.hid (Hx5.out.stay hb6 (Nat.le_refl _))
     have hBr6 : Below wr.heap.size wr u6 := HBU3.out.trans (hB6.mono HBU3.out.size)
     have HS6 := Lib.hid (HS.out.below hBr6 (Nat.le_refl _)); have HB6 := Lib.hid (HB.out.trans (hBr6.mono HB.out.size))
     have Hrs := Lib.hid (show wr.heap.size ≤ U3.heap.size from HBU3.out.size)
     clear hb6 hB6 hBr6 HX5 Hx5 HBU5
     have hmk1 : m - k = (m - (k + 1)) + 1 := by omega
     cases q
     case true =>
      have Hnew := Lib.hid (show SubC (fun j => w.heap.size ≤ j ∧ j ≠ G) u6 G ((List.range (k + 1)).map (cmpO a b) ++ List.replicate (m - (k + 1)) Tm.zero) from by
       have h1 := HS6.out
       rw [hmk1, List.replicate_succ] at h1
       have h2 : cmpO a b k = Tm.zero := by unfold cmpO; rw [← Hx.out, ← Hq.out, if_pos rfl]
       rw [List.range_succ, List.map_append, List.map_singleton, h2, List.append_assoc]; exact h1)
      go_wp2
      go_roundw
      case rel => exact ⟨k + 1, by omega, by go_num, Hal2, Hnew, HB6⟩
      case measure => simp [intOf]; omega
     have hlen : ((List.range k).map (cmpO a b) ++ List.replicate (m - k) Tm.zero).length = m := by simp; omega
     have hput := HS6.out.put (n := k) (by rw [hlen]; exact hlt) Hs2.out (Hx6.out.mono (Q := fun j => w.heap.size ≤ j ∧ j ≠ G) (fun j hj => ⟨by have := Hrs.out; omega, by have := Hrs.out; omega⟩)) (fun j hj => hj.2)
     have Hnew := Lib.hid (show SubC (fun j => w.heap.size ≤ j ∧ j ≠ G) _ G ((List.range (k + 1)).map (cmpO a b) ++ List.replicate (m - (k + 1)) Tm.zero) from by
      have h1 := hput
      rw [hmk1, List.replicate_succ, List.set_append_right _ _ (by simp)] at h1
      simp only [List.length_map, List.length_range, Nat.sub_self, List.set_cons_zero] at h1
      have h2 : cmpO a b k = x := by unfold cmpO; rw [← Hx.out, ← Hq.out, if_neg (by simp)]
      rw [List.range_succ, List.map_append, List.map_singleton, h2, List.append_assoc]; exact h1)
     have hgw := HGw.out
     have HB7 := Lib.hid ((((HB6.out.setCell (p := ⟨G, k * 4, none⟩) hgw (.int .i64 x.k)).setCell (p := ⟨G, k * 4 + 1, none⟩) hgw (.int .i64 x.n)).setCell (p := ⟨G, k * 4 + 2, none⟩) hgw (.string x.s)).setCell (p := ⟨G, k * 4 + 3, none⟩) hgw (.slice A2 x.l.length c2))
     obtain ⟨⟨x0, x1, x2, x3⟩, -⟩ := HX6.out.four; have xl := HX6.out.lt
     obtain ⟨y, hy⟩ : ∃ y, ((List.range k).map (cmpO a b) ++ List.replicate (m - k) Tm.zero)[k]? = some y := ⟨_, List.getElem?_eq_getElem (by rw [hlen]; exact hlt)⟩
     obtain ⟨A6, c6, q0, q1, q2, q3, -, -⟩ := HS6.out.cells hy
     have f0 := HS6.out.frozen (k * 4); have f1 := HS6.out.frozen (k * 4 + 1); have f2 := HS6.out.frozen (k * 4 + 2); have f3 := HS6.out.frozen (k * 4 + 3); have gl := HS6.out.lt
     have hk0 : (0 : Int) ≤ (k : Int) := by omega
     have hk1 : (k : Int) < (m : Int) := by omega
     clear hput hy hlen hgw
     go_wp2
     go_roundw
     case rel => exact ⟨k + 1, by omega, by go_num, Hal2, Hnew, HB7⟩
     case measure => simp [intOf]; omega
    ·
     simp only [List.getElem?_toArray, List.getElem?_cons_zero, List.getElem?_cons_succ, Option.some.injEq] at ho
     subst ho
     go_simp
     obtain ⟨y2, hwx⟩ : ∃ W, W = y1.alloc (.cells #[.int .i64 0, .int .i64 0, .string ⟨#[]⟩, .slice none 0 0] 25) := ⟨_, rfl⟩
     rw [← hwx]
     have hb : Below y1.heap.size y1 y2 := by rw [hwx]; exact (Below.refl _ _).alloc (Nat.le_refl _) _
     have HZ := Lib.hid (show Blk y2 y1.heap.size 25 #[.int .i64 0, .int .i64 0, .string ⟨#[]⟩, .slice none 0 0] from by rw [hwx]; exact Blk.new _ _ _)
     refine hK.out _ _ (hHeld.below hb) (fun hHeld => ?_)
     clear hK K2 hwx
     try simp only [Act.put, List.setIfInBounds_toArray, List.set_cons_zero, List.set_cons_succ]
     have HC2 := Lib.hid (HC.out.below hb HC.out.lt); have HCl := Lib.hid HC.out.lt; clear HC; have HC := HC2; clear HC2; have HZl := Lib.hid HZ.out.lt; clear hb
     refine stepH (i := 3) (by kernel_rfl) (by kernel_rfl) (fun o ho K2 hK => ?_)
     simp only [List.getElem?_toArray, List.getElem?_cons_zero, List.getElem?_cons_succ, Option.some.injEq] at ho
     subst ho
     go_simp
     refine (Hrep.out y2 _ hHeld.1.out (by have h1 := Hsd.out; first | omega | (have h2 := HZl.out; omega)) HC.out).mono ?_
     rintro e u3 ⟨A2, c2, rfl, hs2, hx2, hb⟩
     generalize hz : (if R2.isSome = true then (0 : Int) else 2) = er2; have Hz := Lib.hid hz; clear hz
     dsimp only
     have Hx2 := Lib.hid hx2; have Hs2 := Lib.hid hs2; clear hx2 hs2
     have HW3 := Lib.hid hb
     refine hK.out _ _ (hHeld.below hb) (fun hHeld => ?_)
     clear hK K2 hb
     try simp only [Act.put, List.setIfInBounds_toArray, List.set_cons_zero, List.set_cons_succ]
     have HZ2 := Lib.hid (HZ.out.below HW3.out HZl.out); clear HZ; have HZ := HZ2; clear HZ2
     refine takeH (i := 4) (d := 50) (.tuple #[.agg #[.int .i64 (R2.getD Tm.zero).k, .int .i64 (R2.getD Tm.zero).n, .string (R2.getD Tm.zero).s, .slice A2 (R2.getD Tm.zero).l.length c2], .int .i64 er2]) (by kernel_rfl) (by kernel_rfl) (by kernel_rfl) (by kernel_rfl) (fun _ _ _ _ h => h) (fun o ho => ?_) hHeld ?_
     ·simp only [List.getElem?_toArray, List.getElem?_cons_zero, List.getElem?_cons_succ, Option.some.injEq] at ho
      subst ho
      refine Or.inl ⟨by rfl, fun w hSw => ?_⟩
      go_simp
     simp only [Act.put, List.setIfInBounds_toArray, List.set_cons_zero, List.set_cons_succ]
     refine takeH (i := 5) (d := 55) (.agg #[.int .i64 (R2.getD Tm.zero).k, .int .i64 (R2.getD Tm.zero).n, .string (R2.getD Tm.zero).s, .slice A2 (R2.getD Tm.zero).l.length c2]) (by kernel_rfl) (by kernel_rfl) (by kernel_rfl) (by kernel_rfl) (fun _ _ _ _ h => h) (fun o ho => ?_) hHeld ?_
     ·simp only [List.getElem?_toArray, List.getElem?_cons_zero, List.getElem?_cons_succ, Option.some.injEq] at ho
      subst ho
      refine Or.inl ⟨by rfl, fun w hSw => ?_⟩
      go_simp
     simp only [Act.put, List.setIfInBounds_toArray, List.set_cons_zero, List.set_cons_succ]
     refine takeH (i := 6) (d := 56) (.int .i64 er2) (by kernel_rfl) (by kernel_rfl) (by kernel_rfl) (by kernel_rfl) (fun _ _ _ _ h => h) (fun o ho => ?_) hHeld ?_
     ·simp only [List.getElem?_toArray, List.getElem?_cons_zero, List.getElem?_cons_succ, Option.some.injEq] at ho
      subst ho
      refine Or.inl ⟨by rfl, fun w hSw => ?_⟩
      go_simp
     simp only [Act.put, List.setIfInBounds_toArray, List.set_cons_zero, List.set_cons_succ]
     have Hbx := Lib.hid (show U3.heap.size ≤ y1.heap.size from by have h2 := HCl.out; have h3 := Hsd.out; omega)
     have HxW := Lib.hid (Hx2.out.mono (Q := fun g => U3.heap.size ≤ g ∧ g ≠ y1.heap.size) (fun g hg => ⟨by have h1 := Hbx.out; have h2 := HZl.out; have h3 : y2.heap.size ≤ g := hg; omega, by have h2 := HZl.out; have h3 : y2.heap.size ≤ g := hg; omega⟩))
     have HO2 := Lib.hid (show Blk u3 wr.heap.size 25 _ from HO3.out.below hHeld.1.out HO3.out.lt)
     obtain ⟨⟨z0, z1, z2, z3⟩, ⟨g0, g1, g2, g3⟩⟩ := HZ.out.four; have zl := HZ.out.lt
     refine stepH (i := 8) (by kernel_rfl) (by kernel_rfl) (fun o ho K2 hK => ?_)
     simp only [List.getElem?_toArray, List.getElem?_cons_zero, List.getElem?_cons_succ, Option.some.injEq] at ho
     subst ho
     go_simp
     obtain ⟨U5, hU5⟩ : ∃ U, U = (((u3.setCell ⟨y1.heap.size, 0, none⟩ (.int .i64 (R2.getD Tm.zero).k)).setCell ⟨y1.heap.size, 1, none⟩ (.int .i64 (R2.getD Tm.zero).n)).setCell ⟨y1.heap.size, 2, none⟩ (.string (R2.getD Tm.zero).s)).setCell ⟨y1.heap.size, 3, none⟩ (.slice A2 (R2.getD Tm.zero).l.length c2) := ⟨_, rfl⟩
     rw [← hU5]
     have hbut : But (y1.heap.size) u3 U5 := by rw [hU5]; exact ((((But.refl _ _).setCell 0 _).setCell 1 _).setCell 2 _).setCell 3 _
     have HX5 := Lib.hid (show Blk U5 (y1.heap.size) 25 #[.int .i64 (R2.getD Tm.zero).k, .int .i64 (R2.getD Tm.zero).n, .string (R2.getD Tm.zero).s, .slice A2 (R2.getD Tm.zero).l.length c2] from by rw [hU5]; exact set4_at u3 (y1.heap.size) _ 25 HZ.out rfl _ _ _ _)
     have HO5 := Lib.hid (show Blk U5 wr.heap.size 25 _ from (hbut.block _ HO2.out.lt (by have := HO3.out.lt; have := Hbx.out; omega)).trans HO2.out)
     have HBU5 := Lib.hid (show Below U3.heap.size U3 U5 from hHeld.1.out.trans (hbut.below Hbx.out hHeld.1.out.size))
     have Hx5 := Lib.hid ((HxW.out.but hbut (fun g hg => hg.2)).mono (Q := fun g => U3.heap.size ≤ g) (fun g hg => hg.1))
     refine hK.out _ _ ⟨HBU5, fun p hp => keep_cell HBU5.out (Hbase.out p hp)⟩ (fun hHeld => ?_)
     clear hK K2 z0 z1 z2 z3 g0 g1 g2 g3 zl
     try simp only [Act.put, List.setIfInBounds_toArray, List.set_cons_zero, List.set_cons_succ]
     refine takeH (i := 9) (d := 11) (.int .i64 er2) (by kernel_rfl) (by kernel_rfl) (by kernel_rfl) (by kernel_rfl) (fun _ _ _ _ h => h) (fun o ho => ?_) hHeld ?_
     ·simp only [List.getElem?_toArray, List.getElem?_cons_zero, List.getElem?_cons_succ, Option.some.injEq] at ho
      subst ho
      refine Or.inl ⟨by rfl, fun w hSw => ?_⟩
      go_simp
     simp only [Act.put, List.setIfInBounds_toArray, List.set_cons_zero, List.set_cons_succ]
     refine wpAnyH_done (by kernel_rfl) ?_ _
     refine NoPanic.normal ?_
     obtain ⟨bx, hbx⟩ : ∃ b, b = y1.heap.size := ⟨_, rfl⟩
     rw [← hbx] at HX5 ⊢
     clear hU5 hbut hbx Hbx HO2 Hx2 HxW HZ HC hHeld Hbase Hrep
     by_cases hib : isB (cmpE a b k) = true
     case neg =>
      have hn : R2 = none := by rw [HR2.out, if_neg hib]
      subst hn
      obtain rfl : er2 = 2 := by have := Hz.out; simpa using this.symm
      have hr : R = none := by
       rw [Hr.out, if_neg]
       intro h
       rw [List.all_eq_true] at h
       exact hib (h k (List.mem_range.2 hlt))
      subst hr
      have HBF := Lib.hid (HBw.out.trans (HBU5.out.mono HBw.out.size))
      go_wp2
      exact bodyPost_ret (v := .tuple #[.slice none 0 0, .int .i64 2]) (by simp [results, Try.results53, go_sem]) rfl (R := RetML w none 2) ⟨none, 0, rfl, TmC.nil _ _ (by omega) (fun _ => rfl), HBF.out⟩
     have hn : R2 = some (cmpE a b k) := by rw [HR2.out, if_pos hib]
     subst hn
     obtain rfl : er2 = 0 := by have := Hz.out; simpa using this.symm
     clear Hz
     obtain ⟨x, hx⟩ : ∃ x, x = cmpE a b k := ⟨_, rfl⟩
     have Hal2 := Lib.hid (show (List.range (k + 1)).all (fun i => isB (cmpE a b i)) = true from by rw [List.range_succ, List.all_append, Hal.out]; simp [hib])
     rw [← hx] at Hs2 Hx5 HX5 HR2 ⊢
     rw [show (some x).getD Tm.zero = x from rfl] at Hs2 Hx5 HX5 ⊢
     have Hx := Lib.hid hx; clear hx hib HR2
     obtain ⟨q, hq⟩ : ∃ q, q = sameB x (Tm.va k) := ⟨_, rfl⟩
     have hcall := same_calls x _ (fun _ => True) U5 _ (vV k) (Tm.va k) ⟨A2, c2, rfl, Hs2.out, Hx5.out⟩ (TmV.va _ _ _)
     rw [← hq] at hcall; simp only [vV] at hcall
     have Hcall := Lib.hid hcall; have Hq := Lib.hid hq; clear hcall hq
     obtain ⟨⟨x0, x1, x2, x3⟩, -⟩ := HX5.out.four; have xl := HX5.out.lt; obtain ⟨⟨o0, o1, o2, o3⟩, -⟩ := HO5.out.four; have ol := HO5.out.lt
     go_wp2_with fail
     refine Hcall.out.mono ?_
     rintro e u6 ⟨rfl, hb6⟩
     clear x0 x1 x2 x3 xl o0 o1 o2 o3 ol Hcall HO5
     have hB6 : Below U3.heap.size U3 u6 := HBU5.out.trans (hb6.mono HBU5.out.size)
     have HX6 := Lib.hid (HX5.out.below hb6 HX5.out.lt); have Hx6 := Lib.hid (Hx5.out.stay hb6 (Nat.le_refl _))
     have hBr6 : Below wr.heap.size wr u6 := HBU3.out.trans (hB6.mono HBU3.out.size)
     have HS6 := Lib.hid (HS.out.below hBr6 (Nat.le_refl _)); have HB6 := Lib.hid (HB.out.trans (hBr6.mono HB.out.size))
     have Hrs := Lib.hid (show wr.heap.size ≤ U3.heap.size from HBU3.out.size)
     clear hb6 hB6 hBr6 HX5 Hx5 HBU5
     have hmk1 : m - k = (m - (k + 1)) + 1 := by omega
     cases q
     case true =>
      have Hnew := Lib.hid (show SubC (fun j => w.heap.size ≤ j ∧ j ≠ G) u6 G ((List.range (k + 1)).map (cmpO a b) ++ List.replicate (m - (k + 1)) Tm.zero) from by
       have h1 := HS6.out
       rw [hmk1, List.replicate_succ] at h1
       have h2 : cmpO a b k = Tm.zero := by unfold cmpO; rw [← Hx.out, ← Hq.out, if_pos rfl]
       rw [List.range_succ, List.map_append, List.map_singleton, h2, List.append_assoc]; exact h1)
      go_wp2
      go_roundw
      case rel => exact ⟨k + 1, by omega, by go_num, Hal2, Hnew, HB6⟩
      case measure => simp [intOf]; omega
     have hlen : ((List.range k).map (cmpO a b) ++ List.replicate (m - k) Tm.zero).length = m := by simp; omega
     have hput := HS6.out.put (n := k) (by rw [hlen]; exact hlt) Hs2.out (Hx6.out.mono (Q := fun j => w.heap.size ≤ j ∧ j ≠ G) (fun j hj => ⟨by have := Hrs.out; omega, by have := Hrs.out; omega⟩)) (fun j hj => hj.2)
     have Hnew := Lib.hid (show SubC (fun j => w.heap.size ≤ j ∧ j ≠ G) _ G ((List.range (k + 1)).map (cmpO a b) ++ List.replicate (m - (k + 1)) Tm.zero) from by
      have h1 := hput
      rw [hmk1, List.replicate_succ, List.set_append_right _ _ (by simp)] at h1
      simp only [List.length_map, List.length_range, Nat.sub_self, List.set_cons_zero] at h1
      have h2 : cmpO a b k = x := by unfold cmpO; rw [← Hx.out, ← Hq.out, if_neg (by simp)]
      rw [List.range_succ, List.map_append, List.map_singleton, h2, List.append_assoc]; exact h1)
     have hgw := HGw.out
     have HB7 := Lib.hid ((((HB6.out.setCell (p := ⟨G, k * 4, none⟩) hgw (.int .i64 x.k)).setCell (p := ⟨G, k * 4 + 1, none⟩) hgw (.int .i64 x.n)).setCell (p := ⟨G, k * 4 + 2, none⟩) hgw (.string x.s)).setCell (p := ⟨G, k * 4 + 3, none⟩) hgw (.slice A2 x.l.length c2))
     obtain ⟨⟨x0, x1, x2, x3⟩, -⟩ := HX6.out.four; have xl := HX6.out.lt
     obtain ⟨y, hy⟩ : ∃ y, ((List.range k).map (cmpO a b) ++ List.replicate (m - k) Tm.zero)[k]? = some y := ⟨_, List.getElem?_eq_getElem (by rw [hlen]; exact hlt)⟩
     obtain ⟨A6, c6, q0, q1, q2, q3, -, -⟩ := HS6.out.cells hy
     have f0 := HS6.out.frozen (k * 4); have f1 := HS6.out.frozen (k * 4 + 1); have f2 := HS6.out.frozen (k * 4 + 2); have f3 := HS6.out.frozen (k * 4 + 3); have gl := HS6.out.lt
     have hk0 : (0 : Int) ≤ (k : Int) := by omega
     have hk1 : (k : Int) < (m : Int) := by omega
     clear hput hy hlen hgw
     go_wp2
     go_roundw
     case rel => exact ⟨k + 1, by omega, by go_num, Hal2, Hnew, HB7⟩
     case measure => simp [intOf]; omega
   ·
    simp only [List.getElem?_toArray, List.getElem?_cons_zero, List.getElem?_cons_succ, Option.some.injEq] at ho
    subst ho
    go_simp
    obtain ⟨y1, hwx⟩ : ∃ W, W = wd.alloc (.cells #[.int .i64 0, .int .i64 0, .string ⟨#[]⟩, .slice none 0 0] 25) := ⟨_, rfl⟩
    rw [← hwx]
    have hb : Below wd.heap.size wd y1 := by rw [hwx]; exact (Below.refl _ _).alloc (Nat.le_refl _) _
    have HZ := Lib.hid (show Blk y1 wd.heap.size 25 #[.int .i64 0, .int .i64 0, .string ⟨#[]⟩, .slice none 0 0] from by rw [hwx]; exact Blk.new _ _ _)
    refine hK.out _ _ (hHeld.below hb) (fun hHeld => ?_)
    clear hK K2 hwx
    try simp only [Act.put, List.setIfInBounds_toArray, List.set_cons_zero, List.set_cons_succ]
    have HZl := Lib.hid HZ.out.lt; clear hb
    refine stepH (i := 2) (by kernel_rfl) (by kernel_rfl) (fun o ho K2 hK => ?_)
    simp only [List.getElem?_toArray, List.getElem?_cons_zero, List.getElem?_cons_succ, Option.some.injEq] at ho
    subst ho
    go_simp
    refine (picked_calls _ _ _ _).mono ?_
    rintro e y2 ⟨rfl, hwx⟩
    dsimp only
    have hb : Below y1.heap.size y1 y2 := by rw [hwx]; exact (Below.refl _ _).alloc (Nat.le_refl _) _
    have HC := Lib.hid (show Blk y2 y1.heap.size 22 #[.slice B b.length d] from by rw [hwx]; exact Blk.new _ _ _)
    refine hK.out _ _ (hHeld.below hb) (fun hHeld => ?_)
    clear hK K2 hwx
    try simp only [Act.put, List.setIfInBounds_toArray, List.set_cons_zero, List.set_cons_succ]
    have HZ2 := Lib.hid (HZ.out.below hb HZl.out); clear HZ; have HZ := HZ2; clear HZ2; have HZm := Lib.hid (show y1.heap.size ≤ y2.heap.size from hb.size); clear hb
    refine stepH (i := 3) (by kernel_rfl) (by kernel_rfl) (fun o ho K2 hK => ?_)
    simp only [List.getElem?_toArray, List.getElem?_cons_zero, List.getElem?_cons_succ, Option.some.injEq] at ho
    subst ho
    go_simp
    refine (Hrep.out y2 _ hHeld.1.out (by have h1 := Hsd.out; first | omega | (have h2 := HZl.out; omega)) HC.out).mono ?_
    rintro e u3 ⟨A2, c2, rfl, hs2, hx2, hb⟩
    generalize hz : (if R2.isSome = true then (0 : Int) else 2) = er2; have Hz := Lib.hid hz; clear hz
    dsimp only
    have Hx2 := Lib.hid hx2; have Hs2 := Lib.hid hs2; clear hx2 hs2
    have HW3 := Lib.hid hb
    refine hK.out _ _ (hHeld.below hb) (fun hHeld => ?_)
    clear hK K2 hb
    try simp only [Act.put, List.setIfInBounds_toArray, List.set_cons_zero, List.set_cons_succ]
    have HZ2 := Lib.hid (HZ.out.below HW3.out HZ.out.lt); clear HZ; have HZ := HZ2; clear HZ2
    refine takeH (i := 4) (d := 50) (.tuple #[.agg #[.int .i64 (R2.getD Tm.zero).k, .int .i64 (R2.getD Tm.zero).n, .string (R2.getD Tm.zero).s, .slice A2 (R2.getD Tm.zero).l.length c2], .int .i64 er2]) (by kernel_rfl) (by kernel_rfl) (by kernel_rfl) (by kernel_rfl) (fun _ _ _ _ h => h) (fun o ho => ?_) hHeld ?_
    ·simp only [List.getElem?_toArray, List.getElem?_cons_zero, List.getElem?_cons_succ, Option.some.injEq] at ho
     subst ho
     refine Or.inl ⟨by rfl, fun w hSw => ?_⟩
     go_simp
    simp only [Act.put, List.setIfInBounds_toArray, List.set_cons_zero, List.set_cons_succ]
    refine takeH (i := 5) (d := 55) (.agg #[.int .i64 (R2.getD Tm.zero).k, .int .i64 (R2.getD Tm.zero).n, .string (R2.getD Tm.zero).s, .slice A2 (R2.getD Tm.zero).l.length c2]) (by kernel_rfl) (by kernel_rfl) (by kernel_rfl) (by kernel_rfl) (fun _ _ _ _ h => h) (fun o ho => ?_) hHeld ?_
    ·simp only [List.getElem?_toArray, List.getElem?_cons_zero, List.getElem?_cons_succ, Option.some.injEq] at ho
     subst ho
     refine Or.inl ⟨by rfl, fun w hSw => ?_⟩
     go_simp
    simp only [Act.put, List.setIfInBounds_toArray, List.set_cons_zero, List.set_cons_succ]
    refine takeH (i := 6) (d := 56) (.int .i64 er2) (by kernel_rfl) (by kernel_rfl) (by kernel_rfl) (by kernel_rfl) (fun _ _ _ _ h => h) (fun o ho => ?_) hHeld ?_
    ·simp only [List.getElem?_toArray, List.getElem?_cons_zero, List.getElem?_cons_succ, Option.some.injEq] at ho
     subst ho
     refine Or.inl ⟨by rfl, fun w hSw => ?_⟩
     go_simp
    simp only [Act.put, List.setIfInBounds_toArray, List.set_cons_zero, List.set_cons_succ]
    have Hbx := Lib.hid (show U3.heap.size ≤ wd.heap.size from by rw [Hsd.out]; exact Nat.le_refl _)
    have HxW := Lib.hid (Hx2.out.mono (Q := fun g => U3.heap.size ≤ g ∧ g ≠ wd.heap.size) (fun g hg => ⟨by have h1 := HZl.out; have h2 := HZm.out; have h3 : y2.heap.size ≤ g := hg; have h4 := Hsd.out; omega, by have h1 := HZl.out; have h2 := HZm.out; have h3 : y2.heap.size ≤ g := hg; omega⟩))
    have HO2 := Lib.hid (show Blk u3 wr.heap.size 25 _ from HO3.out.below hHeld.1.out HO3.out.lt)
    obtain ⟨⟨z0, z1, z2, z3⟩, ⟨g0, g1, g2, g3⟩⟩ := HZ.out.four; have zl := HZ.out.lt
    refine stepH (i := 8) (by kernel_rfl) (by kernel_rfl) (fun o ho K2 hK => ?_)
    simp only [List.getElem?_toArray, List.getElem?_cons_zero, List.getElem?_cons_succ, Option.some.injEq] at ho
    subst ho
    go_simp
    obtain ⟨U5, hU5⟩ : ∃ U, U = (((u3.setCell ⟨wd.heap.size, 0, none⟩ (.int .i64 (R2.getD Tm.zero).k)).setCell ⟨wd.heap.size, 1, none⟩ (.int .i64 (R2.getD Tm.zero).n)).setCell ⟨wd.heap.size, 2, none⟩ (.string (R2.getD Tm.zero).s)).setCell ⟨wd.heap.size, 3, none⟩ (.slice A2 (R2.getD Tm.zero).l.length c2) := ⟨_, rfl⟩
    rw [← hU5]
    have hbut : But (wd.heap.size) u3 U5 := by rw [hU5]; exact ((((But.refl _ _).setCell 0 _).setCell 1 _).setCell 2 _).setCell 3 _
    have HX5 := Lib.hid (show Blk U5 (wd.heap.size) 25 #[.int .i64 (R2.getD Tm.zero).k, .int .i64 (R2.getD Tm.zero).n, .string (R2.getD Tm.zero).s, .slice A2 (R2.getD Tm.zero).l.length c2] from by rw [hU5]; exact set4_at u3 (wd.heap.size) _ 25 HZ.out rfl _ _ _ _)
    have HO5 := Lib.hid (show Blk U5 wr.heap.size 25 _ from (hbut.block _ HO2.out.lt (by have := HO3.out.lt; have := Hbx.out; omega)).trans HO2.out)
    have HBU5 := Lib.hid (show Below U3.heap.size U3 U5 from hHeld.1.out.trans (hbut.below Hbx.out hHeld.1.out.size))
    have Hx5 := Lib.hid ((HxW.out.but hbut (fun g hg => hg.2)).mono (Q := fun g => U3.heap.size ≤ g) (fun g hg => hg.1))
    refine hK.out _ _ ⟨HBU5, fun p hp => keep_cell HBU5.out (Hbase.out p hp)⟩ (fun hHeld => ?_)
    clear hK K2 z0 z1 z2 z3 g0 g1 g2 g3 zl
    try simp only [Act.put, List.setIfInBounds_toArray, List.set_cons_zero, List.set_cons_succ]
    refine takeH (i := 9) (d := 11) (.int .i64 er2) (by kernel_rfl) (by kernel_rfl) (by kernel_rfl) (by kernel_rfl) (fun _ _ _ _ h => h) (fun o ho => ?_) hHeld ?_
    ·simp only [List.getElem?_toArray, List.getElem?_cons_zero, List.getElem?_cons_succ, Option.some.injEq] at ho
     subst ho
     refine Or.inl ⟨by rfl, fun w hSw => ?_⟩
     go_simp
    simp only [Act.put, List.setIfInBounds_toArray, List.set_cons_zero, List.set_cons_succ]
    refine wpAnyH_done (by kernel_rfl) ?_ _
    refine NoPanic.normal ?_
    obtain ⟨bx, hbx⟩ : ∃ b, b = wd.heap.size := ⟨_, rfl⟩
    rw [← hbx] at HX5 ⊢
    clear hU5 hbut hbx Hbx HO2 Hx2 HxW HZ HC hHeld Hbase Hrep
    by_cases hib : isB (cmpE a b k) = true
    case neg =>
     have hn : R2 = none := by rw [HR2.out, if_neg hib]
     subst hn
     obtain rfl : er2 = 2 := by have := Hz.out; simpa using this.symm
     have hr : R = none := by
      rw [Hr.out, if_neg]
      intro h
      rw [List.all_eq_true] at h
      exact hib (h k (List.mem_range.2 hlt))
     subst hr
     have HBF := Lib.hid (HBw.out.trans (HBU5.out.mono HBw.out.size))
     go_wp2
     exact bodyPost_ret (v := .tuple #[.slice none 0 0, .int .i64 2]) (by simp [results, Try.results53, go_sem]) rfl (R := RetML w none 2) ⟨none, 0, rfl, TmC.nil _ _ (by omega) (fun _ => rfl), HBF.out⟩
    have hn : R2 = some (cmpE a b k) := by rw [HR2.out, if_pos hib]
    subst hn
    obtain rfl : er2 = 0 := by have := Hz.out; simpa using this.symm
    clear Hz
    obtain ⟨x, hx⟩ : ∃ x, x = cmpE a b k := ⟨_, rfl⟩
    have Hal2 := Lib.hid (show (List.range (k + 1)).all (fun i => isB (cmpE a b i)) = true from by rw [List.range_succ, List.all_append, Hal.out]; simp [hib])
    rw [← hx] at Hs2 Hx5 HX5 HR2 ⊢
    rw [show (some x).getD Tm.zero = x from rfl] at Hs2 Hx5 HX5 ⊢
    have Hx := Lib.hid hx; clear hx hib HR2
    obtain ⟨q, hq⟩ : ∃ q, q = sameB x (Tm.va k) := ⟨_, rfl⟩
    have hcall := same_calls x _ (fun _ => True) U5 _ (vV k) (Tm.va k) ⟨A2, c2, rfl, Hs2.out, Hx5.out⟩ (TmV.va _ _ _)
    rw [← hq] at hcall; simp only [vV] at hcall
    have Hcall := Lib.hid hcall; have Hq := Lib.hid hq; clear hcall hq
    obtain ⟨⟨x0, x1, x2, x3⟩, -⟩ := HX5.out.four; have xl := HX5.out.lt; obtain ⟨⟨o0, o1, o2, o3⟩, -⟩ := HO5.out.four; have ol := HO5.out.lt
    go_wp2_with fail
    refine Hcall.out.mono ?_
    rintro e u6 ⟨rfl, hb6⟩
    clear x0 x1 x2 x3 xl o0 o1 o2 o3 ol Hcall HO5
    have hB6 : Below U3.heap.size U3 u6 := HBU5.out.trans (hb6.mono HBU5.out.size)
    have HX6 := Lib.hid (HX5.out.below hb6 HX5.out.lt); have Hx6 := Lib.hid (Hx5.out.stay hb6 (Nat.le_refl _))
    have hBr6 : Below wr.heap.size wr u6 := HBU3.out.trans (hB6.mono HBU3.out.size)
    have HS6 := Lib.hid (HS.out.below hBr6 (Nat.le_refl _)); have HB6 := Lib.hid (HB.out.trans (hBr6.mono HB.out.size))
    have Hrs := Lib.hid (show wr.heap.size ≤ U3.heap.size from HBU3.out.size)
    clear hb6 hB6 hBr6 HX5 Hx5 HBU5
    have hmk1 : m - k = (m - (k + 1)) + 1 := by omega
    cases q
    case true =>
     have Hnew := Lib.hid (show SubC (fun j => w.heap.size ≤ j ∧ j ≠ G) u6 G ((List.range (k + 1)).map (cmpO a b) ++ List.replicate (m - (k + 1)) Tm.zero) from by
      have h1 := HS6.out
      rw [hmk1, List.replicate_succ] at h1
      have h2 : cmpO a b k = Tm.zero := by unfold cmpO; rw [← Hx.out, ← Hq.out, if_pos rfl]
      rw [List.range_succ, List.map_append, List.map_singleton, h2, List.append_assoc]; exact h1)
     go_wp2
     go_roundw
     case rel => exact ⟨k + 1, by omega, by go_num, Hal2, Hnew, HB6⟩
     case measure => simp [intOf]; omega
    have hlen : ((List.range k).map (cmpO a b) ++ List.replicate (m - k) Tm.zero).length = m := by simp; omega
    have hput := HS6.out.put (n := k) (by rw [hlen]; exact hlt) Hs2.out (Hx6.out.mono (Q := fun j => w.heap.size ≤ j ∧ j ≠ G) (fun j hj => ⟨by have := Hrs.out; omega, by have := Hrs.out; omega⟩)) (fun j hj => hj.2)
    have Hnew := Lib.hid (show SubC (fun j => w.heap.size ≤ j ∧ j ≠ G) _ G ((List.range (k + 1)).map (cmpO a b) ++ List.replicate (m - (k + 1)) Tm.zero) from by
     have h1 := hput
     rw [hmk1, List.replicate_succ, List.set_append_right _ _ (by simp)] at h1
     simp only [List.length_map, List.length_range, Nat.sub_self, List.set_cons_zero] at h1
     have h2 : cmpO a b k = x := by unfold cmpO; rw [← Hx.out, ← Hq.out, if_neg (by simp)]
     rw [List.range_succ, List.map_append, List.map_singleton, h2, List.append_assoc]; exact h1)
    have hgw := HGw.out
    have HB7 := Lib.hid ((((HB6.out.setCell (p := ⟨G, k * 4, none⟩) hgw (.int .i64 x.k)).setCell (p := ⟨G, k * 4 + 1, none⟩) hgw (.int .i64 x.n)).setCell (p := ⟨G, k * 4 + 2, none⟩) hgw (.string x.s)).setCell (p := ⟨G, k * 4 + 3, none⟩) hgw (.slice A2 x.l.length c2))
    obtain ⟨⟨x0, x1, x2, x3⟩, -⟩ := HX6.out.four; have xl := HX6.out.lt
    obtain ⟨y, hy⟩ : ∃ y, ((List.range k).map (cmpO a b) ++ List.replicate (m - k) Tm.zero)[k]? = some y := ⟨_, List.getElem?_eq_getElem (by rw [hlen]; exact hlt)⟩
    obtain ⟨A6, c6, q0, q1, q2, q3, -, -⟩ := HS6.out.cells hy
    have f0 := HS6.out.frozen (k * 4); have f1 := HS6.out.frozen (k * 4 + 1); have f2 := HS6.out.frozen (k * 4 + 2); have f3 := HS6.out.frozen (k * 4 + 3); have gl := HS6.out.lt
    have hk0 : (0 : Int) ≤ (k : Int) := by omega
    have hk1 : (k : Int) < (m : Int) := by omega
    clear hput hy hlen hgw
    go_wp2
    go_roundw
    case rel => exact ⟨k + 1, by omega, by go_num, Hal2, Hnew, HB7⟩
    case measure => simp [intOf]; omega
  have hz := Hsgl.out; rw [if_neg (by simp)] at hz
  have hzo := Hyo.out rfl
  clear Hsgl Hyo
  obtain ⟨U4, hU4⟩ : ∃ U, U = (((U3.setCell ⟨wr.heap.size + 1, 0, none⟩ (.int .i64 y.k)).setCell ⟨wr.heap.size + 1, 1, none⟩ (.int .i64 y.n)).setCell ⟨wr.heap.size + 1, 2, none⟩ (.string y.s)).setCell ⟨wr.heap.size + 1, 3, none⟩ (.slice Ay y.l.length cy) := ⟨_, rfl⟩
  have hbut : But (wr.heap.size + 1) U3 U4 := by rw [hU4]; exact ((((But.refl _ _).setCell 0 _).setCell 1 _).setCell 2 _).setCell 3 _
  have HT4 := Lib.hid (show Blk U4 (wr.heap.size + 1) 25 #[.int .i64 y.k, .int .i64 y.n, .string y.s, .slice Ay y.l.length cy] from by rw [hU4]; exact set4_at U3 (wr.heap.size + 1) _ 25 HT3.out rfl _ _ _ _)
  have HO4 := Lib.hid (show Blk U4 wr.heap.size 25 _ from (hbut.block _ HO3.out.lt (by omega)).trans HO3.out)
  have HBU4 := Lib.hid (show Below wr.heap.size wr U4 from HBU3.out.trans (hbut.below (by omega) HBU3.out.size))
  have Hyc4 := Lib.hid ((Hyc3.out.but hbut (fun g hg => by have : g < w.heap.size := hg; omega)).mono (Q := fun _ => True) (fun _ _ => trivial))
  obtain ⟨⟨k0, k1, k2, k3⟩, ⟨f0, f1, f2, f3⟩⟩ := HT3.out.four; have kl := HT3.out.lt
  have HU4 := Lib.hid hU4; clear hU4 hbut HT3 HO3 HBU3 Hyc3
  go_upto_region 11 with (fail)
  rw [← HU4.out]
  clear HU4 k0 k1 k2 k3 f0 f1 f2 f3 kl e0 e1 e2 e3 hk0 hk1
  have hR2 := repT_eq (pickF b) (isB_iff.1 hzo).1
  rw [show y.sub (sgF (pickF b)) = cmpE a b k from by unfold cmpE; rw [hz]; rfl] at hR2
  obtain ⟨R2, hR2e⟩ : ∃ R2, R2 = repT (pickF b) y := ⟨_, rfl⟩
  rw [← hR2e] at hR2
  have hsz : y.size ≤ 1000000 := by have := (isB_iff.1 hzo).2.1; omega
  have hvar : ∀ x ∈ y.pre, x.k = 1 → 0 ≤ x.n ∧ x.n < 100000 := fun x hx hk => var_bd (okB_pre y (isB_iff.1 hzo).1 x hx) hk
  have hBw : Below w.heap.size w U4 := HB.out.trans (HBU4.out.mono HB.out.size)
  have hrep : ∀ W cb, Below U4.heap.size U4 W → U4.heap.size ≤ cb → Blk W cb 22 #[.slice B b.length d] → Calls Try.prog 85 #[.agg #[.int .i64 y.k, .int .i64 y.n, .string y.s, .slice Ay y.l.length cy], .func (.func 133) #[] #[.pointer (some ⟨cb, 0, none⟩)]] W (RetME W R2 2) := fun W cb hW hcb hbk => by
   have hsW := hW.size
   have hw2s := hBw.size
   rw [hR2e]
   refine replaced_calls 133 cb (pickF b) (fun g => g < w.heap.size) (fun W' => Blk W' cb 22 #[.slice B b.length d] ∧ TmC (fun g => g < w.heap.size) W' B d b) W (fun q W' W'' h1 h2 h3 => ⟨h2.1.but h3 (by have := hbk.lt; omega), h2.2.but h3 (fun g hg => by omega)⟩) (fun g hg => by omega) (fun _ _ => rfl)
    (fun n x hx => pickF_size Hsb.out.symm hx) (fun W' n h1 h2 h3 => picked1_calls b _ B d cb W' n h1.1 h1.2 h2 h3) y (fun _ => True) _ ⟨Ay, cy, rfl, sy, Hyc4.out.stay hW (Nat.le_refl _)⟩ ⟨hbk, (Hbb.out.stay hBw (Nat.le_refl _)).stay hW (Nat.le_refl _)⟩ hsz hvar
  have Hrep := Lib.hid hrep; have HR2 := Lib.hid hR2; have HBw := Lib.hid hBw; clear hrep hsz hvar hR2 hR2e hBw hz hzo
  obtain ⟨⟨t0, t1, t2, t3⟩, -⟩ := HT4.out.four; have tl := HT4.out.lt
  have hbase : ∀ p ∈ ([(⟨wr.heap.size + 1, 0, none⟩, .int .i64 y.k), (⟨wr.heap.size + 1, 1, none⟩, .int .i64 y.n), (⟨wr.heap.size + 1, 2, none⟩, .string y.s), (⟨wr.heap.size + 1, 3, none⟩, .slice Ay y.l.length cy)] : List (Addr × Value)), U4.cell? p.1 = some p.2 := fun p hp => by simp only [List.mem_cons, List.not_mem_nil, or_false] at hp; rcases hp with rfl | rfl | rfl | rfl <;> assumption
  have Hbase := Lib.hid hbase; clear hbase
  go_wp2_with fail
  refine wp_region_noPanic ?_
  refine wp_region_held_drew (S := SW U4 [(⟨wr.heap.size + 1, 0, none⟩, .int .i64 y.k), (⟨wr.heap.size + 1, 1, none⟩, .int .i64 y.n), (⟨wr.heap.size + 1, 2, none⟩, .string y.s), (⟨wr.heap.size + 1, 3, none⟩, .slice Ay y.l.length cy)]) (by kernel_rfl) ?_ (fun hHeld => ?_)
  ·exact SW.start Hbase.out
  clear t0 t1 t2 t3 tl
  obtain ⟨wd, hwd⟩ : ∃ W, W = U4.drew := ⟨_, rfl⟩
  rw [← hwd] at hHeld ⊢
  have Hsd := Lib.hid (show wd.heap.size = U4.heap.size from by rw [hwd]; rfl); clear hwd
  refine takeH (i := 0) (d := 51) (.agg #[.int .i64 y.k, .int .i64 y.n, .string y.s, .slice Ay y.l.length cy]) (by kernel_rfl) (by kernel_rfl) (by kernel_rfl) (by kernel_rfl) (fun _ _ _ _ h => h) (fun o ho => ?_) hHeld ?_
  ·simp only [List.getElem?_toArray, List.getElem?_cons_zero, List.getElem?_cons_succ, Option.some.injEq] at ho
   subst ho
   refine Or.inl ⟨by rfl, fun w hSw => ?_⟩
   have s0 := hSw.at 0 rfl
   have s1 := hSw.at 1 rfl
   have s2 := hSw.at 2 rfl
   have s3 := hSw.at 3 rfl
   go_simp
  simp only [Act.put, List.setIfInBounds_toArray, List.set_cons_zero, List.set_cons_succ]
  refine takeH (i := 1) (d := 52) (.slice B b.length d) (by kernel_rfl) (by kernel_rfl) (by kernel_rfl) (by kernel_rfl) (fun _ _ _ _ h => h) (fun o ho => ?_) hHeld ?_
  ·simp only [List.getElem?_toArray, List.getElem?_cons_zero, List.getElem?_cons_succ, Option.some.injEq] at ho
   subst ho
   refine Or.inl ⟨by rfl, fun w hSw => ?_⟩
   go_simp
  simp only [Act.put, List.setIfInBounds_toArray, List.set_cons_zero, List.set_cons_succ]
  refine twoH (i := 2) (j := 7) (by kernel_rfl) (by kernel_rfl) (by kernel_rfl) (fun o ho K2 hK => ?_) (fun o ho K2 hK => ?_)
  ·
   simp only [List.getElem?_toArray, List.getElem?_cons_zero, List.getElem?_cons_succ, Option.some.injEq] at ho
   subst ho
   go_simp
   refine (picked_calls _ _ _ _).mono ?_
   rintro e y1 ⟨rfl, hwx⟩
   dsimp only
   have hb : Below wd.heap.size wd y1 := by rw [hwx]; exact (Below.refl _ _).alloc (Nat.le_refl _) _
   have HC := Lib.hid (show Blk y1 wd.heap.size 22 #[.slice B b.length d] from by rw [hwx]; exact Blk.new _ _ _)
   refine hK.out _ _ (hHeld.below hb) (fun hHeld => ?_)
   clear hK K2 hwx
   try simp only [Act.put, List.setIfInBounds_toArray, List.set_cons_zero, List.set_cons_succ]
   refine twoH (i := 3) (j := 7) (by kernel_rfl) (by kernel_rfl) (by kernel_rfl) (fun o ho K2 hK => ?_) (fun o ho K2 hK => ?_)
   ·
    simp only [List.getElem?_toArray, List.getElem?_cons_zero, List.getElem?_cons_succ, Option.some.injEq] at ho
    subst ho
    go_simp
    refine (Hrep.out y1 _ hHeld.1.out (by have h1 := Hsd.out; first | omega | (have h2 := HZl.out; omega)) HC.out).mono ?_
    rintro e u3 ⟨A2, c2, rfl, hs2, hx2, hb⟩
    generalize hz : (if R2.isSome = true then (0 : Int) else 2) = er2; have Hz := Lib.hid hz; clear hz
    dsimp only
    have Hx2 := Lib.hid hx2; have Hs2 := Lib.hid hs2; clear hx2 hs2
    have HW3 := Lib.hid hb
    refine hK.out _ _ (hHeld.below hb) (fun hHeld => ?_)
    clear hK K2 hb
    try simp only [Act.put, List.setIfInBounds_toArray, List.set_cons_zero, List.set_cons_succ]
    refine takeH (i := 4) (d := 50) (.tuple #[.agg #[.int .i64 (R2.getD Tm.zero).k, .int .i64 (R2.getD Tm.zero).n, .string (R2.getD Tm.zero).s, .slice A2 (R2.getD Tm.zero).l.length c2], .int .i64 er2]) (by kernel_rfl) (by kernel_rfl) (by kernel_rfl) (by kernel_rfl) (fun _ _ _ _ h => h) (fun o ho => ?_) hHeld ?_
    ·simp only [List.getElem?_toArray, List.getElem?_cons_zero, List.getElem?_cons_succ, Option.some.injEq] at ho
     subst ho
     refine Or.inl ⟨by rfl, fun w hSw => ?_⟩
     go_simp
    simp only [Act.put, List.setIfInBounds_toArray, List.set_cons_zero, List.set_cons_succ]
    refine takeH (i := 5) (d := 55) (.agg #[.int .i64 (R2.getD Tm.zero).k, .int .i64 (R2.getD Tm.zero).n, .string (R2.getD Tm.zero).s, .slice A2 (R2.getD Tm.zero).l.length c2]) (by kernel_rfl) (by kernel_rfl) (by kernel_rfl) (by kernel_rfl) (fun _ _ _ _ h => h) (fun o ho => ?_) hHeld ?_
    ·simp only [List.getElem?_toArray, List.getElem?_cons_zero, List.getElem?_cons_succ, Option.some.injEq] at ho
     subst ho
     refine Or.inl ⟨by rfl, fun w hSw => ?_⟩
     go_simp
    simp only [Act.put, List.setIfInBounds_toArray, List.set_cons_zero, List.set_cons_succ]
    refine takeH (i := 6) (d := 56) (.int .i64 er2) (by kernel_rfl) (by kernel_rfl) (by kernel_rfl) (by kernel_rfl) (fun _ _ _ _ h => h) (fun o ho => ?_) hHeld ?_
    ·simp only [List.getElem?_toArray, List.getElem?_cons_zero, List.getElem?_cons_succ, Option.some.injEq] at ho
     subst ho
     refine Or.inl ⟨by rfl, fun w hSw => ?_⟩
     go_simp
    simp only [Act.put, List.setIfInBounds_toArray, List.set_cons_zero, List.set_cons_succ]
    refine stepH (i := 7) (by kernel_rfl) (by kernel_rfl) (fun o ho K2 hK => ?_)
    simp only [List.getElem?_toArray, List.getElem?_cons_zero, List.getElem?_cons_succ, Option.some.injEq] at ho
    subst ho
    go_simp
    obtain ⟨y2, hwx⟩ : ∃ W, W = u3.alloc (.cells #[.int .i64 0, .int .i64 0, .string ⟨#[]⟩, .slice none 0 0] 25) := ⟨_, rfl⟩
    rw [← hwx]
    have hb : Below u3.heap.size u3 y2 := by rw [hwx]; exact (Below.refl _ _).alloc (Nat.le_refl _) _
    have HZ := Lib.hid (show Blk y2 u3.heap.size 25 #[.int .i64 0, .int .i64 0, .string ⟨#[]⟩, .slice none 0 0] from by rw [hwx]; exact Blk.new _ _ _)
    refine hK.out _ _ (hHeld.below hb) (fun hHeld => ?_)
    clear hK K2 hwx
    try simp only [Act.put, List.setIfInBounds_toArray, List.set_cons_zero, List.set_cons_succ]
    have Hbx := Lib.hid (show U4.heap.size ≤ u3.heap.size from by have h1 := HW3.out.size; have h2 := HC.out.lt; have h3 := Hsd.out; omega)
    have HxW := Lib.hid ((Hx2.out.inside.stay hb (Nat.le_refl _)).mono (Q := fun g => U4.heap.size ≤ g ∧ g ≠ u3.heap.size) (fun g hg => ⟨by have h1 := hg.1; have h2 := HC.out.lt; have h3 := Hsd.out; omega, by have h1 := hg.2; omega⟩)); clear hb
    have HO2 := Lib.hid (show Blk y2 wr.heap.size 25 _ from HO4.out.below hHeld.1.out HO4.out.lt)
    obtain ⟨⟨z0, z1, z2, z3⟩, ⟨g0, g1, g2, g3⟩⟩ := HZ.out.four; have zl := HZ.out.lt
    refine stepH (i := 8) (by kernel_rfl) (by kernel_rfl) (fun o ho K2 hK => ?_)
    simp only [List.getElem?_toArray, List.getElem?_cons_zero, List.getElem?_cons_succ, Option.some.injEq] at ho
    subst ho
    go_simp
    obtain ⟨U5, hU5⟩ : ∃ U, U = (((y2.setCell ⟨u3.heap.size, 0, none⟩ (.int .i64 (R2.getD Tm.zero).k)).setCell ⟨u3.heap.size, 1, none⟩ (.int .i64 (R2.getD Tm.zero).n)).setCell ⟨u3.heap.size, 2, none⟩ (.string (R2.getD Tm.zero).s)).setCell ⟨u3.heap.size, 3, none⟩ (.slice A2 (R2.getD Tm.zero).l.length c2) := ⟨_, rfl⟩
    rw [← hU5]
    have hbut : But (u3.heap.size) y2 U5 := by rw [hU5]; exact ((((But.refl _ _).setCell 0 _).setCell 1 _).setCell 2 _).setCell 3 _
    have HX5 := Lib.hid (show Blk U5 (u3.heap.size) 25 #[.int .i64 (R2.getD Tm.zero).k, .int .i64 (R2.getD Tm.zero).n, .string (R2.getD Tm.zero).s, .slice A2 (R2.getD Tm.zero).l.length c2] from by rw [hU5]; exact set4_at y2 (u3.heap.size) _ 25 HZ.out rfl _ _ _ _)
    have HO5 := Lib.hid (show Blk U5 wr.heap.size 25 _ from (hbut.block _ HO2.out.lt (by have := HO4.out.lt; have := Hbx.out; omega)).trans HO2.out)
    have HBU5 := Lib.hid (show Below U4.heap.size U4 U5 from hHeld.1.out.trans (hbut.below Hbx.out hHeld.1.out.size))
    have Hx5 := Lib.hid ((HxW.out.but hbut (fun g hg => hg.2)).mono (Q := fun g => U4.heap.size ≤ g) (fun g hg => hg.1))
    refine hK.out _ _ ⟨HBU5, fun p hp => keep_cell HBU5.out (Hbase.out p hp)⟩ (fun hHeld => ?_)
    clear hK K2 z0 z1 z2 z3 g0 g1 g2 g3 zl
    try simp only [Act.put, List.setIfInBounds_toArray, List.set_cons_zero, List.set_cons_succ]
    refine takeH (i := 9) (d := 11) (.int .i64 er2) (by kernel_rfl) (by kernel_rfl) (by kernel_rfl) (by kernel_rfl) (fun _ _ _ _ h => h) (fun o ho => ?_) hHeld ?_
    ·simp only [List.getElem?_toArray, List.getElem?_cons_zero, List.getElem?_cons_succ, Option.some.injEq] at ho
     subst ho
     refine Or.inl ⟨by rfl, fun w hSw => ?_⟩
     go_simp
    simp only [Act.put, List.setIfInBounds_toArray, List.set_cons_zero, List.set_cons_succ]
    refine wpAnyH_done (by kernel_rfl) ?_ _
    refine NoPanic.normal ?_
    obtain ⟨bx, hbx⟩ : ∃ b, b = u3.heap.size := ⟨_, rfl⟩
    rw [← hbx] at HX5 ⊢
    clear hU5 hbut hbx Hbx HO2 Hx2 HxW HZ HC hHeld Hbase Hrep
    by_cases hib : isB (cmpE a b k) = true
    case neg =>
     have hn : R2 = none := by rw [HR2.out, if_neg hib]
     subst hn
     obtain rfl : er2 = 2 := by have := Hz.out; simpa using this.symm
     have hr : R = none := by
      rw [Hr.out, if_neg]
      intro h
      rw [List.all_eq_true] at h
      exact hib (h k (List.mem_range.2 hlt))
     subst hr
     have HBF := Lib.hid (HBw.out.trans (HBU5.out.mono HBw.out.size))
     go_wp2
     exact bodyPost_ret (v := .tuple #[.slice none 0 0, .int .i64 2]) (by simp [results, Try.results53, go_sem]) rfl (R := RetML w none 2) ⟨none, 0, rfl, TmC.nil _ _ (by omega) (fun _ => rfl), HBF.out⟩
    have hn : R2 = some (cmpE a b k) := by rw [HR2.out, if_pos hib]
    subst hn
    obtain rfl : er2 = 0 := by have := Hz.out; simpa using this.symm
    clear Hz
    obtain ⟨x, hx⟩ : ∃ x, x = cmpE a b k := ⟨_, rfl⟩
    have Hal2 := Lib.hid (show (List.range (k + 1)).all (fun i => isB (cmpE a b i)) = true from by rw [List.range_succ, List.all_append, Hal.out]; simp [hib])
    rw [← hx] at Hs2 Hx5 HX5 HR2 ⊢
    rw [show (some x).getD Tm.zero = x from rfl] at Hs2 Hx5 HX5 ⊢
    have Hx := Lib.hid hx; clear hx hib HR2
    obtain ⟨q, hq⟩ : ∃ q, q = sameB x (Tm.va k) := ⟨_, rfl⟩
    have hcall := same_calls x _ (fun _ => True) U5 _ (vV k) (Tm.va k) ⟨A2, c2, rfl, Hs2.out, Hx5.out⟩ (TmV.va _ _ _)
    rw [← hq] at hcall; simp only [vV] at hcall
    have Hcall := Lib.hid hcall; have Hq := Lib.hid hq; clear hcall hq
    obtain ⟨⟨x0, x1, x2, x3⟩, -⟩ := HX5.out.four; have xl := HX5.out.lt; obtain ⟨⟨o0, o1, o2, o3⟩, -⟩ := HO5.out.four; have ol := HO5.out.lt
    go_wp2_with fail
    refine Hcall.out.mono ?_
    rintro e u6 ⟨rfl, hb6⟩
    clear x0 x1 x2 x3 xl o0 o1 o2 o3 ol Hcall HO5
    have hB6 : Below U4.heap.size U4 u6 := HBU5.out.trans (hb6.mono HBU5.out.size)
    have HX6 := Lib.hid (HX5.out.below hb6 HX5.out.lt); have Hx6 := Lib.hid (Hx5.out.stay hb6 (Nat.le_refl _))
    have hBr6 : Below wr.heap.size wr u6 := HBU4.out.trans (hB6.mono HBU4.out.size)
    have HS6 := Lib.hid (HS.out.below hBr6 (Nat.le_refl _)); have HB6 := Lib.hid (HB.out.trans (hBr6.mono HB.out.size))
    have Hrs := Lib.hid (show wr.heap.size ≤ U4.heap.size from HBU4.out.size)
    clear hb6 hB6 hBr6 HX5 Hx5 HBU5
    have hmk1 : m - k = (m - (k + 1)) + 1 := by omega
    cases q
    case true =>
     have Hnew := Lib.hid (show SubC (fun j => w.heap.size ≤ j ∧ j ≠ G) u6 G ((List.range (k + 1)).map (cmpO a b) ++ List.replicate (m - (k + 1)) Tm.zero) from by
      have h1 := HS6.out
      rw [hmk1, List.replicate_succ] at h1
      have h2 : cmpO a b k = Tm.zero := by unfold cmpO; rw [← Hx.out, ← Hq.out, if_pos rfl]
      rw [List.range_succ, List.map_append, List.map_singleton, h2, List.append_assoc]; exact h1)
     go_wp2
     go_roundw
     case rel => exact ⟨k + 1, by omega, by go_num, Hal2, Hnew, HB6⟩
     case measure => simp [intOf]; omega
    have hlen : ((List.range k).map (cmpO a b) ++ List.replicate (m - k) Tm.zero).length = m := by simp; omega
    have hput := HS6.out.put (n := k) (by rw [hlen]; exact hlt) Hs2.out (Hx6.out.mono (Q := fun j => w.heap.size ≤ j ∧ j ≠ G) (fun j hj => ⟨by have := Hrs.out; omega, by have := Hrs.out; omega⟩)) (fun j hj => hj.2)
    have Hnew := Lib.hid (show SubC (fun j => w.heap.size ≤ j ∧ j ≠ G) _ G ((List.range (k + 1)).map (cmpO a b) ++ List.replicate (m - (k + 1)) Tm.zero) from by
     have h1 := hput
     rw [hmk1, List.replicate_succ, List.set_append_right _ _ (by simp)] at h1
     simp only [List.length_map, List.length_range, Nat.sub_self, List.set_cons_zero] at h1
     have h2 : cmpO a b k = x := by unfold cmpO; rw [← Hx.out, ← Hq.out, if_neg (by simp)]
     rw [List.range_succ, List.map_append, List.map_singleton, h2, List.append_assoc]; exact h1)
    have hgw := HGw.out
    have HB7 := Lib.hid ((((HB6.out.setCell (p := ⟨G, k * 4, none⟩) hgw (.int .i64 x.k)).setCell (p := ⟨G, k * 4 + 1, none⟩) hgw (.int .i64 x.n)).setCell (p := ⟨G, k * 4 + 2, none⟩) hgw (.string x.s)).setCell (p := ⟨G, k * 4 + 3, none⟩) hgw (.slice A2 x.l.length c2))
    obtain ⟨⟨x0, x1, x2, x3⟩, -⟩ := HX6.out.four; have xl := HX6.out.lt
    obtain ⟨y, hy⟩ : ∃ y, ((List.range k).map (cmpO a b) ++ List.replicate (m - k) Tm.zero)[k]? = some y := ⟨_, List.getElem?_eq_getElem (by rw [hlen]; exact hlt)⟩
    obtain ⟨A6, c6, q0, q1, q2, q3, -, -⟩ := HS6.out.cells hy
    have f0 := HS6.out.frozen (k * 4); have f1 := HS6.out.frozen (k * 4 + 1); have f2 := HS6.out.frozen (k * 4 + 2); have f3 := HS6.out.frozen (k * 4 + 3); have gl := HS6.out.lt
    have hk0 : (0 : Int) ≤ (k : Int) := by omega
    have hk1 : (k : Int) < (m : Int) := by omega
    clear hput hy hlen hgw
    go_wp2
    go_roundw
    case rel => exact ⟨k + 1, by omega, by go_num, Hal2, Hnew, HB7⟩
    case measure => simp [intOf]; omega
   ·
    simp only [List.getElem?_toArray, List.getElem?_cons_zero, List.getElem?_cons_succ, Option.some.injEq] at ho
    subst ho
    go_simp
    obtain ⟨y2, hwx⟩ : ∃ W, W = y1.alloc (.cells #[.int .i64 0, .int .i64 0, .string ⟨#[]⟩, .slice none 0 0] 25) := ⟨_, rfl⟩
    rw [← hwx]
    have hb : Below y1.heap.size y1 y2 := by rw [hwx]; exact (Below.refl _ _).alloc (Nat.le_refl _) _
    have HZ := Lib.hid (show Blk y2 y1.heap.size 25 #[.int .i64 0, .int .i64 0, .string ⟨#[]⟩, .slice none 0 0] from by rw [hwx]; exact Blk.new _ _ _)
    refine hK.out _ _ (hHeld.below hb) (fun hHeld => ?_)
    clear hK K2 hwx
    try simp only [Act.put, List.setIfInBounds_toArray, List.set_cons_zero, List.set_cons_succ]
    have HC2 := Lib.hid (HC.out.below hb HC.out.lt); have HCl := Lib.hid HC.out.lt; clear HC; have HC := HC2; clear HC2; have HZl := Lib.hid HZ.out.lt; clear hb
    refine stepH (i := 3) (by kernel_rfl) (by kernel_rfl) (fun o ho K2 hK => ?_)
    simp only [List.getElem?_toArray, List.getElem?_cons_zero, List.getElem?_cons_succ, Option.some.injEq] at ho
    subst ho
    go_simp
    refine (Hrep.out y2 _ hHeld.1.out (by have h1 := Hsd.out; first | omega | (have h2 := HZl.out; omega)) HC.out).mono ?_
    rintro e u3 ⟨A2, c2, rfl, hs2, hx2, hb⟩
    generalize hz : (if R2.isSome = true then (0 : Int) else 2) = er2; have Hz := Lib.hid hz; clear hz
    dsimp only
    have Hx2 := Lib.hid hx2; have Hs2 := Lib.hid hs2; clear hx2 hs2
    have HW3 := Lib.hid hb
    refine hK.out _ _ (hHeld.below hb) (fun hHeld => ?_)
    clear hK K2 hb
    try simp only [Act.put, List.setIfInBounds_toArray, List.set_cons_zero, List.set_cons_succ]
    have HZ2 := Lib.hid (HZ.out.below HW3.out HZl.out); clear HZ; have HZ := HZ2; clear HZ2
    refine takeH (i := 4) (d := 50) (.tuple #[.agg #[.int .i64 (R2.getD Tm.zero).k, .int .i64 (R2.getD Tm.zero).n, .string (R2.getD Tm.zero).s, .slice A2 (R2.getD Tm.zero).l.length c2], .int .i64 er2]) (by kernel_rfl) (by kernel_rfl) (by kernel_rfl) (by kernel_rfl) (fun _ _ _ _ h => h) (fun o ho => ?_) hHeld ?_
    ·simp only [List.getElem?_toArray, List.getElem?_cons_zero, List.getElem?_cons_succ, Option.some.injEq] at ho
     subst ho
     refine Or.inl ⟨by rfl, fun w hSw => ?_⟩
     go_simp
    simp only [Act.put, List.setIfInBounds_toArray, List.set_cons_zero, List.set_cons_succ]
    refine takeH (i := 5) (d := 55) (.agg #[.int .i64 (R2.getD Tm.zero).k, .int .i64 (R2.getD Tm.zero).n, .string (R2.getD Tm.zero).s, .slice A2 (R2.getD Tm.zero).l.length c2]) (by kernel_rfl) (by kernel_rfl) (by kernel_rfl) (by kernel_rfl) (fun _ _ _ _ h => h) (fun o ho => ?_) hHeld ?_
    ·simp only [List.getElem?_toArray, List.getElem?_cons_zero, List.getElem?_cons_succ, Option.some.injEq] at ho
     subst ho
     refine Or.inl ⟨by rfl, fun w hSw => ?_⟩
     go_simp
    simp only [Act.put, List.setIfInBounds_toArray, List.set_cons_zero, List.set_cons_succ]
    refine takeH (i := 6) (d := 56) (.int .i64 er2) (by kernel_rfl) (by kernel_rfl) (by kernel_rfl) (by kernel_rfl) (fun _ _ _ _ h => h) (fun o ho => ?_) hHeld ?_
    ·simp only [List.getElem?_toArray, List.getElem?_cons_zero, List.getElem?_cons_succ, Option.some.injEq] at ho
     subst ho
     refine Or.inl ⟨by rfl, fun w hSw => ?_⟩
     go_simp
    simp only [Act.put, List.setIfInBounds_toArray, List.set_cons_zero, List.set_cons_succ]
    have Hbx := Lib.hid (show U4.heap.size ≤ y1.heap.size from by have h2 := HCl.out; have h3 := Hsd.out; omega)
    have HxW := Lib.hid (Hx2.out.mono (Q := fun g => U4.heap.size ≤ g ∧ g ≠ y1.heap.size) (fun g hg => ⟨by have h1 := Hbx.out; have h2 := HZl.out; have h3 : y2.heap.size ≤ g := hg; omega, by have h2 := HZl.out; have h3 : y2.heap.size ≤ g := hg; omega⟩))
    have HO2 := Lib.hid (show Blk u3 wr.heap.size 25 _ from HO4.out.below hHeld.1.out HO4.out.lt)
    obtain ⟨⟨z0, z1, z2, z3⟩, ⟨g0, g1, g2, g3⟩⟩ := HZ.out.four; have zl := HZ.out.lt
    refine stepH (i := 8) (by kernel_rfl) (by kernel_rfl) (fun o ho K2 hK => ?_)
    simp only [List.getElem?_toArray, List.getElem?_cons_zero, List.getElem?_cons_succ, Option.some.injEq] at ho
    subst ho
    go_simp
    obtain ⟨U5, hU5⟩ : ∃ U, U = (((u3.setCell ⟨y1.heap.size, 0, none⟩ (.int .i64 (R2.getD Tm.zero).k)).setCell ⟨y1.heap.size, 1, none⟩ (.int .i64 (R2.getD Tm.zero).n)).setCell ⟨y1.heap.size, 2, none⟩ (.string (R2.getD Tm.zero).s)).setCell ⟨y1.heap.size, 3, none⟩ (.slice A2 (R2.getD Tm.zero).l.length c2) := ⟨_, rfl⟩
    rw [← hU5]
    have hbut : But (y1.heap.size) u3 U5 := by rw [hU5]; exact ((((But.refl _ _).setCell 0 _).setCell 1 _).setCell 2 _).setCell 3 _
    have HX5 := Lib.hid (show Blk U5 (y1.heap.size) 25 #[.int .i64 (R2.getD Tm.zero).k, .int .i64 (R2.getD Tm.zero).n, .string (R2.getD Tm.zero).s, .slice A2 (R2.getD Tm.zero).l.length c2] from by rw [hU5]; exact set4_at u3 (y1.heap.size) _ 25 HZ.out rfl _ _ _ _)
    have HO5 := Lib.hid (show Blk U5 wr.heap.size 25 _ from (hbut.block _ HO2.out.lt (by have := HO4.out.lt; have := Hbx.out; omega)).trans HO2.out)
    have HBU5 := Lib.hid (show Below U4.heap.size U4 U5 from hHeld.1.out.trans (hbut.below Hbx.out hHeld.1.out.size))
    have Hx5 := Lib.hid ((HxW.out.but hbut (fun g hg => hg.2)).mono (Q := fun g => U4.heap.size ≤ g) (fun g hg => hg.1))
    refine hK.out _ _ ⟨HBU5, fun p hp => keep_cell HBU5.out (Hbase.out p hp)⟩ (fun hHeld => ?_)
    clear hK K2 z0 z1 z2 z3 g0 g1 g2 g3 zl
    try simp only [Act.put, List.setIfInBounds_toArray, List.set_cons_zero, List.set_cons_succ]
    refine takeH (i := 9) (d := 11) (.int .i64 er2) (by kernel_rfl) (by kernel_rfl) (by kernel_rfl) (by kernel_rfl) (fun _ _ _ _ h => h) (fun o ho => ?_) hHeld ?_
    ·simp only [List.getElem?_toArray, List.getElem?_cons_zero, List.getElem?_cons_succ, Option.some.injEq] at ho
     subst ho
     refine Or.inl ⟨by rfl, fun w hSw => ?_⟩
     go_simp
    simp only [Act.put, List.setIfInBounds_toArray, List.set_cons_zero, List.set_cons_succ]
    refine wpAnyH_done (by kernel_rfl) ?_ _
    refine NoPanic.normal ?_
    obtain ⟨bx, hbx⟩ : ∃ b, b = y1.heap.size := ⟨_, rfl⟩
    rw [← hbx] at HX5 ⊢
    clear hU5 hbut hbx Hbx HO2 Hx2 HxW HZ HC hHeld Hbase Hrep
    by_cases hib : isB (cmpE a b k) = true
    case neg =>
     have hn : R2 = none := by rw [HR2.out, if_neg hib]
     subst hn
     obtain rfl : er2 = 2 := by have := Hz.out; simpa using this.symm
     have hr : R = none := by
      rw [Hr.out, if_neg]
      intro h
      rw [List.all_eq_true] at h
      exact hib (h k (List.mem_range.2 hlt))
     subst hr
     have HBF := Lib.hid (HBw.out.trans (HBU5.out.mono HBw.out.size))
     go_wp2
     exact bodyPost_ret (v := .tuple #[.slice none 0 0, .int .i64 2]) (by simp [results, Try.results53, go_sem]) rfl (R := RetML w none 2) ⟨none, 0, rfl, TmC.nil _ _ (by omega) (fun _ => rfl), HBF.out⟩
    have hn : R2 = some (cmpE a b k) := by rw [HR2.out, if_pos hib]
    subst hn
    obtain rfl : er2 = 0 := by have := Hz.out; simpa using this.symm
    clear Hz
    obtain ⟨x, hx⟩ : ∃ x, x = cmpE a b k := ⟨_, rfl⟩
    have Hal2 := Lib.hid (show (List.range (k + 1)).all (fun i => isB (cmpE a b i)) = true from by rw [List.range_succ, List.all_append, Hal.out]; simp [hib])
    rw [← hx] at Hs2 Hx5 HX5 HR2 ⊢
    rw [show (some x).getD Tm.zero = x from rfl] at Hs2 Hx5 HX5 ⊢
    have Hx := Lib.hid hx; clear hx hib HR2
    obtain ⟨q, hq⟩ : ∃ q, q = sameB x (Tm.va k) := ⟨_, rfl⟩
    have hcall := same_calls x _ (fun _ => True) U5 _ (vV k) (Tm.va k) ⟨A2, c2, rfl, Hs2.out, Hx5.out⟩ (TmV.va _ _ _)
    rw [← hq] at hcall; simp only [vV] at hcall
    have Hcall := Lib.hid hcall; have Hq := Lib.hid hq; clear hcall hq
    obtain ⟨⟨x0, x1, x2, x3⟩, -⟩ := HX5.out.four; have xl := HX5.out.lt; obtain ⟨⟨o0, o1, o2, o3⟩, -⟩ := HO5.out.four; have ol := HO5.out.lt
    go_wp2_with fail
    refine Hcall.out.mono ?_
    rintro e u6 ⟨rfl, hb6⟩
    clear x0 x1 x2 x3 xl o0 o1 o2 o3 ol Hcall HO5
    have hB6 : Below U4.heap.size U4 u6 := HBU5.out.trans (hb6.mono HBU5.out.size)
    have HX6 := Lib.hid (HX5.out.below hb6 HX5.out.lt); have Hx6 := Lib.hid (Hx5.out.stay hb6 (Nat.le_refl _))
    have hBr6 : Below wr.heap.size wr u6 := HBU4.out.trans (hB6.mono HBU4.out.size)
    have HS6 := Lib.hid (HS.out.below hBr6 (Nat.le_refl _)); have HB6 := Lib.hid (HB.out.trans (hBr6.mono HB.out.size))
    have Hrs := Lib.hid (show wr.heap.size ≤ U4.heap.size from HBU4.out.size)
    clear hb6 hB6 hBr6 HX5 Hx5 HBU5
    have hmk1 : m - k = (m - (k + 1)) + 1 := by omega
    cases q
    case true =>
     have Hnew := Lib.hid (show SubC (fun j => w.heap.size ≤ j ∧ j ≠ G) u6 G ((List.range (k + 1)).map (cmpO a b) ++ List.replicate (m - (k + 1)) Tm.zero) from by
      have h1 := HS6.out
      rw [hmk1, List.replicate_succ] at h1
      have h2 : cmpO a b k = Tm.zero := by unfold cmpO; rw [← Hx.out, ← Hq.out, if_pos rfl]
      rw [List.range_succ, List.map_append, List.map_singleton, h2, List.append_assoc]; exact h1)
     go_wp2
     go_roundw
     case rel => exact ⟨k + 1, by omega, by go_num, Hal2, Hnew, HB6⟩
     case measure => simp [intOf]; omega
    have hlen : ((List.range k).map (cmpO a b) ++ List.replicate (m - k) Tm.zero).length = m := by simp; omega
    have hput := HS6.out.put (n := k) (by rw [hlen]; exact hlt) Hs2.out (Hx6.out.mono (Q := fun j => w.heap.size ≤ j ∧ j ≠ G) (fun j hj => ⟨by have := Hrs.out; omega, by have := Hrs.out; omega⟩)) (fun j hj => hj.2)
    have Hnew := Lib.hid (show SubC (fun j => w.heap.size ≤ j ∧ j ≠ G) _ G ((List.range (k + 1)).map (cmpO a b) ++ List.replicate (m - (k + 1)) Tm.zero) from by
     have h1 := hput
     rw [hmk1, List.replicate_succ, List.set_append_right _ _ (by simp)] at h1
     simp only [List.length_map, List.length_range, Nat.sub_self, List.set_cons_zero] at h1
     have h2 : cmpO a b k = x := by unfold cmpO; rw [← Hx.out, ← Hq.out, if_neg (by simp)]
     rw [List.range_succ, List.map_append, List.map_singleton, h2, List.append_assoc]; exact h1)
    have hgw := HGw.out
    have HB7 := Lib.hid ((((HB6.out.setCell (p := ⟨G, k * 4, none⟩) hgw (.int .i64 x.k)).setCell (p := ⟨G, k * 4 + 1, none⟩) hgw (.int .i64 x.n)).setCell (p := ⟨G, k * 4 + 2, none⟩) hgw (.string x.s)).setCell (p := ⟨G, k * 4 + 3, none⟩) hgw (.slice A2 x.l.length c2))
    obtain ⟨⟨x0, x1, x2, x3⟩, -⟩ := HX6.out.four; have xl := HX6.out.lt
    obtain ⟨y, hy⟩ : ∃ y, ((List.range k).map (cmpO a b) ++ List.replicate (m - k) Tm.zero)[k]? = some y := ⟨_, List.getElem?_eq_getElem (by rw [hlen]; exact hlt)⟩
    obtain ⟨A6, c6, q0, q1, q2, q3, -, -⟩ := HS6.out.cells hy
    have f0 := HS6.out.frozen (k * 4); have f1 := HS6.out.frozen (k * 4 + 1); have f2 := HS6.out.frozen (k * 4 + 2); have f3 := HS6.out.frozen (k * 4 + 3); have gl := HS6.out.lt
    have hk0 : (0 : Int) ≤ (k : Int) := by omega
    have hk1 : (k : Int) < (m : Int) := by omega
    clear hput hy hlen hgw
    go_wp2
    go_roundw
    case rel => exact ⟨k + 1, by omega, by go_num, Hal2, Hnew, HB7⟩
    case measure => simp [intOf]; omega
  ·
   simp only [List.getElem?_toArray, List.getElem?_cons_zero, List.getElem?_cons_succ, Option.some.injEq] at ho
   subst ho
   go_simp
   obtain ⟨y1, hwx⟩ : ∃ W, W = wd.alloc (.cells #[.int .i64 0, .int .i64 0, .string ⟨#[]⟩, .slice none 0 0] 25) := ⟨_, rfl⟩
   rw [← hwx]
   have hb : Below wd.heap.size wd y1 := by rw [hwx]; exact (Below.refl _ _).alloc (Nat.le_refl _) _
   have HZ := Lib.hid (show Blk y1 wd.heap.size 25 #[.int .i64 0, .int .i64 0, .string ⟨#[]⟩, .slice none 0 0] from by rw [hwx]; exact Blk.new _ _ _)
   refine hK.out _ _ (hHeld.below hb) (fun hHeld => ?_)
   clear hK K2 hwx
   try simp only [Act.put, List.setIfInBounds_toArray, List.set_cons_zero, List.set_cons_succ]
   have HZl := Lib.hid HZ.out.lt; clear hb
   refine stepH (i := 2) (by kernel_rfl) (by kernel_rfl) (fun o ho K2 hK => ?_)
   simp only [List.getElem?_toArray, List.getElem?_cons_zero, List.getElem?_cons_succ, Option.some.injEq] at ho
   subst ho
   go_simp
   refine (picked_calls _ _ _ _).mono ?_
   rintro e y2 ⟨rfl, hwx⟩
   dsimp only
   have hb : Below y1.heap.size y1 y2 := by rw [hwx]; exact (Below.refl _ _).alloc (Nat.le_refl _) _
   have HC := Lib.hid (show Blk y2 y1.heap.size 22 #[.slice B b.length d] from by rw [hwx]; exact Blk.new _ _ _)
   refine hK.out _ _ (hHeld.below hb) (fun hHeld => ?_)
   clear hK K2 hwx
   try simp only [Act.put, List.setIfInBounds_toArray, List.set_cons_zero, List.set_cons_succ]
   have HZ2 := Lib.hid (HZ.out.below hb HZl.out); clear HZ; have HZ := HZ2; clear HZ2; have HZm := Lib.hid (show y1.heap.size ≤ y2.heap.size from hb.size); clear hb
   refine stepH (i := 3) (by kernel_rfl) (by kernel_rfl) (fun o ho K2 hK => ?_)
   simp only [List.getElem?_toArray, List.getElem?_cons_zero, List.getElem?_cons_succ, Option.some.injEq] at ho
   subst ho
   go_simp
   refine (Hrep.out y2 _ hHeld.1.out (by have h1 := Hsd.out; first | omega | (have h2 := HZl.out; omega)) HC.out).mono ?_
   rintro e u3 ⟨A2, c2, rfl, hs2, hx2, hb⟩
   generalize hz : (if R2.isSome = true then (0 : Int) else 2) = er2; have Hz := Lib.hid hz; clear hz
   dsimp only
   have Hx2 := Lib.hid hx2; have Hs2 := Lib.hid hs2; clear hx2 hs2
   have HW3 := Lib.hid hb
   refine hK.out _ _ (hHeld.below hb) (fun hHeld => ?_)
   clear hK K2 hb
   try simp only [Act.put, List.setIfInBounds_toArray, List.set_cons_zero, List.set_cons_succ]
   have HZ2 := Lib.hid (HZ.out.below HW3.out HZ.out.lt); clear HZ; have HZ := HZ2; clear HZ2
   refine takeH (i := 4) (d := 50) (.tuple #[.agg #[.int .i64 (R2.getD Tm.zero).k, .int .i64 (R2.getD Tm.zero).n, .string (R2.getD Tm.zero).s, .slice A2 (R2.getD Tm.zero).l.length c2], .int .i64 er2]) (by kernel_rfl) (by kernel_rfl) (by kernel_rfl) (by kernel_rfl) (fun _ _ _ _ h => h) (fun o ho => ?_) hHeld ?_
   ·simp only [List.getElem?_toArray, List.getElem?_cons_zero, List.getElem?_cons_succ, Option.some.injEq] at ho
    subst ho
    refine Or.inl ⟨by rfl, fun w hSw => ?_⟩
    go_simp
   simp only [Act.put, List.setIfInBounds_toArray, List.set_cons_zero, List.set_cons_succ]
   refine takeH (i := 5) (d := 55) (.agg #[.int .i64 (R2.getD Tm.zero).k, .int .i64 (R2.getD Tm.zero).n, .string (R2.getD Tm.zero).s, .slice A2 (R2.getD Tm.zero).l.length c2]) (by kernel_rfl) (by kernel_rfl) (by kernel_rfl) (by kernel_rfl) (fun _ _ _ _ h => h) (fun o ho => ?_) hHeld ?_
   ·simp only [List.getElem?_toArray, List.getElem?_cons_zero, List.getElem?_cons_succ, Option.some.injEq] at ho
    subst ho
    refine Or.inl ⟨by rfl, fun w hSw => ?_⟩
    go_simp
   simp only [Act.put, List.setIfInBounds_toArray, List.set_cons_zero, List.set_cons_succ]
   refine takeH (i := 6) (d := 56) (.int .i64 er2) (by kernel_rfl) (by kernel_rfl) (by kernel_rfl) (by kernel_rfl) (fun _ _ _ _ h => h) (fun o ho => ?_) hHeld ?_
   ·simp only [List.getElem?_toArray, List.getElem?_cons_zero, List.getElem?_cons_succ, Option.some.injEq] at ho
    subst ho
    refine Or.inl ⟨by rfl, fun w hSw => ?_⟩
    go_simp
   simp only [Act.put, List.setIfInBounds_toArray, List.set_cons_zero, List.set_cons_succ]
   have Hbx := Lib.hid (show U4.heap.size ≤ wd.heap.size from by rw [Hsd.out]; exact Nat.le_refl _)
   have HxW := Lib.hid (Hx2.out.mono (Q := fun g => U4.heap.size ≤ g ∧ g ≠ wd.heap.size) (fun g hg => ⟨by have h1 := HZl.out; have h2 := HZm.out; have h3 : y2.heap.size ≤ g := hg; have h4 := Hsd.out; omega, by have h1 := HZl.out; have h2 := HZm.out; have h3 : y2.heap.size ≤ g := hg; omega⟩))
   have HO2 := Lib.hid (show Blk u3 wr.heap.size 25 _ from HO4.out.below hHeld.1.out HO4.out.lt)
   obtain ⟨⟨z0, z1, z2, z3⟩, ⟨g0, g1, g2, g3⟩⟩ := HZ.out.four; have zl := HZ.out.lt
   refine stepH (i := 8) (by kernel_rfl) (by kernel_rfl) (fun o ho K2 hK => ?_)
   simp only [List.getElem?_toArray, List.getElem?_cons_zero, List.getElem?_cons_succ, Option.some.injEq] at ho
   subst ho
   go_simp
   obtain ⟨U5, hU5⟩ : ∃ U, U = (((u3.setCell ⟨wd.heap.size, 0, none⟩ (.int .i64 (R2.getD Tm.zero).k)).setCell ⟨wd.heap.size, 1, none⟩ (.int .i64 (R2.getD Tm.zero).n)).setCell ⟨wd.heap.size, 2, none⟩ (.string (R2.getD Tm.zero).s)).setCell ⟨wd.heap.size, 3, none⟩ (.slice A2 (R2.getD Tm.zero).l.length c2) := ⟨_, rfl⟩
   rw [← hU5]
   have hbut : But (wd.heap.size) u3 U5 := by rw [hU5]; exact ((((But.refl _ _).setCell 0 _).setCell 1 _).setCell 2 _).setCell 3 _
   have HX5 := Lib.hid (show Blk U5 (wd.heap.size) 25 #[.int .i64 (R2.getD Tm.zero).k, .int .i64 (R2.getD Tm.zero).n, .string (R2.getD Tm.zero).s, .slice A2 (R2.getD Tm.zero).l.length c2] from by rw [hU5]; exact set4_at u3 (wd.heap.size) _ 25 HZ.out rfl _ _ _ _)
   have HO5 := Lib.hid (show Blk U5 wr.heap.size 25 _ from (hbut.block _ HO2.out.lt (by have := HO4.out.lt; have := Hbx.out; omega)).trans HO2.out)
   have HBU5 := Lib.hid (show Below U4.heap.size U4 U5 from hHeld.1.out.trans (hbut.below Hbx.out hHeld.1.out.size))
   have Hx5 := Lib.hid ((HxW.out.but hbut (fun g hg => hg.2)).mono (Q := fun g => U4.heap.size ≤ g) (fun g hg => hg.1))
   refine hK.out _ _ ⟨HBU5, fun p hp => keep_cell HBU5.out (Hbase.out p hp)⟩ (fun hHeld => ?_)
   clear hK K2 z0 z1 z2 z3 g0 g1 g2 g3 zl
   try simp only [Act.put, List.setIfInBounds_toArray, List.set_cons_zero, List.set_cons_succ]
   refine takeH (i := 9) (d := 11) (.int .i64 er2) (by kernel_rfl) (by kernel_rfl) (by kernel_rfl) (by kernel_rfl) (fun _ _ _ _ h => h) (fun o ho => ?_) hHeld ?_
   ·simp only [List.getElem?_toArray, List.getElem?_cons_zero, List.getElem?_cons_succ, Option.some.injEq] at ho
    subst ho
    refine Or.inl ⟨by rfl, fun w hSw => ?_⟩
    go_simp
   simp only [Act.put, List.setIfInBounds_toArray, List.set_cons_zero, List.set_cons_succ]
   refine wpAnyH_done (by kernel_rfl) ?_ _
   refine NoPanic.normal ?_
   obtain ⟨bx, hbx⟩ : ∃ b, b = wd.heap.size := ⟨_, rfl⟩
   rw [← hbx] at HX5 ⊢
   clear hU5 hbut hbx Hbx HO2 Hx2 HxW HZ HC hHeld Hbase Hrep
   by_cases hib : isB (cmpE a b k) = true
   case neg =>
    have hn : R2 = none := by rw [HR2.out, if_neg hib]
    subst hn
    obtain rfl : er2 = 2 := by have := Hz.out; simpa using this.symm
    have hr : R = none := by
     rw [Hr.out, if_neg]
     intro h
     rw [List.all_eq_true] at h
     exact hib (h k (List.mem_range.2 hlt))
    subst hr
    have HBF := Lib.hid (HBw.out.trans (HBU5.out.mono HBw.out.size))
    go_wp2
    exact bodyPost_ret (v := .tuple #[.slice none 0 0, .int .i64 2]) (by simp [results, Try.results53, go_sem]) rfl (R := RetML w none 2) ⟨none, 0, rfl, TmC.nil _ _ (by omega) (fun _ => rfl), HBF.out⟩
   have hn : R2 = some (cmpE a b k) := by rw [HR2.out, if_pos hib]
   subst hn
   obtain rfl : er2 = 0 := by have := Hz.out; simpa using this.symm
   clear Hz
   obtain ⟨x, hx⟩ : ∃ x, x = cmpE a b k := ⟨_, rfl⟩
   have Hal2 := Lib.hid (show (List.range (k + 1)).all (fun i => isB (cmpE a b i)) = true from by rw [List.range_succ, List.all_append, Hal.out]; simp [hib])
   rw [← hx] at Hs2 Hx5 HX5 HR2 ⊢
   rw [show (some x).getD Tm.zero = x from rfl] at Hs2 Hx5 HX5 ⊢
   have Hx := Lib.hid hx; clear hx hib HR2
   obtain ⟨q, hq⟩ : ∃ q, q = sameB x (Tm.va k) := ⟨_, rfl⟩
   have hcall := same_calls x _ (fun _ => True) U5 _ (vV k) (Tm.va k) ⟨A2, c2, rfl, Hs2.out, Hx5.out⟩ (TmV.va _ _ _)
   rw [← hq] at hcall; simp only [vV] at hcall
   have Hcall := Lib.hid hcall; have Hq := Lib.hid hq; clear hcall hq
   obtain ⟨⟨x0, x1, x2, x3⟩, -⟩ := HX5.out.four; have xl := HX5.out.lt; obtain ⟨⟨o0, o1, o2, o3⟩, -⟩ := HO5.out.four; have ol := HO5.out.lt
   go_wp2_with fail
   refine Hcall.out.mono ?_
   rintro e u6 ⟨rfl, hb6⟩
   clear x0 x1 x2 x3 xl o0 o1 o2 o3 ol Hcall HO5
   have hB6 : Below U4.heap.size U4 u6 := HBU5.out.trans (hb6.mono HBU5.out.size)
   have HX6 := Lib.hid (HX5.out.below hb6 HX5.out.lt); have Hx6 := Lib.hid (Hx5.out.stay hb6 (Nat.le_refl _))
   have hBr6 : Below wr.heap.size wr u6 := HBU4.out.trans (hB6.mono HBU4.out.size)
   have HS6 := Lib.hid (HS.out.below hBr6 (Nat.le_refl _)); have HB6 := Lib.hid (HB.out.trans (hBr6.mono HB.out.size))
   have Hrs := Lib.hid (show wr.heap.size ≤ U4.heap.size from HBU4.out.size)
   clear hb6 hB6 hBr6 HX5 Hx5 HBU5
   have hmk1 : m - k = (m - (k + 1)) + 1 := by omega
   cases q
   case true =>
    have Hnew := Lib.hid (show SubC (fun j => w.heap.size ≤ j ∧ j ≠ G) u6 G ((List.range (k + 1)).map (cmpO a b) ++ List.replicate (m - (k + 1)) Tm.zero) from by
     have h1 := HS6.out
     rw [hmk1, List.replicate_succ] at h1
     have h2 : cmpO a b k = Tm.zero := by unfold cmpO; rw [← Hx.out, ← Hq.out, if_pos rfl]
     rw [List.range_succ, List.map_append, List.map_singleton, h2, List.append_assoc]; exact h1)
    go_wp2
    go_roundw
    case rel => exact ⟨k + 1, by omega, by go_num, Hal2, Hnew, HB6⟩
    case measure => simp [intOf]; omega
   have hlen : ((List.range k).map (cmpO a b) ++ List.replicate (m - k) Tm.zero).length = m := by simp; omega
   have hput := HS6.out.put (n := k) (by rw [hlen]; exact hlt) Hs2.out (Hx6.out.mono (Q := fun j => w.heap.size ≤ j ∧ j ≠ G) (fun j hj => ⟨by have := Hrs.out; omega, by have := Hrs.out; omega⟩)) (fun j hj => hj.2)
   have Hnew := Lib.hid (show SubC (fun j => w.heap.size ≤ j ∧ j ≠ G) _ G ((List.range (k + 1)).map (cmpO a b) ++ List.replicate (m - (k + 1)) Tm.zero) from by
    have h1 := hput
    rw [hmk1, List.replicate_succ, List.set_append_right _ _ (by simp)] at h1
    simp only [List.length_map, List.length_range, Nat.sub_self, List.set_cons_zero] at h1
    have h2 : cmpO a b k = x := by unfold cmpO; rw [← Hx.out, ← Hq.out, if_neg (by simp)]
    rw [List.range_succ, List.map_append, List.map_singleton, h2, List.append_assoc]; exact h1)
   have hgw := HGw.out
   have HB7 := Lib.hid ((((HB6.out.setCell (p := ⟨G, k * 4, none⟩) hgw (.int .i64 x.k)).setCell (p := ⟨G, k * 4 + 1, none⟩) hgw (.int .i64 x.n)).setCell (p := ⟨G, k * 4 + 2, none⟩) hgw (.string x.s)).setCell (p := ⟨G, k * 4 + 3, none⟩) hgw (.slice A2 x.l.length c2))
   obtain ⟨⟨x0, x1, x2, x3⟩, -⟩ := HX6.out.four; have xl := HX6.out.lt
   obtain ⟨y, hy⟩ : ∃ y, ((List.range k).map (cmpO a b) ++ List.replicate (m - k) Tm.zero)[k]? = some y := ⟨_, List.getElem?_eq_getElem (by rw [hlen]; exact hlt)⟩
   obtain ⟨A6, c6, q0, q1, q2, q3, -, -⟩ := HS6.out.cells hy
   have f0 := HS6.out.frozen (k * 4); have f1 := HS6.out.frozen (k * 4 + 1); have f2 := HS6.out.frozen (k * 4 + 2); have f3 := HS6.out.frozen (k * 4 + 3); have gl := HS6.out.lt
   have hk0 : (0 : Int) ≤ (k : Int) := by omega
   have hk1 : (k : Int) < (m : Int) := by omega
   clear hput hy hlen hgw
   go_wp2
   go_roundw
   case rel => exact ⟨k + 1, by omega, by go_num, Hal2, Hnew, HB7⟩
   case measure => simp [intOf]; omega
end Go.Proofs.Ytfhgknmkpegpbaa
set_option linter.unusedVariables false
set_option linter.unusedSimpArgs false
namespace Go.Proofs.Ytfhgknmkpegpbaa
open Go.RowKit
def shF (n v : Int) : Option Tm := some (Tm.va (wrap64 (v + n)))
set_option maxRecDepth 100000 in
set_option maxHeartbeats 4000000 in
theorem shift1_calls (Q : Nat → Prop) (cb : Nat) (n : Int) (w : World) (v : Int) (hb : Blk w cb 3 #[.int .i64 n]) :
  Calls Try.prog 96 #[.int .i64 v, .pointer (some ⟨cb, 0, none⟩)] w (RetP Q w (shF n v)) := by
 obtain ⟨k0, -⟩ := hb.one
 have hlt := hb.lt
 have Hb := Lib.hid hb; clear hb
 go_enter Try.func96, Try.ntmps96
 go_wp2
 refine bodyPost_ret (v := .tuple #[.agg #[.int .i64 1, .int .i64 (wrap64 (v + n)), .string ⟨#[]⟩, .slice none 0 0], .bool true]) (by simp [results, Try.results96, go_sem]) rfl (R := RetP Q w _) ⟨none, 0, rfl, by show (0 : Nat) ≤ _; omega, TmC.nil _ _ (by omega) (fun _ => rfl), ?_⟩
 exact (Below.refl _ _).alloc (Nat.le_refl _) _
end Go.Proofs.Ytfhgknmkpegpbaa
