/- Part 1 of the base: the walks and plain facts that the statement rests on. -/
import Derived.Shelf.Strings.Builder1
import Derived.Shelf.Small.Wraps
import Derived.Shelf.GgClosure.StringsIndexFunc
import Derived.Ground.GgwProg
import Derived.Shelf.GgClosure.StringsIndexFuncTop
import Derived.Shelf.GgClosure.StringsRunes
import Derived.Shelf.Slices.Equal
import Derived.Ground.Names2Prog
import Derived.Shelf.Slices.Clone
import Derived.Shelf.Slices.SearchI
import Derived.Shelf.Slices.Empties2
import Derived.Ground.SlgnProg
import Derived.Shelf.SlicesE.Clone
import Derived.Test.YtfhgknmkpegpbaaProg
import Derived.Shelf.Strings.BuilderK
import Derived.Below
import Derived.Outline
import Derived.Laws.BitsLemmas
import Derived.OrdersHeld
import Derived.Laws.IdiomCopy
import Derived.ArgAppend
import Derived.Deep.RegionHeld3
import Derived.Deep.CutBlock
import Derived.Deep.DeepCutAuto
import Derived.WideLaws
import Derived.BigQuiet
import Derived.Deep.QuietTactic
import Derived.Deep.LoopGhost
import Derived.RowKit3
import Derived.KernelRfl
import Derived.WalkKit
import Derived.Laws.Slices
import Derived.Tactics
import Derived.Laws.BytesArg
import Derived.Laws.OwnMore
import Derived.Deep.AppendLies
import Derived.Deep.Draws
import Derived.Laws.Rows
import Derived.Maps.AppendAt
import Derived.RegionTactic
import Derived.OwnWalk
import Derived.Deep.OwnRows
import Derived.Laws.MakeOwn
import Derived.Laws.Entries
import Derived.Lib.Hide

namespace Go.Proofs
open Go.Shelf
def Try.laysGw15_ren : Go.Shelf.Ren := ⟨fun | 15 => 143 | 20 => 152 | n => n, fun | 9 => 9 | 23 => 158 | 3 => 3 | 4 => 4 | 0 => 0 | 21 => 21 | n => n, fun | n => n⟩
theorem Try.laysGw15 : Go.Proofs.LaysGw.n15 Try.prog Try.laysGw15_ren := {
 mixed := by kernel_rfl
 f15 := Try.func143.trans (congrArg some (by kernel_rfl))
 f20 := Try.func152.trans (congrArg some (by kernel_rfl))
 t0 := Try.underlying0
 a0 := Try.isAgg0
 z0 := Try.sizeOf0
 v0 := Try.zeroValue0
 i0 := by kernel_rfl
 t3 := Try.underlying3
 a3 := Try.isAgg3
 z3 := Try.sizeOf3
 v3 := Try.zeroValue3
 i3 := by kernel_rfl
 t4 := Try.underlying4
 a4 := Try.isAgg4
 z4 := Try.sizeOf4
 v4 := Try.zeroValue4
 i4 := by kernel_rfl
 t9 := Try.underlying9
 a9 := Try.isAgg9
 z9 := Try.sizeOf9
 v9 := Try.zeroValue9
 i9 := by kernel_rfl
 t21 := Try.underlying21
 a21 := Try.isAgg21
 z21 := Try.sizeOf21
 v21 := Try.zeroValue21
 i21 := by kernel_rfl
 t23 := Try.underlying158
 a23 := Try.isAgg158
 z23 := Try.sizeOf158
 v23 := Try.zeroValue158
 i23 := by kernel_rfl }
open Go.RowKit Go.Lib in
theorem Try.strings_IndexFunc_runes (g : Nat) (lb : Array Value) (eg : ∀ args w, (callFunc g args).run Try.prog w = .ok (.enter g args) w) (p : Nat → Bool) (s : ByteArray) (w : World) (hp : PredAtRunes Try.prog g lb p w) :
  Calls Try.prog 143 #[.string s, .func (.func g) #[] lb] w fun e w' => e = .returned (.int .i64 (Lib.idxFunc p true s)) ∧ Below w.heap.size w w' := Any.strings_IndexFunc_runes Try.laysGw15 g lb eg p s w hp
def Try.laysNm215_ren : Go.Shelf.Ren := ⟨fun | 15 => 151 | n => n, fun | 22 => 39 | 3 => 3 | 4 => 4 | n => n, fun | n => n⟩
theorem Try.laysNm215 : Go.Proofs.Lays2.n15 Try.prog Try.laysNm215_ren := {
 mixed := by kernel_rfl
 f15 := Try.func151.trans (congrArg some (by kernel_rfl))
 t3 := Try.underlying3
 a3 := Try.isAgg3
 z3 := Try.sizeOf3
 v3 := Try.zeroValue3
 t4 := Try.underlying4
 a4 := Try.isAgg4
 z4 := Try.sizeOf4
 v4 := Try.zeroValue4
 t22 := Try.underlying39
 a22 := Try.isAgg39
 z22 := Try.sizeOf39
 v22 := Try.zeroValue39
 i3 := by kernel_rfl }
open Go.RowKit Go.Lib in
theorem Try.slices_Clone_int (b off n c : Nat) (zs : List Int) (w : World) (hz : n ≤ zs.length) (hbig : n * 8 ≤ 140737488355328) (hc : ∀ j, j < zs.length → w.cell? ⟨b, off + j, none⟩ = some (.int .i64 (zs.getD j 0))) :
  Calls Try.prog 151 #[.slice (some ⟨b, off, none⟩) n c] w fun e w' => ∃ v', e = .returned v' ∧ w'.ownsRow w.heap.size 3 1 v' n ((zs.take n).map (Value.int .i64)) ∧ v' ≠ .slice none 0 0 ∧ Below w.heap.size w w' := Any.slices_Clone_int Try.laysNm215 b off n c zs w hz hbig hc
open Go.RowKit Go.Lib in
theorem Try.slices_Clone_int_nil (n c : Nat) (w : World) :
  Calls Try.prog 151 #[.slice none n c] w fun e w' => e = .returned (.slice none 0 0) ∧ w' = w := Any.slices_Clone_int_nil Try.laysNm215 n c w
end Go.Proofs
namespace Go.Proofs
open Go.Shelf
def Try.bld_ren : Go.Shelf.Ren := ⟨fun | 167 => 148 | 166 => 149 | 240 => 155 | 276 => 156 | 169 => 131 | n => n, fun | 70 => 146 | 9 => 9 | 0 => 0 | 72 => 149 | 37 => 147 | 127 => 167 | 3 => 3 | 5 => 5 | 4 => 4 | 20 => 20 | 75 => 163 | 164 => 171 | 80 => 152 | n => n, fun | n => n⟩
theorem Try.lays167 : Go.Proofs.Lays.n167 Try.prog Try.bld_ren := {
 mixed := by kernel_rfl
 f167 := Try.func148.trans (congrArg some (by kernel_rfl))
 f240 := Try.func155.trans (congrArg some (by kernel_rfl))
 f276 := Try.func156.trans (congrArg some (by kernel_rfl))
 t0 := Try.underlying0
 a0 := Try.isAgg0
 z0 := Try.sizeOf0
 v0 := Try.zeroValue0
 t4 := Try.underlying4
 a4 := Try.isAgg4
 z4 := Try.sizeOf4
 v4 := Try.zeroValue4
 t5 := Try.underlying5
 a5 := Try.isAgg5
 z5 := Try.sizeOf5
 v5 := Try.zeroValue5
 t9 := Try.underlying9
 a9 := Try.isAgg9
 z9 := Try.sizeOf9
 v9 := Try.zeroValue9
 t20 := Try.underlying20
 a20 := Try.isAgg20
 z20 := Try.sizeOf20
 v20 := Try.zeroValue20
 t37 := Try.underlying147
 a37 := Try.isAgg147
 z37 := Try.sizeOf147
 v37 := Try.zeroValue147
 t70 := Try.underlying146
 a70 := Try.isAgg146
 z70 := Try.sizeOf146
 v70 := Try.zeroValue146
 t72 := Try.underlying149
 a72 := Try.isAgg149
 z72 := Try.sizeOf149
 v72 := Try.zeroValue149
 t75 := Try.underlying163
 a75 := Try.isAgg163
 z75 := Try.sizeOf163
 v75 := Try.zeroValue163
 t164 := Try.underlying171
 a164 := Try.isAgg171
 z164 := Try.sizeOf171
 v164 := Try.zeroValue171 }
theorem Try.lays166 : Go.Proofs.Lays.n166 Try.prog Try.bld_ren := {
 mixed := by kernel_rfl
 f166 := Try.func149.trans (congrArg some (by kernel_rfl))
 f240 := Try.func155.trans (congrArg some (by kernel_rfl))
 f276 := Try.func156.trans (congrArg some (by kernel_rfl))
 t0 := Try.underlying0
 a0 := Try.isAgg0
 z0 := Try.sizeOf0
 v0 := Try.zeroValue0
 t3 := Try.underlying3
 a3 := Try.isAgg3
 z3 := Try.sizeOf3
 v3 := Try.zeroValue3
 t4 := Try.underlying4
 a4 := Try.isAgg4
 z4 := Try.sizeOf4
 v4 := Try.zeroValue4
 t9 := Try.underlying9
 a9 := Try.isAgg9
 z9 := Try.sizeOf9
 v9 := Try.zeroValue9
 t20 := Try.underlying20
 a20 := Try.isAgg20
 z20 := Try.sizeOf20
 v20 := Try.zeroValue20
 t37 := Try.underlying147
 a37 := Try.isAgg147
 z37 := Try.sizeOf147
 v37 := Try.zeroValue147
 t70 := Try.underlying146
 a70 := Try.isAgg146
 z70 := Try.sizeOf146
 v70 := Try.zeroValue146
 t72 := Try.underlying149
 a72 := Try.isAgg149
 z72 := Try.sizeOf149
 v72 := Try.zeroValue149
 t75 := Try.underlying163
 a75 := Try.isAgg163
 z75 := Try.sizeOf163
 v75 := Try.zeroValue163
 t164 := Try.underlying171
 a164 := Try.isAgg171
 z164 := Try.sizeOf171
 v164 := Try.zeroValue171 }
theorem Try.lays169b : Go.Proofs.Lays.n169 Try.prog Try.bld_ren := {
 mixed := by kernel_rfl
 f169 := Try.func131.trans (congrArg some (by kernel_rfl))
 t0 := Try.underlying0
 a0 := Try.isAgg0
 z0 := Try.sizeOf0
 v0 := Try.zeroValue0
 t3 := Try.underlying3
 a3 := Try.isAgg3
 z3 := Try.sizeOf3
 v3 := Try.zeroValue3
 t9 := Try.underlying9
 a9 := Try.isAgg9
 z9 := Try.sizeOf9
 v9 := Try.zeroValue9
 t37 := Try.underlying147
 a37 := Try.isAgg147
 z37 := Try.sizeOf147
 v37 := Try.zeroValue147
 t70 := Try.underlying146
 a70 := Try.isAgg146
 z70 := Try.sizeOf146
 v70 := Try.zeroValue146
 t72 := Try.underlying149
 a72 := Try.isAgg149
 z72 := Try.sizeOf149
 v72 := Try.zeroValue149
 t127 := Try.underlying167
 a127 := Try.isAgg167
 z127 := Try.sizeOf167
 v127 := Try.zeroValue167 }
theorem Try.Builder_ExtraB : Builder.Extra Try.prog Try.bld_ren := {
 sizeBuilder := by kernel_rfl
 liesBuilder := by kernel_rfl
 t5 := Try.underlying5
 a5 := Try.isAgg5
 z5 := Try.sizeOf5
 v5 := Try.zeroValue5
 infoByte := by kernel_rfl
 cellsByte := by kernel_rfl
 sizeByte := by kernel_rfl
 neB5 := by decide }
end Go.Proofs
set_option linter.unusedVariables false
set_option linter.unusedSimpArgs false
namespace Go.Proofs.Ytfhgknmkpegpbaa
open Go.RowKit
theorem block_of_add (a : Addr) (n : Nat) : (a.add n).block = a.block := by unfold Addr.add; split <;> rfl
def Reads (w : World) (B size : Nat) (A : Option Addr) (n : Nat) (xs : List Value) : Prop :=
 xs.length = n * size ∧ (0 < n → ∃ ad, A = some ad ∧ ad.block < B ∧ ∀ j u, xs[j]? = some u → w.cell? (ad.add j) = some u)
section
variable {w w' : World} {B B' size n : Nat} {A : Option Addr} {xs : List Value}
theorem Reads.at_ {k : Nat} (h : Reads w B 1 A n xs) (hk : k < n) : ∃ ad u, A = some ad ∧ ad.block < B ∧ xs[k]? = some u ∧ w.cell? (ad.add k) = some u := by
 obtain ⟨ad, e, hb, hc⟩ := h.2 (by omega)
 have hl : k < xs.length := by have := h.1; omega
 exact ⟨ad, xs[k], e, hb, List.getElem?_eq_getElem hl, hc k _ (List.getElem?_eq_getElem hl)⟩
theorem Reads.keep (h : Reads w B size A n xs) (hk : ∀ p : Addr, p.block < B → w'.cell? p = w.cell? p) : Reads w' B size A n xs :=
 ⟨h.1, fun hn => by
  obtain ⟨ad, e, hb, hc⟩ := h.2 hn
  exact ⟨ad, e, hb, fun j u hu => (hk _ (by rw [block_of_add]; exact hb)).trans (hc j u hu)⟩⟩
theorem Reads.below (h : Reads w B size A n xs) (hb : Below B w w') : Reads w' B size A n xs := h.keep fun _ hp => hb.cell hp
theorem Reads.drew (h : Reads w B size A n xs) : Reads w.drew B size A n xs := h
theorem Reads.drewN (h : Reads w B size A n xs) (k : Nat) : Reads (w.drewN k) B size A n xs := h
theorem Reads.alloc (h : Reads w B size A n xs) (hB : B ≤ w.heap.size) (o : Obj) : Reads (w.alloc o) B size A n xs := h.keep fun p hp => World.cell?_alloc_lt w o p (by omega)
theorem Reads.setCell (h : Reads w B size A n xs) {p : Addr} (hB : B ≤ p.block) (u : Value) : Reads (w.setCell p u) B size A n xs :=
 h.keep fun q hq => World.cell?_setCell_other w p q u (fun e => by subst e; omega)
theorem Reads.grown (h : Reads w B size A n xs) {row : Option Nat} (hg : w.grownBy w' row) (hB : B ≤ w.heap.size) (hr : ∀ g, row = some g → B ≤ g) : Reads w' B size A n xs :=
 h.keep fun p hp => World.cell?_of_block (hg.block p.block (by omega) (fun e => by have := hr _ e.symm; omega))
theorem Reads.of_own {base : Nat} {e : TypeId} {c : Nat} (h : w.ownsRow base e size (.slice A n c) n xs) : Reads w w.heap.size size A n xs := by
 refine ⟨h.1, fun hn => ?_⟩
 obtain ⟨g, cap, hv, _, hlt⟩ := h.form hn
 have hA : A = some ⟨g, 0, none⟩ := by injection hv
 subst hA
 exact ⟨_, rfl, hlt, h.cells (g := g) rfl⟩
end
def Blk (w : World) (g : Nat) (t : TypeId) (cs : Array Value) : Prop := w.heap[g]? = some (.cells cs t (0, 0))
section
variable {w w' : World} {g : Nat} {t : TypeId} {cs : Array Value}
theorem Blk.lt (h : Blk w g t cs) : g < w.heap.size := by
 rcases Nat.lt_or_ge g w.heap.size with hlt | hge
 ·exact hlt
 ·unfold Blk at h; rw [Array.getElem?_eq_none hge] at h; cases h
theorem Blk.cell (h : Blk w g t cs) (i : Nat) : w.cell? ⟨g, i, none⟩ = cs[i]? := cell_of_row w g i cs t (0, 0) h
theorem Blk.frozen (h : Blk w g t cs) (i : Nat) : w.frozen? ⟨g, i, none⟩ = false := by
 unfold Blk at h
 simp [World.frozen?, h]
theorem Blk.new (w : World) (t : TypeId) (cs : Array Value) : Blk (w.alloc (.cells cs t)) w.heap.size t cs := heap_alloc_new w _
theorem Blk.drew (h : Blk w g t cs) : Blk w.drew g t cs := h
theorem Blk.drewN (h : Blk w g t cs) (n : Nat) : Blk (w.drewN n) g t cs := h
theorem Blk.alloc (h : Blk w g t cs) (o : Obj) : Blk (w.alloc o) g t cs := (Below.heap_alloc w o g h.lt).trans h
theorem Blk.set_ (h : Blk w g t cs) (i : Nat) (u : Value) : Blk (w.setCell ⟨g, i, none⟩ u) g t (cs.setIfInBounds i u) := by
 unfold Blk at h ⊢
 simp [World.setCell, Array.getElem?_modify, h]
theorem Blk.far (h : Blk w g t cs) {p : Addr} (hp : g ≠ p.block) (u : Value) : Blk (w.setCell p u) g t cs := (Below.heap_setCell w p u g hp).trans h
theorem Blk.below {B : Nat} (h : Blk w g t cs) (hb : Below B w w') (hg : g < B) : Blk w' g t cs := (hb.block g hg).trans h
theorem Blk.grown {row : Option Nat} (h : Blk w g t cs) (hb : w.grownBy w' row) (hg : some g ≠ row) : Blk w' g t cs := (hb.block g h.lt hg).trans h
theorem Blk.ne_ {g' : Nat} {t' : TypeId} {cs' : Array Value} (h : Blk w g t cs) (h' : Blk w g' t' cs') (hne : t ≠ t') : g ≠ g' := by
 rintro rfl
 unfold Blk at h h'
 rw [h] at h'
 injection h' with h'
 injection h' with _ ht
 exact hne ht
theorem own_blk_ne {base : Nat} {e : TypeId} {size n : Nat} {v : Value} {xs : List Value} (h : w.ownsRow base e size v n xs) (hg : Blk w g t cs) (hne : e ≠ t) : v.ownBlock ≠ some g := by
 rcases h.2 with ⟨rfl, _⟩ | ⟨g', cap, cur, rfl, _, hh, _⟩
 ·simp [Value.ownBlock]
 ·intro he
  have : g' = g := by simpa [Value.ownBlock] using he
  subst this
  exact Blk.ne_ (t := e) hh hg hne rfl
end
section
variable {P : Program} (w : World)
end
theorem below_drewN {B : Nat} {a w : World} (h : Below B a w) (n : Nat) : Below B a (w.drewN n) := ⟨h.os, h.tape, h.output, h.size, h.block⟩
theorem only_alloc {a w : World} {row : Option Nat} (h : a.grownBy w row) (o : Obj) : a.grownBy (w.alloc o) row :=
 ⟨h.os, h.tape, h.output, Nat.le_trans h.size (by simp), fun i hi hne => (Below.heap_alloc w o i (Nat.lt_of_lt_of_le hi h.size)).trans (h.block i hi hne)⟩
theorem only_of_below {a w : World} (h : Below a.heap.size a w) (row : Option Nat) : a.grownBy w row := ⟨h.os, h.tape, h.output, h.size, fun i hi _ => h.block i hi⟩
theorem run_make_rowN {P : Program} (t e : TypeId) (i : TypeInfo) (z : Value) (ht : P.underlying t = some (.slice e)) (hi : P.info? e = some i) (hz : i.zero = some z)
  (kl kc : IntKind) (n c : Nat) (hnc : n ≤ c) (hbytes : i.bytes * c ≤ 281474976710656) (h63 : c ≤ 9223372036854775807) (w : World) :
  (Instr.makeSlice t (.int kl (n : Int)) (.int kc (c : Int))).run P w = .ok (.slice (some ⟨w.heap.size, 0, none⟩) n c) (w.alloc (.cells (madeCells z.cells (c * i.size)) e)) := by
 have hb : (i.bytes : Int) * (c : Int) ≤ 281474976710656 := by
  have h : ((i.bytes * c : Nat) : Int) ≤ 281474976710656 := by omega
  rwa [Int.natCast_mul] at h
 have hr := run_make (P := P) w t e i z ht hi hz kl kc n c (by omega) (by omega) hb (by omega)
 simp only [Int.toNat_natCast] at hr
 exact hr
def Rd (w : World) (A : Option Addr) (cs : List Value) : Prop :=
 cs ≠ [] → ∃ g off, A = some ⟨g, off, none⟩ ∧ ∀ j v, cs[j]? = some v → w.cell? ⟨g, off + j, none⟩ = some v
theorem Rd.below {w w1 : World} {A : Option Addr} {cs : List Value} {B : Nat} (h : Rd w A cs) (hb : Below B w w1) (hB : w.heap.size ≤ B) : Rd w1 A cs := fun hn => by
 obtain ⟨g, off, hA, hc⟩ := h hn
 refine ⟨g, off, hA, fun j v hj => ?_⟩
 have h1 := hc j v hj
 have hlt := World.block_lt_of_cell? w _ h1
 rw [hb.cell (p := ⟨g, off + j, none⟩) (by exact Nat.lt_of_lt_of_le hlt hB)]
 exact h1
def Rows {T : Type} (enc : T → List Value) (w : World) (v : Value) (xs : List T) : Prop :=
 ∃ A c, v = .slice A xs.length c ∧ xs.length ≤ c ∧ (c ≤ 9223372036854775807 ∧ (A = none → c = 0)) ∧ Rd w A (xs.flatMap enc)
theorem Rows.below {T : Type} {enc : T → List Value} {w w1 : World} {v : Value} {xs : List T} {B : Nat} (h : Rows enc w v xs) (hb : Below B w w1) (hB : w.heap.size ≤ B) : Rows enc w1 v xs := by
 obtain ⟨A, c, hv, h1, h2, h3⟩ := h
 exact ⟨A, c, hv, h1, h2, h3.below hb hB⟩
theorem flatMap_get {T : Type} (enc : T → List Value) (k : Nat) (hk : ∀ x, (enc x).length = k) : ∀ (xs : List T) (i j : Nat) (x : T), xs[i]? = some x → j < k → (xs.flatMap enc)[i * k + j]? = (enc x)[j]?
 | [], i, j, x, h, _ => by simp at h
 | y :: ys, 0, j, x, h, hj => by
  simp at h; subst h
  simp only [List.flatMap_cons, Nat.zero_mul, Nat.zero_add]
  rw [List.getElem?_append_left (by rw [hk]; exact hj)]
 | y :: ys, i + 1, j, x, h, hj => by
  simp at h
  have := flatMap_get enc k hk ys i j x h hj
  simp only [List.flatMap_cons]
  rw [List.getElem?_append_right (by rw [hk, Nat.succ_mul]; omega), hk, ← this]
  congr 1
  rw [Nat.succ_mul]; omega
theorem flatMap_len {T : Type} (enc : T → List Value) (k : Nat) (hk : ∀ x, (enc x).length = k) (xs : List T) : (xs.flatMap enc).length = xs.length * k := by
 induction xs with
 | nil => simp
 | cons y ys ih => simp only [List.flatMap_cons, List.length_append, ih, hk, List.length_cons, Nat.succ_mul]; omega
theorem Rows.at {T : Type} {enc : T → List Value} {w : World} {A : Option Addr} {xs : List T} (k : Nat) (hk : ∀ x, (enc x).length = k) (h0 : 0 < k) (h : Rd w A (xs.flatMap enc)) (hne : xs ≠ []) :
  ∃ g off, A = some ⟨g, off, none⟩ ∧ ∀ i x j v, xs[i]? = some x → (enc x)[j]? = some v → w.cell? ⟨g, off + (i * k + j), none⟩ = some v := by
 have hn : xs.flatMap enc ≠ [] := by
  intro e
  have := flatMap_len enc k hk xs
  rw [e] at this
  have h1 : xs.length * k = 0 := this.symm
  rcases Nat.mul_eq_zero.1 h1 with h2 | h2
  ·exact hne (List.eq_nil_of_length_eq_zero h2)
  ·omega
 obtain ⟨g, off, hA, hc⟩ := h hn
 refine ⟨g, off, hA, fun i x j v hi hj => hc _ _ ?_⟩
 have hjk : j < k := by rw [← hk x]; exact (List.getElem?_eq_some_iff.1 hj).1
 rw [flatMap_get enc k hk xs i j x hi hjk]; exact hj
def encI (n : Int) : List Value := [.int .i64 n]
theorem ne_of_get {T : Type} {xs : List T} {k : Nat} {x : T} (h : xs[k]? = some x) : xs ≠ [] := by intro e; subst e; simp at h
theorem Rd.atI {w : World} {A : Option Addr} {xs : List Int} {k : Nat} {x : Int} (h : Rd w A (xs.flatMap encI)) (hx : xs[k]? = some x) :
  ∃ g off, A = some ⟨g, off, none⟩ ∧ w.cell? ⟨g, off + k, none⟩ = some (.int .i64 x) := by
 obtain ⟨g, off, hA, hc⟩ := Rows.at 1 (fun _ => rfl) (by omega) h (ne_of_get hx)
 have := hc k x 0 _ hx rfl
 rw [Nat.mul_one, Nat.add_zero] at this
 exact ⟨g, off, hA, this⟩
def findI {T : Type} (q : T → Bool) (xs : List T) : Int := match xs.findIdx? q with | some i => (i : Int) | none => -1
theorem findI_none {T : Type} {q : T → Bool} {xs : List T} (h : xs.findIdx? q = none) : findI q xs = -1 := by unfold findI; rw [h]
theorem findI_some {T : Type} {q : T → Bool} {xs : List T} {i : Nat} (h : xs.findIdx? q = some i) : findI q xs = i := by unfold findI; rw [h]
theorem any_findI {T : Type} (q : T → Bool) (xs : List T) : xs.any q = decide (0 ≤ findI q xs) := by
 cases h : xs.findIdx? q with
 | none =>
  rw [findI_none h]
  rw [List.findIdx?_eq_none_iff] at h
  simp; exact h
 | some i =>
  rw [findI_some h]
  rw [List.findIdx?_eq_some_iff_getElem] at h
  obtain ⟨h1, h2, _⟩ := h
  simp
  exact ⟨_, List.getElem_mem h1, h2⟩
theorem add_lit0 (g j : Nat) : (⟨g, 0, none⟩ : Addr).add j = ⟨g, j, none⟩ := by unfold Addr.add; split <;> simp_all
theorem own_to_rows {T : Type} {enc : T → List Value} {k e B : Nat} (hk : ∀ x, (enc x).length = k) (h0 : 0 < k) {w : World} {v : Value} {xs : List T} (h : w.ownsRow B e k v xs.length (xs.flatMap enc)) : Rows enc w v xs := by
 have hr : ∀ g, v.ownBlock = some g → Rd w (some ⟨g, 0, none⟩) (xs.flatMap enc) := fun g hg _ => ⟨g, 0, rfl, fun j u hu => by
  have := h.cells hg j u hu
  have ha : (⟨g, 0, none⟩ : Addr).add j = ⟨g, 0 + j, none⟩ := by unfold Addr.add; split <;> simp_all
  rwa [ha] at this⟩
 rcases h.2 with ⟨rfl, hn⟩ | ⟨g, cap, cur, rfl, _, _, hnc, hcm, _⟩
 ·refine ⟨none, 0, by rw [hn], by omega, ⟨by omega, fun _ => rfl⟩, fun hne => ?_⟩
  have : xs = [] := List.eq_nil_of_length_eq_zero hn
  subst this
  exact absurd rfl hne
 ·exact ⟨_, cap, rfl, hnc, ⟨by simpa [maxLen] using hcm, fun h => by cases h⟩, hr g rfl⟩
theorem own_slice {w : World} {base n e size : Nat} {v : Value} {xs : List Value} (h : w.ownsRow base e size v n xs) : ∃ A c, v = .slice A n c := by
 rcases h.2 with ⟨rfl, rfl⟩ | ⟨g, cap, cur, rfl, _⟩
 ·exact ⟨none, 0, rfl⟩
 ·exact ⟨_, cap, rfl⟩
theorem own_below {w w1 : World} {b e s n B : Nat} {v : Value} {xs : List Value} (h : w.ownsRow b e s v n xs) (hb : Below B w w1) (hB : w.heap.size ≤ B) : w1.ownsRow b e s v n xs :=
 h.kept (only_of_below (hb.mono hB) none) (by cases v.ownBlock <;> simp)
theorem own_lower {w : World} {b b' e s n : Nat} {v : Value} {xs : List Value} (h : w.ownsRow b e s v n xs) (hb : b' ≤ b) : w.ownsRow b' e s v n xs := by
 obtain ⟨h1, h2⟩ := h
 refine ⟨h1, ?_⟩
 rcases h2 with h2 | ⟨g, cap, cur, hv, hg, r⟩
 ·exact .inl h2
 ·exact .inr ⟨g, cap, cur, hv, by omega, r⟩
theorem own_rd {w : World} {B e k n m c : Nat} {A : Option Addr} {cs : List Value} (h : w.ownsRow B e k (.slice A n c) m cs) : Rd w A cs := by
 intro hne
 rcases h.2 with ⟨hv, hn⟩ | ⟨g, cap, cur, hv, _, _, hnc, hcm, _⟩
 ·have := h.1
  rw [hn, Nat.zero_mul] at this
  exact absurd (List.eq_nil_of_length_eq_zero this) hne
 ·injection hv with hA _ _
  subst hA
  exact ⟨g, 0, rfl, fun j u hu => by
   have := h.cells (g := g) rfl j u hu
   have ha : (⟨g, 0, none⟩ : Addr).add j = ⟨g, 0 + j, none⟩ := by unfold Addr.add; split <;> simp_all
   rwa [ha] at this⟩
theorem own_len {T : Type} {enc : T → List Value} {k e B : Nat} (hk : ∀ x, (enc x).length = k) (h0 : 0 < k) {w : World} {A : Option Addr} {c : Nat} {xs : List T} (h : w.ownsRow B e k (.slice A xs.length c) xs.length (xs.flatMap enc)) : xs.length ≤ c ∧ (A = none → c = 0) := by
 obtain ⟨A', c', he, h1, h2, h3⟩ := own_to_rows hk h0 h
 injection he with he1 _ he2
 subst he1 he2
 exact ⟨h1, h2.2⟩
theorem keep_cell {W W' : World} {a : Addr} {v : Value} (hb : Below W.heap.size W W') (h : W.cell? a = some v) : W'.cell? a = some v :=
 (hb.cell (World.block_lt_of_cell? W a h)).trans h
theorem rd_nil (w : World) (A : Option Addr) : Rd w A [] := fun h => absurd rfl h
end Go.Proofs.Ytfhgknmkpegpbaa
set_option linter.unusedVariables false
set_option linter.unusedSimpArgs false
namespace Go.Proofs.Ytfhgknmkpegpbaa
open Go.RowKit
inductive Tm where
 | mk (k n : Int) (s : ByteArray) (l : List Tm)
def Tm.k : Tm → Int | .mk k _ _ _ => k
def Tm.n : Tm → Int | .mk _ n _ _ => n
def Tm.s : Tm → ByteArray | .mk _ _ s _ => s
def Tm.l : Tm → List Tm | .mk _ _ _ l => l
theorem Tm.eta (t : Tm) : Tm.mk t.k t.n t.s t.l = t := by cases t; rfl
mutual
def Tm.size : Tm → Nat | .mk _ _ _ l => 1 + Tm.sizes l
def Tm.sizes : List Tm → Nat
 | [] => 0
 | t :: ts => Tm.size t + Tm.sizes ts
end
theorem Tm.size_eq (t : Tm) : t.size = 1 + Tm.sizes t.l := by cases t; rw [Tm.size]; rfl
theorem Tm.size_pos (t : Tm) : 1 ≤ t.size := by rw [Tm.size_eq]; omega
theorem Tm.size_mem : ∀ {l : List Tm} {t : Tm}, t ∈ l → t.size ≤ Tm.sizes l
 | x :: xs, t, h => by
  rw [Tm.sizes]
  rcases List.mem_cons.1 h with rfl | h
  ·omega
  ·have := Tm.size_mem h; omega
theorem Tm.size_child {t x : Tm} (h : x ∈ t.l) : x.size < t.size := by
 have := Tm.size_mem h
 rw [t.size_eq]; omega
theorem Tm.ind {p : Tm → Prop} (h : ∀ t, (∀ x ∈ t.l, p x) → p t) (t : Tm) : p t := by
 suffices ∀ n, ∀ t : Tm, t.size ≤ n → p t from this t.size t (Nat.le_refl _)
 intro n
 induction n with
 | zero => intro t ht; have := t.size_pos; omega
 | succ n ih => intro t ht; exact h t fun x hx => ih x (by have := Tm.size_child hx; omega)
abbrev EV := Tm × Option Addr × Nat
def encE (x : EV) : List Value := [.int .i64 x.1.k, .int .i64 x.1.n, .string x.1.s, .slice x.2.1 x.1.l.length x.2.2]
inductive TmC (P : Nat → Prop) (w : World) : Option Addr → Nat → List Tm → Prop
 | mk {A : Option Addr} {c : Nat} {l : List Tm} (es : List EV) (he : l = es.map (fun e => e.1)) (hl : l.length ≤ c) (hc : c ≤ 9223372036854775807) (hn : A = none → c = 0)
   (hP : l ≠ [] → ∃ g off, A = some ⟨g, off, none⟩ ∧ P g) (hr : Rd w A (es.flatMap encE)) (hs : ∀ e ∈ es, e.1.s.size ≤ 9223372036854775807) (hrec : ∀ e ∈ es, TmC P w e.2.1 e.2.2 e.1.l) : TmC P w A c l
theorem TmC.len {P : Nat → Prop} {w : World} {A : Option Addr} {c : Nat} {l : List Tm} (h : TmC P w A c l) : l.length ≤ c ∧ c ≤ 9223372036854775807 ∧ (A = none → c = 0) := by
 cases h with | mk es he hl hc hn => exact ⟨hl, hc, hn⟩
theorem TmC.nil (P : Nat → Prop) (w : World) {A : Option Addr} {c : Nat} (hc : c ≤ 9223372036854775807) (hn : A = none → c = 0) : TmC P w A c [] :=
 .mk [] rfl (Nat.zero_le _) hc hn (fun h => absurd rfl h) (rd_nil _ _) (fun e h => by simp at h) (fun e h => by simp at h)
theorem TmC.mono {P Q : Nat → Prop} {w : World} {A : Option Addr} {c : Nat} {l : List Tm} (h : TmC P w A c l) (hPQ : ∀ g, P g → Q g) : TmC Q w A c l := by
 induction h with
 | mk es he hl hc hn hP hr hs hrec ih => exact .mk es he hl hc hn (fun hne => by obtain ⟨g, off, h1, h2⟩ := hP hne; exact ⟨g, off, h1, hPQ g h2⟩) hr hs ih
theorem cell_of_heap {w w' : World} {g : Nat} (h : w'.heap[g]? = w.heap[g]?) (o : Nat) : w'.cell? ⟨g, o, none⟩ = w.cell? ⟨g, o, none⟩ := by
 simp only [World.cell?, h]
theorem es_ne {es : List EV} {l : List Tm} (he : l = es.map (fun e => e.1)) (h : es.flatMap encE ≠ []) : l ≠ [] := by
 intro e; subst he
 cases es with
 | nil => exact h rfl
 | cons a t => simp at e
theorem TmC.kept {P : Nat → Prop} {w w' : World} {A : Option Addr} {c : Nat} {l : List Tm} (h : TmC P w A c l) (hk : ∀ g, P g → g < w.heap.size → w'.heap[g]? = w.heap[g]?) : TmC P w' A c l := by
 induction h with
 | mk es he hl hc hn hP hr hs hrec ih =>
  refine .mk es he hl hc hn hP (fun hne => ?_) hs ih
  obtain ⟨g, off, hA, hcell⟩ := hr hne
  obtain ⟨g', off', hA', hPg⟩ := hP (es_ne he hne)
  rw [hA] at hA'; injection hA' with hA'; injection hA' with hg _ _; subst hg
  refine ⟨g, off, hA, fun j v hj => ?_⟩
  have h1 := hcell j v hj
  have hlt := World.block_lt_of_cell? w _ h1
  rw [cell_of_heap (hk g hPg hlt)]; exact h1
theorem TmC.stay {P : Nat → Prop} {w w' : World} {A : Option Addr} {c B : Nat} {l : List Tm} (h : TmC P w A c l) (hb : Below B w w') (hB : w.heap.size ≤ B) : TmC P w' A c l :=
 h.kept fun g _ hlt => hb.block g (Nat.lt_of_lt_of_le hlt hB)
theorem TmC.belowP {P : Nat → Prop} {w w' : World} {A : Option Addr} {c B : Nat} {l : List Tm} (h : TmC P w A c l) (hb : Below B w w') (hP : ∀ g, P g → g < B) : TmC P w' A c l :=
 h.kept fun g hg _ => hb.block g (hP g hg)
theorem TmC.grown {P : Nat → Prop} {w w' : World} {A : Option Addr} {c : Nat} {l : List Tm} {row : Option Nat} (h : TmC P w A c l) (hg : w.grownBy w' row) (hP : ∀ g, P g → row ≠ some g) : TmC P w' A c l :=
 h.kept fun g hPg hlt => hg.block g hlt (fun e => hP g hPg e.symm)
theorem TmC.setCell {P : Nat → Prop} {w : World} {A : Option Addr} {c : Nat} {l : List Tm} (h : TmC P w A c l) (p : Addr) (v : Value) (hP : ∀ g, P g → g ≠ p.block) : TmC P (w.setCell p v) A c l :=
 h.kept fun g hPg _ => Below.heap_setCell w p v g (hP g hPg)
theorem TmC.inside {P : Nat → Prop} {w : World} {A : Option Addr} {c : Nat} {l : List Tm} (h : TmC P w A c l) : TmC (fun g => P g ∧ g < w.heap.size) w A c l := by
 induction h with
 | mk es he hl hc hn hP hr hs hrec ih =>
  refine .mk es he hl hc hn (fun hne => ?_) hr hs ih
  obtain ⟨g, off, hA, hPg⟩ := hP hne
  refine ⟨g, off, hA, hPg, ?_⟩
  have hne2 : es.flatMap encE ≠ [] := by
   cases es with
   | nil => rw [he] at hne; exact absurd rfl hne
   | cons a t => simp [encE]
  obtain ⟨g', off', hA', hcell⟩ := hr hne2
  rw [hA] at hA'; injection hA' with hA'; injection hA' with hg _ _; subst hg
  cases es with
  | nil => exact absurd rfl hne2
  | cons a t => exact World.block_lt_of_cell? w _ (hcell 0 _ rfl)
theorem TmC.at_ {P : Nat → Prop} {w : World} {A : Option Addr} {c i : Nat} {l : List Tm} {t : Tm} (h : TmC P w A c l) (hi : l[i]? = some t) :
  ∃ g off Ai ci, A = some ⟨g, off, none⟩ ∧ P g ∧ (w.cell? ⟨g, off + i * 4, none⟩ = some (.int .i64 t.k) ∧ w.cell? ⟨g, off + i * 4 + 1, none⟩ = some (.int .i64 t.n) ∧ w.cell? ⟨g, off + i * 4 + 2, none⟩ = some (.string t.s) ∧ w.cell? ⟨g, off + i * 4 + 3, none⟩ = some (.slice Ai t.l.length ci)) ∧
   t.s.size ≤ 9223372036854775807 ∧ TmC P w Ai ci t.l := by
 cases h with
 | mk es he hl hc hn hP hr hs hrec =>
  subst he
  rw [List.getElem?_map] at hi
  cases he : es[i]? with
  | none => rw [he] at hi; simp at hi
  | some e =>
   rw [he] at hi
   simp at hi
   subst hi
   obtain ⟨g, off, hA, hcell⟩ := Rows.at 4 (fun _ => rfl) (by omega) hr (ne_of_get he)
   obtain ⟨g', off', hA', hPg⟩ := hP (by intro hx; have := ne_of_get he; exact this (by simpa using hx))
   rw [hA] at hA'; injection hA' with hA'; injection hA' with hg ho _; subst hg ho
   exact ⟨g, off, e.2.1, e.2.2, hA, hPg, ⟨hcell i e 0 _ he rfl, hcell i e 1 _ he rfl, hcell i e 2 _ he rfl, hcell i e 3 _ he rfl⟩, hs e (List.mem_of_getElem? he), hrec e (List.mem_of_getElem? he)⟩
def TmV (P : Nat → Prop) (w : World) (v : Value) (t : Tm) : Prop :=
 ∃ A c, v = .agg #[.int .i64 t.k, .int .i64 t.n, .string t.s, .slice A t.l.length c] ∧ t.s.size ≤ 9223372036854775807 ∧ TmC P w A c t.l
theorem TmV.below {P : Nat → Prop} {w w' : World} {v : Value} {t : Tm} {B : Nat} (h : TmV P w v t) (hb : Below B w w') (hB : w.heap.size ≤ B) : TmV P w' v t := by
 obtain ⟨A, c, hv, hs, hc⟩ := h; exact ⟨A, c, hv, hs, hc.stay hb hB⟩
theorem TmV.mono {P Q : Nat → Prop} {w : World} {v : Value} {t : Tm} (h : TmV P w v t) (hPQ : ∀ g, P g → Q g) : TmV Q w v t := by
 obtain ⟨A, c, hv, hs, hc⟩ := h; exact ⟨A, c, hv, hs, hc.mono hPQ⟩
theorem TmV.kept {P : Nat → Prop} {w w' : World} {v : Value} {t : Tm} (h : TmV P w v t) (hk : ∀ g, P g → g < w.heap.size → w'.heap[g]? = w.heap[g]?) : TmV P w' v t := by
 obtain ⟨A, c, hv, hs, hc⟩ := h; exact ⟨A, c, hv, hs, hc.kept hk⟩
def Tm.zero : Tm := .mk 0 0 ⟨#[]⟩ []
theorem TmV.zero (P : Nat → Prop) (w : World) : TmV P w (.agg #[.int .i64 0, .int .i64 0, .string ⟨#[]⟩, .slice none 0 0]) Tm.zero :=
 ⟨none, 0, rfl, by decide, TmC.nil P w (by omega) (fun _ => rfl)⟩
theorem Blk.four {w : World} {g : Nat} {t : TypeId} {a b c d : Value} (h : Blk w g t #[a, b, c, d]) :
  (w.cell? ⟨g, 0, none⟩ = some a ∧ w.cell? ⟨g, 1, none⟩ = some b ∧ w.cell? ⟨g, 2, none⟩ = some c ∧ w.cell? ⟨g, 3, none⟩ = some d) ∧
  (w.frozen? ⟨g, 0, none⟩ = false ∧ w.frozen? ⟨g, 1, none⟩ = false ∧ w.frozen? ⟨g, 2, none⟩ = false ∧ w.frozen? ⟨g, 3, none⟩ = false) :=
 ⟨⟨by rw [h.cell 0]; rfl, by rw [h.cell 1]; rfl, by rw [h.cell 2]; rfl, by rw [h.cell 3]; rfl⟩, h.frozen 0, h.frozen 1, h.frozen 2, h.frozen 3⟩
end Go.Proofs.Ytfhgknmkpegpbaa
set_option linter.unusedVariables false
set_option linter.unusedSimpArgs false
namespace Go.Proofs.Ytfhgknmkpegpbaa
open Go.RowKit
mutual
def Tm.depth : Tm → Nat | .mk _ _ _ l => Tm.depths l + 1
def Tm.depths : List Tm → Nat
 | [] => 0
 | t :: ts => max (Tm.depth t) (Tm.depths ts)
end
theorem Tm.depth_eq (t : Tm) : t.depth = Tm.depths t.l + 1 := by cases t; rw [Tm.depth]; rfl
theorem Tm.sizes_append : ∀ (a b : List Tm), Tm.sizes (a ++ b) = Tm.sizes a + Tm.sizes b
 | [], b => by simp [Tm.sizes]
 | x :: a, b => by simp only [List.cons_append, Tm.sizes, Tm.sizes_append a b]; omega
theorem Tm.depths_append : ∀ (a b : List Tm), Tm.depths (a ++ b) = max (Tm.depths a) (Tm.depths b)
 | [], b => by simp [Tm.depths]
 | x :: a, b => by simp only [List.cons_append, Tm.depths, Tm.depths_append a b]; omega
theorem take_snoc {T : Type} {l : List T} {k : Nat} {x : T} (h : l[k]? = some x) : l.take (k + 1) = l.take k ++ [x] := by
 obtain ⟨h1, h2⟩ := List.getElem?_eq_some_iff.1 h
 rw [List.take_succ_eq_append_getElem h1, h2]
theorem Tm.sizes_take {l : List Tm} {k : Nat} {x : Tm} (h : l[k]? = some x) : Tm.sizes (l.take (k + 1)) = Tm.sizes (l.take k) + x.size := by
 rw [take_snoc h, Tm.sizes_append]; simp [Tm.sizes]
theorem Tm.depths_take {l : List Tm} {k : Nat} {x : Tm} (h : l[k]? = some x) : Tm.depths (l.take (k + 1)) = max (Tm.depths (l.take k)) x.depth := by
 rw [take_snoc h, Tm.depths_append]; simp [Tm.depths]
theorem Tm.sizes_le_take (l : List Tm) (k : Nat) : Tm.sizes (l.take k) ≤ Tm.sizes l := by
 have := Tm.sizes_append (l.take k) (l.drop k)
 rw [List.take_append_drop] at this
 omega
theorem Tm.depths_le_sizes : ∀ (n : Nat), (∀ t : Tm, t.size ≤ n → t.depth ≤ t.size) ∧ (∀ l : List Tm, Tm.sizes l ≤ n → Tm.depths l ≤ Tm.sizes l)
 | 0 => ⟨fun t h => by have := t.size_pos; omega, fun l h => by
   cases l with
   | nil => simp [Tm.depths]
   | cons x xs => rw [Tm.sizes] at h; have := x.size_pos; omega⟩
 | n + 1 => by
  have ih := Tm.depths_le_sizes n
  have h1 : ∀ t : Tm, t.size ≤ n + 1 → t.depth ≤ t.size := fun t h => by
   have := ih.2 t.l (by rw [t.size_eq] at h; omega)
   rw [t.size_eq, t.depth_eq]; omega
  refine ⟨h1, fun l => ?_⟩
  induction l with
  | nil => intro _; simp [Tm.depths]
  | cons x xs ihl =>
   intro h
   rw [Tm.sizes] at h ⊢
   rw [Tm.depths]
   have := h1 x (by omega)
   have := ihl (by omega)
   omega
theorem Tm.depth_le (t : Tm) : t.depth ≤ t.size := (Tm.depths_le_sizes t.size).1 t (Nat.le_refl _)
theorem Tm.len_le_sizes : ∀ (l : List Tm), l.length ≤ Tm.sizes l
 | [] => Nat.zero_le _
 | x :: xs => by have := Tm.len_le_sizes xs; have := x.size_pos; rw [Tm.sizes, List.length_cons]; omega
theorem Tm.len_lt_size (t : Tm) : t.l.length < t.size := by have := Tm.len_le_sizes t.l; rw [t.size_eq]; omega
def Ret2 (w : World) (a b : Nat) (e : Ending) (w' : World) : Prop := e = .returned (.tuple #[.int .i64 a, .int .i64 b]) ∧ Below w.heap.size w w'
set_option maxRecDepth 100000 in
set_option maxHeartbeats 2000000 in
theorem size_calls (t : Tm) : ∀ (P : Nat → Prop) (w : World) (v : Value), TmV P w v t → t.size ≤ 1000000 → Calls Try.prog 20 #[v] w (Ret2 w t.size t.depth) := by
 induction t using Tm.ind with
 | h t ih =>
  intro P w v hv hsz
  obtain ⟨A, c, rfl, hs, hc⟩ := hv
  have Ih := Lib.hid ih; clear ih
  obtain ⟨W0, hW0⟩ : ∃ W0, W0 = w.alloc (.cells #[.int .i64 t.k, .int .i64 t.n, .string t.s, .slice A t.l.length c] 25) := ⟨_, rfl⟩
  have hB0 : Below w.heap.size w W0 := by rw [hW0]; exact (Below.refl _ _).alloc (Nat.le_refl _) _
  have hlen := t.len_lt_size
  have hlc := hc.len.1
  have Hc := Lib.hid (hc.stay hB0 (Nat.le_refl _)); clear hc
  have Hsz := Lib.hid t.size_eq
  have Hdp := Lib.hid t.depth_eq
  have hds := t.depth_le
  have HB0 := Lib.hid hB0; clear hB0
  have HW := Lib.hid hW0; clear hW0
  have hll : t.l.length ≤ 1000000 := by omega
  go_enter Try.func20, Try.ntmps20
  go_wp2
  go_loopw [4, 5, 13] (fun n d i wr => ∃ k : Nat, k ≤ t.l.length ∧ i = .int .i64 k ∧ n = .int .i64 ((1 + Tm.sizes (t.l.take k) : Nat) : Int) ∧ d = .int .i64 (Tm.depths (t.l.take k) : Nat) ∧ Below W0.heap.size W0 wr) (fun _ _ i _ => t.l.length - (intOf i).toNat)
  case atStart => exact ⟨0, Nat.zero_le _, rfl, by simp [Tm.sizes], by simp [Tm.depths], by rw [HW.out]; exact Below.refl _ _⟩
  case round =>
   obtain ⟨k, hk, rfl, rfl, rfl, hB⟩ := hrel
   have HB := Lib.hid hB; clear hB
   obtain ⟨sz, hsz'⟩ : ∃ sz, sz = 1 + Tm.sizes (t.l.take k) := ⟨_, rfl⟩
   obtain ⟨dp, hdp'⟩ : ∃ dp, dp = Tm.depths (t.l.take k) := ⟨_, rfl⟩
   have hszb : sz ≤ 1000000 := by have := Tm.sizes_le_take t.l k; have := Hsz.out; omega
   have hdpb : dp ≤ 1000000 := by have := (Tm.depths_le_sizes _).2 (t.l.take k) (Nat.le_refl _); omega
   rw [← hsz', ← hdp']
   have Hsz' := Lib.hid hsz'; clear hsz'
   have Hdp' := Lib.hid hdp'; clear hdp'
   by_cases hlt : k < t.l.length
   ·obtain ⟨x, hx⟩ : ∃ x, t.l[k]? = some x := ⟨_, List.getElem?_eq_getElem hlt⟩
    obtain ⟨g, off, Ai, ci, rfl, -, ⟨e0, e1, e2, e3⟩, hxs, hxc⟩ := (Hc.out.stay HB.out (Nat.le_refl _)).at_ hx
    have hxm := List.mem_of_getElem? hx
    have hxz := Tm.sizes_take hx
    have hxd := Tm.depths_take hx
    have hxb : x.size ≤ 1000000 := by have := Tm.size_child hxm; omega
    have hxsum : sz + x.size ≤ 1000000 := by have := Tm.sizes_le_take t.l (k + 1); have := Hsz.out; have := Hsz'.out; omega
    have hxdl := x.depth_le
    have Hxz := Lib.hid hxz; clear hxz
    have Hxd := Lib.hid hxd; clear hxd
    have hcall := Ih.out x hxm P (wr.alloc (.cells #[.int .i64 x.k, .int .i64 x.n, .string x.s, .slice Ai x.l.length ci] 25)) _ ⟨Ai, ci, rfl, hxs, hxc.stay ((Below.refl _ _).alloc (Nat.le_refl _) _) (Nat.le_refl _)⟩ hxb
    have Hcall := Lib.hid hcall; clear hcall hxc hx
    go_wp2_with fail
    refine Hcall.out.mono ?_
    rintro e w1 ⟨rfl, hb⟩
    have HB1 := Lib.hid (HB.out.trans (((Below.refl _ _).alloc HB.out.size _).trans (hb.mono (Nat.le_trans HB.out.size (by simp))))); clear hb
    go_wp2
    go_roundw
    case rel => exact ⟨k + 1, by omega, by go_num, by rw [Hxz.out, Hsz'.out]; go_num, by rw [Hxd.out, Hdp'.out]; go_num, HB1.out⟩
    case measure => simp [intOf]; omega
   ·have hke : k = t.l.length := by omega
    subst hke
    have h1 : sz = t.size := by rw [Hsz'.out, Hsz.out, List.take_length]
    have h2 : dp + 1 = t.depth := by rw [Hdp'.out, Hdp.out, List.take_length]
    clear Hsz' Hdp' Hc
    have H1 := Lib.hid h1; clear h1
    have H2 := Lib.hid h2; clear h2
    go_wp2
    go_ret2
    exact ⟨by rw [← H1.out, ← H2.out]; rfl, HB0.out.trans (HB.out.mono HB0.out.size)⟩
end Go.Proofs.Ytfhgknmkpegpbaa
set_option linter.unusedVariables false
set_option linter.unusedSimpArgs false
namespace Go.Proofs.Ytfhgknmkpegpbaa
open Go.RowKit
set_option maxRecDepth 100000 in
set_option maxHeartbeats 4000000 in
theorem refSize_calls (t : Tm) : ∀ (P : Nat → Prop) (w : World) (v : Value), TmV P w v t → t.size ≤ 1000000 → Calls Try.prog 21 #[v] w (Ret2 w t.size t.depth) := by
 induction t using Tm.ind with
 | h t ih =>
  intro P w v hv hsz
  obtain ⟨A, c, rfl, hs, hc⟩ := hv
  have Ih := Lib.hid ih; clear ih
  obtain ⟨W0, hW0⟩ : ∃ W0, W0 = w.alloc (.cells #[.int .i64 t.k, .int .i64 t.n, .string t.s, .slice A t.l.length c] 25) := ⟨_, rfl⟩
  have hB0 : Below w.heap.size w W0 := by rw [hW0]; exact (Below.refl _ _).alloc (Nat.le_refl _) _
  have hX0 : Blk W0 w.heap.size 25 #[.int .i64 t.k, .int .i64 t.n, .string t.s, .slice A t.l.length c] := by rw [hW0]; exact Blk.new _ _ _
  have lx0 := hX0.lt
  have hlc := hc.len.1
  have hlm := hc.len.2.1
  have Hc := Lib.hid (hc.stay hB0 (Nat.le_refl _)); clear hc
  have HX0 := Lib.hid hX0; clear hX0
  have HB0 := Lib.hid hB0; clear hB0
  have HW := Lib.hid hW0; clear hW0
  have hlen := t.len_lt_size
  have Hsz := Lib.hid t.size_eq
  have Hdp := Lib.hid t.depth_eq
  have hds := t.depth_le
  have hll : t.l.length ≤ 1000000 := by omega
  go_enter Try.func21, Try.ntmps21
  go_wp2
  go_loopw [4, 5, 6] (fun n d i wr => ∃ k : Nat, k ≤ t.l.length ∧ i = .int .i64 k ∧ n = .int .i64 ((1 + Tm.sizes (t.l.take k) : Nat) : Int) ∧ d = .int .i64 (Tm.depths (t.l.take k) : Nat) ∧ Below W0.heap.size W0 wr) (fun _ _ i _ => t.l.length - (intOf i).toNat)
  case atStart => exact ⟨0, Nat.zero_le _, rfl, by simp [Tm.sizes], by simp [Tm.depths], by rw [HW.out]; exact Below.refl _ _⟩
  case round =>
   obtain ⟨k, hk, rfl, rfl, rfl, hB⟩ := hrel
   obtain ⟨⟨b0, b1, b2, b3⟩, -⟩ := (HX0.out.below hB lx0).four
   have HB := Lib.hid hB; clear hB
   obtain ⟨sz, hsz'⟩ : ∃ sz, sz = 1 + Tm.sizes (t.l.take k) := ⟨_, rfl⟩
   obtain ⟨dp, hdp'⟩ : ∃ dp, dp = Tm.depths (t.l.take k) := ⟨_, rfl⟩
   have hszb : sz ≤ 1000000 := by have := Tm.sizes_le_take t.l k; have := Hsz.out; omega
   have hdpb : dp ≤ 1000000 := by have := (Tm.depths_le_sizes _).2 (t.l.take k) (Nat.le_refl _); omega
   rw [← hsz', ← hdp']
   have Hsz' := Lib.hid hsz'; clear hsz'
   have Hdp' := Lib.hid hdp'; clear hdp'
   by_cases hlt : k < t.l.length
   ·obtain ⟨x, hx⟩ : ∃ x, t.l[k]? = some x := ⟨_, List.getElem?_eq_getElem hlt⟩
    obtain ⟨g, off, Ai, ci, rfl, -, ⟨e0, e1, e2, e3⟩, hxs, hxc⟩ := (Hc.out.stay HB.out (Nat.le_refl _)).at_ hx
    have hxm := List.mem_of_getElem? hx
    have hxz := Tm.sizes_take hx
    have hxd := Tm.depths_take hx
    have hxb : x.size ≤ 1000000 := by have := Tm.size_child hxm; omega
    have hxsum : sz + x.size ≤ 1000000 := by have := Tm.sizes_le_take t.l (k + 1); have := Hsz.out; have := Hsz'.out; omega
    have hxdl := x.depth_le
    have Hxz := Lib.hid hxz; clear hxz
    have Hxd := Lib.hid hxd; clear hxd
    have hcall := Ih.out x hxm P wr _ ⟨Ai, ci, rfl, hxs, hxc⟩ hxb
    have Hcall := Lib.hid hcall; clear hcall hxc hx
    go_wp2_with fail
    refine Hcall.out.mono ?_
    rintro e w1 ⟨rfl, hb⟩
    have HB1 := Lib.hid (HB.out.trans (hb.mono HB.out.size)); clear hb
    go_wp2
    go_roundw
    case rel => exact ⟨k + 1, by omega, by go_num, by rw [Hxz.out, Hsz'.out]; go_num, by rw [Hxd.out, Hdp'.out]; go_num, HB1.out⟩
    case measure => simp [intOf]; omega
   ·have hke : k = t.l.length := by omega
    subst hke
    have h1 : sz = t.size := by rw [Hsz'.out, Hsz.out, List.take_length]
    have h2 : dp + 1 = t.depth := by rw [Hdp'.out, Hdp.out, List.take_length]
    clear Hsz' Hdp' Hc
    have H1 := Lib.hid h1; clear h1
    have H2 := Lib.hid h2; clear h2
    go_wp2
    go_ret2
    exact ⟨by rw [← H1.out, ← H2.out]; rfl, HB0.out.trans (HB.out.mono HB0.out.size)⟩
end Go.Proofs.Ytfhgknmkpegpbaa
set_option linter.unusedVariables false
set_option linter.unusedSimpArgs false
namespace Go.Proofs.Ytfhgknmkpegpbaa
open Go.RowKit
noncomputable def sameB (t u : Tm) : Bool := @decide (t = u) (Classical.propDecidable _)
theorem sameB_iff {t u : Tm} : sameB t u = true ↔ t = u := by unfold sameB; simp
theorem sameB_false {t u : Tm} : sameB t u = false ↔ t ≠ u := by rw [← Bool.not_eq_true, sameB_iff]
theorem sameB_refl (t : Tm) : sameB t t = true := sameB_iff.2 rfl
theorem Tm.ext {t u : Tm} (h1 : t.k = u.k) (h2 : t.n = u.n) (h3 : t.s = u.s) (h4 : t.l = u.l) : t = u := by
 cases t; cases u
 simp only [Tm.k, Tm.n, Tm.s, Tm.l] at h1 h2 h3 h4
 subst h1 h2 h3 h4; rfl
noncomputable def sameL (xs ys : List Tm) : Bool := @decide (xs = ys) (Classical.propDecidable _)
theorem sameL_iff {t u : List Tm} : sameL t u = true ↔ t = u := by unfold sameL; simp
theorem sameL_false {t u : List Tm} : sameL t u = false ↔ t ≠ u := by rw [← Bool.not_eq_true, sameL_iff]
theorem bytes_ext {a b : ByteArray} (h : a.toList = b.toList) : a = b := by
 rw [ByteArray.toList_eq, ByteArray.toList_eq] at h
 exact Go.WideShapes.bytes_inj h
def RetB (w : World) (b : Bool) (e : Ending) (w' : World) : Prop := e = .returned (.bool b) ∧ Below w.heap.size w w'
set_option maxRecDepth 100000 in
set_option maxHeartbeats 4000000 in
theorem equalFunc_calls (fid : Nat) (xs ys : List Tm) (A : Option Addr) (c : Nat) (B : Option Addr) (d : Nat) (P Q : Nat → Prop) (w : World) (hx : TmC P w A c xs) (hy : TmC Q w B d ys)
  (hcf : ∀ args w, Sem.run Try.prog (callFunc fid args) w = .ok (.enter fid args) w)
  (hf : ∀ x ∈ xs, ∀ y w1 v1 v2, TmV P w1 v1 x → TmV Q w1 v2 y → Calls Try.prog fid #[v1, v2] w1 (RetB w1 (sameB x y))) :
  Calls Try.prog 80 #[.slice A xs.length c, .slice B ys.length d, .func (.func fid) #[] #[]] w (RetB w (sameL xs ys)) := by
 have hxl := hx.len
 have hyl := hy.len
 have hx1 : xs.length ≤ 9223372036854775807 := by omega
 have hy1 : ys.length ≤ 9223372036854775807 := by omega
 have Hx := Lib.hid hx; clear hx hxl
 have Hy := Lib.hid hy; clear hy hyl
 have Hf := Lib.hid hf; clear hf
 by_cases hlen : xs.length = ys.length
 case neg =>
  have Hr := Lib.hid (show sameL xs ys = false from sameL_false.2 (fun e => hlen (by rw [e])))
  have hb : ((xs.length : Int) != (ys.length : Int)) = true := by simp; omega
  have hb2 : (xs.length != ys.length) = true := by simpa using hlen
  clear hlen
  go_enter Try.func80, Try.ntmps80
  go_wp2
  go_ret
  exact ⟨by rw [Hr.out]; rfl, Below.refl _ _⟩
 have Hlen := Lib.hid hlen
 go_enter Try.func80, Try.ntmps80
 rw [← hlen]
 clear hlen
 go_wp2
 go_loopw [17] (fun i wr => ∃ k : Nat, k ≤ xs.length ∧ i = .int .i64 k ∧ xs.take k = ys.take k ∧ Below w.heap.size w wr) (fun i _ => xs.length - (intOf i).toNat)
 case atStart => exact ⟨0, Nat.zero_le _, rfl, by simp, Below.refl _ _⟩
 case round =>
  obtain ⟨k, hk, rfl, heq, hB⟩ := hrel
  have Heq := Lib.hid heq; clear heq
  have HB := Lib.hid hB; clear hB
  by_cases hlt : k < xs.length
  ·obtain ⟨x, hx⟩ : ∃ x, xs[k]? = some x := ⟨_, List.getElem?_eq_getElem hlt⟩
   obtain ⟨y, hy⟩ : ∃ y, ys[k]? = some y := ⟨_, List.getElem?_eq_getElem (by rw [← Hlen.out]; exact hlt)⟩
   obtain ⟨g, off, Ai, ci, rfl, -, ⟨e0, e1, e2, e3⟩, hxs, hxc⟩ := (Hx.out.stay HB.out (Nat.le_refl _)).at_ hx
   obtain ⟨g', off', Bi, di, rfl, -, ⟨f0, f1, f2, f3⟩, hys, hyc⟩ := (Hy.out.stay HB.out (Nat.le_refl _)).at_ hy
   have hb0 : Below wr.heap.size wr (wr.alloc (.cells #[.int .i64 x.k, .int .i64 x.n, .string x.s, .slice Ai x.l.length ci] 25)) := (Below.refl _ _).alloc (Nat.le_refl _) _
   have q0 := keep_cell hb0 f0
   have q1 := keep_cell hb0 f1
   have q2 := keep_cell hb0 f2
   have q3 := keep_cell hb0 f3
   clear hb0
   have hbb : Below wr.heap.size wr ((wr.alloc (.cells #[.int .i64 x.k, .int .i64 x.n, .string x.s, .slice Ai x.l.length ci] 25)).alloc (.cells #[.int .i64 y.k, .int .i64 y.n, .string y.s, .slice Bi y.l.length di] 25)) := ((Below.refl _ _).alloc (Nat.le_refl _) _).alloc (by simp) _
   obtain ⟨r, hr⟩ : ∃ r, r = sameB x y := ⟨_, rfl⟩
   have hcall := Hf.out x (List.mem_of_getElem? hx) y _ _ _ ⟨Ai, ci, rfl, hxs, hxc.stay hbb (Nat.le_refl _)⟩ ⟨Bi, di, rfl, hys, hyc.stay hbb (Nat.le_refl _)⟩
   rw [← hr] at hcall
   have Hcall := Lib.hid hcall; clear hcall hxc hyc
   have HBB := Lib.hid (HB.out.trans (hbb.mono HB.out.size)); clear hbb
   have Hxx := Lib.hid hx; clear hx
   have Hyy := Lib.hid hy; clear hy
   have Hr := Lib.hid hr; clear hr
   have hlt' : k < ys.length := by rw [← Hlen.out]; exact hlt
   have hlen' : (k : Int) < (ys.length : Int) := by omega
   go_wp2_with fail
   refine Hcall.out.mono ?_
   rintro e w1 ⟨rfl, hb⟩
   have HB1 := Lib.hid (HBB.out.trans (hb.mono HBB.out.size)); clear hb
   cases r
   ·have Hf' := Lib.hid (show sameL xs ys = false from sameL_false.2 (fun e => by
     subst e
     have h1 := Hxx.out.symm.trans Hyy.out
     injection h1 with h1
     exact sameB_false.1 Hr.out.symm h1))
    go_wp2
    go_ret
    exact ⟨by rw [Hf'.out]; rfl, HB1.out⟩
   ·have hxy := sameB_iff.1 Hr.out.symm
    have Hnx := Lib.hid (show xs.take (k + 1) = ys.take (k + 1) from by rw [take_snoc Hxx.out, take_snoc Hyy.out, Heq.out, hxy])
    clear hxy
    go_wp2
    go_roundw
    case rel => exact ⟨k + 1, by omega, by go_num, Hnx.out, HB1.out⟩
    case measure => simp [intOf]; omega
  ·have hke : k = xs.length := by omega
   subst hke
   have Hf' := Lib.hid (show sameL xs ys = true from sameL_iff.2 (by
    have := Heq.out
    rw [List.take_length, Hlen.out, List.take_length] at this
    exact this))
   go_wp2
   go_ret
   exact ⟨by rw [Hf'.out]; rfl, HB.out⟩
end Go.Proofs.Ytfhgknmkpegpbaa
set_option linter.unusedVariables false
set_option linter.unusedSimpArgs false
namespace Go.Proofs.Ytfhgknmkpegpbaa
open Go.RowKit
set_option maxRecDepth 100000 in
set_option maxHeartbeats 4000000 in
theorem same_calls (t : Tm) : ∀ (P Q : Nat → Prop) (w : World) (v v2 : Value) (u : Tm), TmV P w v t → TmV Q w v2 u → Calls Try.prog 24 #[v, v2] w (RetB w (sameB t u)) := by
 induction t using Tm.ind with
 | h t ih =>
  intro P Q w v v2 u hv hv2
  obtain ⟨A, c, rfl, hs, hc⟩ := hv
  obtain ⟨B, d, rfl, hs', hd⟩ := hv2
  have Ih := Lib.hid ih; clear ih
  obtain ⟨W0, hW0⟩ : ∃ W0, W0 = (w.alloc (.cells #[.int .i64 t.k, .int .i64 t.n, .string t.s, .slice A t.l.length c] 25)).alloc (.cells #[.int .i64 u.k, .int .i64 u.n, .string u.s, .slice B u.l.length d] 25) := ⟨_, rfl⟩
  have hB0 : Below w.heap.size w W0 := by rw [hW0]; exact ((Below.refl _ _).alloc (Nat.le_refl _) _).alloc (by simp) _
  have hX0 : Blk W0 w.heap.size 25 #[.int .i64 t.k, .int .i64 t.n, .string t.s, .slice A t.l.length c] := by rw [hW0]; exact (Blk.new w 25 _).alloc _
  have hY0 : Blk W0 (w.heap.size + 1) 25 #[.int .i64 u.k, .int .i64 u.n, .string u.s, .slice B u.l.length d] := by
   rw [hW0]
   have := Blk.new (w.alloc (.cells #[.int .i64 t.k, .int .i64 t.n, .string t.s, .slice A t.l.length c] 25)) 25 #[.int .i64 u.k, .int .i64 u.n, .string u.s, .slice B u.l.length d]
   rw [show (w.alloc (.cells #[.int .i64 t.k, .int .i64 t.n, .string t.s, .slice A t.l.length c] 25)).heap.size = w.heap.size + 1 from by simp] at this
   exact this
  have ly0 := hY0.lt
  have hlc := hc.len.1
  have hlm := hc.len.2.1
  have hld := hd.len.1
  have hln := hd.len.2.1
  have Hc := Lib.hid (hc.stay hB0 (Nat.le_refl _)); clear hc
  have Hd := Lib.hid (hd.stay hB0 (Nat.le_refl _)); clear hd
  have HX0 := Lib.hid hX0; clear hX0
  have HY0 := Lib.hid hY0; clear hY0
  have HB0 := Lib.hid hB0; clear hB0
  have HW := Lib.hid hW0; clear hW0
  by_cases hk : t.k = u.k
  case neg =>
   have Hr := Lib.hid (show sameB t u = false from sameB_false.2 (fun e => hk (by rw [e])))
   have h1 : (t.k == u.k) = false := by simpa using hk
   go_enter Try.func24, Try.ntmps24
   go_wp2
   go_ret
   exact ⟨by rw [Hr.out]; rfl, by rw [← HW.out]; exact HB0.out⟩
  have hk1 : (t.k == u.k) = true := by simpa using hk
  have Hk := Lib.hid hk; clear hk
  by_cases hn : t.n = u.n
  case neg =>
   have Hr := Lib.hid (show sameB t u = false from sameB_false.2 (fun e => hn (by rw [e])))
   have h1 : (t.n == u.n) = false := by simpa using hn
   go_enter Try.func24, Try.ntmps24
   go_wp2
   go_ret
   exact ⟨by rw [Hr.out]; rfl, by rw [← HW.out]; exact HB0.out⟩
  have hn1 : (t.n == u.n) = true := by simpa using hn
  have Hn := Lib.hid hn; clear hn
  by_cases hss : t.s.toList = u.s.toList
  case neg =>
   have Hr := Lib.hid (show sameB t u = false from sameB_false.2 (fun e => hss (by rw [e])))
   have h1 : (t.s.toList == u.s.toList) = false := by simpa using hss
   go_enter Try.func24, Try.ntmps24
   go_wp2
   go_ret
   exact ⟨by rw [Hr.out]; rfl, by rw [← HW.out]; exact HB0.out⟩
  have hs1 : (t.s.toList == u.s.toList) = true := by simpa using hss
  have Hss := Lib.hid (bytes_ext hss); clear hss
  have hcall := equalFunc_calls 24 t.l u.l A c B d P Q W0 Hc.out Hd.out (fun args w => by kernel_rfl) (fun x hx y w1 v1 v2 h1 h2 => Ih.out x hx P Q w1 v1 v2 y h1 h2)
  have Hcall := Lib.hid hcall; clear hcall
  go_enter Try.func24, Try.ntmps24
  go_wp2_with fail
  rw [← HW.out]
  refine Hcall.out.mono ?_
  rintro e w1 ⟨rfl, hb⟩
  have HB1 := Lib.hid (HB0.out.trans (hb.mono HB0.out.size)); clear hb
  have Hr := Lib.hid (show sameB t u = sameL t.l u.l from by
   rw [Bool.eq_iff_iff, sameB_iff, sameL_iff]
   exact ⟨fun e => by rw [e], fun e => Tm.ext Hk.out Hn.out Hss.out e⟩)
  go_wp2
  go_ret
  exact ⟨by rw [Hr.out]; rfl, HB1.out⟩
set_option maxRecDepth 100000 in
set_option maxHeartbeats 4000000 in
theorem refSame_calls (t : Tm) : ∀ (P Q : Nat → Prop) (w : World) (v v2 : Value) (u : Tm), TmV P w v t → TmV Q w v2 u → Calls Try.prog 25 #[v, v2] w (RetB w (sameB t u)) := by
 induction t using Tm.ind with
 | h t ih =>
  intro P Q w v v2 u hv hv2
  obtain ⟨A, c, rfl, hs, hc⟩ := hv
  obtain ⟨B, d, rfl, hs', hd⟩ := hv2
  have Ih := Lib.hid ih; clear ih
  obtain ⟨W0, hW0⟩ : ∃ W0, W0 = (w.alloc (.cells #[.int .i64 t.k, .int .i64 t.n, .string t.s, .slice A t.l.length c] 25)).alloc (.cells #[.int .i64 u.k, .int .i64 u.n, .string u.s, .slice B u.l.length d] 25) := ⟨_, rfl⟩
  have hB0 : Below w.heap.size w W0 := by rw [hW0]; exact ((Below.refl _ _).alloc (Nat.le_refl _) _).alloc (by simp) _
  have hX0 : Blk W0 w.heap.size 25 #[.int .i64 t.k, .int .i64 t.n, .string t.s, .slice A t.l.length c] := by rw [hW0]; exact (Blk.new w 25 _).alloc _
  have hY0 : Blk W0 (w.heap.size + 1) 25 #[.int .i64 u.k, .int .i64 u.n, .string u.s, .slice B u.l.length d] := by
   rw [hW0]
   have := Blk.new (w.alloc (.cells #[.int .i64 t.k, .int .i64 t.n, .string t.s, .slice A t.l.length c] 25)) 25 #[.int .i64 u.k, .int .i64 u.n, .string u.s, .slice B u.l.length d]
   rw [show (w.alloc (.cells #[.int .i64 t.k, .int .i64 t.n, .string t.s, .slice A t.l.length c] 25)).heap.size = w.heap.size + 1 from by simp] at this
   exact this
  have ly0 := hY0.lt
  have hlc := hc.len.1
  have hlm := hc.len.2.1
  have hld := hd.len.1
  have hln := hd.len.2.1
  have Hc := Lib.hid (hc.stay hB0 (Nat.le_refl _)); clear hc
  have Hd := Lib.hid (hd.stay hB0 (Nat.le_refl _)); clear hd
  have HX0 := Lib.hid hX0; clear hX0
  have HY0 := Lib.hid hY0; clear hY0
  have HB0 := Lib.hid hB0; clear hB0
  have HW := Lib.hid hW0; clear hW0
  by_cases hk : t.k = u.k
  case neg =>
   have Hr := Lib.hid (show sameB t u = false from sameB_false.2 (fun e => hk (by rw [e])))
   have h1 : (t.k != u.k) = true := by simpa using hk
   go_enter Try.func25, Try.ntmps25
   go_wp2
   go_ret
   exact ⟨by rw [Hr.out]; rfl, by rw [← HW.out]; exact HB0.out⟩
  have hk1 : (t.k != u.k) = false := by simpa using hk
  have Hk := Lib.hid hk; clear hk
  by_cases hn : t.n = u.n
  case neg =>
   have Hr := Lib.hid (show sameB t u = false from sameB_false.2 (fun e => hn (by rw [e])))
   have h1 : (t.n != u.n) = true := by simpa using hn
   go_enter Try.func25, Try.ntmps25
   go_wp2
   go_ret
   exact ⟨by rw [Hr.out]; rfl, by rw [← HW.out]; exact HB0.out⟩
  have hn1 : (t.n != u.n) = false := by simpa using hn
  have Hn := Lib.hid hn; clear hn
  by_cases hss : t.s.toList = u.s.toList
  case neg =>
   have Hr := Lib.hid (show sameB t u = false from sameB_false.2 (fun e => hss (by rw [e])))
   have h1 : (t.s.toList == u.s.toList) = false := by simpa using hss
   go_enter Try.func25, Try.ntmps25
   go_wp2
   go_ret
   exact ⟨by rw [Hr.out]; rfl, by rw [← HW.out]; exact HB0.out⟩
  have hs1 : (t.s.toList == u.s.toList) = true := by simpa using hss
  have Hss := Lib.hid (bytes_ext hss); clear hss
  by_cases hll : t.l.length = u.l.length
  case neg =>
   have Hr := Lib.hid (show sameB t u = false from sameB_false.2 (fun e => hll (by rw [e])))
   have h1 : ((t.l.length : Int) != (u.l.length : Int)) = true := by simp; omega
   have h2 : (t.l.length != u.l.length) = true := by simpa using hll
   clear hll
   go_enter Try.func25, Try.ntmps25
   go_wp2
   go_ret
   exact ⟨by rw [Hr.out]; rfl, by rw [← HW.out]; exact HB0.out⟩
  have hl1 : ((t.l.length : Int) != (u.l.length : Int)) = false := by simp; omega
  have hl2 : (t.l.length != u.l.length) = false := by simpa using hll
  have Hll := Lib.hid hll; clear hll
  have hlen63 : t.l.length ≤ 9223372036854775807 := by omega
  go_enter Try.func25, Try.ntmps25
  go_wp2
  clear hl1 hl2 hs1 hn1 hk1
  go_loopw [5] (fun i wr => ∃ k : Nat, k ≤ t.l.length ∧ i = .int .i64 k ∧ t.l.take k = u.l.take k ∧ Below W0.heap.size W0 wr) (fun i _ => t.l.length - (intOf i).toNat)
  case atStart => exact ⟨0, Nat.zero_le _, rfl, by simp, by rw [HW.out]; exact Below.refl _ _⟩
  case round =>
   obtain ⟨k, hk, rfl, heq, hB⟩ := hrel
   obtain ⟨⟨a0, a1, a2, a3⟩, -⟩ := (HX0.out.below hB (Nat.lt_of_succ_lt ly0)).four
   obtain ⟨⟨c0, c1, c2, c3⟩, -⟩ := (HY0.out.below hB ly0).four
   have Heq := Lib.hid heq; clear heq
   have HB := Lib.hid hB; clear hB
   have HBw := Lib.hid (HB0.out.trans (HB.out.mono HB0.out.size))
   by_cases hlt : k < t.l.length
   ·obtain ⟨x, hx⟩ : ∃ x, t.l[k]? = some x := ⟨_, List.getElem?_eq_getElem hlt⟩
    obtain ⟨y, hy⟩ : ∃ y, u.l[k]? = some y := ⟨_, List.getElem?_eq_getElem (by rw [← Hll.out]; exact hlt)⟩
    obtain ⟨g, off, Ai, ci, rfl, -, ⟨e0, e1, e2, e3⟩, hxs, hxc⟩ := (Hc.out.stay HB.out (Nat.le_refl _)).at_ hx
    obtain ⟨g', off', Bi, di, rfl, -, ⟨f0, f1, f2, f3⟩, hys, hyc⟩ := (Hd.out.stay HB.out (Nat.le_refl _)).at_ hy
    obtain ⟨r, hr⟩ : ∃ r, r = sameB x y := ⟨_, rfl⟩
    have hcall := Ih.out x (List.mem_of_getElem? hx) P Q wr.drew _ _ y ⟨Ai, ci, rfl, hxs, hxc.kept (fun _ _ _ => rfl)⟩ ⟨Bi, di, rfl, hys, hyc.kept (fun _ _ _ => rfl)⟩
    rw [← hr] at hcall
    have Hcall := Lib.hid hcall; clear hcall hxc hyc
    have Hxx := Lib.hid hx; clear hx
    have Hyy := Lib.hid hy; clear hy
    have Hr := Lib.hid hr; clear hr
    have hk0 : (0 : Int) ≤ (k : Int) := by omega
    have hk1 : (k : Int) < (t.l.length : Int) := by omega
    have hk2 : (k : Int) < (u.l.length : Int) := by have := Hll.out; omega
    go_wp2_with fail
    go_region_held3 (fun W => W.cell? ⟨w.heap.size, 3, none⟩ = some (.slice (some ⟨g, off, none⟩) t.l.length c) ∧ W.cell? ⟨w.heap.size + 1, 3, none⟩ = some (.slice (some ⟨g', off', none⟩) u.l.length d) ∧ W.cell? ⟨g, off + k * 4, none⟩ = some (.int .i64 x.k) ∧ W.cell? ⟨g, off + k * 4 + 1, none⟩ = some (.int .i64 x.n) ∧ W.cell? ⟨g, off + k * 4 + 2, none⟩ = some (.string x.s) ∧ W.cell? ⟨g, off + k * 4 + 3, none⟩ = some (.slice Ai x.l.length ci) ∧ W.cell? ⟨g', off' + k * 4, none⟩ = some (.int .i64 y.k) ∧ W.cell? ⟨g', off' + k * 4 + 1, none⟩ = some (.int .i64 y.n) ∧ W.cell? ⟨g', off' + k * 4 + 2, none⟩ = some (.string y.s) ∧ W.cell? ⟨g', off' + k * 4 + 3, none⟩ = some (.slice Bi y.l.length di))
     (first
      | exact ⟨a3, c3, e0, e1, e2, e3, f0, f1, f2, f3⟩
      | (go_split_ands; refine ⟨?_, ?_, ?_, ?_, ?_, ?_, ?_, ?_, ?_, ?_⟩ <;> exact keep_cell hb (by assumption)))
     ((go_at_call 25; refine Hcall.out.mono ?_; rintro e w1 ⟨rfl, hb⟩))
    have HB1 := Lib.hid (HB.out.trans ((Below.refl _ wr).drew.trans (hb.mono HB.out.size))); clear hb
    clear a0 a1 a2 a3 c0 c1 c2 c3 e0 e1 e2 e3 f0 f1 f2 f3
    cases r
    ·have Hf' := Lib.hid (show sameB t u = false from sameB_false.2 (fun e => by
      subst e
      have h1 := Hxx.out.symm.trans Hyy.out
      injection h1 with h1
      exact sameB_false.1 Hr.out.symm h1))
     go_wp2
     go_ret
     exact ⟨by rw [Hf'.out]; rfl, HB0.out.trans (HB1.out.mono HB0.out.size)⟩
    ·have hxy := sameB_iff.1 Hr.out.symm
     have Hnx := Lib.hid (show t.l.take (k + 1) = u.l.take (k + 1) from by rw [take_snoc Hxx.out, take_snoc Hyy.out, Heq.out, hxy])
     clear hxy
     go_wp2
     go_roundw
     case rel => exact ⟨k + 1, by omega, by go_num, Hnx.out, HB1.out⟩
     case measure => simp [intOf]; omega
   ·have hke : k = t.l.length := by omega
    subst hke
    have Hf' := Lib.hid (show sameB t u = true from sameB_iff.2 (by
     have := Heq.out
     rw [List.take_length, Hll.out, List.take_length] at this
     exact Tm.ext Hk.out Hn.out Hss.out this))
    go_wp2
    go_ret
    exact ⟨by rw [Hf'.out]; rfl, HBw.out⟩
end Go.Proofs.Ytfhgknmkpegpbaa
set_option linter.unusedVariables false
set_option linter.unusedSimpArgs false
namespace Go.Proofs.Ytfhgknmkpegpbaa
open Go.RowKit
set_option maxRecDepth 100000 in
set_option maxHeartbeats 4000000 in
theorem sameAll_calls (xs ys : List Tm) (A : Option Addr) (c : Nat) (B : Option Addr) (d : Nat) (P Q : Nat → Prop) (w : World) (hx : TmC P w A c xs) (hy : TmC Q w B d ys) :
  Calls Try.prog 33 #[.slice A xs.length c, .slice B ys.length d] w (RetB w (sameL xs ys)) := by
 have hxl := hx.len
 have hyl := hy.len
 have hx1 : xs.length ≤ 9223372036854775807 := by omega
 have hy1 : ys.length ≤ 9223372036854775807 := by omega
 have Hx := Lib.hid hx; clear hx hxl
 have Hy := Lib.hid hy; clear hy hyl
 by_cases hlen : xs.length = ys.length
 case neg =>
  have Hr := Lib.hid (show sameL xs ys = false from sameL_false.2 (fun e => hlen (by rw [e])))
  have hb : ((xs.length : Int) != (ys.length : Int)) = true := by simp; omega
  have hb2 : (xs.length != ys.length) = true := by simpa using hlen
  clear hlen
  go_enter Try.func33, Try.ntmps33
  go_wp2
  go_ret
  exact ⟨by rw [Hr.out]; rfl, Below.refl _ _⟩
 have Hlen := Lib.hid hlen
 go_enter Try.func33, Try.ntmps33
 rw [← hlen]
 clear hlen
 go_wp2
 go_loopw [5] (fun i wr => ∃ k : Nat, k ≤ xs.length ∧ i = .int .i64 k ∧ xs.take k = ys.take k ∧ Below w.heap.size w wr) (fun i _ => xs.length - (intOf i).toNat)
 case atStart => exact ⟨0, Nat.zero_le _, rfl, by simp, Below.refl _ _⟩
 case round =>
  obtain ⟨k, hk, rfl, heq, hB⟩ := hrel
  have Heq := Lib.hid heq; clear heq
  have HB := Lib.hid hB; clear hB
  by_cases hlt : k < xs.length
  ·obtain ⟨x, hx⟩ : ∃ x, xs[k]? = some x := ⟨_, List.getElem?_eq_getElem hlt⟩
   obtain ⟨y, hy⟩ : ∃ y, ys[k]? = some y := ⟨_, List.getElem?_eq_getElem (by rw [← Hlen.out]; exact hlt)⟩
   obtain ⟨g, off, Ai, ci, rfl, -, ⟨e0, e1, e2, e3⟩, hxs, hxc⟩ := (Hx.out.stay HB.out (Nat.le_refl _)).at_ hx
   obtain ⟨g', off', Bi, di, rfl, -, ⟨f0, f1, f2, f3⟩, hys, hyc⟩ := (Hy.out.stay HB.out (Nat.le_refl _)).at_ hy
   obtain ⟨r, hr⟩ : ∃ r, r = sameB x y := ⟨_, rfl⟩
   have hcall := refSame_calls x P Q wr.drew _ _ y ⟨Ai, ci, rfl, hxs, hxc.kept (fun _ _ _ => rfl)⟩ ⟨Bi, di, rfl, hys, hyc.kept (fun _ _ _ => rfl)⟩
   rw [← hr] at hcall
   have Hcall := Lib.hid hcall; clear hcall hxc hyc
   have Hxx := Lib.hid hx; clear hx
   have Hyy := Lib.hid hy; clear hy
   have Hr := Lib.hid hr; clear hr
   have hk0 : (0 : Int) ≤ (k : Int) := by omega
   have hk1 : (k : Int) < (xs.length : Int) := by omega
   go_wp2_with fail
   go_region_held3 (fun W => W.cell? ⟨g, off + k * 4, none⟩ = some (.int .i64 x.k) ∧ W.cell? ⟨g, off + k * 4 + 1, none⟩ = some (.int .i64 x.n) ∧ W.cell? ⟨g, off + k * 4 + 2, none⟩ = some (.string x.s) ∧ W.cell? ⟨g, off + k * 4 + 3, none⟩ = some (.slice Ai x.l.length ci) ∧ W.cell? ⟨g', off' + k * 4, none⟩ = some (.int .i64 y.k) ∧ W.cell? ⟨g', off' + k * 4 + 1, none⟩ = some (.int .i64 y.n) ∧ W.cell? ⟨g', off' + k * 4 + 2, none⟩ = some (.string y.s) ∧ W.cell? ⟨g', off' + k * 4 + 3, none⟩ = some (.slice Bi y.l.length di))
    (first
     | exact ⟨e0, e1, e2, e3, f0, f1, f2, f3⟩
     | (go_split_ands; refine ⟨?_, ?_, ?_, ?_, ?_, ?_, ?_, ?_⟩ <;> exact keep_cell hb (by assumption)))
    ((go_at_call 25; refine Hcall.out.mono ?_; rintro e w1 ⟨rfl, hb⟩))
   have HB1 := Lib.hid (HB.out.trans ((Below.refl _ wr).drew.trans (hb.mono HB.out.size))); clear hb
   clear e0 e1 e2 e3 f0 f1 f2 f3
   cases r
   ·have Hf' := Lib.hid (show sameL xs ys = false from sameL_false.2 (fun e => by
     subst e
     have h1 := Hxx.out.symm.trans Hyy.out
     injection h1 with h1
     exact sameB_false.1 Hr.out.symm h1))
    go_wp2
    go_ret
    exact ⟨by rw [Hf'.out]; rfl, HB1.out⟩
   ·have hxy := sameB_iff.1 Hr.out.symm
    have Hnx := Lib.hid (show xs.take (k + 1) = ys.take (k + 1) from by rw [take_snoc Hxx.out, take_snoc Hyy.out, Heq.out, hxy])
    clear hxy
    go_wp2
    go_roundw
    case rel => exact ⟨k + 1, by omega, by go_num, Hnx.out, HB1.out⟩
    case measure => simp [intOf]; omega
  ·have hke : k = xs.length := by omega
   subst hke
   have Hf' := Lib.hid (show sameL xs ys = true from sameL_iff.2 (by
    have := Heq.out
    rw [List.take_length, Hlen.out, List.take_length] at this
    exact this))
   go_wp2
   go_ret
   exact ⟨by rw [Hf'.out]; rfl, HB.out⟩
structure But (b : Nat) (w w' : World) : Prop where
 os : w'.os = w.os
 tape : w'.tape = w.tape
 output : w'.output = w.output
 size : w.heap.size ≤ w'.heap.size
 block : ∀ k, k < w.heap.size → k ≠ b → w'.heap[k]? = w.heap[k]?
theorem But.refl (b : Nat) (w : World) : But b w w := ⟨rfl, rfl, rfl, Nat.le_refl _, fun _ _ _ => rfl⟩
theorem But.trans {b : Nat} {u v w : World} (h : But b u v) (k : But b v w) : But b u w :=
 ⟨k.os.trans h.os, k.tape.trans h.tape, k.output.trans h.output, Nat.le_trans h.size k.size, fun i hi hn => (k.block i (Nat.lt_of_lt_of_le hi h.size) hn).trans (h.block i hi hn)⟩
theorem But.alloc {b : Nat} {u v : World} (h : But b u v) (o : Obj) : But b u (v.alloc o) :=
 h.trans ⟨rfl, rfl, rfl, by simp, fun k hk _ => Below.heap_alloc _ _ _ hk⟩
theorem But.setCell {b : Nat} {u v : World} (h : But b u v) (o : Nat) (x : Value) : But b u (v.setCell ⟨b, o, none⟩ x) :=
 h.trans ⟨rfl, rfl, rfl, by simp [World.setCell], fun k _ hn => Below.heap_setCell _ _ _ _ hn⟩
theorem But.setCellFar {b : Nat} {u v : World} (h : But b u v) (p : Addr) (hp : u.heap.size ≤ p.block) (x : Value) : But b u (v.setCell p x) :=
 ⟨h.os, h.tape, h.output, Nat.le_trans h.size (by simp [World.setCell]), fun k hk hn => (Below.heap_setCell _ _ _ _ (by omega)).trans (h.block k hk hn)⟩
theorem But.drewN {b : Nat} {u v : World} (h : But b u v) (n : Nat) : But b u (v.drewN n) := ⟨h.os, h.tape, h.output, h.size, h.block⟩
theorem But.of_below {b B : Nat} {u v : World} (h : Below B u v) (hB : u.heap.size ≤ B) : But b u v := ⟨h.os, h.tape, h.output, h.size, fun k hk _ => h.block k (Nat.lt_of_lt_of_le hk hB)⟩
theorem But.below {b B : Nat} {u v : World} (h : But b u v) (hb : B ≤ b) (hB : B ≤ u.heap.size) : Below B u v := ⟨h.os, h.tape, h.output, h.size, fun k hk => h.block k (by omega) (by omega)⟩
theorem TmC.but {P : Nat → Prop} {w w' : World} {A : Option Addr} {c b : Nat} {l : List Tm} (h : TmC P w A c l) (hb : But b w w') (hP : ∀ g, P g → g ≠ b) : TmC P w' A c l :=
 h.kept fun g hg hlt => hb.block g hlt (hP g hg)
theorem Blk.but {w w' : World} {g t b : Nat} {cs : Array Value} (h : Blk w g t cs) (hb : But b w w') (hne : g ≠ b) : Blk w' g t cs := by
 have hlt := h.lt
 unfold Blk at *
 rw [hb.block g hlt hne]; exact h
theorem Blk.one {w : World} {g : Nat} {t : TypeId} {a : Value} (h : Blk w g t #[a]) : w.cell? ⟨g, 0, none⟩ = some a ∧ w.frozen? ⟨g, 0, none⟩ = false :=
 ⟨by rw [h.cell 0]; rfl, h.frozen 0⟩
mutual
def Tm.cnt : Tm → Int → Int → Int × Bool
 | .mk _ _ s l, L, d => if L - 1 < 0 ∨ 700 < d ∨ 1000 < s.size then (L - 1, false) else Tm.cnts l (L - 1) (d + 1)
def Tm.cnts : List Tm → Int → Int → Int × Bool
 | [], L, _ => (L, true)
 | t :: ts, L, d => if (Tm.cnt t L d).2 = true then Tm.cnts ts (Tm.cnt t L d).1 d else ((Tm.cnt t L d).1, false)
end
theorem Tm.cnt_eq (t : Tm) (L d : Int) : t.cnt L d = if L - 1 < 0 ∨ 700 < d ∨ 1000 < t.s.size then (L - 1, false) else Tm.cnts t.l (L - 1) (d + 1) := by
 cases t; rw [Tm.cnt]; rfl
theorem Tm.cnts_step {l : List Tm} {k : Nat} {x : Tm} (h : l[k]? = some x) (L d : Int) : Tm.cnts (l.drop k) L d = if (x.cnt L d).2 = true then Tm.cnts (l.drop (k + 1)) (x.cnt L d).1 d else ((x.cnt L d).1, false) := by
 obtain ⟨h1, h2⟩ := List.getElem?_eq_some_iff.1 h
 rw [List.drop_eq_getElem_cons h1, h2, Tm.cnts]
theorem Tm.cnt_bd (n : Nat) : (∀ (t : Tm) (L d : Int), t.size ≤ n → 0 ≤ L → -1 ≤ (t.cnt L d).1 ∧ (t.cnt L d).1 < L ∧ ((t.cnt L d).2 = true → 0 ≤ (t.cnt L d).1)) ∧
  (∀ (l : List Tm) (L d : Int), Tm.sizes l ≤ n → 0 ≤ L → -1 ≤ (Tm.cnts l L d).1 ∧ (Tm.cnts l L d).1 ≤ L ∧ ((Tm.cnts l L d).2 = true → 0 ≤ (Tm.cnts l L d).1)) := by
 induction n with
 | zero => exact ⟨fun t L d h => by have := t.size_pos; omega, fun l L d h hL => by
   cases l with
   | nil => simp [Tm.cnts]; omega
   | cons x xs => rw [Tm.sizes] at h; have := x.size_pos; omega⟩
 | succ n ih =>
  have h1 : ∀ (t : Tm) (L d : Int), t.size ≤ n + 1 → 0 ≤ L → -1 ≤ (t.cnt L d).1 ∧ (t.cnt L d).1 < L ∧ ((t.cnt L d).2 = true → 0 ≤ (t.cnt L d).1) := fun t L d h hL => by
   rw [Tm.cnt_eq]
   split
   ·simp; omega
   ·have := ih.2 t.l (L - 1) (d + 1) (by rw [t.size_eq] at h; omega) (by omega)
    exact ⟨this.1, by omega, this.2.2⟩
  refine ⟨h1, fun l => ?_⟩
  induction l with
  | nil => intro L d _ hL; simp [Tm.cnts]; omega
  | cons x xs ihl =>
   intro L d h hL
   rw [Tm.sizes] at h
   have hx := h1 x L d (by omega) hL
   rw [Tm.cnts]
   split
   ·rename_i hb
    have := ihl (x.cnt L d).1 d (by omega) (hx.2.2 hb)
    exact ⟨this.1, by omega, this.2.2⟩
   ·exact ⟨hx.1, by simp only; omega, by simp⟩
def RetC (w : World) (b : Nat) (r : Int × Bool) (e : Ending) (w' : World) : Prop := e = .returned (.bool r.2) ∧ Blk w' b 3 #[.int .i64 r.1] ∧ But b w w'
set_option maxRecDepth 100000 in
set_option maxHeartbeats 4000000 in
theorem count_calls (t : Tm) : ∀ (P : Nat → Prop) (w : World) (v : Value) (b : Nat) (L d : Int), TmV P w v t → Blk w b 3 #[.int .i64 L] → (∀ g, P g → g ≠ b) → 0 ≤ L → L ≤ 1000000 → 0 ≤ d → d ≤ 701 →
  Calls Try.prog 17 #[v, .pointer (some ⟨b, 0, none⟩), .int .i64 d] w (RetC w b (t.cnt L d)) := by
 induction t using Tm.ind with
 | h t ih =>
  intro P w v b L d hv hb hP hL0 hL1 hd0 hd1
  obtain ⟨A, c, rfl, hs, hc⟩ := hv
  have Ih := Lib.hid ih; clear ih
  have HP := Lib.hid hP; clear hP
  have hcnt := Tm.cnt_eq t L d
  obtain ⟨W0, hW0⟩ : ∃ W0, W0 = (w.setCell ⟨b, 0, none⟩ (.int .i64 (L - 1))).alloc (.cells #[.int .i64 t.k, .int .i64 t.n, .string t.s, .slice A t.l.length c] 25) := ⟨_, rfl⟩
  have hblt := hb.lt
  have hB0 : But b w W0 := by rw [hW0]; exact ((But.refl b w).setCell 0 _).alloc _
  have hX0 : Blk W0 w.heap.size 25 #[.int .i64 t.k, .int .i64 t.n, .string t.s, .slice A t.l.length c] := by
   rw [hW0]
   have := Blk.new (w.setCell ⟨b, 0, none⟩ (.int .i64 (L - 1))) 25 #[.int .i64 t.k, .int .i64 t.n, .string t.s, .slice A t.l.length c]
   rwa [show (w.setCell ⟨b, 0, none⟩ (.int .i64 (L - 1))).heap.size = w.heap.size from by simp] at this
  have hb0 : Blk W0 b 3 #[.int .i64 (L - 1)] := by rw [hW0]; simpa using (hb.set_ 0 (.int .i64 (L - 1))).alloc _
  obtain ⟨p0, p1⟩ := hb.one
  have lx0 := hX0.lt
  have hlm := hc.len.2.1
  have hlc := hc.len.1
  have Hc := Lib.hid (hc.but hB0 HP.out); clear hc
  have HX0 := Lib.hid hX0; clear hX0
  have Hb0 := Lib.hid hb0; clear hb0 hb
  have HB0 := Lib.hid hB0; clear hB0
  have HW := Lib.hid hW0; clear hW0
  have hneq : b ≠ w.heap.size := by omega
  by_cases hL : L - 1 < 0
  case pos =>
   have Hr := Lib.hid (show t.cnt L d = (L - 1, false) from by rw [hcnt, if_pos (.inl hL)]); clear hcnt
   have hdl : decide (L - 1 < 0) = true := decide_eq_true hL
   go_enter Try.func17, Try.ntmps17
   go_wp2
   go_ret
   exact ⟨by rw [Hr.out]; rfl, by rw [Hr.out, ← HW.out]; exact Hb0.out, by rw [← HW.out]; exact HB0.out⟩
  have hdl : decide (L - 1 < 0) = false := decide_eq_false hL
  by_cases hd7 : 700 < d
  case pos =>
   have Hr := Lib.hid (show t.cnt L d = (L - 1, false) from by rw [hcnt, if_pos (.inr (.inl hd7))]); clear hcnt
   have hdl : decide (700 < d) = true := decide_eq_true hd7
   go_enter Try.func17, Try.ntmps17
   go_wp2
   go_ret
   exact ⟨by rw [Hr.out]; rfl, by rw [Hr.out, ← HW.out]; exact Hb0.out, by rw [← HW.out]; exact HB0.out⟩
  have hdl2 : decide (700 < d) = false := decide_eq_false hd7
  by_cases hss : 1000 < t.s.size
  case pos =>
   have Hr := Lib.hid (show t.cnt L d = (L - 1, false) from by rw [hcnt, if_pos (.inr (.inr hss))]); clear hcnt
   have hdl : decide (1000 < t.s.size) = true := decide_eq_true hss
   have hdl' : decide ((1000 : Int) < (t.s.size : Int)) = true := decide_eq_true (by omega)
   go_enter Try.func17, Try.ntmps17
   go_wp2
   go_ret
   exact ⟨by rw [Hr.out]; rfl, by rw [Hr.out, ← HW.out]; exact Hb0.out, by rw [← HW.out]; exact HB0.out⟩
  have hdl3 : decide (1000 < t.s.size) = false := decide_eq_false hss
  have hdl3' : decide ((1000 : Int) < (t.s.size : Int)) = false := decide_eq_false (by omega)
  have Hr0 := Lib.hid (show Tm.cnts (t.l.drop 0) (L - 1) (d + 1) = t.cnt L d from by rw [hcnt, if_neg (by omega)]; simp); clear hcnt
  obtain ⟨R, hR⟩ : ∃ R, t.cnt L d = R := ⟨_, rfl⟩
  rw [hR] at Hr0 ⊢
  clear hR
  go_enter Try.func17, Try.ntmps17
  go_wp2
  clear hdl hdl2 hdl3 hdl3' p0 p1
  go_loopw [31] (fun i wr => ∃ (k : Nat) (L' : Int), k ≤ t.l.length ∧ i = .int .i64 k ∧ 0 ≤ L' ∧ L' ≤ L ∧ Tm.cnts (t.l.drop k) L' (d + 1) = R ∧ Blk wr b 3 #[.int .i64 L'] ∧ But b W0 wr) (fun i _ => t.l.length - (intOf i).toNat)
  case atStart => exact ⟨0, L - 1, Nat.zero_le _, rfl, by omega, by omega, Hr0.out, by rw [← HW.out]; exact Hb0.out, by rw [← HW.out]; exact But.refl _ _⟩
  case round =>
   obtain ⟨k, L', hk, rfl, hL0', hL1', hcn, hbk, hB⟩ := hrel
   have Hcn := Lib.hid hcn; clear hcn
   have Hbk := Lib.hid hbk; clear hbk
   have HB := Lib.hid hB; clear hB
   by_cases hlt : k < t.l.length
   ·obtain ⟨x, hx⟩ : ∃ x, t.l[k]? = some x := ⟨_, List.getElem?_eq_getElem hlt⟩
    obtain ⟨g, off, Ai, ci, rfl, -, ⟨e0, e1, e2, e3⟩, hxs, hxc⟩ := (Hc.out.but HB.out HP.out).at_ hx
    have hst := Tm.cnts_step hx L' (d + 1)
    rw [Hcn.out] at hst
    have hbd := (Tm.cnt_bd x.size).1 x L' (d + 1) (Nat.le_refl _) hL0'
    have hba : Below wr.heap.size wr (wr.alloc (.cells #[.int .i64 x.k, .int .i64 x.n, .string x.s, .slice Ai x.l.length ci] 25)) := (Below.refl _ _).alloc (Nat.le_refl _) _
    have hcall := Ih.out x (List.mem_of_getElem? hx) P _ _ b L' (d + 1) ⟨Ai, ci, rfl, hxs, hxc.stay hba (Nat.le_refl _)⟩ (Hbk.out.alloc _) HP.out hL0' (by omega) (by omega) (by omega)
    obtain ⟨r, hr⟩ : ∃ r, r = x.cnt L' (d + 1) := ⟨_, rfl⟩
    rw [← hr] at hst hbd hcall
    have Hcall := Lib.hid hcall; clear hcall hxc hx hba hr
    obtain ⟨L2, b2⟩ := r
    have Hst := Lib.hid hst; clear hst
    have Hbd := Lib.hid hbd; clear hbd
    go_wp2_with fail
    refine Hcall.out.mono ?_
    rintro e w1 ⟨rfl, hbk1, hbut1⟩
    have HB1 := Lib.hid (HB.out.trans ((But.of_below ((Below.refl _ wr).alloc (Nat.le_refl _) _) (Nat.le_refl _)).trans hbut1)); clear hbut1
    have Hbk1 := Lib.hid hbk1; clear hbk1 e0 e1 e2 e3
    cases b2
    ·have Hf := Lib.hid (show R = (L2, false) from by rw [Hst.out]; rfl)
     go_wp2
     go_ret
     exact ⟨by rw [Hf.out]; rfl, by rw [Hf.out]; exact Hbk1.out, HB0.out.trans HB1.out⟩
    ·have h1 := Hbd.out
     simp only [true_implies, forall_const] at h1
     have hL20 : 0 ≤ L2 := h1.2.2
     have hL21 : L2 ≤ L := by omega
     clear h1
     have Hn := Lib.hid (show Tm.cnts (t.l.drop (k + 1)) L2 (d + 1) = R from by rw [Hst.out]; rfl)
     go_wp2
     go_roundw
     case rel => exact ⟨k + 1, L2, by omega, by go_num, hL20, hL21, Hn.out, Hbk1.out, HB1.out⟩
     case measure => simp [intOf]; omega
   ·have hke : k = t.l.length := by omega
    subst hke
    have hf := Hcn.out
    rw [List.drop_length, Tm.cnts] at hf
    have Hf := Lib.hid hf.symm; clear hf
    go_wp2
    go_ret
    exact ⟨by rw [Hf.out]; rfl, by rw [Hf.out]; exact Hbk.out, HB0.out.trans HB.out⟩
end Go.Proofs.Ytfhgknmkpegpbaa
set_option linter.unusedVariables false
set_option linter.unusedSimpArgs false
namespace Go.Proofs.Ytfhgknmkpegpbaa
open Go.RowKit
noncomputable section
def smallB (l : List Tm) : Bool := (Tm.cnts l 1500 1).2
end
theorem Tm.cnt_true (n : Nat) : (∀ (t : Tm) (L d : Int), t.size ≤ n → (t.cnt L d).2 = true → (t.cnt L d).1 = L - t.size ∧ (0 ≤ L → 0 ≤ L - t.size) ∧ d + t.depth ≤ 701 ∧ t.s.size ≤ 1000) ∧
  (∀ (l : List Tm) (L d : Int), Tm.sizes l ≤ n → (Tm.cnts l L d).2 = true → (Tm.cnts l L d).1 = L - Tm.sizes l ∧ (0 ≤ L → 0 ≤ L - Tm.sizes l) ∧ (d ≤ 701 → d + Tm.depths l ≤ 701)) := by
 induction n with
 | zero => exact ⟨fun t L d h => by have := t.size_pos; omega, fun l L d h hL => by
   cases l with
   | nil => simp [Tm.cnts, Tm.sizes, Tm.depths]
   | cons x xs => rw [Tm.sizes] at h; have := x.size_pos; omega⟩
 | succ n ih =>
  have h1 : ∀ (t : Tm) (L d : Int), t.size ≤ n + 1 → (t.cnt L d).2 = true → (t.cnt L d).1 = L - t.size ∧ (0 ≤ L → 0 ≤ L - t.size) ∧ d + t.depth ≤ 701 ∧ t.s.size ≤ 1000 := fun t L d h hb => by
   rw [Tm.cnt_eq] at hb ⊢
   split at hb
   ·simp at hb
   ·rename_i hc
    rw [if_neg hc]
    have := ih.2 t.l (L - 1) (d + 1) (by rw [t.size_eq] at h; omega) hb
    rw [t.depth_eq, t.size_eq]
    have h3 := this.2.2 (by omega)
    refine ⟨by rw [this.1]; omega, fun h0 => by have := this.2.1 (by omega); omega, by omega, by omega⟩
  refine ⟨h1, fun l => ?_⟩
  induction l with
  | nil => intro L d _ _; simp [Tm.cnts, Tm.sizes, Tm.depths]
  | cons x xs ihl =>
   intro L d h hb
   rw [Tm.sizes] at h
   rw [Tm.cnts] at hb ⊢
   split at hb
   ·rename_i hx
    rw [if_pos hx]
    have h2 := h1 x L d (by omega) hx
    have h3 := ihl (x.cnt L d).1 d (by omega) hb
    rw [Tm.sizes, Tm.depths]
    refine ⟨by rw [h3.1, h2.1]; omega, fun h0 => ?_, fun hd => by have := h3.2.2 hd; omega⟩
    have h4 := h2.2.1 h0
    have h5 := h3.2.1 (by rw [h2.1]; exact h4)
    rw [h2.1] at h5
    omega
   ·simp at hb
theorem smallB_sizes {l : List Tm} (h : smallB l = true) : Tm.sizes l ≤ 1500 ∧ Tm.depths l ≤ 700 := by
 have := (Tm.cnt_true (Tm.sizes l)).2 l 1500 1 (Nat.le_refl _) h
 have h1 := this.2.1 (by omega)
 have h2 := this.2.2 (by omega)
 omega
theorem smallB_size {l : List Tm} (h : smallB l = true) {t : Tm} (ht : t ∈ l) : t.size ≤ 1500 := by
 have := Tm.size_mem ht
 have := (smallB_sizes h).1
 omega
set_option maxRecDepth 100000 in
set_option maxHeartbeats 4000000 in
theorem small_calls (l : List Tm) (P : Nat → Prop) (A : Option Addr) (c : Nat) (w : World) (hc : TmC P w A c l) :
  Calls Try.prog 28 #[.slice A l.length c] w (RetB w (smallB l)) := by
 have hlm := hc.len.2.1
 have hlc := hc.len.1
 obtain ⟨W0, hW0⟩ : ∃ W0, W0 = w.alloc (.cells #[.int .i64 1500] 3) := ⟨_, rfl⟩
 have hB0 : Below w.heap.size w W0 := by rw [hW0]; exact (Below.refl _ _).alloc (Nat.le_refl _) _
 have hX0 : Blk W0 w.heap.size 3 #[.int .i64 1500] := by rw [hW0]; exact Blk.new _ _ _
 have lx0 := hX0.lt
 have Hc := Lib.hid ((hc.inside).stay hB0 (Nat.le_refl _)); clear hc
 have HX0 := Lib.hid hX0; clear hX0
 have HB0 := Lib.hid hB0; clear hB0
 have HW := Lib.hid hW0; clear hW0
 have HP := Lib.hid (fun g (h : P g ∧ g < w.heap.size) => Nat.ne_of_lt h.2)
 obtain ⟨R, hR⟩ : ∃ R, Tm.cnts l 1500 1 = R := ⟨_, rfl⟩
 have hRb : smallB l = R.2 := by rw [smallB, hR]
 rw [hRb]
 have Hr0 := Lib.hid (show Tm.cnts (l.drop 0) 1500 1 = R from by simpa using hR); clear hR hRb
 go_enter Try.func28, Try.ntmps28
 go_wp2
 go_loopw [8] (fun i wr => ∃ (k : Nat) (L' : Int), k ≤ l.length ∧ i = .int .i64 k ∧ 0 ≤ L' ∧ L' ≤ 1500 ∧ Tm.cnts (l.drop k) L' 1 = R ∧ Blk wr w.heap.size 3 #[.int .i64 L'] ∧ But w.heap.size W0 wr) (fun i _ => l.length - (intOf i).toNat)
 case atStart => exact ⟨0, 1500, Nat.zero_le _, rfl, by omega, by omega, Hr0.out, by rw [← HW.out]; exact HX0.out, by rw [← HW.out]; exact But.refl _ _⟩
 case round =>
  obtain ⟨k, L', hk, rfl, hL0', hL1', hcn, hbk, hB⟩ := hrel
  have Hcn := Lib.hid hcn; clear hcn
  have Hbk := Lib.hid hbk; clear hbk
  have HB := Lib.hid hB; clear hB
  by_cases hlt : k < l.length
  ·obtain ⟨x, hx⟩ : ∃ x, l[k]? = some x := ⟨_, List.getElem?_eq_getElem hlt⟩
   obtain ⟨g, off, Ai, ci, rfl, -, ⟨e0, e1, e2, e3⟩, hxs, hxc⟩ := (Hc.out.but HB.out HP.out).at_ hx
   have hst := Tm.cnts_step hx L' 1
   rw [Hcn.out] at hst
   have hbd := (Tm.cnt_bd x.size).1 x L' 1 (Nat.le_refl _) hL0'
   have hba : Below wr.heap.size wr (wr.alloc (.cells #[.int .i64 x.k, .int .i64 x.n, .string x.s, .slice Ai x.l.length ci] 25)) := (Below.refl _ _).alloc (Nat.le_refl _) _
   have hcall := count_calls x _ _ _ w.heap.size L' 1 ⟨Ai, ci, rfl, hxs, hxc.stay hba (Nat.le_refl _)⟩ (Hbk.out.alloc _) HP.out hL0' (by omega) (by omega) (by omega)
   obtain ⟨r, hr⟩ : ∃ r, r = x.cnt L' 1 := ⟨_, rfl⟩
   rw [← hr] at hst hbd hcall
   have Hcall := Lib.hid hcall; clear hcall hxc hx hba hr
   obtain ⟨L2, b2⟩ := r
   have Hst := Lib.hid hst; clear hst
   have Hbd := Lib.hid hbd; clear hbd
   go_wp2_with fail
   refine Hcall.out.mono ?_
   rintro e w1 ⟨rfl, hbk1, hbut1⟩
   have HB1 := Lib.hid (HB.out.trans ((But.of_below ((Below.refl _ wr).alloc (Nat.le_refl _) _) (Nat.le_refl _)).trans hbut1)); clear hbut1
   have Hbk1 := Lib.hid hbk1; clear hbk1 e0 e1 e2 e3
   cases b2
   ·have Hf := Lib.hid (show R = (L2, false) from by rw [Hst.out]; rfl)
    go_wp2
    go_ret
    exact ⟨by rw [Hf.out]; rfl, HB0.out.trans (HB1.out.below (Nat.le_refl _) (Nat.le_of_lt lx0))⟩
   ·have h1 := Hbd.out
    simp only [true_implies, forall_const] at h1
    have hL20 : 0 ≤ L2 := h1.2.2
    have hL21 : L2 ≤ 1500 := by omega
    clear h1
    have Hn := Lib.hid (show Tm.cnts (l.drop (k + 1)) L2 1 = R from by rw [Hst.out]; rfl)
    go_wp2
    go_roundw
    case rel => exact ⟨k + 1, L2, by omega, by go_num, hL20, hL21, Hn.out, Hbk1.out, HB1.out⟩
    case measure => simp [intOf]; omega
  ·have hke : k = l.length := by omega
   subst hke
   have hf := Hcn.out
   rw [List.drop_length, Tm.cnts] at hf
   have Hf := Lib.hid hf.symm; clear hf
   go_wp2
   go_ret
   exact ⟨by rw [Hf.out]; rfl, HB0.out.trans (HB.out.below (Nat.le_refl _) (Nat.le_of_lt lx0))⟩
end Go.Proofs.Ytfhgknmkpegpbaa
set_option linter.unusedVariables false
set_option linter.unusedSimpArgs false
namespace Go.Proofs.Ytfhgknmkpegpbaa
open Go.RowKit
def nb (b : UInt8) : Bool := decide (32 ≤ b.toNat) && decide (b.toNat ≤ 126)
def nameB (s : ByteArray) : Bool := (decide (1 ≤ s.size) && decide (s.size ≤ 32)) && s.data.toList.all nb
theorem all_take_snoc (s : ByteArray) (k : Nat) (h : k < s.size) : (s.data.toList.take (k + 1)).all nb = ((s.data.toList.take k).all nb && nb s[k]) := by
 rw [List.take_succ_eq_append_getElem (by simpa using h), List.all_append]
 simp
 rfl
theorem nb_mem {s : ByteArray} {k : Nat} (h : k < s.size) (hb : nb s[k] = false) : nameB s = false := by
 have : s.data.toList.all nb = false := by
  rw [List.all_eq_false]
  exact ⟨s[k], by
   have : s.data.toList[k]'(by simpa using h) = s[k] := rfl
   rw [← this]; exact List.getElem_mem _, by rw [hb]; simp⟩
 rw [nameB, this, Bool.and_false]
theorem nb_low {b : UInt8} (h : (b.toNat : Int) < 32) : nb b = false := by
 rw [nb, Bool.and_eq_false_iff]; exact .inl (decide_eq_false (by omega))
theorem nb_high {b : UInt8} (h : (126 : Int) < (b.toNat : Int)) : nb b = false := by
 rw [nb, Bool.and_eq_false_iff]; exact .inr (decide_eq_false (by omega))
theorem nb_mid {b : UInt8} (h1 : ¬ (b.toNat : Int) < 32) (h2 : ¬ (126 : Int) < (b.toNat : Int)) : nb b = true := by
 rw [nb, Bool.and_eq_true]; exact ⟨decide_eq_true (by omega), decide_eq_true (by omega)⟩
set_option maxRecDepth 100000 in
set_option maxHeartbeats 4000000 in
theorem refName_calls (s : ByteArray) (w : World) (hs : s.size ≤ 9223372036854775807) :
    Calls Try.prog 153 #[.string s] w fun e w' => e = .returned (.bool (nameB s)) ∧ w = w' := by
  go_enter Try.func153, Try.ntmps153
  go_wp2
  go_loop [3] (fun i => ∃ k : Nat, k ≤ s.size ∧ i = .int .i64 k ∧ (s.data.toList.take k).all nb = true) (fun i => s.size - (intOf i).toNat)
  case atStart => exact ⟨0, Nat.zero_le _, rfl, by simp⟩
  case round =>
    obtain ⟨k, hk, rfl, hal⟩ := hrel
    have Hal := Lib.hid hal; clear hal
    by_cases hlt : k < s.size
    · have hn := all_take_snoc s k hlt
      have Hn := Lib.hid hn; clear hn
      go_wp2
      all_goals first
        | (go_ret
           refine ⟨?_, rfl⟩
           first
             | (rw [nb_mem hlt (nb_low (by omega))]; rfl)
             | (rw [nb_mem hlt (nb_high (by omega))]; rfl))
        | (go_round
           case rel => exact ⟨k + 1, by omega, by go_num, by rw [Hn.out, Hal.out, nb_mid (by omega) (by omega)]; rfl⟩
           case measure => simp [intOf]; omega)
    · have hke : k = s.size := by omega
      subst hke
      have hall : s.data.toList.all nb = true := by
        have := Hal.out
        rwa [List.take_of_length_le (by simp)] at this
      have Hall := Lib.hid hall; clear hall
      by_cases h1 : 1 ≤ s.size
      · by_cases h2 : s.size ≤ 32
        · have Hr := Lib.hid (show nameB s = true from by rw [nameB, Hall.out, decide_eq_true h1, decide_eq_true h2]; rfl)
          have d1 : decide (1 ≤ s.size) = true := decide_eq_true h1
          have d2 : decide (s.size ≤ 32) = true := decide_eq_true h2
          have d3 : decide ((1 : Int) ≤ (s.size : Int)) = true := decide_eq_true (by omega)
          have d4 : decide ((s.size : Int) ≤ 32) = true := decide_eq_true (by omega)
          go_wp2
          go_ret
          exact ⟨by rw [Hr.out]; rfl, rfl⟩
        · have Hr := Lib.hid (show nameB s = false from by rw [nameB, Hall.out, decide_eq_true h1, decide_eq_false h2]; rfl)
          have d1 : decide (1 ≤ s.size) = true := decide_eq_true h1
          have d2 : decide (s.size ≤ 32) = false := decide_eq_false h2
          have d3 : decide ((1 : Int) ≤ (s.size : Int)) = true := decide_eq_true (by omega)
          have d4 : decide ((s.size : Int) ≤ 32) = false := decide_eq_false (by omega)
          go_wp2
          go_ret
          exact ⟨by rw [Hr.out]; rfl, rfl⟩
      · have Hr := Lib.hid (show nameB s = false from by rw [nameB, Hall.out, decide_eq_false h1]; rfl)
        have d1 : decide (1 ≤ s.size) = false := decide_eq_false h1
        have d3 : decide ((1 : Int) ≤ (s.size : Int)) = false := decide_eq_false (by omega)
        go_wp2
        go_ret
        exact ⟨by rw [Hr.out]; rfl, rfl⟩
end Go.Proofs.Ytfhgknmkpegpbaa
set_option linter.unusedVariables false
set_option linter.unusedSimpArgs false
namespace Go.Proofs.Ytfhgknmkpegpbaa
open Go.RowKit
open Go.Lib in
theorem decode_high (s : ByteArray) (pos : Nat) (h : pos < s.size) (ha : 128 ≤ (s[pos]'h).toNat) : 128 ≤ (Utf8.decode s pos).1 := by
 have e : (s.get! (pos + 0)).toNat = (s[pos]'h).toNat := by
  have : s.get! (pos + 0) = s[pos]'h := by
   show s.get! pos = _
   simp [ByteArray.get!, getElem!_pos, h]
   rfl
  rw [this]
 unfold Utf8.decode
 simp only [e]
 rw [if_neg (by omega)]
 have hr : Utf8.runeError = 65533 := rfl
 repeat' split
 all_goals first
  | (simp only; omega)
  | (simp only [hr]; omega)
  | (simp only; simp only [Bool.and_eq_true, decide_eq_true_eq] at *; omega)
def outB (r : Nat) : Bool := decide (r < 32) || decide (126 < r)
theorem outB_of (s : ByteArray) (pos : Nat) (h : pos < s.size) : outB (Utf8.decode s pos).1 = !nb (s[pos]'h) := by
 by_cases ha : (s[pos]'h).toNat < 128
 ·rw [decode_ascii s pos h ha]
  simp only [outB, nb]
  by_cases h1 : (s[pos]'h).toNat < 32
  ·rw [decide_eq_true h1, decide_eq_false (show ¬ 32 ≤ (s[pos]'h).toNat by omega)]; rfl
  ·by_cases h2 : 126 < (s[pos]'h).toNat
   ·rw [decide_eq_true h2, decide_eq_false (show ¬ (s[pos]'h).toNat ≤ 126 by omega)]; simp
   ·rw [decide_eq_false h1, decide_eq_false h2, decide_eq_true (show 32 ≤ (s[pos]'h).toNat by omega), decide_eq_true (show (s[pos]'h).toNat ≤ 126 by omega)]; rfl
 ·have := decode_high s pos h (by omega)
  have h2 : nb (s[pos]'h) = false := by rw [nb, Bool.and_eq_false_iff]; exact .inr (decide_eq_false (by omega))
  rw [h2, outB, decide_eq_true (show 126 < (Utf8.decode s pos).1 by omega)]; simp
theorem idx_all (s : ByteArray) : ∀ (f pos : Nat), pos ≤ s.size → s.size ≤ pos + f → (decide (Lib.idxFuncFrom outB true s f pos < 0)) = (s.data.toList.drop pos).all nb
 | 0, pos, h1, h2 => by
  rw [List.drop_of_length_le (by simp; omega)]
  simp [Lib.idxFuncFrom]
 | f + 1, pos, h1, h2 => by
  unfold Lib.idxFuncFrom
  by_cases hlt : pos < s.size
  ·rw [if_pos hlt, outB_of s pos hlt]
   have hd : s.data.toList.drop pos = s[pos] :: s.data.toList.drop (pos + 1) := by
    rw [List.drop_eq_getElem_cons (by simpa using hlt)]; rfl
   rw [hd, List.all_cons]
   cases hb : nb s[pos] with
   | false =>
    simp
   | true =>
    have ha : (s[pos]'hlt).toNat < 128 := by
     rw [nb, Bool.and_eq_true] at hb
     have := of_decide_eq_true hb.2
     omega
    simp only [Bool.not_true, Bool.false_eq_true, if_false, Bool.true_and]
    rw [decode_ascii s pos hlt ha]
    exact idx_all s f (pos + 1) (by omega) (by omega)
  ·rw [if_neg hlt, List.drop_of_length_le (by simp; omega)]
   simp
theorem idx_name (s : ByteArray) : decide (Lib.idxFunc outB true s < 0) = s.data.toList.all nb := by
 have := idx_all s s.size 0 (Nat.zero_le _) (by omega)
 rw [List.drop_zero] at this
 exact this
set_option maxRecDepth 100000 in
set_option maxHeartbeats 4000000 in
theorem f142_calls (x : Nat) (w : World) : Calls Try.prog 142 #[.int .i32 x] w fun e w' => e = .returned (.bool (outB x)) ∧ w = w' := by
 by_cases h1 : x < 32
 ·have Hr := Lib.hid (show outB x = true from by rw [outB, decide_eq_true h1]; rfl)
  have d1 : decide ((x : Int) < 32) = true := decide_eq_true (by omega)
  have d2 : decide (x < 32) = true := decide_eq_true h1
  go_enter Try.func142, Try.ntmps142
  go_wp2
  go_ret
  exact ⟨by rw [Hr.out]; rfl, rfl⟩
 ·have d1 : decide ((x : Int) < 32) = false := decide_eq_false (by omega)
  have d2 : decide (x < 32) = false := decide_eq_false h1
  by_cases h2 : 126 < x
  ·have Hr := Lib.hid (show outB x = true from by rw [outB, decide_eq_true h2]; simp)
   have d3 : decide ((126 : Int) < (x : Int)) = true := decide_eq_true (by omega)
   have d4 : decide (126 < x) = true := decide_eq_true h2
   go_enter Try.func142, Try.ntmps142
   go_wp2
   go_ret
   exact ⟨by rw [Hr.out]; rfl, rfl⟩
  ·have Hr := Lib.hid (show outB x = false from by rw [outB, decide_eq_false h2, decide_eq_false h1]; rfl)
   have d3 : decide ((126 : Int) < (x : Int)) = false := decide_eq_false (by omega)
   have d4 : decide (126 < x) = false := decide_eq_false h2
   go_enter Try.func142, Try.ntmps142
   go_wp2
   go_ret
   exact ⟨by rw [Hr.out]; rfl, rfl⟩
theorem idxf_calls (s : ByteArray) (w : World) : Calls Try.prog 143 #[.string s, .func (.func 142) #[] #[]] w fun e w' => e = .returned (.int .i64 (Lib.idxFunc outB true s)) ∧ Below w.heap.size w w' :=
 Try.strings_IndexFunc_runes 142 #[] (fun args w => by kernel_rfl) outB s w (fun W x _ _ => (f142_calls x W).mono (by rintro e w' ⟨rfl, rfl⟩; exact ⟨rfl, 0, rfl⟩))
set_option maxRecDepth 100000 in
set_option maxHeartbeats 4000000 in
theorem name_calls (s : ByteArray) (w : World) (hs : s.size ≤ 9223372036854775807) : Calls Try.prog 118 #[.string s] w (RetB w (nameB s)) := by
 by_cases h1 : 1 ≤ s.size
 case neg =>
  have Hr := Lib.hid (show nameB s = false from by rw [nameB, decide_eq_false h1]; rfl)
  have d1 : decide (1 ≤ s.size) = false := decide_eq_false h1
  have d3 : decide ((1 : Int) ≤ (s.size : Int)) = false := decide_eq_false (by omega)
  go_enter Try.func118, Try.ntmps118
  go_wp2
  go_ret
  exact ⟨by rw [Hr.out]; rfl, Below.refl _ _⟩
 have d1 : decide (1 ≤ s.size) = true := decide_eq_true h1
 have d3 : decide ((1 : Int) ≤ (s.size : Int)) = true := decide_eq_true (by omega)
 by_cases h2 : s.size ≤ 32
 case neg =>
  have Hr := Lib.hid (show nameB s = false from by rw [nameB, decide_eq_false h2, Bool.and_false]; rfl)
  have d2 : decide (s.size ≤ 32) = false := decide_eq_false h2
  have d4 : decide ((s.size : Int) ≤ 32) = false := decide_eq_false (by omega)
  go_enter Try.func118, Try.ntmps118
  go_wp2
  go_ret
  exact ⟨by rw [Hr.out]; rfl, Below.refl _ _⟩
 have d2 : decide (s.size ≤ 32) = true := decide_eq_true h2
 have d4 : decide ((s.size : Int) ≤ 32) = true := decide_eq_true (by omega)
 have Hr := Lib.hid (show nameB s = decide (Lib.idxFunc outB true s < 0) from by rw [nameB, d1, d2, idx_name]; simp)
 obtain ⟨q, hq⟩ : ∃ q, q = Lib.idxFunc outB true s := ⟨_, rfl⟩
 rw [← hq] at Hr
 have hcall := idxf_calls s w
 rw [← hq] at hcall
 have Hcall := Lib.hid hcall; clear hcall hq
 go_enter Try.func118, Try.ntmps118
 go_wp2_with fail
 refine Hcall.out.mono ?_
 rintro e w1 ⟨rfl, hb⟩
 have Hb := Lib.hid hb; clear hb
 go_wp2
 go_ret
 exact ⟨by rw [Hr.out]; rfl, Hb.out⟩
end Go.Proofs.Ytfhgknmkpegpbaa
set_option linter.unusedVariables false
set_option linter.unusedSimpArgs false
namespace Go.Proofs.Ytfhgknmkpegpbaa
open Go.RowKit
def bareB (t : Tm) (n s l : Bool) : Bool := ((n || (t.n == 0)) && (s || decide (t.s.toList = []))) && (l || (t.l.length == 0))
set_option maxRecDepth 100000 in
set_option maxHeartbeats 4000000 in
theorem f114_calls (t : Tm) (n s l : Bool) (P : Nat → Prop) (w : World) (v : Value) (hv : TmV P w v t) : Calls Try.prog 114 #[v, .bool n, .bool s, .bool l] w (RetB w (bareB t n s l)) := by
  obtain ⟨A, c, rfl, hs, hc⟩ := hv
  obtain ⟨W0, hW0⟩ : ∃ W0, W0 = w.alloc (.cells #[.int .i64 t.k, .int .i64 t.n, .string t.s, .slice A t.l.length c] 25) := ⟨_, rfl⟩
  have hB0 : Below w.heap.size w W0 := by rw [hW0]; exact (Below.refl _ _).alloc (Nat.le_refl _) _
  have hX0 : Blk W0 w.heap.size 25 #[.int .i64 t.k, .int .i64 t.n, .string t.s, .slice A t.l.length c] := by rw [hW0]; exact Blk.new _ _ _
  have lx0 := hX0.lt
  have hlc := hc.len.1
  have hlm := hc.len.2.1
  have Hc := Lib.hid (hc.stay hB0 (Nat.le_refl _)); clear hc
  have HX0 := Lib.hid hX0; clear hX0
  have HB0 := Lib.hid hB0; clear hB0
  have HW := Lib.hid hW0; clear hW0
  obtain ⟨r, hr⟩ : ∃ r, r = bareB t n s l := ⟨_, rfl⟩
  have Hr := Lib.hid hr
  rw [← hr]
  clear hr
  have hbel : Below w.heap.size w (w.alloc (.cells #[.int .i64 t.k, .int .i64 t.n, .string t.s, .slice A t.l.length c] 25)) := (Below.refl _ _).alloc (Nat.le_refl _) _
  have Hbel := Lib.hid hbel; clear hbel
  rcases hn : (t.n == 0) with _ | _ <;> rcases hl : (t.l.length == 0) with _ | _ <;> by_cases hss : t.s.toList = []
  all_goals
    have hl' : ((t.l.length : Int) == 0) = (t.l.length == 0) := by cases t.l.length <;> simp <;> omega
    rw [hl] at hl'
    have Hn := Lib.hid hn
    have Hl := Lib.hid hl
    have Hss := Lib.hid hss
    cases n <;> cases s <;> cases l
  all_goals
    go_enter Try.func114, Try.ntmps114
    go_wp2
    go_ret
    first
      | (have h : r = true := by rw [Hr.out]; simp [bareB, Hn.out, Hl.out, Hss.out]
         exact ⟨by rw [h]; rfl, Hbel.out⟩)
      | (have h : r = false := by rw [Hr.out]; simp [bareB, Hn.out, Hl.out, Hss.out]
         exact ⟨by rw [h]; rfl, Hbel.out⟩)
end Go.Proofs.Ytfhgknmkpegpbaa
set_option linter.unusedVariables false
set_option linter.unusedSimpArgs false
namespace Go.Proofs.Ytfhgknmkpegpbaa
open Go.RowKit
def FB : Value := .func (.func 114) #[] #[]
theorem cf114 : ∀ args w, Sem.run Try.prog (callFunc 114 args) w = .ok (.enter 114 args) w := fun args w => by kernel_rfl
set_option maxRecDepth 100000 in
set_option maxHeartbeats 4000000 in
theorem f115_calls (t : Tm) (P : Nat → Prop) (bb : Nat) (w : World) (v : Value) (hv : TmV P w v t) (hbb : Blk w bb 135 #[FB]) : Calls Try.prog 115 #[v, .pointer (some ⟨bb, 0, none⟩)] w (RetB w ((bareB t true false false && decide (0 ≤ t.n)) && decide (t.n < 100000))) := by
 obtain ⟨A, c, rfl, hs, hc⟩ := hv
 obtain ⟨W0, hW0⟩ : ∃ W0, W0 = w.alloc (.cells #[.int .i64 t.k, .int .i64 t.n, .string t.s, .slice A t.l.length c] 25) := ⟨_, rfl⟩
 have hB0 : Below w.heap.size w W0 := by rw [hW0]; exact (Below.refl _ _).alloc (Nat.le_refl _) _
 have hX0 : Blk W0 w.heap.size 25 #[.int .i64 t.k, .int .i64 t.n, .string t.s, .slice A t.l.length c] := by rw [hW0]; exact Blk.new _ _ _
 have lx0 := hX0.lt
 have hlc := hc.len.1
 have hlm := hc.len.2.1
 have Hc := Lib.hid (hc.stay hB0 (Nat.le_refl _)); clear hc
 have HX0 := Lib.hid hX0; clear hX0
 have HB0 := Lib.hid hB0; clear hB0
 have HW := Lib.hid hW0; clear hW0
 have hb0 := (hbb.below HB0.out hbb.lt).one.1
 unfold FB at hb0
 have Hb0 := Lib.hid hb0; clear hb0
 have hcf := cf114
 obtain ⟨r, hr⟩ : ∃ r, r = bareB t true false false := ⟨_, rfl⟩
 have hcall := f114_calls t true false false P W0 _ ⟨A, c, rfl, hs, Hc.out⟩
 rw [← hr] at hcall ⊢
 have Hcall := Lib.hid hcall; clear hcall hr
 have hold : (w.alloc (.cells #[.int .i64 t.k, .int .i64 t.n, .string t.s, .slice A t.l.length c] 25)).cell? ⟨bb, 0, none⟩ = some (.func (.func 114) #[] #[]) := by rw [← HW.out]; exact Hb0.out
 have hblt := hbb.lt
 clear hbb
 cases r
 case false =>
  go_enter Try.func115, Try.ntmps115
  go_wp2_with fail
  rw [← HW.out]
  refine Hcall.out.mono ?_
  rintro e w1 ⟨rfl, hb⟩
  obtain ⟨⟨x0, x1, x2, x3⟩, -⟩ := (HX0.out.below hb lx0).four
  have HX1 := Lib.hid (HX0.out.below hb lx0)
  have HB1 := Lib.hid (HB0.out.trans (hb.mono HB0.out.size)); clear hb
  go_wp2
  go_ret
  exact ⟨by simp, HB1.out⟩
 by_cases q0 : 0 ≤ t.n
 case neg =>
  have d0 : decide (0 ≤ t.n) = false := decide_eq_false q0
  go_enter Try.func115, Try.ntmps115
  go_wp2_with fail
  rw [← HW.out]
  refine Hcall.out.mono ?_
  rintro e w1 ⟨rfl, hb⟩
  obtain ⟨⟨x0, x1, x2, x3⟩, -⟩ := (HX0.out.below hb lx0).four
  have HX1 := Lib.hid (HX0.out.below hb lx0)
  have HB1 := Lib.hid (HB0.out.trans (hb.mono HB0.out.size)); clear hb
  go_wp2
  go_ret
  exact ⟨by simp [*], HB1.out⟩
 have d0 : decide (0 ≤ t.n) = true := decide_eq_true q0
 clear q0
 by_cases q1 : t.n < 100000
 case neg =>
  have d1 : decide (t.n < 100000) = false := decide_eq_false q1
  go_enter Try.func115, Try.ntmps115
  go_wp2_with fail
  rw [← HW.out]
  refine Hcall.out.mono ?_
  rintro e w1 ⟨rfl, hb⟩
  obtain ⟨⟨x0, x1, x2, x3⟩, -⟩ := (HX0.out.below hb lx0).four
  have HX1 := Lib.hid (HX0.out.below hb lx0)
  have HB1 := Lib.hid (HB0.out.trans (hb.mono HB0.out.size)); clear hb
  go_wp2
  go_ret
  exact ⟨by simp [*], HB1.out⟩
 have d1 : decide (t.n < 100000) = true := decide_eq_true q1
 clear q1
 go_enter Try.func115, Try.ntmps115
 go_wp2_with fail
 rw [← HW.out]
 refine Hcall.out.mono ?_
 rintro e w1 ⟨rfl, hb⟩
 obtain ⟨⟨x0, x1, x2, x3⟩, -⟩ := (HX0.out.below hb lx0).four
 have HX1 := Lib.hid (HX0.out.below hb lx0)
 have HB1 := Lib.hid (HB0.out.trans (hb.mono HB0.out.size)); clear hb
 go_wp2
 go_ret
 exact ⟨by simp [*], HB1.out⟩
set_option maxRecDepth 100000 in
set_option maxHeartbeats 4000000 in
theorem f116_calls (t : Tm) (P : Nat → Prop) (bb : Nat) (w : World) (v : Value) (hv : TmV P w v t) (hbb : Blk w bb 135 #[FB]) : Calls Try.prog 116 #[v, .pointer (some ⟨bb, 0, none⟩)] w (RetB w ((bareB t true false false && decide (-2147483647 ≤ t.n)) && decide (t.n ≤ 2147483647))) := by
 obtain ⟨A, c, rfl, hs, hc⟩ := hv
 obtain ⟨W0, hW0⟩ : ∃ W0, W0 = w.alloc (.cells #[.int .i64 t.k, .int .i64 t.n, .string t.s, .slice A t.l.length c] 25) := ⟨_, rfl⟩
 have hB0 : Below w.heap.size w W0 := by rw [hW0]; exact (Below.refl _ _).alloc (Nat.le_refl _) _
 have hX0 : Blk W0 w.heap.size 25 #[.int .i64 t.k, .int .i64 t.n, .string t.s, .slice A t.l.length c] := by rw [hW0]; exact Blk.new _ _ _
 have lx0 := hX0.lt
 have hlc := hc.len.1
 have hlm := hc.len.2.1
 have Hc := Lib.hid (hc.stay hB0 (Nat.le_refl _)); clear hc
 have HX0 := Lib.hid hX0; clear hX0
 have HB0 := Lib.hid hB0; clear hB0
 have HW := Lib.hid hW0; clear hW0
 have hb0 := (hbb.below HB0.out hbb.lt).one.1
 unfold FB at hb0
 have Hb0 := Lib.hid hb0; clear hb0
 have hcf := cf114
 obtain ⟨r, hr⟩ : ∃ r, r = bareB t true false false := ⟨_, rfl⟩
 have hcall := f114_calls t true false false P W0 _ ⟨A, c, rfl, hs, Hc.out⟩
 rw [← hr] at hcall ⊢
 have Hcall := Lib.hid hcall; clear hcall hr
 have hold : (w.alloc (.cells #[.int .i64 t.k, .int .i64 t.n, .string t.s, .slice A t.l.length c] 25)).cell? ⟨bb, 0, none⟩ = some (.func (.func 114) #[] #[]) := by rw [← HW.out]; exact Hb0.out
 have hblt := hbb.lt
 clear hbb
 cases r
 case false =>
  go_enter Try.func116, Try.ntmps116
  go_wp2_with fail
  rw [← HW.out]
  refine Hcall.out.mono ?_
  rintro e w1 ⟨rfl, hb⟩
  obtain ⟨⟨x0, x1, x2, x3⟩, -⟩ := (HX0.out.below hb lx0).four
  have HX1 := Lib.hid (HX0.out.below hb lx0)
  have HB1 := Lib.hid (HB0.out.trans (hb.mono HB0.out.size)); clear hb
  go_wp2
  go_ret
  exact ⟨by simp, HB1.out⟩
 by_cases q0 : -2147483647 ≤ t.n
 case neg =>
  have d0 : decide (-2147483647 ≤ t.n) = false := decide_eq_false q0
  go_enter Try.func116, Try.ntmps116
  go_wp2_with fail
  rw [← HW.out]
  refine Hcall.out.mono ?_
  rintro e w1 ⟨rfl, hb⟩
  obtain ⟨⟨x0, x1, x2, x3⟩, -⟩ := (HX0.out.below hb lx0).four
  have HX1 := Lib.hid (HX0.out.below hb lx0)
  have HB1 := Lib.hid (HB0.out.trans (hb.mono HB0.out.size)); clear hb
  go_wp2
  go_ret
  exact ⟨by simp [*], HB1.out⟩
 have d0 : decide (-2147483647 ≤ t.n) = true := decide_eq_true q0
 clear q0
 by_cases q1 : t.n ≤ 2147483647
 case neg =>
  have d1 : decide (t.n ≤ 2147483647) = false := decide_eq_false q1
  go_enter Try.func116, Try.ntmps116
  go_wp2_with fail
  rw [← HW.out]
  refine Hcall.out.mono ?_
  rintro e w1 ⟨rfl, hb⟩
  obtain ⟨⟨x0, x1, x2, x3⟩, -⟩ := (HX0.out.below hb lx0).four
  have HX1 := Lib.hid (HX0.out.below hb lx0)
  have HB1 := Lib.hid (HB0.out.trans (hb.mono HB0.out.size)); clear hb
  go_wp2
  go_ret
  exact ⟨by simp [*], HB1.out⟩
 have d1 : decide (t.n ≤ 2147483647) = true := decide_eq_true q1
 clear q1
 go_enter Try.func116, Try.ntmps116
 go_wp2_with fail
 rw [← HW.out]
 refine Hcall.out.mono ?_
 rintro e w1 ⟨rfl, hb⟩
 obtain ⟨⟨x0, x1, x2, x3⟩, -⟩ := (HX0.out.below hb lx0).four
 have HX1 := Lib.hid (HX0.out.below hb lx0)
 have HB1 := Lib.hid (HB0.out.trans (hb.mono HB0.out.size)); clear hb
 go_wp2
 go_ret
 exact ⟨by simp [*], HB1.out⟩
set_option maxRecDepth 100000 in
set_option maxHeartbeats 4000000 in
theorem f117_calls (t : Tm) (P : Nat → Prop) (bb : Nat) (w : World) (v : Value) (hv : TmV P w v t) (hbb : Blk w bb 135 #[FB]) : Calls Try.prog 117 #[v, .pointer (some ⟨bb, 0, none⟩)] w (RetB w (bareB t false true false && nameB t.s)) := by
 obtain ⟨A, c, rfl, hs, hc⟩ := hv
 obtain ⟨W0, hW0⟩ : ∃ W0, W0 = w.alloc (.cells #[.int .i64 t.k, .int .i64 t.n, .string t.s, .slice A t.l.length c] 25) := ⟨_, rfl⟩
 have hB0 : Below w.heap.size w W0 := by rw [hW0]; exact (Below.refl _ _).alloc (Nat.le_refl _) _
 have hX0 : Blk W0 w.heap.size 25 #[.int .i64 t.k, .int .i64 t.n, .string t.s, .slice A t.l.length c] := by rw [hW0]; exact Blk.new _ _ _
 have lx0 := hX0.lt
 have hlc := hc.len.1
 have hlm := hc.len.2.1
 have Hc := Lib.hid (hc.stay hB0 (Nat.le_refl _)); clear hc
 have HX0 := Lib.hid hX0; clear hX0
 have HB0 := Lib.hid hB0; clear hB0
 have HW := Lib.hid hW0; clear hW0
 have hb0 := (hbb.below HB0.out hbb.lt).one.1
 unfold FB at hb0
 have Hb0 := Lib.hid hb0; clear hb0
 have hcf := cf114
 obtain ⟨r, hr⟩ : ∃ r, r = bareB t false true false := ⟨_, rfl⟩
 have hcall := f114_calls t false true false P W0 _ ⟨A, c, rfl, hs, Hc.out⟩
 rw [← hr] at hcall ⊢
 have Hcall := Lib.hid hcall; clear hcall hr
 have hold : (w.alloc (.cells #[.int .i64 t.k, .int .i64 t.n, .string t.s, .slice A t.l.length c] 25)).cell? ⟨bb, 0, none⟩ = some (.func (.func 114) #[] #[]) := by rw [← HW.out]; exact Hb0.out
 have hblt := hbb.lt
 clear hbb
 cases r
 case false =>
  go_enter Try.func117, Try.ntmps117
  go_wp2_with fail
  rw [← HW.out]
  refine Hcall.out.mono ?_
  rintro e w1 ⟨rfl, hb⟩
  obtain ⟨⟨x0, x1, x2, x3⟩, -⟩ := (HX0.out.below hb lx0).four
  have HX1 := Lib.hid (HX0.out.below hb lx0)
  have HB1 := Lib.hid (HB0.out.trans (hb.mono HB0.out.size)); clear hb
  go_wp2
  go_ret
  exact ⟨by simp, HB1.out⟩
 obtain ⟨nm, hnm⟩ : ∃ nm, nm = nameB t.s := ⟨_, rfl⟩
 have hname := fun W => name_calls t.s W hs
 rw [← hnm] at hname ⊢
 have Hname := Lib.hid hname; clear hname hnm
 cases nm
 case false =>
  go_enter Try.func117, Try.ntmps117
  go_wp2_with fail
  rw [← HW.out]
  refine Hcall.out.mono ?_
  rintro e w1 ⟨rfl, hb⟩
  obtain ⟨⟨x0, x1, x2, x3⟩, -⟩ := (HX0.out.below hb lx0).four
  have HX1 := Lib.hid (HX0.out.below hb lx0)
  have HB1 := Lib.hid (HB0.out.trans (hb.mono HB0.out.size)); clear hb
  go_wp2_with fail
  refine (Hname.out _).mono ?_
  rintro e w2 ⟨rfl, hb⟩
  have HB2 := Lib.hid (HB1.out.trans (hb.mono HB1.out.size)); clear hb
  go_wp2
  go_ret
  exact ⟨by simp, HB2.out⟩
 go_enter Try.func117, Try.ntmps117
 go_wp2_with fail
 rw [← HW.out]
 refine Hcall.out.mono ?_
 rintro e w1 ⟨rfl, hb⟩
 obtain ⟨⟨x0, x1, x2, x3⟩, -⟩ := (HX0.out.below hb lx0).four
 have HX1 := Lib.hid (HX0.out.below hb lx0)
 have HB1 := Lib.hid (HB0.out.trans (hb.mono HB0.out.size)); clear hb
 go_wp2_with fail
 refine (Hname.out _).mono ?_
 rintro e w2 ⟨rfl, hb⟩
 have HB2 := Lib.hid (HB1.out.trans (hb.mono HB1.out.size))
 clear x0 x1 x2 x3
 obtain ⟨⟨x0, x1, x2, x3⟩, -⟩ := (HX1.out.below hb HX1.out.lt).four
 clear hb
 go_wp2
 go_ret
 exact ⟨by simp [*], HB2.out⟩
set_option maxRecDepth 100000 in
set_option maxHeartbeats 4000000 in
theorem f119_calls (t : Tm) (P : Nat → Prop) (bb : Nat) (w : World) (v : Value) (hv : TmV P w v t) (hbb : Blk w bb 135 #[FB]) : Calls Try.prog 119 #[v, .pointer (some ⟨bb, 0, none⟩)] w (RetB w (bareB t false true false && decide (t.s.size ≤ 255))) := by
 obtain ⟨A, c, rfl, hs, hc⟩ := hv
 obtain ⟨W0, hW0⟩ : ∃ W0, W0 = w.alloc (.cells #[.int .i64 t.k, .int .i64 t.n, .string t.s, .slice A t.l.length c] 25) := ⟨_, rfl⟩
 have hB0 : Below w.heap.size w W0 := by rw [hW0]; exact (Below.refl _ _).alloc (Nat.le_refl _) _
 have hX0 : Blk W0 w.heap.size 25 #[.int .i64 t.k, .int .i64 t.n, .string t.s, .slice A t.l.length c] := by rw [hW0]; exact Blk.new _ _ _
 have lx0 := hX0.lt
 have hlc := hc.len.1
 have hlm := hc.len.2.1
 have Hc := Lib.hid (hc.stay hB0 (Nat.le_refl _)); clear hc
 have HX0 := Lib.hid hX0; clear hX0
 have HB0 := Lib.hid hB0; clear hB0
 have HW := Lib.hid hW0; clear hW0
 have hb0 := (hbb.below HB0.out hbb.lt).one.1
 unfold FB at hb0
 have Hb0 := Lib.hid hb0; clear hb0
 have hcf := cf114
 obtain ⟨r, hr⟩ : ∃ r, r = bareB t false true false := ⟨_, rfl⟩
 have hcall := f114_calls t false true false P W0 _ ⟨A, c, rfl, hs, Hc.out⟩
 rw [← hr] at hcall ⊢
 have Hcall := Lib.hid hcall; clear hcall hr
 have hold : (w.alloc (.cells #[.int .i64 t.k, .int .i64 t.n, .string t.s, .slice A t.l.length c] 25)).cell? ⟨bb, 0, none⟩ = some (.func (.func 114) #[] #[]) := by rw [← HW.out]; exact Hb0.out
 have hblt := hbb.lt
 clear hbb
 cases r
 case false =>
  go_enter Try.func119, Try.ntmps119
  go_wp2_with fail
  rw [← HW.out]
  refine Hcall.out.mono ?_
  rintro e w1 ⟨rfl, hb⟩
  obtain ⟨⟨x0, x1, x2, x3⟩, -⟩ := (HX0.out.below hb lx0).four
  have HX1 := Lib.hid (HX0.out.below hb lx0)
  have HB1 := Lib.hid (HB0.out.trans (hb.mono HB0.out.size)); clear hb
  go_wp2
  go_ret
  exact ⟨by simp, HB1.out⟩
 by_cases q0 : t.s.size ≤ 255
 case neg =>
  have d0 : decide (t.s.size ≤ 255) = false := decide_eq_false q0
  have d0' : decide ((t.s.size : Int) ≤ 255) = false := decide_eq_false (by omega)
  go_enter Try.func119, Try.ntmps119
  go_wp2_with fail
  rw [← HW.out]
  refine Hcall.out.mono ?_
  rintro e w1 ⟨rfl, hb⟩
  obtain ⟨⟨x0, x1, x2, x3⟩, -⟩ := (HX0.out.below hb lx0).four
  have HX1 := Lib.hid (HX0.out.below hb lx0)
  have HB1 := Lib.hid (HB0.out.trans (hb.mono HB0.out.size)); clear hb
  go_wp2
  go_ret
  exact ⟨by simp [*], HB1.out⟩
 have d0 : decide (t.s.size ≤ 255) = true := decide_eq_true q0
 have d0' : decide ((t.s.size : Int) ≤ 255) = true := decide_eq_true (by omega)
 clear q0
 go_enter Try.func119, Try.ntmps119
 go_wp2_with fail
 rw [← HW.out]
 refine Hcall.out.mono ?_
 rintro e w1 ⟨rfl, hb⟩
 obtain ⟨⟨x0, x1, x2, x3⟩, -⟩ := (HX0.out.below hb lx0).four
 have HX1 := Lib.hid (HX0.out.below hb lx0)
 have HB1 := Lib.hid (HB0.out.trans (hb.mono HB0.out.size)); clear hb
 go_wp2
 go_ret
 exact ⟨by simp [*], HB1.out⟩
set_option maxRecDepth 100000 in
set_option maxHeartbeats 4000000 in
theorem f120_calls (t : Tm) (P : Nat → Prop) (bb : Nat) (w : World) (v : Value) (hv : TmV P w v t) (hbb : Blk w bb 135 #[FB]) : Calls Try.prog 120 #[v, .pointer (some ⟨bb, 0, none⟩)] w (RetB w (((bareB t false true true && nameB t.s) && decide (1 ≤ t.l.length)) && decide (t.l.length ≤ 16))) := by
 obtain ⟨A, c, rfl, hs, hc⟩ := hv
 obtain ⟨W0, hW0⟩ : ∃ W0, W0 = w.alloc (.cells #[.int .i64 t.k, .int .i64 t.n, .string t.s, .slice A t.l.length c] 25) := ⟨_, rfl⟩
 have hB0 : Below w.heap.size w W0 := by rw [hW0]; exact (Below.refl _ _).alloc (Nat.le_refl _) _
 have hX0 : Blk W0 w.heap.size 25 #[.int .i64 t.k, .int .i64 t.n, .string t.s, .slice A t.l.length c] := by rw [hW0]; exact Blk.new _ _ _
 have lx0 := hX0.lt
 have hlc := hc.len.1
 have hlm := hc.len.2.1
 have Hc := Lib.hid (hc.stay hB0 (Nat.le_refl _)); clear hc
 have HX0 := Lib.hid hX0; clear hX0
 have HB0 := Lib.hid hB0; clear hB0
 have HW := Lib.hid hW0; clear hW0
 have hb0 := (hbb.below HB0.out hbb.lt).one.1
 unfold FB at hb0
 have Hb0 := Lib.hid hb0; clear hb0
 have hcf := cf114
 obtain ⟨r, hr⟩ : ∃ r, r = bareB t false true true := ⟨_, rfl⟩
 have hcall := f114_calls t false true true P W0 _ ⟨A, c, rfl, hs, Hc.out⟩
 rw [← hr] at hcall ⊢
 have Hcall := Lib.hid hcall; clear hcall hr
 have hold : (w.alloc (.cells #[.int .i64 t.k, .int .i64 t.n, .string t.s, .slice A t.l.length c] 25)).cell? ⟨bb, 0, none⟩ = some (.func (.func 114) #[] #[]) := by rw [← HW.out]; exact Hb0.out
 have hblt := hbb.lt
 clear hbb
 cases r
 case false =>
  go_enter Try.func120, Try.ntmps120
  go_wp2_with fail
  rw [← HW.out]
  refine Hcall.out.mono ?_
  rintro e w1 ⟨rfl, hb⟩
  obtain ⟨⟨x0, x1, x2, x3⟩, -⟩ := (HX0.out.below hb lx0).four
  have HX1 := Lib.hid (HX0.out.below hb lx0)
  have HB1 := Lib.hid (HB0.out.trans (hb.mono HB0.out.size)); clear hb
  go_wp2
  go_ret
  exact ⟨by simp, HB1.out⟩
 obtain ⟨nm, hnm⟩ : ∃ nm, nm = nameB t.s := ⟨_, rfl⟩
 have hname := fun W => name_calls t.s W hs
 rw [← hnm] at hname ⊢
 have Hname := Lib.hid hname; clear hname hnm
 cases nm
 case false =>
  go_enter Try.func120, Try.ntmps120
  go_wp2_with fail
  rw [← HW.out]
  refine Hcall.out.mono ?_
  rintro e w1 ⟨rfl, hb⟩
  obtain ⟨⟨x0, x1, x2, x3⟩, -⟩ := (HX0.out.below hb lx0).four
  have HX1 := Lib.hid (HX0.out.below hb lx0)
  have HB1 := Lib.hid (HB0.out.trans (hb.mono HB0.out.size)); clear hb
  go_wp2_with fail
  refine (Hname.out _).mono ?_
  rintro e w2 ⟨rfl, hb⟩
  have HB2 := Lib.hid (HB1.out.trans (hb.mono HB1.out.size)); clear hb
  go_wp2
  go_ret
  exact ⟨by simp, HB2.out⟩
 by_cases q1 : 1 ≤ t.l.length
 case neg =>
  have d1 : decide (1 ≤ t.l.length) = false := decide_eq_false q1
  have d1' : decide ((1 : Int) ≤ (t.l.length : Int)) = false := decide_eq_false (by omega)
  go_enter Try.func120, Try.ntmps120
  go_wp2_with fail
  rw [← HW.out]
  refine Hcall.out.mono ?_
  rintro e w1 ⟨rfl, hb⟩
  obtain ⟨⟨x0, x1, x2, x3⟩, -⟩ := (HX0.out.below hb lx0).four
  have HX1 := Lib.hid (HX0.out.below hb lx0)
  have HB1 := Lib.hid (HB0.out.trans (hb.mono HB0.out.size)); clear hb
  go_wp2_with fail
  refine (Hname.out _).mono ?_
  rintro e w2 ⟨rfl, hb⟩
  have HB2 := Lib.hid (HB1.out.trans (hb.mono HB1.out.size))
  clear x0 x1 x2 x3
  obtain ⟨⟨x0, x1, x2, x3⟩, -⟩ := (HX1.out.below hb HX1.out.lt).four
  clear hb
  go_wp2
  go_ret
  exact ⟨by simp [*], HB2.out⟩
 have d1 : decide (1 ≤ t.l.length) = true := decide_eq_true q1
 have d1' : decide ((1 : Int) ≤ (t.l.length : Int)) = true := decide_eq_true (by omega)
 clear q1
 by_cases q2 : t.l.length ≤ 16
 case neg =>
  have d2 : decide (t.l.length ≤ 16) = false := decide_eq_false q2
  have d2' : decide ((t.l.length : Int) ≤ 16) = false := decide_eq_false (by omega)
  go_enter Try.func120, Try.ntmps120
  go_wp2_with fail
  rw [← HW.out]
  refine Hcall.out.mono ?_
  rintro e w1 ⟨rfl, hb⟩
  obtain ⟨⟨x0, x1, x2, x3⟩, -⟩ := (HX0.out.below hb lx0).four
  have HX1 := Lib.hid (HX0.out.below hb lx0)
  have HB1 := Lib.hid (HB0.out.trans (hb.mono HB0.out.size)); clear hb
  go_wp2_with fail
  refine (Hname.out _).mono ?_
  rintro e w2 ⟨rfl, hb⟩
  have HB2 := Lib.hid (HB1.out.trans (hb.mono HB1.out.size))
  clear x0 x1 x2 x3
  obtain ⟨⟨x0, x1, x2, x3⟩, -⟩ := (HX1.out.below hb HX1.out.lt).four
  clear hb
  go_wp2
  go_ret
  exact ⟨by simp [*], HB2.out⟩
 have d2 : decide (t.l.length ≤ 16) = true := decide_eq_true q2
 have d2' : decide ((t.l.length : Int) ≤ 16) = true := decide_eq_true (by omega)
 clear q2
 go_enter Try.func120, Try.ntmps120
 go_wp2_with fail
 rw [← HW.out]
 refine Hcall.out.mono ?_
 rintro e w1 ⟨rfl, hb⟩
 obtain ⟨⟨x0, x1, x2, x3⟩, -⟩ := (HX0.out.below hb lx0).four
 have HX1 := Lib.hid (HX0.out.below hb lx0)
 have HB1 := Lib.hid (HB0.out.trans (hb.mono HB0.out.size)); clear hb
 go_wp2_with fail
 refine (Hname.out _).mono ?_
 rintro e w2 ⟨rfl, hb⟩
 have HB2 := Lib.hid (HB1.out.trans (hb.mono HB1.out.size))
 clear x0 x1 x2 x3
 obtain ⟨⟨x0, x1, x2, x3⟩, -⟩ := (HX1.out.below hb HX1.out.lt).four
 clear hb
 go_wp2
 go_ret
 exact ⟨by simp [*], HB2.out⟩
set_option maxRecDepth 100000 in
set_option maxHeartbeats 4000000 in
theorem f121_calls (t : Tm) (P : Nat → Prop) (bb : Nat) (w : World) (v : Value) (hv : TmV P w v t) (hbb : Blk w bb 135 #[FB]) : Calls Try.prog 121 #[v, .pointer (some ⟨bb, 0, none⟩)] w (RetB w (bareB t false false true && decide (t.l.length ≤ 64))) := by
 obtain ⟨A, c, rfl, hs, hc⟩ := hv
 obtain ⟨W0, hW0⟩ : ∃ W0, W0 = w.alloc (.cells #[.int .i64 t.k, .int .i64 t.n, .string t.s, .slice A t.l.length c] 25) := ⟨_, rfl⟩
 have hB0 : Below w.heap.size w W0 := by rw [hW0]; exact (Below.refl _ _).alloc (Nat.le_refl _) _
 have hX0 : Blk W0 w.heap.size 25 #[.int .i64 t.k, .int .i64 t.n, .string t.s, .slice A t.l.length c] := by rw [hW0]; exact Blk.new _ _ _
 have lx0 := hX0.lt
 have hlc := hc.len.1
 have hlm := hc.len.2.1
 have Hc := Lib.hid (hc.stay hB0 (Nat.le_refl _)); clear hc
 have HX0 := Lib.hid hX0; clear hX0
 have HB0 := Lib.hid hB0; clear hB0
 have HW := Lib.hid hW0; clear hW0
 have hb0 := (hbb.below HB0.out hbb.lt).one.1
 unfold FB at hb0
 have Hb0 := Lib.hid hb0; clear hb0
 have hcf := cf114
 obtain ⟨r, hr⟩ : ∃ r, r = bareB t false false true := ⟨_, rfl⟩
 have hcall := f114_calls t false false true P W0 _ ⟨A, c, rfl, hs, Hc.out⟩
 rw [← hr] at hcall ⊢
 have Hcall := Lib.hid hcall; clear hcall hr
 have hold : (w.alloc (.cells #[.int .i64 t.k, .int .i64 t.n, .string t.s, .slice A t.l.length c] 25)).cell? ⟨bb, 0, none⟩ = some (.func (.func 114) #[] #[]) := by rw [← HW.out]; exact Hb0.out
 have hblt := hbb.lt
 clear hbb
 cases r
 case false =>
  go_enter Try.func121, Try.ntmps121
  go_wp2_with fail
  rw [← HW.out]
  refine Hcall.out.mono ?_
  rintro e w1 ⟨rfl, hb⟩
  obtain ⟨⟨x0, x1, x2, x3⟩, -⟩ := (HX0.out.below hb lx0).four
  have HX1 := Lib.hid (HX0.out.below hb lx0)
  have HB1 := Lib.hid (HB0.out.trans (hb.mono HB0.out.size)); clear hb
  go_wp2
  go_ret
  exact ⟨by simp, HB1.out⟩
 by_cases q0 : t.l.length ≤ 64
 case neg =>
  have d0 : decide (t.l.length ≤ 64) = false := decide_eq_false q0
  have d0' : decide ((t.l.length : Int) ≤ 64) = false := decide_eq_false (by omega)
  go_enter Try.func121, Try.ntmps121
  go_wp2_with fail
  rw [← HW.out]
  refine Hcall.out.mono ?_
  rintro e w1 ⟨rfl, hb⟩
  obtain ⟨⟨x0, x1, x2, x3⟩, -⟩ := (HX0.out.below hb lx0).four
  have HX1 := Lib.hid (HX0.out.below hb lx0)
  have HB1 := Lib.hid (HB0.out.trans (hb.mono HB0.out.size)); clear hb
  go_wp2
  go_ret
  exact ⟨by simp [*], HB1.out⟩
 have d0 : decide (t.l.length ≤ 64) = true := decide_eq_true q0
 have d0' : decide ((t.l.length : Int) ≤ 64) = true := decide_eq_true (by omega)
 clear q0
 go_enter Try.func121, Try.ntmps121
 go_wp2_with fail
 rw [← HW.out]
 refine Hcall.out.mono ?_
 rintro e w1 ⟨rfl, hb⟩
 obtain ⟨⟨x0, x1, x2, x3⟩, -⟩ := (HX0.out.below hb lx0).four
 have HX1 := Lib.hid (HX0.out.below hb lx0)
 have HB1 := Lib.hid (HB0.out.trans (hb.mono HB0.out.size)); clear hb
 go_wp2
 go_ret
 exact ⟨by simp [*], HB1.out⟩
end Go.Proofs.Ytfhgknmkpegpbaa
