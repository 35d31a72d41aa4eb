/-
  Contracts of the functions that the statement reaches, and plain lemmas on lists, part 1. Conditions: those that each theorem names.
-/
import Derived.WalkKit
import Derived.WalkLawsBesides
import Derived.WalkSpells
import Derived.Lib.Hide
import Derived.Deep.QuietTactic
import Derived.BigQuiet
import Derived.Deep.LoopGhost
import Derived.Deep.RegionHeld3
import Derived.Deep.AppendLies
import Derived.Deep.OwnRows
import Derived.Deep.DeepCutAuto
import Derived.Deep.CutBlock
import Derived.KernelRfl
import Derived.Shelf.Abstract
import GoSem.Core.Sem
import Derived.Test.YtemhlafdlflilaaGreatDoorProg
import Derived.MapKept
set_option linter.unusedVariables false
set_option linter.unusedSimpArgs false
namespace Go.Proofs.Hg
open Go Go.RowKit

/-- w' is w but for new blocks and what stands in the blocks F. -/
structure Keep (F : List Nat) (w w' : World) : Prop where
  os : w'.os = w.os
  tape : w'.tape = w.tape
  output : w'.output = w.output
  size : w.heap.size ≤ w'.heap.size
  block : ∀ k, k < w.heap.size → k ∉ F → w'.heap[k]? = w.heap[k]?
  imm : ∀ (k : Nat) (cs : Array Value), w.heap[k]? = some (Obj.cells cs 135 (0, 0)) → w'.heap[k]? = w.heap[k]?

namespace Keep
variable {F F1 : List Nat} {w w1 w2 : World}
theorem refl (F : List Nat) (w : World) : Keep F w w := ⟨rfl, rfl, rfl, Nat.le_refl _, fun _ _ _ => rfl, fun _ _ _ => rfl⟩
theorem trans (h : Keep F w w1) (h1 : Keep F1 w1 w2) (hF : ∀ k, k ∈ F1 → k ∈ F ∨ w.heap.size ≤ k) : Keep F w w2 :=
  ⟨h1.os.trans h.os, h1.tape.trans h.tape, h1.output.trans h.output, Nat.le_trans h.size h1.size, fun k hk hn =>
    (h1.block k (Nat.lt_of_lt_of_le hk h.size) (fun hm => (hF k hm).elim hn (fun h2 => by omega))).trans (h.block k hk hn),
    fun k cs hc => (h1.imm k cs ((h.imm k cs hc).trans hc)).trans (h.imm k cs hc)⟩
theorem trans0 (h : Keep F w w1) (h1 : Keep [] w1 w2) : Keep F w w2 := h.trans h1 (fun _ hk => by simp at hk)
theorem mono (h : Keep F w w1) (hF : ∀ k, k ∈ F → k ∈ F1 ∨ w.heap.size ≤ k) : Keep F1 w w1 :=
  ⟨h.os, h.tape, h.output, h.size, fun k hk hn => h.block k hk (fun hm => (hF k hm).elim hn (fun h2 => by omega)), h.imm⟩
theorem drewN (h : Keep F w w1) (n : Nat) : Keep F w (w1.drewN n) := ⟨h.os, h.tape, h.output, h.size, h.block, h.imm⟩
theorem drew (h : Keep F w w1) : Keep F w w1.drew := ⟨h.os, h.tape, h.output, h.size, h.block, h.imm⟩
theorem of_below (h : Below w.heap.size w w1) : Keep [] w w1 := ⟨h.os, h.tape, h.output, h.size, fun k hk _ => h.block k hk, fun k _ hc => h.block k (Array.getElem?_eq_some_iff.1 hc).1⟩
theorem below (h : Keep [] w w1) : Below w.heap.size w w1 := ⟨h.os, h.tape, h.output, h.size, fun k hk => h.block k hk (by simp)⟩
theorem alloc0 (w : World) (o : Obj) : Keep [] w (w.alloc o) := of_below ((Below.refl _ _).alloc (Nat.le_refl _) o)
theorem alloc (h : Keep F w w1) (o : Obj) : Keep F w (w1.alloc o) := h.trans0 (alloc0 w1 o)
theorem cell (h : Keep F w w1) {p : Addr} (hl : p.block < w.heap.size) (hn : p.block ∉ F) : w1.cell? p = w.cell? p := World.cell?_of_block (h.block _ hl hn)
theorem frozen (h : Keep F w w1) {p : Addr} (hl : p.block < w.heap.size) (hn : p.block ∉ F) : w1.frozen? p = w.frozen? p := World.frozen?_of_block (h.block _ hl hn)
/-- A row has been written: a new one, or one of F, whose elements are no properties. -/
theorem grown {row : Option Nat} (h : Keep F w w1) (hg : w1.grownBy w2 row) (hr : ∀ k, row = some k → w.heap.size ≤ k ∨ (k ∈ F ∧ ∃ (cs : Array Value) (T : TypeId), w.heap[k]? = some (Obj.cells cs T (0, 0)) ∧ T ≠ 135)) : Keep F w w2 :=
  ⟨hg.os.trans h.os, hg.tape.trans h.tape, hg.output.trans h.output, Nat.le_trans h.size hg.size, fun k hk hn =>
    (hg.block k (Nat.lt_of_lt_of_le hk h.size) (fun e => (hr k e.symm).elim (fun h2 => by omega) (fun h2 => hn h2.1))).trans (h.block k hk hn),
    fun k cs hc => (hg.block k (Nat.lt_of_lt_of_le (Array.getElem?_eq_some_iff.1 hc).1 h.size) (fun e => (hr k e.symm).elim (fun h2 => by have := (Array.getElem?_eq_some_iff.1 hc).1; omega)
      (fun ⟨_, cs', T, h3, h4⟩ => by rw [hc] at h3; injection h3 with h3; injection h3 with _ h3; exact h4 h3.symm))).trans (h.imm k cs hc)⟩
theorem grownBy_setCell (w : World) (p : Addr) (v : Value) : w.grownBy (w.setCell p v) (some p.block) :=
  ⟨rfl, rfl, rfl, by simp [World.setCell], fun k _ hn => Below.heap_setCell _ _ _ _ (fun e => hn (by rw [e]))⟩
theorem setCell (h : Keep F w w1) {p : Addr} (hp : w.heap.size ≤ p.block ∨ (p.block ∈ F ∧ ∃ (cs : Array Value) (T : TypeId), w.heap[p.block]? = some (Obj.cells cs T (0, 0)) ∧ T ≠ 135)) (v : Value) : Keep F w (w1.setCell p v) :=
  h.grown (grownBy_setCell w1 p v) (fun k e => by injection e with e; subst e; exact hp)
theorem setBlk {T p : Nat} {cs : Array Value} (h : Keep F w w1) (hb : w.heap[p]? = some (Obj.cells cs T (0, 0))) (hT : T ≠ 135) (hm : p ∈ F) (i : Nat) (v : Value) : Keep F w (w1.setCell ⟨p, i, none⟩ v) := h.setCell (.inr ⟨hm, cs, T, hb, hT⟩) v
theorem setNew {p : Nat} (h : Keep F w w1) (hp : w.heap.size ≤ p) (i : Nat) (v : Value) : Keep F w (w1.setCell ⟨p, i, none⟩ v) := h.setCell (.inl hp) v
end Keep

/-- A block of cells that is known whole. -/
def Blk (w : World) (p T : Nat) (cs : Array Value) : Prop := w.heap[p]? = some (Obj.cells cs T (0, 0))
namespace Blk
variable {w w1 : World} {p T : Nat} {cs : Array Value}
theorem lt (h : Blk w p T cs) : p < w.heap.size := (Array.getElem?_eq_some_iff.1 h).1
theorem cell (h : Blk w p T cs) (i : Nat) : w.cell? ⟨p, i, none⟩ = cs[i]? := by simp [World.cell?, show w.heap[p]? = _ from h]
theorem free (h : Blk w p T cs) (i : Nat) : w.frozen? ⟨p, i, none⟩ = false := by simp [World.frozen?, show w.heap[p]? = _ from h]
theorem keep {F : List Nat} (h : Blk w p T cs) (hk : Keep F w w1) (hn : p ∉ F) : Blk w1 p T cs := (hk.block p h.lt hn).trans h
theorem alloc (h : Blk w p T cs) (o : Obj) : Blk (w.alloc o) p T cs := (Below.heap_alloc _ _ _ h.lt).trans h
theorem drew (h : Blk w p T cs) : Blk w.drew p T cs := h
theorem drewN (h : Blk w p T cs) (n : Nat) : Blk (w.drewN n) p T cs := h
theorem far (h : Blk w p T cs) {a : Addr} (hn : p ≠ a.block) (v : Value) : Blk (w.setCell a v) p T cs := (Below.heap_setCell _ _ _ _ hn).trans h
theorem set (h : Blk w p T cs) (i : Nat) (v : Value) : Blk (w.setCell ⟨p, i, none⟩ v) p T (cs.setIfInBounds i v) := by
  unfold Blk at *; simp [World.setCell, Array.getElem?_modify, h]
theorem grown {row : Option Nat} (h : Blk w p T cs) (hg : w.grownBy w1 row) (hn : some p ≠ row) : Blk w1 p T cs := (hg.block p h.lt hn).trans h
theorem new (w : World) (cs : Array Value) (T : Nat) : Blk (w.alloc (.cells cs T)) w.heap.size T cs := heap_alloc_new w _
theorem new2 (w : World) (o : Obj) (cs : Array Value) (T : Nat) : Blk ((w.alloc o).alloc (.cells cs T)) (w.heap.size + 1) T cs := by
  have := new (w.alloc o) cs T
  simpa using this
theorem new3 (w : World) (o o2 : Obj) (cs : Array Value) (T : Nat) : Blk (((w.alloc o).alloc o2).alloc (.cells cs T)) (w.heap.size + 2) T cs := by
  have := new ((w.alloc o).alloc o2) cs T
  simpa using this
end Blk
end Go.Proofs.Hg
namespace Go.Proofs.Hg
/-! ## Plain data, and what the document says of it -/
structure Val where
  k : Int
  n : Int
  s : ByteArray
structure Prp where
  name : ByteArray
  v : Val
structure Node where
  id : Int
  ty : ByteArray
  ps : List Prp
structure Edge where
  id : Int
  ty : ByteArray
  fr : Int
  tt : Int
  ps : List Prp
structure Op where
  k : Int
  id : Int
  ty : ByteArray
  fr : Int
  tt : Int
  name : ByteArray
  v : Val
  casc : Bool
structure Gr where
  N : List Node
  E : List Edge
  next : Int

inductive All2 {α β : Type} (R : α → β → Prop) : List α → List β → Prop
  | nil : All2 R [] []
  | cons {a b l m} : R a b → All2 R l m → All2 R (a :: l) (b :: m)
namespace All2
variable {α β : Type} {R R' : α → β → Prop} {l l' : List α} {m m' : List β}
theorem length (h : All2 R l m) : l.length = m.length := by induction h <;> simp_all
theorem imp (h : All2 R l m) (hR : ∀ a b, R a b → R' a b) : All2 R' l m := by
  induction h with
  | nil => exact .nil
  | cons h _ ih => exact .cons (hR _ _ h) ih
theorem append (h : All2 R l m) (h' : All2 R l' m') : All2 R (l ++ l') (m ++ m') := by
  induction h with
  | nil => exact h'
  | cons h _ ih => exact .cons h ih
theorem one {a : α} {b : β} (h : R a b) : All2 R [a] [b] := .cons h .nil
theorem filter {p : α → Bool} {q : β → Bool} (h : All2 R l m) (hp : ∀ a b, R a b → p a = q b) : All2 R (l.filter p) (m.filter q) := by
  induction h with
  | nil => exact .nil
  | cons h _ ih =>
    rename_i a b l m _
    by_cases hb : q b = true
    · rw [List.filter_cons_of_pos (by rw [hp a b h]; exact hb), List.filter_cons_of_pos hb]; exact .cons h ih
    · rw [List.filter_cons_of_neg (by rw [hp a b h]; exact hb), List.filter_cons_of_neg hb]; exact ih
theorem get (h : All2 R l m) (i : Nat) (hi : i < l.length) (hj : i < m.length) : R l[i] m[i] := by
  induction h generalizing i with
  | nil => simp at hi
  | cons h _ ih =>
    cases i with
    | zero => exact h
    | succ i => exact ih i (by simpa using hi) (by simpa using hj)
theorem take (h : All2 R l m) (n : Nat) : All2 R (l.take n) (m.take n) := by
  induction h generalizing n with
  | nil => simp; exact .nil
  | cons h _ ih => cases n with
    | zero => simp; exact .nil
    | succ n => simp; exact .cons h (ih n)
theorem drop (h : All2 R l m) (n : Nat) : All2 R (l.drop n) (m.drop n) := by
  induction h generalizing n with
  | nil => simp; exact .nil
  | cons h h2 ih => cases n with
    | zero => simp; exact .cons h h2
    | succ n => simp; exact ih n
theorem set (h : All2 R l m) (i : Nat) {a : α} {b : β} (hab : R a b) : All2 R (l.set i a) (m.set i b) := by
  induction h generalizing i with
  | nil => simp; exact .nil
  | cons h h2 ih => cases i with
    | zero => simp; exact .cons hab h2
    | succ n => simp; exact .cons h (ih n)
theorem any {p : α → Bool} {q : β → Bool} (h : All2 R l m) (hp : ∀ a b, R a b → p a = q b) : l.any p = m.any q := by
  induction h with
  | nil => rfl
  | cons h _ ih => simp only [List.any_cons, hp _ _ h, ih]
theorem map_eq {γ : Type} {f : α → γ} {g : β → γ} (h : All2 R l m) (hp : ∀ a b, R a b → f a = g b) : l.map f = m.map g := by
  induction h with
  | nil => rfl
  | cons h _ ih => simp only [List.map_cons, hp _ _ h, ih]
end All2
end Go.Proofs.Hg
namespace Go.Proofs.Hg
/-! ## Names and values -/
def lowB (c : UInt8) : Bool := decide (97 ≤ c.toNat) && decide (c.toNat ≤ 122)
def nmB (c : UInt8) : Bool := lowB c || (decide (48 ≤ c.toNat) && decide (c.toNat ≤ 57)) || decide (c.toNat = 95)
def isName (s : ByteArray) : Bool := decide (1 ≤ s.size) && decide (s.size ≤ 16) && (match s.data.toList with | [] => false | c :: _ => lowB c) && s.data.toList.all nmB
theorem isName_size {s : ByteArray} (h : isName s = true) : 1 ≤ s.size ∧ s.size ≤ 16 := by
  unfold isName at h; simp only [Bool.and_eq_true, decide_eq_true_eq] at h; exact h.1.1
theorem isName_zero {s : ByteArray} (h : s.size < 1) : isName s = false := by
  have : decide (1 ≤ s.size) = false := by rw [decide_eq_false_iff_not]; omega
  simp [isName, this]
theorem isName_long {s : ByteArray} (h : 16 < s.size) : isName s = false := by
  have : decide (s.size ≤ 16) = false := by rw [decide_eq_false_iff_not]; omega
  simp [isName, this]
theorem isName_first {s : ByteArray} (h0 : 0 < s.size) (h : lowB s[0] = false) : isName s = false := by
  have e : s.data.toList = s[0] :: s.data.toList.tail := by
    rcases s with ⟨⟨l⟩⟩; cases l with
    | nil => simp [ByteArray.size] at h0
    | cons a l => rfl
  unfold isName; rw [e]; simp [h]
theorem isName_bad {s : ByteArray} {k : Nat} (h0 : k < s.size) (h : nmB s[k] = false) : isName s = false := by
  have : s.data.toList.all nmB = false := by
    rw [List.all_eq_false]
    exact ⟨s[k], by simp [ByteArray.getElem_eq_getElem_data], by simp [h]⟩
  unfold isName; rw [this]; simp
theorem isName_ok {s : ByteArray} (h0 : 0 < s.size) (h1 : s.size ≤ 16) (h : lowB s[0] = true) (ha : ∀ j (hj : j < s.size), nmB s[j] = true) : isName s = true := by
  have e : s.data.toList = s[0] :: s.data.toList.tail := by
    rcases s with ⟨⟨l⟩⟩; cases l with
    | nil => simp [ByteArray.size] at h0
    | cons a l => rfl
  have hall : s.data.toList.all nmB = true := by
    rw [List.all_eq_true]
    intro x hx
    obtain ⟨j, hj, rfl⟩ := List.getElem_of_mem hx
    have := ha j (by simpa using hj)
    simpa [ByteArray.getElem_eq_getElem_data] using this
  unfold isName; rw [hall]
  have h2 : decide (1 ≤ s.size) = true := by rw [decide_eq_true_iff]; omega
  have h3 : decide (s.size ≤ 16) = true := by simpa using h1
  rw [h2, h3, e]; simp [h]
end Go.Proofs.Hg
namespace Go.Proofs.Hg
open Go Go.RowKit
/-! ## How the data lie in memory -/
def encV (v : Val) : List Value := [.int .i64 v.k, .int .i64 v.n, .string v.s]
def encP (p : Prp) : List Value := [.string p.name, .int .i64 p.v.k, .int .i64 p.v.n, .string p.v.s]
def encO (o : Op) : List Value := [.int .i64 o.k, .int .i64 o.id, .string o.ty, .int .i64 o.fr, .int .i64 o.tt, .string o.name, .int .i64 o.v.k, .int .i64 o.v.n, .string o.v.s, .bool o.casc]
/-- A node as it lies: its properties by their slice. -/
structure FN where
  id : Int
  ty : ByteArray
  pv : Value
structure FE where
  id : Int
  ty : ByteArray
  fr : Int
  tt : Int
  pv : Value
def encN (x : FN) : List Value := [.int .i64 x.id, .string x.ty, x.pv]
def encE (x : FE) : List Value := [.int .i64 x.id, .string x.ty, .int .i64 x.fr, .int .i64 x.tt, x.pv]
/-- A slice of properties: a row that nobody writes any more. -/
def PsAt (w : World) (v : Value) (ps : List Prp) : Prop := w.ownsRow 0 135 4 v ps.length (ps.flatMap encP)
def NodeV (w : World) (x : FN) (n : Node) : Prop := x.id = n.id ∧ x.ty = n.ty ∧ PsAt w x.pv n.ps
def EdgeV (w : World) (x : FE) (n : Edge) : Prop := x.id = n.id ∧ x.ty = n.ty ∧ x.fr = n.fr ∧ x.tt = n.tt ∧ PsAt w x.pv n.ps
theorem PsAt.keep {w w' : World} {v : Value} {ps : List Prp} {F : List Nat} (h : PsAt w v ps) (hk : Keep F w w') : PsAt w' v ps := by
  obtain ⟨h1, h2⟩ := h
  refine ⟨h1, ?_⟩
  rcases h2 with h2 | ⟨g, cap, cur, rfl, hg, hh, r⟩
  · exact .inl h2
  · exact .inr ⟨g, cap, cur, rfl, hg, (hk.imm g cur hh).trans hh, r⟩
theorem PsAt.nil (w : World) : PsAt w (.slice none 0 0) [] := ⟨by simp, .inl ⟨rfl, rfl⟩⟩
/-- A row of cells of the program's own. -/
def Row (w : World) (T sz : Nat) {α : Type} (enc : α → List Value) (v : Value) (xs : List α) : Prop := w.ownsRow 0 T sz v xs.length (xs.flatMap enc)
theorem Row.grown {w w' : World} {T sz : Nat} {α : Type} {enc : α → List Value} {v : Value} {xs : List α} (h : Row w T sz enc v xs) {row : Option Nat} (hg : w.grownBy w' row) (hn : ∀ k, v.ownBlock = some k → some k ≠ row) : Row w' T sz enc v xs := by
  refine World.ownsRow.kept h hg ?_
  cases hv : v.ownBlock with
  | none => exact .inl rfl
  | some k => exact .inr (hn k hv)
theorem Row.keep {w w' : World} {T sz : Nat} {α : Type} {enc : α → List Value} {v : Value} {xs : List α} {F : List Nat} (h : Row w T sz enc v xs) (hk : Keep F w w') (hn : ∀ k, v.ownBlock = some k → k ∉ F) : Row w' T sz enc v xs := by
  obtain ⟨h1, h2⟩ := h
  refine ⟨h1, ?_⟩
  rcases h2 with h2 | ⟨g, cap, cur, rfl, hg, hh, r⟩
  · exact .inl h2
  · exact .inr ⟨g, cap, cur, rfl, hg, (hk.block g (Array.getElem?_eq_some_iff.1 hh).1 (hn g rfl)).trans hh, r⟩
theorem Row.lt {w : World} {T sz : Nat} {α : Type} {enc : α → List Value} {v : Value} {xs : List α} (h : Row w T sz enc v xs) : ∀ k, v.ownBlock = some k → k < w.heap.size := fun k hk => (World.ownsRow.lt h k hk).2
theorem Row.typed {w : World} {T sz : Nat} {α : Type} {enc : α → List Value} {v : Value} {xs : List α} (h : Row w T sz enc v xs) : ∀ k, v.ownBlock = some k → ∃ cs, w.heap[k]? = some (Obj.cells cs T (0, 0)) := fun k hk => by
  rcases h.2 with ⟨rfl, _⟩ | ⟨g, cap, cur, rfl, _, hh, _⟩
  · simp [Value.ownBlock] at hk
  · simp [Value.ownBlock] at hk; subst hk; exact ⟨cur, hh⟩

theorem Row.ne_blk {w : World} {T sz p T' : Nat} {α : Type} {enc : α → List Value} {v : Value} {xs : List α} {cs : Array Value} (h : Row w T sz enc v xs) (hb : Blk w p T' cs) (hT : T ≠ T') : some p ≠ v.ownBlock := fun e => by
  obtain ⟨c, hc⟩ := h.typed p e.symm
  rw [show w.heap[p]? = _ from hb] at hc; injection hc with hc; injection hc with _ hc; exact hT hc.symm
theorem Row.ne_ge {w : World} {T sz k : Nat} {α : Type} {enc : α → List Value} {v : Value} {xs : List α} (h : Row w T sz enc v xs) (hk : w.heap.size ≤ k) : some k ≠ v.ownBlock := fun e => by
  have := h.lt k e.symm; omega
theorem not_foot1 {p : Nat} {v : Value} (h : some p ≠ v.ownBlock) : ∀ k, v.ownBlock = some k → k ∉ [p] := fun k e hm => by simp at hm; subst hm; exact h e.symm
theorem flat_length {α : Type} {enc : α → List Value} {k : Nat} (hk : ∀ x, (enc x).length = k) (xs : List α) : (xs.flatMap enc).length = xs.length * k := by
  induction xs with
  | nil => simp
  | cons a l ih => rw [List.flatMap_cons, List.length_append, hk, ih, List.length_cons, Nat.succ_mul, Nat.add_comm]
theorem flat_get {α : Type} {enc : α → List Value} {k : Nat} (hk : ∀ x, (enc x).length = k) : ∀ (xs : List α) (i j : Nat) (hi : i < xs.length), j < k → (xs.flatMap enc)[i * k + j]? = (enc xs[i])[j]?
  | a :: l, 0, j, _, hj => by simp only [List.flatMap_cons, Nat.zero_mul, Nat.zero_add, List.getElem_cons_zero]; rw [List.getElem?_append_left (by rw [hk]; exact hj)]
  | a :: l, i + 1, j, hi, hj => by
    have e : (i + 1) * k + j = (enc a).length + (i * k + j) := by rw [hk, Nat.succ_mul]; omega
    rw [List.flatMap_cons, e, List.getElem?_append_right (by omega), Nat.add_sub_cancel_left]
    simpa using flat_get hk l i j (by simpa using hi) hj
theorem Row.slice {w : World} {T sz : Nat} {α : Type} {enc : α → List Value} {v : Value} {xs : List α} (h : Row w T sz enc v xs) : ∃ A cap, v = .slice A xs.length cap ∧ xs.length ≤ cap ∧ cap ≤ maxLen := by
  rcases h.2 with ⟨rfl, h0⟩ | ⟨g, cap, cur, rfl, _, _, h1, h2, _⟩
  · exact ⟨none, 0, by rw [h0], by omega, by unfold maxLen; omega⟩
  · exact ⟨_, cap, rfl, h1, h2⟩
theorem Row.form {w : World} {T sz : Nat} {α : Type} {enc : α → List Value} {v : Value} {xs : List α} (h : Row w T sz enc v xs) (hk : ∀ x, (enc x).length = sz) (hn : 0 < xs.length) :
    ∃ g cap cur, v = .slice (some ⟨g, 0, none⟩) xs.length cap ∧ xs.length ≤ cap ∧ cap ≤ maxLen ∧ Blk w g T cur ∧ cur.size = cap * sz ∧ cur.toList.take (xs.length * sz) = xs.flatMap enc ∧
      ∀ i (hi : i < xs.length) j, j < sz → w.cell? ⟨g, i * sz + j, none⟩ = (enc xs[i])[j]? := by
  rcases h.2 with ⟨_, h0⟩ | ⟨g, cap, cur, rfl, _, hh, h1, h2, h3, h4⟩
  · omega
  · refine ⟨g, cap, cur, rfl, h1, h2, hh, h3, h4, fun i hi j hj => ?_⟩
    have e := World.ownsRow.cellAt h (i * sz + j) (by
      have : (i + 1) * sz ≤ xs.length * sz := Nat.mul_le_mul_right _ hi
      rw [Nat.succ_mul] at this; omega)
    rw [e, flat_get hk xs i j hi hj]
/-- What lies at a slice, wherever it came from. -/
def Rd (w : World) (sz : Nat) {α : Type} (enc : α → List Value) (v : Value) (xs : List α) : Prop :=
  ∃ A cap, v = .slice A xs.length cap ∧ xs.length ≤ cap ∧ cap ≤ 9223372036854775807 ∧ ∀ i (hi : i < xs.length), ∃ b off, A = some ⟨b, off, none⟩ ∧ ∀ j, j < sz → ∃ u, w.cell? ⟨b, off + i * sz + j, none⟩ = some u ∧ (enc xs[i])[j]? = some u
theorem Rd.keep {w w' : World} {sz : Nat} {α : Type} {enc : α → List Value} {v : Value} {xs : List α} (h : Rd w sz enc v xs) (hk : Keep [] w w') : Rd w' sz enc v xs := by
  obtain ⟨A, cap, rfl, h1, h2, h3⟩ := h
  refine ⟨A, cap, rfl, h1, h2, fun i hi => ?_⟩
  obtain ⟨b, off, hA, hc⟩ := h3 i hi
  refine ⟨b, off, hA, fun j hj => ?_⟩
  obtain ⟨u, hu, he⟩ := hc j hj
  exact ⟨u, (hk.cell (World.block_lt_of_cell? w _ hu) (by simp)).trans hu, he⟩
theorem Row.rd {w : World} {T sz : Nat} {α : Type} {enc : α → List Value} {v : Value} {xs : List α} (h : Row w T sz enc v xs) (hk : ∀ x, (enc x).length = sz) : Rd w sz enc v xs := by
  obtain ⟨A, cap, hv, h1, h2⟩ := h.slice
  refine ⟨A, cap, hv, h1, by unfold maxLen at h2; omega, fun i hi => ?_⟩
  obtain ⟨g, cap', cur, hv', _, _, _, _, _, hc⟩ := h.form hk (by omega)
  subst hv
  injection hv' with hv' _ _
  refine ⟨g, 0, hv', fun j hj => ?_⟩
  have hl : j < (enc xs[i]).length := by rw [hk]; exact hj
  exact ⟨(enc xs[i])[j], by rw [Nat.zero_add, hc i hi j hj, List.getElem?_eq_getElem hl], List.getElem?_eq_getElem hl⟩
def encS (s : ByteArray) : List Value := [.string s]
def encI (n : Int) : List Value := [.int .i64 n]
/-- The program's graph, and the document's, in memory: the struct's block, its two rows, what the nodes and edges say. T: the struct's type. -/
structure GAt (T : Nat) (w : World) (p : Nat) (g : Gr) (nv ev : Value) (fn : List FN) (fe : List FE) : Prop where
  blk : Blk w p T #[nv, ev, .int .i64 g.next]
  n : Row w 113 3 encN nv fn
  e : Row w 115 5 encE ev fe
  vn : All2 (NodeV w) fn g.N
  ve : All2 (EdgeV w) fe g.E
def foot (p : Nat) (nv ev : Value) : List Nat := p :: (nv.ownBlock.toList ++ ev.ownBlock.toList)
def GA (T : Nat) (w : World) (p : Nat) (g : Gr) (F : List Nat) : Prop := ∃ nv ev fn fe, GAt T w p g nv ev fn fe ∧ F = foot p nv ev
theorem mem_foot {p k : Nat} {nv ev : Value} : k ∈ foot p nv ev ↔ k = p ∨ nv.ownBlock = some k ∨ ev.ownBlock = some k := by
  unfold foot; cases nv.ownBlock <;> cases ev.ownBlock <;> simp [eq_comm]
theorem GAt.keep {T p : Nat} {w w' : World} {g : Gr} {nv ev : Value} {fn : List FN} {fe : List FE} {F : List Nat} (h : GAt T w p g nv ev fn fe) (hk : Keep F w w') (hd : ∀ k, k ∈ foot p nv ev → k ∉ F) : GAt T w' p g nv ev fn fe :=
  ⟨h.blk.keep hk (hd _ (mem_foot.2 (.inl rfl))), h.n.keep hk (fun k e => hd _ (mem_foot.2 (.inr (.inl e)))), h.e.keep hk (fun k e => hd _ (mem_foot.2 (.inr (.inr e)))),
    h.vn.imp (fun _ _ ⟨a, b, c⟩ => ⟨a, b, c.keep hk⟩), h.ve.imp (fun _ _ ⟨a, b, c, d, e⟩ => ⟨a, b, c, d, e.keep hk⟩)⟩
theorem GA.keep {T p : Nat} {w w' : World} {g : Gr} {F F1 : List Nat} (h : GA T w p g F) (hk : Keep F1 w w') (hd : ∀ k, k ∈ F → k ∉ F1) : GA T w' p g F := by
  obtain ⟨nv, ev, fn, fe, h, rfl⟩ := h
  exact ⟨nv, ev, fn, fe, h.keep hk hd, rfl⟩
theorem GAt.lt {T p : Nat} {w : World} {g : Gr} {nv ev : Value} {fn : List FN} {fe : List FE} (h : GAt T w p g nv ev fn fe) : ∀ k, k ∈ foot p nv ev → k < w.heap.size := fun k hk => by
  rcases mem_foot.1 hk with rfl | e | e
  · exact h.blk.lt
  · exact h.n.lt k e
  · exact h.e.lt k e
theorem GA.lt {T p : Nat} {w : World} {g : Gr} {F : List Nat} (h : GA T w p g F) : ∀ k, k ∈ F → k < w.heap.size := by
  obtain ⟨nv, ev, fn, fe, h, rfl⟩ := h
  exact h.lt
end Go.Proofs.Hg
namespace Go.Proofs.Hg
open Go Go.RowKit Go.Proofs
theorem infoN : (Tryz.prog.info? 113).map (fun i => (i.zero, i.size, i.bytes)) = some (some (.agg #[.int .i64 0, .string ⟨#[]⟩, .slice none 0 0]), 3, 48) := by kernel_rfl
theorem infoE : (Tryz.prog.info? 115).map (fun i => (i.zero, i.size, i.bytes)) = some (some (.agg #[.int .i64 0, .string ⟨#[]⟩, .int .i64 0, .int .i64 0, .slice none 0 0]), 5, 64) := by kernel_rfl
/-- (*Graph).given -/
theorem given_c (w : World) (p : Nat) (nv ev : Value) (n : Int) (h0 : 0 ≤ n) (h1 : n < 4611686018427387904) (hb : Blk w p 106 #[nv, ev, .int .i64 n]) :
    Calls Tryz.prog 106 #[.pointer (some ⟨p, 0, none⟩)] w fun e w' => e = .returned (.int .i64 n) ∧ Blk w' p 106 #[nv, ev, .int .i64 (n + 1)] ∧ Keep [p] w w' := by
  have c2 := hb.cell 2
  have f2 := hb.free 2
  simp only [List.getElem?_toArray, List.getElem?_cons_succ, List.getElem?_cons_zero] at c2
  have r1 : Blk (w.setCell ⟨p, 2, none⟩ (.int .i64 (n + 1))) p 106 #[nv, ev, .int .i64 (n + 1)] := hb.set 2 _
  have r2 : Keep [p] w (w.setCell ⟨p, 2, none⟩ (.int .i64 (n + 1))) := (Keep.refl _ _).setBlk hb (by decide) (by simp) 2 _
  have R1 := Lib.hid r1; have R2 := Lib.hid r2; clear r1 r2
  go_enter Tryz.func106, Tryz.ntmps106
  go_wp2
  go_ret
  exact ⟨by simp, R1.out, R2.out⟩
end Go.Proofs.Hg
namespace Go.Proofs.Hg
open Go Go.RowKit Go.Proofs
theorem low_of {c : UInt8} (h1 : (97 : Int) ≤ (c.toNat : Int)) (h2 : (c.toNat : Int) ≤ 122) : lowB c = true := by unfold lowB; simp; omega
theorem ret_b {a b : Bool} (h : a = b) : Ending.returned (.bool a) = Ending.returned (.bool b) := by rw [h]
theorem nm_t {c : UInt8} (h : (97 ≤ (c.toNat : Int) ∧ (c.toNat : Int) ≤ 122) ∨ (48 ≤ (c.toNat : Int) ∧ (c.toNat : Int) ≤ 57) ∨ (c.toNat : Int) = 95) : nmB c = true := by unfold nmB lowB; simp; omega
theorem nm_f {c : UInt8} (h1 : ¬ (97 ≤ (c.toNat : Int) ∧ (c.toNat : Int) ≤ 122)) (h2 : ¬ (48 ≤ (c.toNat : Int) ∧ (c.toNat : Int) ≤ 57)) (h3 : (c.toNat : Int) ≠ 95) : nmB c = false := by
  cases h : nmB c with
  | false => rfl
  | true => unfold nmB lowB at h; simp at h; omega
set_option maxHeartbeats 1600000 in
/-- val.Name -/
theorem name_c (s : ByteArray) (w : World) : Calls Tryz.prog 60 #[.string s] w fun e w' => e = .returned (.bool (isName s)) ∧ w' = w := by
  by_cases hz : s.size < 1
  · have e1 := Lib.hid (isName_zero hz)
    go_enter Tryz.func60, Tryz.ntmps60
    go_wp2
    go_ret
    exact ⟨ret_b e1.out.symm, rfl⟩
  by_cases hb : 16 < s.size
  · have e1 := Lib.hid (isName_long hb)
    go_enter Tryz.func60, Tryz.ntmps60
    go_wp2
    go_ret
    exact ⟨ret_b e1.out.symm, rfl⟩
  have h0 : 0 < s.size := by omega
  by_cases hc1 : (s[0].toNat : Int) < 97
  · have e1 := Lib.hid (isName_first h0 (by unfold lowB; simp; omega))
    go_enter Tryz.func60, Tryz.ntmps60
    go_wp2
    go_ret
    exact ⟨ret_b e1.out.symm, rfl⟩
  by_cases hc2 : 122 < (s[0].toNat : Int)
  · have e1 := Lib.hid (isName_first h0 (by unfold lowB; simp; omega))
    go_enter Tryz.func60, Tryz.ntmps60
    go_wp2
    go_ret
    exact ⟨ret_b e1.out.symm, rfl⟩
  go_enter Tryz.func60, Tryz.ntmps60
  go_wp2
  go_loop [25] (fun i => ∃ k : Nat, k ≤ s.size ∧ i = .int .i64 k ∧ Hid (∀ j (hj : j < s.size), j < k → nmB s[j] = true)) (fun i => s.size - (intOf i).toNat)
  case atStart => exact ⟨0, by omega, rfl, fun j _ hj => by omega⟩
  case round =>
    obtain ⟨k, hk, rfl, hr⟩ := hrel
    by_cases hlt : k < s.size
    · by_cases p1 : 97 ≤ (s[k].toNat : Int) ∧ (s[k].toNat : Int) ≤ 122
      · obtain ⟨p1, p2⟩ := p1
        have HR : Hid (∀ j (hj : j < s.size), j < k + 1 → nmB s[j] = true) := fun j hj hjk => by
          by_cases e : j = k
          · subst e; exact nm_t (by omega)
          · exact hr.out j hj (by omega)
        go_wp2
        exact ⟨⟨k + 1, by omega, by go_num, HR⟩, by simp [intOf]; omega⟩
      by_cases p3 : 48 ≤ (s[k].toNat : Int) ∧ (s[k].toNat : Int) ≤ 57
      · obtain ⟨p3, p4⟩ := p3
        have HR : Hid (∀ j (hj : j < s.size), j < k + 1 → nmB s[j] = true) := fun j hj hjk => by
          by_cases e : j = k
          · subst e; exact nm_t (by omega)
          · exact hr.out j hj (by omega)
        have p5 : (s[k].toNat : Int) < 97 := by omega
        go_wp2
        exact ⟨⟨k + 1, by omega, by go_num, HR⟩, by simp [intOf]; omega⟩
      by_cases p6 : (s[k].toNat : Int) = 95
      · have HR : Hid (∀ j (hj : j < s.size), j < k + 1 → nmB s[j] = true) := fun j hj hjk => by
          by_cases e : j = k
          · subst e; exact nm_t (by omega)
          · exact hr.out j hj (by omega)
        have p5 : (s[k].toNat : Int) < 97 := by omega
        have p7 : ¬ (s[k].toNat : Int) ≤ 57 := by omega
        have p8 : ((s[k].toNat : Int) != 95) = false := by simp [p6]
        clear p6 p1 p3
        go_wp2
        exact ⟨⟨k + 1, by omega, by go_num, HR⟩, by simp [intOf]; omega⟩
      · have p8 : ((s[k].toNat : Int) != 95) = true := by simp [p6]
        have E := Lib.hid (isName_bad hlt (nm_f p1 p3 p6))
        clear p6
        go_wp2
        all_goals first | (go_ret; exact ⟨ret_b E.out.symm, rfl⟩) | (exfalso; omega)
    · go_wp2
      go_ret
      exact ⟨ret_b (isName_ok h0 (by omega) (low_of (by omega) (by omega)) (fun j hj => hr.out j hj (by omega))).symm, rfl⟩
end Go.Proofs.Hg
namespace Go.Proofs.Hg
open Go Go.RowKit Go.Proofs
set_option maxHeartbeats 1600000 in
/-- hedgerowref02.Name -/
theorem rname_c (s : ByteArray) (w : World) : Calls Tryz.prog 38 #[.string s] w fun e w' => e = .returned (.bool (isName s)) ∧ w' = w := by
  by_cases hz : s.size < 1
  · have e1 := Lib.hid (isName_zero hz)
    go_enter Tryz.func38, Tryz.ntmps38
    go_wp2
    go_ret
    exact ⟨ret_b e1.out.symm, rfl⟩
  by_cases hb : 16 < s.size
  · have e1 := Lib.hid (isName_long hb)
    go_enter Tryz.func38, Tryz.ntmps38
    go_wp2
    go_ret
    exact ⟨ret_b e1.out.symm, rfl⟩
  have h0 : 0 < s.size := by omega
  go_enter Tryz.func38, Tryz.ntmps38
  go_wp2
  go_loop [3] (fun i => ∃ k : Nat, k ≤ s.size ∧ i = .int .i64 k ∧ Hid (∀ j (hj : j < s.size), j < k → nmB s[j] = true) ∧ Hid (0 < k → lowB s[0] = true)) (fun i => s.size - (intOf i).toNat)
  case atStart => exact ⟨0, by omega, rfl, fun j _ hj => by omega, fun h => by omega⟩
  case round =>
    obtain ⟨k, hk, rfl, hr, hl⟩ := hrel
    by_cases hlt : k < s.size
    · by_cases p1 : 97 ≤ (s[k].toNat : Int) ∧ (s[k].toNat : Int) ≤ 122
      · obtain ⟨p1, p2⟩ := p1
        have HR : Hid (∀ j (hj : j < s.size), j < k + 1 → nmB s[j] = true) := fun j hj hjk => by
          by_cases e : j = k
          · subst e; exact nm_t (by omega)
          · exact hr.out j hj (by omega)
        have HL : Hid (0 < k + 1 → lowB s[0] = true) := fun _ => by
          by_cases e : 0 < k
          · exact hl.out e
          · obtain rfl : k = 0 := by omega
            exact low_of p1 p2
        go_wp2
        exact ⟨⟨k + 1, by omega, by go_num, HR, HL⟩, by simp [intOf]; omega⟩
      by_cases hk0 : k = 0
      · subst hk0
        have E := Lib.hid (isName_first hlt (by cases h : lowB s[0] with
          | false => rfl
          | true => unfold lowB at h; simp at h; omega))
        have p1' : ((s[0].toNat : Int) < 97) ∨ (122 < (s[0].toNat : Int)) := by omega
        clear p1
        rcases p1' with p1 | p1
        all_goals
          go_wp2
          all_goals first | (go_ret; exact ⟨ret_b E.out.symm, rfl⟩) | (exfalso; omega) | (rename_i hq; exfalso; simp at hq; omega)
      have hk1 : (0 : Int) < (k : Int) := by omega
      have HL : Hid (0 < k + 1 → lowB s[0] = true) := fun _ => hl.out (by omega)
      have p1' : ((s[k].toNat : Int) < 97) ∨ (122 < (s[k].toNat : Int)) := by omega
      by_cases p3 : (48 ≤ (s[k].toNat : Int) ∧ (s[k].toNat : Int) ≤ 57) ∨ (s[k].toNat : Int) = 95
      · have HR : Hid (∀ j (hj : j < s.size), j < k + 1 → nmB s[j] = true) := fun j hj hjk => by
          by_cases e : j = k
          · subst e; exact nm_t (by omega)
          · exact hr.out j hj (by omega)
        rcases p3 with ⟨p3, p4⟩ | p6
        · have p5 : (s[k].toNat : Int) < 97 := by omega
          clear p1 p1'
          go_wp2
          all_goals first | exact ⟨⟨k + 1, by omega, by go_num, HR, HL⟩, by simp [intOf]; omega⟩ | (exfalso; omega)
        · have p5 : (s[k].toNat : Int) < 97 := by omega
          have p7 : ¬ (s[k].toNat : Int) ≤ 57 := by omega
          have p8 : ((s[k].toNat : Int) == 95) = true := by simp [p6]
          clear p6 p1 p1'
          go_wp2
          all_goals first | exact ⟨⟨k + 1, by omega, by go_num, HR, HL⟩, by simp [intOf]; omega⟩ | (exfalso; omega)
      · have p8 : ((s[k].toNat : Int) == 95) = false := by simp; omega
        have E := Lib.hid (isName_bad hlt (nm_f p1 (by omega) (by omega)))
        go_wp2
        all_goals first | (go_ret; exact ⟨ret_b E.out.symm, rfl⟩) | (exfalso; omega) | (rename_i hq; exfalso; simp at hq; omega)
    · go_wp2
      go_ret
      exact ⟨ret_b (isName_ok h0 (by omega) (hl.out (by omega)) (fun j hj => hr.out j hj (by omega))).symm, rfl⟩
end Go.Proofs.Hg
namespace Go.Proofs.Hg
open Go Go.RowKit Go.MapKept
/-! ## Maps: a store, a look-up, at keys whose place is found at once -/
def MapAt (w : World) (r : Nat) (es : Array MapEntry) (clk : Nat) : Prop := w.heap[r]? = some (Obj.map es clk)
def World.setM (w : World) (r : Nat) (es : Array MapEntry) (clk : Nat) : World := { w with heap := w.heap.setIfInBounds r (.map es clk) }
theorem MapAt.lt {w : World} {r : Nat} {es : Array MapEntry} {clk : Nat} (h : MapAt w r es clk) : r < w.heap.size := (Array.getElem?_eq_some_iff.1 h).1
theorem mapAt_new (w : World) (o : Obj) : MapAt ((w.alloc o).alloc (Obj.map #[] 0)) (w.heap.size + 1) #[] 0 := by
  have := heap_alloc_new (w.alloc o) (Obj.map #[] 0)
  simpa [MapAt] using this
theorem mapAt_new0 (w : World) : MapAt (w.alloc (Obj.map #[] 0)) w.heap.size #[] 0 := heap_alloc_new w _
/-- What a store into map r leaves. -/
structure SetM (w w' : World) (r : Nat) (es : Array MapEntry) (clk : Nat) : Prop where
  at_ : MapAt w' r es clk
  size : w'.heap.size = w.heap.size
  cell : ∀ p o, p ≠ r → w'.cell? ⟨p, o, none⟩ = w.cell? ⟨p, o, none⟩
  frozen : ∀ p o, p ≠ r → w'.frozen? ⟨p, o, none⟩ = w.frozen? ⟨p, o, none⟩
  other : ∀ k, k ≠ r → w'.heap[k]? = w.heap[k]?
  keep : ∀ F w0, Keep F w0 w → w0.heap.size ≤ r ∨ r ∈ F → Keep F w0 w'
theorem setM_spec {w : World} {r : Nat} {es : Array MapEntry} {clk : Nat} (h : MapAt w r es clk) (es' : Array MapEntry) (clk' : Nat) : SetM w (World.setM w r es' clk') r es' clk' := by
  have hlt := h.lt
  have ho : ∀ k, k ≠ r → (World.setM w r es' clk').heap[k]? = w.heap[k]? := fun k hk => by simp [World.setM, Ne.symm hk]
  have hs : (World.setM w r es' clk').heap.size = w.heap.size := by simp [World.setM]
  refine ⟨by simp [MapAt, World.setM, hlt], hs, fun p o hp => World.cell?_of_block (a := ⟨p, o, none⟩) (ho p hp), fun p o hp => World.frozen?_of_block (a := ⟨p, o, none⟩) (ho p hp), ho, fun F w0 hk hr => ?_⟩
  refine ⟨hk.os, hk.tape, hk.output, by rw [hs]; exact hk.size, fun k hkl hn => (ho k (fun e => by subst e; exact hr.elim (fun h2 => by omega) hn)).trans (hk.block k hkl hn), fun k cs hc => ?_⟩
  have h1 := hk.imm k cs hc
  refine (ho k (fun e => ?_)).trans h1
  subst e
  rw [hc, show w.heap[k]? = _ from h] at h1
  cases h1
theorem SetM.blk {w w' : World} {r p T : Nat} {es : Array MapEntry} {clk : Nat} {cs : Array Value} (h : SetM w w' r es clk) (hp : p ≠ r) (hb : Blk w p T cs) : Blk w' p T cs := (h.other p hp).trans hb
section
variable {P : Program} {w : World} {ops : Array Oper} {rest : List Oper} {o : Oper} {a : Act} {Q : Exit → Act → World → Prop}
theorem run_insert_new {mty kt et : TypeId} {d : TypeDesc} {key val : Value} {r clk : Nat} {es : Array MapEntry} (hm : P.underlying mty = some (.map kt et)) (hd : P.underlying kt = some d) (hk : IsKey d key) (hb : MapAt w r es clk)
    (hf : Instr.findNow d key es.toList 0 = some none) : (Instr.mapUpdate mty (.map (some r)) key val).run P w = .ok () (World.setM w r (es.push { key, val, born := clk }) (clk + 1)) := by
  unfold Instr.mapUpdate
  simp [run_underlying hm, Go.MapKept.run_getObj_map hb, run_checkKey hd hk, run_findKey hd hf, run_setObj_map _ hb, Result.andThen, World.setM]
theorem wpList_insert_new (hg : o.guard = none) (t : TypeId) (m x v : Operand) (hop : o.op = Op.insert t m x v) (kt et : TypeId) (d : TypeDesc) (hm : P.underlying t = some (.map kt et)) (hd : P.underlying kt = some d)
    (r clk : Nat) (es : Array MapEntry) (key val : Value) (hme : a.eval m = .map (some r)) (hx : a.eval x = key) (hv : a.eval v = val) (hk : IsKey d key) (hb : MapAt w r es clk) (hf : Instr.findNow d key es.toList 0 = some none)
    (h : ∀ w', SetM w w' r (es.push { key, val, born := clk }) (clk + 1) → wpList P ops Q rest (a.put o.dst undef) w') : wpList P ops Q (o :: rest) a w := by
  refine wpList_plain hg fun K' hK' => ?_
  unfold Oper.wp
  simp [execOp, hop, hme, hx, hv, run_insert_new hm hd hk hb hf, Result.andThen]
  exact hK' _ _ (h _ (setM_spec hb _ _))
theorem run_lookup_found {mty kt et : TypeId} {d : TypeDesc} {key val : Value} {r clk i : Nat} {es : Array MapEntry} {ok : Bool} (hm : P.underlying mty = some (.map kt et)) (hd : P.underlying kt = some d) (hk : IsKey d key) (hb : MapAt w r es clk)
    (hf : Instr.findNow d key es.toList 0 = some (some (i, val))) : (Instr.lookup mty (.map (some r)) key ok).run P w = .ok (if ok then .tuple #[val, .bool true] else val) w := by
  unfold Instr.lookup
  simp [run_underlying hm, Go.MapKept.run_getObj_map hb, run_checkKey hd hk, run_findKey hd hf, Result.andThen]
theorem run_lookup_none {mty kt et : TypeId} {d : TypeDesc} {key z : Value} {r clk : Nat} {es : Array MapEntry} {ok : Bool} (hm : P.underlying mty = some (.map kt et)) (hd : P.underlying kt = some d) (hk : IsKey d key) (hb : MapAt w r es clk)
    (hf : Instr.findNow d key es.toList 0 = some none) (hz : ∀ w, (zeroValue et).run P w = .ok z w) : (Instr.lookup mty (.map (some r)) key ok).run P w = .ok (if ok then .tuple #[z, .bool false] else z) w := by
  unfold Instr.lookup
  simp [run_underlying hm, Go.MapKept.run_getObj_map hb, run_checkKey hd hk, run_findKey hd hf, Result.andThen, hz]
theorem wpList_lookup_found (hg : o.guard = none) (t : TypeId) (m x : Operand) (ok : Bool) (hop : o.op = Op.lookup t m x ok) (kt et : TypeId) (d : TypeDesc) (hm : P.underlying t = some (.map kt et)) (hd : P.underlying kt = some d)
    (r clk i : Nat) (es : Array MapEntry) (key val : Value) (hme : a.eval m = .map (some r)) (hx : a.eval x = key) (hk : IsKey d key) (hb : MapAt w r es clk) (hf : Instr.findNow d key es.toList 0 = some (some (i, val)))
    (h : wpList P ops Q rest (a.put o.dst (if ok then .tuple #[val, .bool true] else val)) w) : wpList P ops Q (o :: rest) a w := by
  refine wpList_plain hg fun K' hK' => ?_
  unfold Oper.wp
  simp [execOp, hop, hme, hx, run_lookup_found hm hd hk hb hf, Result.andThen]
  exact hK' _ _ (by cases ok <;> exact h)
theorem wpList_lookup_none (hg : o.guard = none) (t : TypeId) (m x : Operand) (ok : Bool) (hop : o.op = Op.lookup t m x ok) (kt et : TypeId) (d : TypeDesc) (hm : P.underlying t = some (.map kt et)) (hd : P.underlying kt = some d)
    (r clk : Nat) (es : Array MapEntry) (key z : Value) (hme : a.eval m = .map (some r)) (hx : a.eval x = key) (hk : IsKey d key) (hb : MapAt w r es clk) (hf : Instr.findNow d key es.toList 0 = some none) (hz : ∀ w, (zeroValue et).run P w = .ok z w)
    (h : wpList P ops Q rest (a.put o.dst (if ok then .tuple #[z, .bool false] else z)) w) : wpList P ops Q (o :: rest) a w := by
  refine wpList_plain hg fun K' hK' => ?_
  unfold Oper.wp
  simp [execOp, hop, hme, hx, run_lookup_none hm hd hk hb hf hz, Result.andThen]
  exact hK' _ _ (by cases ok <;> exact h)
/-- A struct's result and another one. -/
theorem results_ct {fn : Func} {p u : Tmp} {ty : TypeId} (h : fn.results = #[.cell p ty, .tmp u]) (tmps : Array Value) (w : World) (g : Nat) (t : TypeId) (cs : Array Value) (d : TypeDesc) (hp : tmps.getD p undef = .pointer (some ⟨g, 0, none⟩)) (hg : Blk w g t cs)
    (hu : P.underlying ty = some d) (hd : (match d with | .struct _ | .array _ _ => true | _ => false) = true) (hi : (P.info? ty).map (·.size) = some cs.size) :
    (results fn tmps).run P w = .ok (.tuple #[.agg cs, tmps.getD u undef]) w := by
  have h2 : tmps[p]?.getD undef = .pointer (some ⟨g, 0, none⟩) := by simpa using hp
  simp [results, h, h2, asAddr, run_loadVar_row w g t ty cs (0, 0) d hg hu hd hi]
theorem results_c {fn : Func} {p : Tmp} {ty : TypeId} (h : fn.results = #[.cell p ty]) (tmps : Array Value) (w : World) (g : Nat) (t : TypeId) (cs : Array Value) (d : TypeDesc) (hp : tmps.getD p undef = .pointer (some ⟨g, 0, none⟩)) (hg : Blk w g t cs)
    (hu : P.underlying ty = some d) (hd : (match d with | .struct _ | .array _ _ => true | _ => false) = true) (hi : (P.info? ty).map (·.size) = some cs.size) :
    (results fn tmps).run P w = .ok (.agg cs) w := by
  have h2 : tmps[p]?.getD undef = .pointer (some ⟨g, 0, none⟩) := by simpa using hp
  simp [results, h, h2, asAddr, run_loadVar_row w g t ty cs (0, 0) d hg hu hd hi]
end
end Go.Proofs.Hg
namespace Go.Proofs.Hg
open Go Go.RowKit Go.Proofs
def blankV (v : Val) : Bool := decide (v.k = 0) && (decide (v.n = 0) && v.s.toList.isEmpty)
def goodV (v : Val) : Bool :=
  if v.k = 1 then (decide (v.n = 0) || decide (v.n = 1)) && v.s.toList.isEmpty
  else if v.k = 2 then v.s.toList.isEmpty
  else if v.k = 3 then decide (v.n = 0) && decide ((v.s.size : Int) ≤ 1024) else false
set_option maxHeartbeats 1600000 in
theorem ownBool_c (v : Val) (w : World) : Calls Tryz.prog 137 #[.agg #[.int .i64 v.k, .int .i64 v.n, .string v.s]] w fun e w' => e = .returned (.bool ((decide (v.n = 0) || decide (v.n = 1)) && v.s.toList.isEmpty)) ∧ Keep [] w w' := by
  go_enter Tryz.func137, Tryz.ntmps137
  go_wp2
  all_goals (go_ret; exact ⟨ret_b (by first | rfl | simp_all), (by repeat (first | exact Keep.refl _ _ | refine Keep.alloc ?_ _ | refine Keep.drew ?_ | refine Keep.drewN ?_ _))⟩)
set_option maxHeartbeats 1600000 in
theorem ownInt_c (v : Val) (w : World) : Calls Tryz.prog 138 #[.agg #[.int .i64 v.k, .int .i64 v.n, .string v.s]] w fun e w' => e = .returned (.bool (v.s.toList.isEmpty)) ∧ Keep [] w w' := by
  go_enter Tryz.func138, Tryz.ntmps138
  go_wp2
  all_goals (go_ret; exact ⟨ret_b (by first | rfl | simp_all), (by repeat (first | exact Keep.refl _ _ | refine Keep.alloc ?_ _ | refine Keep.drew ?_ | refine Keep.drewN ?_ _))⟩)
set_option maxHeartbeats 1600000 in
theorem ownText_c (v : Val) (w : World) : Calls Tryz.prog 139 #[.agg #[.int .i64 v.k, .int .i64 v.n, .string v.s]] w fun e w' => e = .returned (.bool (decide (v.n = 0) && decide ((v.s.size : Int) ≤ 1024))) ∧ Keep [] w w' := by
  go_enter Tryz.func139, Tryz.ntmps139
  go_wp2
  all_goals (go_ret; exact ⟨ret_b (by first | rfl | simp_all), (by repeat (first | exact Keep.refl _ _ | refine Keep.alloc ?_ _ | refine Keep.drew ?_ | refine Keep.drewN ?_ _))⟩)
set_option maxHeartbeats 1600000 in
theorem rblank_c (v : Val) (w : World) : Calls Tryz.prog 96 #[.agg #[.int .i64 v.k, .int .i64 v.n, .string v.s]] w fun e w' => e = .returned (.bool (blankV v)) ∧ Keep [] w w' := by
  go_enter Tryz.func96, Tryz.ntmps96
  go_wp2
  all_goals (go_ret; exact ⟨ret_b (by simp_all [blankV]), (by repeat (first | exact Keep.refl _ _ | refine Keep.alloc ?_ _ | refine Keep.drew ?_ | refine Keep.drewN ?_ _))⟩)
set_option maxHeartbeats 1600000 in
theorem rgood_c (v : Val) (w : World) : Calls Tryz.prog 95 #[.agg #[.int .i64 v.k, .int .i64 v.n, .string v.s]] w fun e w' => e = .returned (.bool (goodV v)) ∧ Keep [] w w' := by
  go_enter Tryz.func95, Tryz.ntmps95
  go_wp2
  all_goals (go_ret; exact ⟨ret_b (by first | rfl | simp_all [goodV]), (by repeat (first | exact Keep.refl _ _ | refine Keep.alloc ?_ _ | refine Keep.drew ?_ | refine Keep.drewN ?_ _))⟩)

set_option maxRecDepth 100000 in
set_option maxHeartbeats 1600000 in
theorem good_c (v : Val) (w : World) : Calls Tryz.prog 116 #[.agg #[.int .i64 v.k, .int .i64 v.n, .string v.s]] w fun e w' => e = .returned (.bool (goodV v)) ∧ Keep [] w w' := by
  have hmm := @run_makeMap Tryz.prog
  obtain ⟨k, n, s⟩ := v
  by_cases h1 : k = 1
  · subst h1
    have E := Lib.hid (show goodV ⟨1, n, s⟩ = ((decide (n = 0) || decide (n = 1)) && s.toList.isEmpty) from by unfold goodV; simp)
    go_enter Tryz.func116, Tryz.ntmps116
    go_wp2_with (first | (refine wpList_insert_new rfl _ _ _ _ rfl _ _ _ Tryz.underlying188 Tryz.underlying3 _ _ _ _ _ rfl rfl rfl rfl (by first | assumption | exact mapAt_new _ _) rfl ?_; intro w' hS; have hA := hS.at_; have hC := hS.cell; have hZ := hS.size; have hKK := hS.keep [] w (by first | assumption | exact (Keep.alloc0 _ _).alloc _) (.inl (by simp)); clear hS) | (refine wpList_lookup_found rfl _ _ _ _ rfl _ _ _ Tryz.underlying188 Tryz.underlying3 _ _ _ _ _ _ rfl rfl rfl (by assumption) rfl ?_))
    refine (ownBool_c ⟨1, n, s⟩ _).mono ?_
    rintro e w2 ⟨rfl, hk2⟩
    go_wp2
    go_ret
    exact ⟨ret_b E.out.symm, hKK.trans0 hk2⟩
  by_cases h2 : k = 2
  · subst h2
    have E := Lib.hid (show goodV ⟨2, n, s⟩ = s.toList.isEmpty from by unfold goodV; simp)
    go_enter Tryz.func116, Tryz.ntmps116
    go_wp2_with (first | (refine wpList_insert_new rfl _ _ _ _ rfl _ _ _ Tryz.underlying188 Tryz.underlying3 _ _ _ _ _ rfl rfl rfl rfl (by first | assumption | exact mapAt_new _ _) rfl ?_; intro w' hS; have hA := hS.at_; have hC := hS.cell; have hZ := hS.size; have hKK := hS.keep [] w (by first | assumption | exact (Keep.alloc0 _ _).alloc _) (.inl (by simp)); clear hS) | (refine wpList_lookup_found rfl _ _ _ _ rfl _ _ _ Tryz.underlying188 Tryz.underlying3 _ _ _ _ _ _ rfl rfl rfl (by assumption) rfl ?_))
    refine (ownInt_c ⟨2, n, s⟩ _).mono ?_
    rintro e w2 ⟨rfl, hk2⟩
    go_wp2
    go_ret
    exact ⟨ret_b E.out.symm, hKK.trans0 hk2⟩
  by_cases h3 : k = 3
  · subst h3
    have E := Lib.hid (show goodV ⟨3, n, s⟩ = (decide (n = 0) && decide ((s.size : Int) ≤ 1024)) from by unfold goodV; simp)
    go_enter Tryz.func116, Tryz.ntmps116
    go_wp2_with (first | (refine wpList_insert_new rfl _ _ _ _ rfl _ _ _ Tryz.underlying188 Tryz.underlying3 _ _ _ _ _ rfl rfl rfl rfl (by first | assumption | exact mapAt_new _ _) rfl ?_; intro w' hS; have hA := hS.at_; have hC := hS.cell; have hZ := hS.size; have hKK := hS.keep [] w (by first | assumption | exact (Keep.alloc0 _ _).alloc _) (.inl (by simp)); clear hS) | (refine wpList_lookup_found rfl _ _ _ _ rfl _ _ _ Tryz.underlying188 Tryz.underlying3 _ _ _ _ _ _ rfl rfl rfl (by assumption) rfl ?_))
    refine (ownText_c ⟨3, n, s⟩ _).mono ?_
    rintro e w2 ⟨rfl, hk2⟩
    go_wp2
    go_ret
    exact ⟨ret_b E.out.symm, hKK.trans0 hk2⟩
  have b1 := Lib.hid (show (k == 1) = false from by simpa using h1)
  have b2 := Lib.hid (show (k == 2) = false from by simpa using h2)
  have b3 := Lib.hid (show (k == 3) = false from by simpa using h3)
  have E := Lib.hid (show goodV ⟨k, n, s⟩ = false from by unfold goodV; simp [h1, h2, h3])
  go_enter Tryz.func116, Tryz.ntmps116
  go_wp2_with (first | (refine wpList_insert_new rfl _ _ _ _ rfl _ _ _ Tryz.underlying188 Tryz.underlying3 _ _ _ _ _ rfl rfl rfl rfl (by first | assumption | exact mapAt_new _ _) rfl ?_; intro w' hS; have hA := hS.at_; have hC := hS.cell; have hZ := hS.size; have hKK := hS.keep [] w (by first | assumption | exact (Keep.alloc0 _ _).alloc _) (.inl (by simp)); clear hS) | (refine wpList_lookup_none rfl _ _ _ _ rfl _ _ _ Tryz.underlying188 Tryz.underlying3 _ _ _ _ .nilFunc rfl rfl rfl (by assumption) (by simp [Instr.findNow, Instr.sameNow, Act.eval, Act.put, b1.out, b2.out, b3.out]) (fun _ => by kernel_rfl) ?_))
  go_ret
  exact ⟨ret_b E.out.symm, hKK⟩
end Go.Proofs.Hg
namespace Go.Proofs.Hg
open Go Go.RowKit Go.Proofs Go.Shelf
structure Rule where
  id : Int
  k : Int
  ty : ByteArray
  nm : ByteArray
  fr : ByteArray
  tt : ByteArray
  n : Int
  st : Int
def encR (r : Rule) : List Value := [.int .i64 r.id, .int .i64 r.k, .string r.ty, .string r.nm, .string r.fr, .string r.tt, .int .i64 r.n, .int .i64 r.st]
abbrev ruleV (r : Rule) : Value := .agg #[.int .i64 r.id, .int .i64 r.k, .string r.ty, .string r.nm, .string r.fr, .string r.tt, .int .i64 r.n, .int .i64 r.st]
def nilS (s : ByteArray) : Bool := s.toList.isEmpty
def formR (r : Rule) : Bool :=
  if r.k = 1 ∨ r.k = 2 then isName r.ty && isName r.nm && nilS r.fr && nilS r.tt && decide (r.n = 0)
  else if r.k = 3 then isName r.ty && isName r.fr && isName r.tt && nilS r.nm && decide (r.n = 0)
  else if r.k = 4 then isName r.ty && nilS r.nm && nilS r.fr && nilS r.tt && decide (0 ≤ r.n) && decide (r.n ≤ 1024)
  else false
set_option maxRecDepth 100000 in
set_option maxHeartbeats 3200000 in
theorem form12_c (r : Rule) (w : World) (hk : r.k = 1 ∨ r.k = 2) : Calls Tryz.prog 39 #[ruleV r] w fun e w' => e = .returned (.bool (formR r)) ∧ Keep [] w w' := by
  have K0 := Keep.alloc0 w (Obj.cells (encR r).toArray 23)
  have HX := Blk.new w (encR r).toArray 23
  have E := Lib.hid (show formR r = (isName r.ty && isName r.nm && nilS r.fr && nilS r.tt && decide (r.n = 0)) from by unfold formR; rw [if_pos hk])
  unfold encR at *
  have HK := Lib.hid K0
  have HX' := Lib.hid HX
  have HKK := Lib.hid hk
  clear K0 HX hk
  go_enter Tryz.func39, Tryz.ntmps39
  go_wp2_with fail
  generalize w.alloc _ = W at *
  have d2 := HX'.out.cell 2
  have d3 := HX'.out.cell 3
  simp only [List.getElem?_toArray, List.getElem?_cons_succ, List.getElem?_cons_zero] at d2 d3
  go_quiet ((go_at_call 60; exact Calls.quiet_of_same (name_c _ _)))
  have S : Hid (∀ n, Keep [] w (W.drewN n) ∧ Blk (W.drewN n) w.heap.size 23 _) := fun n => ⟨HK.out.drewN n, HX'.out.drewN n⟩
  have d1 := fun n => (S.out n).2.cell 1
  have d4 := fun n => (S.out n).2.cell 4
  have d5 := fun n => (S.out n).2.cell 5
  have d6 := fun n => (S.out n).2.cell 6
  simp only [List.getElem?_toArray, List.getElem?_cons_succ, List.getElem?_cons_zero] at d1 d4 d5 d6
  rcases HKK.out with hk | hk
  all_goals
    rw [hk] at d1
    clear hk
    go_wp2
    all_goals
      go_ret
      exact ⟨ret_b (by rw [E.out]; unfold nilS; first | (simp_all; done) | (simp_all; rfl) | (simp_all; omega)), (S.out _).1⟩
set_option maxRecDepth 100000 in
set_option maxHeartbeats 3200000 in
theorem form3_c (r : Rule) (w : World) (hk : r.k = 3) : Calls Tryz.prog 39 #[ruleV r] w fun e w' => e = .returned (.bool (formR r)) ∧ Keep [] w w' := by
  have K0 := Keep.alloc0 w (Obj.cells (encR r).toArray 23)
  have HX := Blk.new w (encR r).toArray 23
  have E := Lib.hid (show formR r = (isName r.ty && isName r.fr && isName r.tt && nilS r.nm && decide (r.n = 0)) from by unfold formR; rw [if_neg (by omega), if_pos hk])
  unfold encR at *
  have HK := Lib.hid K0
  have HX' := Lib.hid HX
  have HKK := Lib.hid hk
  clear K0 HX hk
  go_enter Tryz.func39, Tryz.ntmps39
  go_wp2_with fail
  generalize w.alloc _ = W at *
  have d2 := HX'.out.cell 2
  have d3 := HX'.out.cell 3
  simp only [List.getElem?_toArray, List.getElem?_cons_succ, List.getElem?_cons_zero] at d2 d3
  go_quiet ((go_at_call 60; exact Calls.quiet_of_same (name_c _ _)))
  have S : Hid (∀ n, Keep [] w (W.drewN n) ∧ Blk (W.drewN n) w.heap.size 23 _) := fun n => ⟨HK.out.drewN n, HX'.out.drewN n⟩
  have d1 := fun n => (S.out n).2.cell 1
  have d3 := fun n => (S.out n).2.cell 3
  have d4 := fun n => (S.out n).2.cell 4
  have d5 := fun n => (S.out n).2.cell 5
  have d6 := fun n => (S.out n).2.cell 6
  simp only [List.getElem?_toArray, List.getElem?_cons_succ, List.getElem?_cons_zero] at d1 d3 d4 d5 d6
  rw [HKK.out] at d1
  have HN := name_c
  cases h1 : isName r.ty <;> cases h2 : isName r.fr <;> cases h3 : isName r.tt
  all_goals
    go_wp2_with (go_at_call 60; refine (name_c _ _).mono ?_; rintro e w' ⟨rfl, rfl⟩)
    all_goals
      go_ret
      exact ⟨ret_b (by rw [E.out]; unfold nilS; first | (simp_all; done) | (simp_all; rfl) | (simp_all; omega)), (S.out _).1⟩
set_option maxRecDepth 100000 in
set_option maxHeartbeats 3200000 in
theorem form4_c (r : Rule) (w : World) (hk : r.k = 4) : Calls Tryz.prog 39 #[ruleV r] w fun e w' => e = .returned (.bool (formR r)) ∧ Keep [] w w' := by
  have K0 := Keep.alloc0 w (Obj.cells (encR r).toArray 23)
  have HX := Blk.new w (encR r).toArray 23
  have E := Lib.hid (show formR r = (isName r.ty && nilS r.nm && nilS r.fr && nilS r.tt && decide (0 ≤ r.n) && decide (r.n ≤ 1024)) from by unfold formR; rw [if_neg (by omega), if_neg (by omega), if_pos hk])
  unfold encR at *
  have HK := Lib.hid K0
  have HX' := Lib.hid HX
  have HKK := Lib.hid hk
  clear K0 HX hk
  go_enter Tryz.func39, Tryz.ntmps39
  go_wp2_with fail
  generalize w.alloc _ = W at *
  have d2 := HX'.out.cell 2
  have d3 := HX'.out.cell 3
  simp only [List.getElem?_toArray, List.getElem?_cons_succ, List.getElem?_cons_zero] at d2 d3
  go_quiet ((go_at_call 60; exact Calls.quiet_of_same (name_c _ _)))
  have S : Hid (∀ n, Keep [] w (W.drewN n) ∧ Blk (W.drewN n) w.heap.size 23 _) := fun n => ⟨HK.out.drewN n, HX'.out.drewN n⟩
  have d1 := fun n => (S.out n).2.cell 1
  have d3 := fun n => (S.out n).2.cell 3
  have d4 := fun n => (S.out n).2.cell 4
  have d5 := fun n => (S.out n).2.cell 5
  have d6 := fun n => (S.out n).2.cell 6
  simp only [List.getElem?_toArray, List.getElem?_cons_succ, List.getElem?_cons_zero] at d1 d3 d4 d5 d6
  rw [HKK.out] at d1
  cases h1 : isName r.ty
  all_goals
    go_wp2
    all_goals
      go_ret
      exact ⟨ret_b (by rw [E.out]; unfold nilS; first | (simp_all; done) | (simp_all; rfl) | (simp_all; omega)), (S.out _).1⟩
set_option maxRecDepth 100000 in
set_option maxHeartbeats 3200000 in
theorem form0_c (r : Rule) (w : World) (hk : r.k ≠ 1 ∧ r.k ≠ 2 ∧ r.k ≠ 3 ∧ r.k ≠ 4) : Calls Tryz.prog 39 #[ruleV r] w fun e w' => e = .returned (.bool (formR r)) ∧ Keep [] w w' := by
  have K0 := Keep.alloc0 w (Obj.cells (encR r).toArray 23)
  have HX := Blk.new w (encR r).toArray 23
  have E := Lib.hid (show formR r = false from by unfold formR; rw [if_neg (by omega), if_neg (by omega), if_neg (by omega)])
  unfold encR at *
  have HK := Lib.hid K0
  have HX' := Lib.hid HX
  have HKK := Lib.hid hk
  clear K0 HX hk
  go_enter Tryz.func39, Tryz.ntmps39
  go_wp2_with fail
  generalize w.alloc _ = W at *
  have d2 := HX'.out.cell 2
  have d3 := HX'.out.cell 3
  simp only [List.getElem?_toArray, List.getElem?_cons_succ, List.getElem?_cons_zero] at d2 d3
  go_quiet ((go_at_call 60; exact Calls.quiet_of_same (name_c _ _)))
  have S : Hid (∀ n, Keep [] w (W.drewN n) ∧ Blk (W.drewN n) w.heap.size 23 _) := fun n => ⟨HK.out.drewN n, HX'.out.drewN n⟩
  have d1 := fun n => (S.out n).2.cell 1
  have d4 := fun n => (S.out n).2.cell 4
  have d5 := fun n => (S.out n).2.cell 5
  have d6 := fun n => (S.out n).2.cell 6
  simp only [List.getElem?_toArray, List.getElem?_cons_succ, List.getElem?_cons_zero] at d1 d4 d5 d6
  obtain ⟨n1, n2, n3, n4⟩ := HKK.out
  go_wp2
  go_ret
  exact ⟨ret_b E.out.symm, (S.out _).1⟩
theorem form_c (r : Rule) (w : World) : Calls Tryz.prog 39 #[ruleV r] w fun e w' => e = .returned (.bool (formR r)) ∧ Keep [] w w' := by
  by_cases h1 : r.k = 1 ∨ r.k = 2
  · exact form12_c r w h1
  by_cases h3 : r.k = 3
  · exact form3_c r w h3
  by_cases h4 : r.k = 4
  · exact form4_c r w h4
  exact form0_c r w (by omega)
end Go.Proofs.Hg
